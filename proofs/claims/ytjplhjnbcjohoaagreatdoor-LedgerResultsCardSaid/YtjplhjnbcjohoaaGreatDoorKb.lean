/-
  A part of the proof of LedgerResults (the machine on named data, and the contracts of the functions that the law reaches): Rb Ra Rs0 Rs Rs2 Rt Ru Ro.
-/
import Derived.WalkKit
import Derived.Laws.IdiomStrings
import Derived.Lib.SliceRun
import Derived.Test.YtjplhjnbcjohoaaGreatDoorKa
set_option linter.all false
set_option linter.unusedVariables false
set_option linter.unusedSimpArgs false
set_option linter.unusedSectionVars false
namespace Go.Proofs.YtjplhjnbcjohoaaGreatDoor
open Go Go.AM Go.RowKit
theorem inf5 : (Tryz.prog.info? 5).map (fun i => (i.zero, i.size, i.bytes)) = some (some (.int .u8 0), 1, 1) := by kernel_rfl
theorem info_parts {t : TypeId} {z : Value} {s b : Nat} (h : (Tryz.prog.info? t).map (fun i => (i.zero, i.size, i.bytes)) = some (some z, s, b)) : ∃ i, Tryz.prog.info? t = some i ∧ i.zero = some z ∧ i.size = s ∧ i.bytes = b := by
  cases e : Tryz.prog.info? t with
  | none => rw [e] at h; cases h
  | some i =>
    rw [e] at h
    simp only [Option.map_some, Option.some.injEq, Prod.mk.injEq] at h
    exact ⟨i, rfl, h.1, h.2.1, h.2.2⟩
theorem io_of {w w' : World} (h1 : w'.os = w.os) (h2 : w'.output = w.output) : ioOf w' = ioOf w := by
  unfold ioOf; rw [h1, h2]
/-- Where the bytes of a slice stand. -/
def Src (w : World) (a : Option Addr) (n : Nat) (news : List Value) : Prop := news.length = n ∧ (∀ u ∈ news, u.oneCell' = true) ∧ ((a = none ∧ n = 0) ∨ ∃ ad, a = some ad ∧ (n = 0 ∨ ∃ b o, ad = ⟨b, o, none⟩) ∧ ∀ j u, news[j]? = some u → w.cell? (ad.add j) = some u)
theorem src_of {E : Nat → Option Obj} {w : World} (hE : ∀ b o, E b = some o → w.heap[b]? = some o) {d : DV} {v : Value} (h : Rep (envE E) tB d v) : ∃ (ds : List DV) (a : Option Addr) (c : Nat), d = .list (ds.map fun x => [x]) ∧ ds.length ≤ maxLen ∧
    (∀ x ∈ ds, ∃ z, x = .int .u8 z ∧ IntKind.min .u8 ≤ z ∧ z ≤ IntKind.max .u8) ∧ v = .slice a ds.length c ∧ ds.length ≤ c ∧ (a = none → c = 0) ∧ Src w a ds.length (ds.map valD) := by
  obtain ⟨ds, rfl, h2, h3, h4⟩ := sy_exact (t := tU8) rfl h
  simp only [V, List.length_map] at h4
  obtain ⟨a, c, rfl, g1, _, g3, g4⟩ := h4
  have hint : ∀ x ∈ ds, ∃ z, x = .int .u8 z ∧ IntKind.min .u8 ≤ z ∧ z ≤ IntKind.max .u8 := by
    intro x hx
    have := h3 x hx
    simp only [Rep] at this
    obtain ⟨z, e, _, k1, k2⟩ := this
    exact ⟨z, e, k1, k2⟩
  refine ⟨ds, a, c, rfl, h2, hint, rfl, g1, g3, by simp, fun u hu => ?_, ?_⟩
  · obtain ⟨x, hx, rfl⟩ := List.mem_map.1 hu
    obtain ⟨z, rfl, _⟩ := hint x hx
    rfl
  · rcases g4 with g4 | ⟨b, o, rfl, hv⟩
    · have hn : ds.length = 0 := by omega
      have hnil : ds = [] := List.length_eq_zero_iff.1 hn
      subst hnil
      cases a with
      | none => exact .inl ⟨rfl, rfl⟩
      | some ad => exact .inr ⟨ad, rfl, .inl rfl, fun j u hj => by simp at hj⟩
    · refine .inr ⟨_, rfl, .inr ⟨b, o, rfl⟩, fun j u hj => ?_⟩
      have key : ∀ (l : List DV) (o : Nat), VR (envE E) b 1 o (l.map fun x => [.sc (valD x)]) → ∀ i x, (l.map valD)[i]? = some x → (envE E).ecell b (o + i) = some x := by
        intro l
        induction l with
        | nil => intro o _ i x hi; simp at hi
        | cons y l ih =>
          intro o hv i x hi
          simp only [List.map_cons, VR, VC, V] at hv
          obtain ⟨_, ⟨⟨u, h1, rfl⟩, _⟩, h2⟩ := hv
          cases i with
          | zero => simp only [List.map_cons, List.getElem?_cons_zero, Option.some.injEq] at hi; subst hi; simpa using h1
          | succ i =>
            have := ih (o + 1) h2 i x (by simpa using hi)
            rw [show o + (i + 1) = o + 1 + i by omega]
            exact this
      have h1 := key ds o hv j u hj
      unfold Env.ecell at h1
      split at h1
      · rename_i cells t p hb
        have h2 := hE b _ hb
        rw [add_plain]
        unfold World.cell?
        simp only [h2]
        exact h1
      · cases h1
/-- A row of the call's own, as data. -/
theorem own_rep {E : Nat → Option Obj} {w w' : World} {v : Value} {ds : List DV} (hE : ∀ b o, E b = some o → w.heap[b]? = some o) (hb : Below w.heap.size w w') (hds : ∀ x ∈ ds, ∃ z, x = .int .u8 z ∧ IntKind.min .u8 ≤ z ∧ z ≤ IntKind.max .u8)
    (hl : ds.length ≤ maxLen) (hown : w'.ownsRow w.heap.size 5 1 v ds.length (ds.map valD)) : ∃ E', Grows E E' w w' ∧ Rep (envE E') tB (.list (ds.map fun x => [x])) v := by
  have hold : ∀ b o, E b = some o → w'.heap[b]? = some o := by
    intro b o h
    have h1 := hE b o h
    rw [hb.block b (Array.getElem?_eq_some_iff.1 h1).1]
    exact h1
  obtain ⟨_, ⟨rfl, h0⟩ | ⟨g, cap, cur, rfl, hg0, hg, hn, _, hcs, htk⟩⟩ := hown
  · have hnil : ds = [] := List.length_eq_zero_iff.1 h0
    subst hnil
    refine ⟨E, ⟨fun b o h => h, fun b o h => ⟨hold b o h, .inl h⟩, fun b hlt => hb.block b hlt, io_of hb.os hb.output⟩, ?_⟩
    simp only [Rep]
    exact ⟨[], none, 0, rfl, rfl, Nat.le_refl _, by simp, fun _ => rfl, .inl rfl⟩
  · have hEg : E g = none := by
      cases h : E g with
      | none => rfl
      | some o =>
        have := (Array.getElem?_eq_some_iff.1 (hE g o h)).1
        omega
    refine ⟨fun k => if k = g then some (.cells cur 5 (0, 0)) else E k, ⟨fun b o h => ?_, fun b o h => ?_, fun b hlt => hb.block b hlt, io_of hb.os hb.output⟩, ?_⟩
    · have : b ≠ g := fun e => by rw [e, hEg] at h; cases h
      simp only [if_neg this]
      exact h
    · by_cases e : b = g
      · subst e
        simp only [if_true, Option.some.injEq] at h
        subst h
        exact ⟨hg, .inr hg0⟩
      · simp only [if_neg e] at h
        exact ⟨hold b o h, .inl h⟩
    · simp only [Rep]
      refine ⟨_, _, cap, rfl, by rw [List.length_map], by rw [List.length_map]; exact hn, by rw [List.length_map]; exact hl, (fun e => by cases e), .inr ⟨g, 0, rfl, fun i row hi => ?_⟩⟩
      rw [List.getElem?_map] at hi
      cases hx : ds[i]? with
      | none => rw [hx] at hi; cases hi
      | some x =>
        rw [hx] at hi
        cases hi
        obtain ⟨z, rfl, k1, k2⟩ := hds x (List.mem_iff_getElem?.2 ⟨i, hx⟩)
        simp only [RepL, List.length_singleton, Nat.mul_one, Nat.zero_add]
        refine ⟨_, [], .int .u8 z, rfl, ?_, ?_, rfl⟩
        · unfold Env.ecell
          simp only [envE, if_true]
          have hlt := (List.getElem?_eq_some_iff.1 hx).1
          have h1 : (cur.toList.take (ds.length * 1))[i]? = some (valD (.int .u8 z)) := by
            rw [htk, List.getElem?_map, hx]
            rfl
          rw [List.getElem?_take_of_lt (by omega)] at h1
          simpa [valD] using h1
        · simp only [Rep]
          exact ⟨z, rfl, rfl, k1, k2⟩
/-- 'append' of bytes from wherever, to a row of one's own. -/
theorem wpList_append_src {ops : Array Oper} {rest : List Oper} {o : Oper} {a : Act} {w : World} {Q : Exit → Act → World → Prop} (hgd : o.guard = none) (s x : Operand)
    (ho : o.op = .call { callee := .builtin .append, args := #[s, x], argTypes := #[26, 26] }) (base : Nat) (v : Value) (n : Nat) (xs : List Value) (hs : a.eval s = v) (hown : w.ownsRow base 5 1 v n xs)
    (ad : Option Addr) (m c : Nat) (news : List Value) (hx : a.eval x = .slice ad m c) (hsrc : Src w ad m news) (h63 : n + m ≤ 10000000) (hbase : base ≤ w.heap.size)
    (h : ∀ v' w', w'.ownsRow base 5 1 v' (n + m) (xs ++ news) → w.grownBy w' v.ownBlock → wpList Tryz.prog ops Q rest (a.put o.dst v') w') : wpList Tryz.prog ops Q (o :: rest) a w := by
  obtain ⟨i0, hi, hz0, hz1, hz2⟩ := info_parts inf5
  obtain ⟨hl, h1, hsrc | ⟨ad', rfl, _, hc⟩⟩ := hsrc
  · obtain ⟨rfl, rfl⟩ := hsrc
    have hnil : news = [] := List.length_eq_zero_iff.1 hl
    subst hnil
    refine wpList_plain hgd fun K hK => ?_
    have hv : ∃ b n' c', v = .slice b n' c' ∧ n' ≤ c' := by
      obtain ⟨_, ⟨rfl, _⟩ | ⟨g, cap, cur, rfl, _, _, hn, _⟩⟩ := hown
      · exact ⟨_, _, _, rfl, Nat.le_refl _⟩
      · exact ⟨_, _, _, rfl, hn⟩
    obtain ⟨b, n', c', rfl, hn'⟩ := hv
    have hrun := run_append_zero (P := Tryz.prog) (w := w) (ts := #[26, 26]) (t := 26) (u := 26) (ty := o.type) (e := 5) (i := i0) rfl rfl Tryz.underlying26 Tryz.underlying26 (fun k e => by cases e) hi (base := b) (sLen := n') (sCap := c') (x := .slice none 0 c)
      (by simp [Builtin.lenOf]) (by simp [Builtin.firstCells]) hn'
    unfold Oper.wp execOp
    simp only [ho, resolve, invoke, builtin, Sem.run_bind, Sem.run_pure, Result.andThen_ok, List.map_toArray, List.map_cons, List.map_nil, hs, hx, hrun]
    exact hK _ _ (h _ _ (by simpa using hown) ⟨rfl, rfl, rfl, Nat.le_refl _, fun _ _ _ => rfl⟩)
  · exact wpList_append_own w hgd s x 26 ho base 5 i0 (.int .u8 0) 1 1 Tryz.underlying26 hi hz0 hz1 hz2 rfl (by decide) v n xs hs hown ad' m c news hx (by rw [Nat.mul_one]; exact hl) hc h1 (by unfold maxLen; omega) (by omega) hbase fun v' w' k1 k2 _ => h v' w' k1 k2
theorem Src.mono {L : Nat} {w w' : World} {a : Option Addr} {n : Nat} {news : List Value} (h : Src w a n news) (hw : ∀ (ad : Addr) (u : Value), w.cell? ad = some u → w'.cell? ad = some u) : Src w' a n news := by
  obtain ⟨h1, h2, h3 | ⟨ad, h3, h5, h4⟩⟩ := h
  · exact ⟨h1, h2, .inl h3⟩
  · exact ⟨h1, h2, .inr ⟨ad, h3, h5, fun j u hj => hw _ _ (h4 j u hj)⟩⟩
theorem Src.below {w w' : World} {a : Option Addr} {n : Nat} {news : List Value} (h : Src w a n news) (hb : Below w.heap.size w w') : Src w' a n news :=
  h.mono (L := 0) fun ad u hc => (World.cell?_of_block (hb.block ad.block (World.block_lt_of_cell? w ad hc))).trans hc
theorem below_grown {B : Nat} {a b : World} (h : a.grownBy b none) (hB : B ≤ a.heap.size) : Below B a b := (Below.refl B a).grown h hB (by intro k hk; cases hk)
set_option maxHeartbeats 1600000 in
set_option maxRecDepth 1000000 in
theorem both_any (a1 a2 : Option Addr) (n1 c1 n2 c2 : Nat) (x1 x2 : List Value) (w : World) (h1 : Src w a1 n1 x1) (h2 : Src w a2 n2 x2) (hn1 : n1 ≤ 1000000) (hn2 : n2 ≤ 1000000) :
    Calls Tryz.prog 21 #[.slice a1 n1 c1, .slice a2 n2 c2] w fun e w' => ∃ v', e = .returned v' ∧ w'.ownsRow w.heap.size 5 1 v' (n1 + n2) (x1 ++ x2) ∧ Below w.heap.size w w' := by
  obtain ⟨i0, hi, hz0, hz1, hz2⟩ := info_parts inf5
  obtain ⟨w1, hm, hown, hgrow⟩ := run_make_own (P := Tryz.prog) w w.heap.size 26 5 i0 (.int .u8 0) 1 Tryz.underlying26 hi hz0 hz1 .i64 .i64 (n1 + n2) (by rw [hz2]; omega) (by unfold maxLen; omega) (Nat.le_refl _)
  rw [Int.natCast_add] at hm
  have hb1 : Below w.heap.size w w1 := below_grown hgrow (Nat.le_refl _)
  have h1' : Src w1 a1 n1 x1 := h1.mono (L := 0) fun ad u h => hgrow.cell h (by simp)
  have h2' : Src w1 a2 n2 x2 := h2.mono (L := 0) fun ad u h => hgrow.cell h (by simp)
  have hs1 : w.heap.size ≤ w1.heap.size := hgrow.size
  go_enter Tryz.func21, Tryz.ntmps21
  go_wp2_with (at_builtin; refine wpList_append_src rfl _ _ rfl w.heap.size _ 0 [] rfl hown a1 n1 c1 x1 rfl h1' (by omega) hs1 ?_)
  intro v2 w2 hown2 hgrow2
  have hb2 : Below w.heap.size w w2 := hb1.grown hgrow2 hs1 (by intro k hk; simp [Value.ownBlock] at hk; omega)
  have h2'' : Src w2 a2 n2 x2 := h2.below hb2
  have hs2 : w.heap.size ≤ w2.heap.size := hb2.size
  have hlt := hown2.lt
  clear hgrow2 hown hgrow h1' h2' hb1 hm
  go_wp2_with (at_builtin; refine wpList_append_src rfl _ _ rfl w.heap.size _ n1 x1 rfl hown2 a2 n2 c2 x2 rfl h2'' (by omega) hs2 ?_)
  intro v3 w3 hown3 hgrow3
  have hb3 : Below w.heap.size w w3 := hb2.grown hgrow3 hs2 (by intro k hk; exact (hlt k hk).1)
  clear hgrow3 hown2 h2'' hb2
  go_wp2
  go_ret
  exact ⟨v3, rfl, hown3, hb3⟩
set_option maxHeartbeats 1600000 in
set_option maxRecDepth 1000000 in
theorem clone_any (a1 : Option Addr) (n1 c1 : Nat) (x1 : List Value) (w : World) (h1 : Src w a1 n1 x1) (hn1 : n1 ≤ 1000000) :
    Calls Tryz.prog 84 #[.slice a1 n1 c1] w fun e w' => ∃ v', e = .returned v' ∧ w'.ownsRow w.heap.size 5 1 v' n1 x1 ∧ Below w.heap.size w w' := by
  have q : ∀ (w : World) (a : Option Addr) (n c n' c' : Nat), (binOp .eql 26 (.slice a n c) (.slice none n' c')).run Tryz.prog w = .ok (.bool a.isNone) w := fun w a n c n' c' => Lib.run_eql_slice_nil w _ _ a n c n' c' Tryz.underlying26
  cases a1 with
  | none =>
    have hz : n1 = 0 ∧ x1 = [] := by
      obtain ⟨g1, _, g2 | ⟨ad, g2, _, _⟩⟩ := h1
      · obtain ⟨_, rfl⟩ := g2
        exact ⟨rfl, List.length_eq_zero_iff.1 g1⟩
      · cases g2
    obtain ⟨rfl, rfl⟩ := hz
    go_enter Tryz.func84, Tryz.ntmps84
    go_wp2
    go_ret
    exact ⟨_, rfl, World.ownsRow_nil _ _ _ _, Below.refl _ _⟩
  | some ad =>
    have hown0 : ∀ wr : World, w.heap.size ≤ wr.heap.size → (wr.alloc (.cells #[] 5)).ownsRow w.heap.size 5 1 (.slice (some ⟨wr.heap.size, 0, none⟩) 0 0) 0 [] := fun wr hs => World.ownsRow_made wr #[] 0 hs (Nat.zero_le _) (by simp)
    go_enter Tryz.func84, Tryz.ntmps84
    go_wp2_with (at_builtin; refine wpList_append_src rfl _ _ rfl w.heap.size _ 0 [] rfl (hown0 w (Nat.le_refl _)) (some ad) n1 c1 x1 rfl (h1.below ((Below.refl _ w).alloc (Nat.le_refl _) _)) (by omega) (by simp) ?_)
    intro v2 w2 hown2 hgrow2
    have hb2 : Below w.heap.size w w2 := ((Below.refl _ w).alloc (Nat.le_refl _) _).grown hgrow2 (by simp) (by intro k hk; simp [Value.ownBlock] at hk; omega)
    clear hgrow2 hown0
    go_wp2
    go_ret
    exact ⟨v2, rfl, by simpa using hown2, hb2⟩
/-- A row of the call's own that nothing else knows. -/
theorem own_fresh {E : Nat → Option Obj} {w w' : World} {v : Value} {ds : List DV} (hE : ∀ b o, E b = some o → w.heap[b]? = some o) (hb : Below w.heap.size w w') (hds : ∀ x ∈ ds, ∃ z, x = .int .u8 z ∧ IntKind.min .u8 ≤ z ∧ z ≤ IntKind.max .u8)
    (hown : w'.ownsRow w.heap.size 5 1 v ds.length (ds.map valD)) : Grows E E w w' ∧ Fresh E w w' 5 [tU8] (.list (ds.map fun x => [x])) v := by
  have hold : ∀ b o, E b = some o → w'.heap[b]? = some o := by
    intro b o h
    have h1 := hE b o h
    rw [hb.block b (Array.getElem?_eq_some_iff.1 h1).1]
    exact h1
  refine ⟨⟨fun b o h => h, fun b o h => ⟨hold b o h, .inl h⟩, fun b hlt => hb.block b hlt, io_of hb.os hb.output⟩, ?_⟩
  obtain ⟨_, ⟨rfl, h0⟩ | ⟨g, cap, cur, rfl, hg0, hg, hn, hm, hcs, htk⟩⟩ := hown
  · have hnil : ds = [] := List.length_eq_zero_iff.1 h0
    subst hnil
    exact ⟨[], none, 0, rfl, rfl, Nat.le_refl _, by unfold maxLen; omega, fun _ => rfl, .inl rfl⟩
  · have hEg : E g = none := by
      cases h : E g with
      | none => rfl
      | some o =>
        have := (Array.getElem?_eq_some_iff.1 (hE g o h)).1
        omega
    refine ⟨ds.map fun x => [x], some ⟨g, 0, none⟩, cap, rfl, by rw [List.length_map], by rw [List.length_map]; exact hn, hm, (fun e => by cases e), .inr ⟨g, cur, rfl, hg0, hEg, hg, fun row hr => ?_, Nat.le_refl _, ?_, fun k hk => ?_⟩⟩
    · obtain ⟨x, _, rfl⟩ := List.mem_map.1 hr
      rfl
    · show cap * 1 ≤ _
      omega
    · have hk' : k < ds.length := by simpa using hk
      obtain ⟨z, hz, k1, k2⟩ := hds ds[k] (List.getElem_mem hk')
      refine ⟨.int .u8 z, ?_, ?_⟩
      · have h1 : (cur.toList.take (ds.length * 1))[k]? = some (valD ds[k]) := by
          rw [htk, List.getElem?_map, List.getElem?_eq_getElem hk']
          rfl
        rw [List.getElem?_take_of_lt (by omega), hz] at h1
        simpa [valD] using h1
      · have e1 : k % [tU8].length = 0 := Nat.mod_one k
        have e2 : k / [tU8].length = k := Nat.div_one k
        rw [e1, e2]
        have : atD (.list (ds.map fun x => [x])) (.int .i64 (k : Nat)) 0 = .int .u8 z := by
          simp only [atD, Int.toNat_natCast, List.getD_eq_getElem?_getD, List.getElem?_map, List.getElem?_eq_getElem hk', Option.map_some, Option.getD_some, List.getElem?_cons_zero, hz]
        rw [this]
        simp only [List.getD_cons_zero, Rep]
        exact ⟨z, rfl, rfl, k1, k2⟩
theorem len_fact {I : Nat → List DV → DV} {l : List (List DV)} {ds : List DV} {k : Nat} (h : den (rhoOf I ds) (lenOK k).1 = .bool (lenOK k).2) (hk : ds.getD k (.bool false) = .list l) : l.length ≤ 1000000 := by
  simp only [den, rhoOf, hk, lenD, binD, DV.bool.injEq, decide_eq_false_iff_not] at h
  simp at h
  omega
theorem fnBoth (I : Nat → List DV → DV) : FnOwn Tryz.prog G 21 [.one tB, .one tB] 5 [tU8] [] (fun ds => ∀ p ∈ [lenOK 0, lenOK 1], den (rhoOf I ds) p.1 = .bool p.2) Fboth := by
  refine ⟨hasB_ok (by kernel_rfl), fun E ds vs w hE hr hpre _ => ?_⟩
  simp only [RepArgs, RepOne] at hr
  obtain ⟨_, _, v1, _, rfl, e1, ⟨d1, rfl, g1⟩, _, _, v2, _, rfl, rfl, ⟨d2, rfl, g2⟩, rfl, rfl⟩ := hr
  obtain ⟨l1, a1, c1, rfl, m1, i1, rfl, k1, _, s1⟩ := src_of hE g1
  obtain ⟨l2, a2, c2, rfl, m2, i2, rfl, k2, _, s2⟩ := src_of hE g2
  have hvs : vs = #[.slice a1 l1.length c1, .slice a2 l2.length c2] := Array.toList_inj.1 e1
  subst hvs
  have b1 : l1.length ≤ 1000000 := by
    have := len_fact (l := l1.map fun x => [x]) (hpre (lenOK 0) (by simp)) (by simp)
    simpa using this
  have b2 : l2.length ≤ 1000000 := by
    have := len_fact (l := l2.map fun x => [x]) (hpre (lenOK 1) (by simp)) (by simp)
    simpa using this
  refine (both_any a1 a2 _ c1 _ c2 _ _ w s1 s2 b1 b2).mono ?_
  rintro e w' ⟨v', rfl, hown, hb⟩
  rw [← List.length_append, ← List.map_append] at hown
  obtain ⟨hg, hf⟩ := own_fresh hE hb (ds := l1 ++ l2) (fun x hx => (List.mem_append.1 hx).elim (i1 x) (i2 x)) hown
  exact ⟨v', v', [], _, [], E, rfl, ⟨rfl, rfl⟩, by simp [Fboth, lD], hg, hf, rfl, rfl⟩
theorem fnClone (I : Nat → List DV → DV) : FnOK Tryz.prog G 84 [.one tB] [.one tB] (fun ds => ∀ p ∈ [lenOK 0], den (rhoOf I ds) p.1 = .bool p.2) Fclone := by
  refine ⟨hasB_ok (by kernel_rfl), fun E ds vs w hE hr hpre _ => ?_⟩
  simp only [RepArgs, RepOne] at hr
  obtain ⟨_, _, v1, _, rfl, e1, ⟨d1, rfl, g1⟩, rfl, rfl⟩ := hr
  obtain ⟨l1, a1, c1, rfl, m1, i1, rfl, k1, _, s1⟩ := src_of hE g1
  have hvs : vs = #[.slice a1 l1.length c1] := Array.toList_inj.1 e1
  subst hvs
  have b1 : l1.length ≤ 1000000 := by
    have := len_fact (l := l1.map fun x => [x]) (hpre (lenOK 0) (by simp)) (by simp)
    simpa using this
  refine (clone_any a1 _ c1 _ w s1 b1).mono ?_
  rintro e w' ⟨v', rfl, hown, hb⟩
  obtain ⟨E', hg, hrep⟩ := own_rep hE hb i1 m1 hown
  refine ⟨v', E', rfl, hg, ?_⟩
  simp only [RepRes, RepOne]
  exact ⟨_, rfl, .list (l1.map fun x => [x]), by simp [lD], hrep⟩
end Go.Proofs.YtjplhjnbcjohoaaGreatDoor
namespace Go.Proofs.YtjplhjnbcjohoaaGreatDoor
open Go Go.AM
/-! ### the document's values -/
noncomputable def pRight : Pln :=
  .ask (eql (.v 0) (k64 1))
    (.ask (eql (.v 1) (k64 0))
      (.done [[eql (.v 2) (.ks (bstr #[]))]])
      (.done [[.kb false]]))
    (.ask (eql (.v 0) (k64 2))
      (.ask (lss (.v 1) (k64 0))
        (.done [[.kb false]])
        (.ask (lss (k64 1) (.v 1))
          (.done [[.kb false]])
          (.done [[eql (.v 2) (.ks (bstr #[]))]])))
      (.ask (eql (.v 0) (k64 3))
        (.done [[eql (.v 2) (.ks (bstr #[]))]])
        (.ask (eql (.v 0) (k64 4))
          (.ask (eql (.v 1) (k64 0))
            (.done [[.not (lss (k64 64) (.len (.v 2)))]])
            (.done [[.kb false]]))
          (.done [[.kb false]]))))
theorem kRight : (hasB 23 && checkPlan [.one .bool] (runI theI (entS []) [] [] 23 [.agg tV]) [] pRight) = true := by kernel_rfl
theorem fnRight : FnOK Tryz.prog G 23 [.agg tV] [.one .bool] (fun _ => True) Fright := by
  have hk := kRight
  rw [Bool.and_eq_true] at hk
  refine fn_run (entS_ok (l := []) trivial) [] [] noLoops hk.1 pRight hk.2 ?_
  intro ds h _
  obtain ⟨k, n, s, rfl, _⟩ := agg_v h
  have e0 := size0 s
  have fin : ∀ (e : SX) (b : Bool), den (rhoOf theI [[.int .i64 k, .int .i64 n, .str s]].flatten) e = .bool b → valOK k n s.size = b → goalPlan (rhoOf theI [[.int .i64 k, .int .i64 n, .str s]].flatten) (Fright [[.int .i64 k, .int .i64 n, .str s]].flatten) (.done [[e]]) := by
    intro e b h1 h2
    show Fright _ = _
    have : Fright [[.int .i64 k, .int .i64 n, .str s]].flatten = [[.bool (valOK k n s.size)]] := rfl
    rw [this, h2]
    simp only [List.map_cons, List.map_nil, h1]
  generalize hR : rhoOf theI [[.int .i64 k, .int .i64 n, .str s]].flatten = R at fin ⊢
  have q0 : R.ρ 0 = .int .i64 k := by rw [← hR]; rfl
  have q1 : R.ρ 1 = .int .i64 n := by rw [← hR]; rfl
  have q2 : R.ρ 2 = .str s := by rw [← hR]; rfl
  have ak : ∀ j : Nat, den R (eql (.v 0) (k64 j)) = .bool (decide (k = j)) := fun j => d_eql (d_v q0) (d_k .i64 j)
  have an : ∀ j : Nat, den R (eql (.v 1) (k64 j)) = .bool (decide (n = j)) := fun j => d_eql (d_v q1) (d_k .i64 j)
  have az : den R (eql (.v 2) (.ks (bstr #[]))) = .bool (decide (s.size = 0)) := by
    simp only [den, q2, binD, bstr]
    congr 1
    simp only [decide_eq_decide]
    exact e0
  have al : den R (.not (lss (k64 64) (.len (.v 2)))) = .bool (!decide ((64 : Int) < s.size)) := by
    have := d_lss (d_k .i64 64) (d_lens (d_v q2))
    show notD (den R (lss (k64 64) (.len (.v 2)))) = _
    rw [this]
    rfl
  have l0 := d_lss (R := R) (d_v q1) (d_k .i64 0)
  have l1 := d_lss (R := R) (d_k .i64 1) (d_v q1)
  have kb : den R (.kb false) = .bool false := rfl
  generalize s.size = z at fin az al
  unfold pRight
  refine goal_ask (ak 1) (fun k1 => goal_ask (an 0) (fun n1 => fin _ _ az ?_) (fun n1 => fin _ _ kb ?_)) (fun k1 => ?_)
  any_goals (rw [Bool.eq_iff_iff]; simp [valOK] at *; omega)
  refine goal_ask (ak 2) (fun k2 => goal_ask l0 (fun n1 => fin _ _ kb ?_) (fun n1 => goal_ask l1 (fun n2 => fin _ _ kb ?_) (fun n2 => fin _ _ az ?_))) (fun k2 => ?_)
  any_goals (rw [Bool.eq_iff_iff]; simp [valOK] at *; omega)
  refine goal_ask (ak 3) (fun k3 => fin _ _ az ?_) (fun k3 => ?_)
  any_goals (rw [Bool.eq_iff_iff]; simp [valOK] at *; omega)
  refine goal_ask (ak 4) (fun k4 => goal_ask (an 0) (fun n1 => fin _ _ al ?_) (fun n1 => fin _ _ kb ?_)) (fun k4 => fin _ _ kb ?_)
  all_goals (rw [Bool.eq_iff_iff]; simp [valOK] at *; omega)
noncomputable def eRight : Ent := eFn 23 [.agg tV] [.one .bool] [] 7
noncomputable def eBoth : Ent := eOwn 21 [.one tB, .one tB] 5 [tU8] [] [lenOK 0, lenOK 1] 3 [some (5, [tU8]), some (5, [tU8])]
/-! ### their bytes: the loop over a text -/
noncomputable def TRb : Tmpl := { tm := [(1, .ptr 0 0), (3, .own 7 [tU8] (.v 1)), (5, .sy tI (.v 2))], ob := [(0, bxV)], ow := [⟨7, 5, [tU8], .v 1⟩], src := [.cell 0 2 .str, .own 0, .tm 5 tI], osrc := [.tm 3 5 [tU8]] }
noncomputable def YRb : Tmpl := { tm := [(3, .own 7 [tU8] (.v 0))], ob := [(0, bx0)], ow := [⟨7, 5, [tU8], .v 0⟩], src := [.own 0], osrc := [.tm 3 5 [tU8]] }
noncomputable def LRb : LoopSp := { n := 65, T := TRb, pre := [(lss (k64 64) (.len (.v 0)), false), (lss (k64 64) (.len (.v 1)), false), (eql (.v 2) (k64 0), true)], yes := (.exit 0, YRb, [.app 101 [.v 0, .v 1, .v 2]]) }
noncomputable abbrev codeRb : Code := loopAt 24 0
noncomputable def rRb : RPln :=
  .ask (lss (.v 2) (.len (.v 0)))
    (knowR [(lss (.v 2) (k64 0), false), (lss (k64 1000000) (.len (.v 1)), false)]
      (.ask (eql (.byte (.v 0) (.v 2)) (.ki .u8 (.ofNat 0)))
        (.know (lss (k64 1000000) (.len cE1)) false (.next [.v 0, cE2, add (.v 2) (k64 1)]))
        (.next [.v 0, cE1, add (.v 2) (k64 1)])))
    (.exit true [.v 1])
theorem okRb : (LRb.yes.2.1.ok LRb.T LRb.n && LRb.no.2.1.ok LRb.T LRb.n && checkRound LRb (roundI theI (entS []) [] codeRb) [] rRb) = true := by kernel_rfl
def invRb (R : Rho) : Prop := ∃ s l i, R.ρ 0 = .str s ∧ R.ρ 1 = .list (bytesI l) ∧ R.ρ 2 = .int .i64 i ∧ 0 ≤ i ∧ i ≤ s.size ∧ s.size ≤ 64 ∧ l.length ≤ 64 + 2 * i
noncomputable def muRb (R : Rho) : Nat := match R.ρ 0, R.ρ 2 with
  | .str s, .int _ i => s.size - i.toNat
  | _, _ => 0
theorem loopRb : LoopOK Tryz.prog G theI codeRb LRb := by
  refine loop_run (lps := []) (entS_ok (l := []) trivial) noLoops rRb okRb invRb muRb ?_ ?_
  · intro m a w hr hp
    obtain ⟨s, e0, _⟩ := (head_cell hr (id := 0) (k := 2) (i := 0) (ty := .str) (b := bxV) (by kernel_rfl) (by decide) (by kernel_rfl)).str
    obtain ⟨l, e1, _, _⟩ := (head_own hr (t := 3) (id := 7) (i := 1) (el := 5) (ts := [tU8]) (by kernel_rfl) (by kernel_rfl)).ints
    obtain ⟨i, e2, _⟩ := (head_sy hr (t := 5) (i := 2) (ty := tI) (by kernel_rfl)).i64
    have p1 := hp (lss (k64 64) (.len (.v 0)), false) (by simp [LRb])
    have p2 := hp (lss (k64 64) (.len (.v 1)), false) (by simp [LRb])
    have p3 := hp (eql (.v 2) (k64 0), true) (by simp [LRb])
    rw [d_lss (d_k .i64 64) (d_lens (d_v e0))] at p1
    rw [d_lss (d_k .i64 64) (d_lenI (d_v e1))] at p2
    rw [d_eql (d_v e2) (d_k .i64 0)] at p3
    simp only [DV.bool.injEq, decide_eq_false_iff_not, decide_eq_true_eq] at p1 p2 p3
    refine ⟨s, l, i, e0, e1, e2, ?_⟩
    omega
  · rintro R hI ⟨s, l, i, e0, e1, e2, h1, h2, h3, h4⟩
    have hout : ∀ (R' : Rho) (l' : List Int) (i' : Int), R'.I = theI → R'.ρ 0 = .str s → R'.ρ 1 = .list (bytesI l') → R'.ρ 2 = .int .i64 i' → LRb.yes.2.2.map (den R') = [.list (bytesI (l' ++ escI ((strI s).drop i'.toNat)))] := by
      intro R' l' i' hI' f0 f1 f2
      show [den R' (.app 101 [.v 0, .v 1, .v 2])] = _
      rw [d_app, hI']
      simp only [List.map_cons, List.map_nil, den, f0, f1, f2]
      show [FvEsc _] = _
      simp only [FvEsc, intsD, lD, sD, iD, List.getD_cons_zero, List.getD_cons_succ, ints_bytes]
    have hsz : (strI s).length = s.size := len_strI s
    unfold rRb
    refine round_ask (d_lss (d_v e2) (d_lens (d_v e0))) (fun hlt => ?_) (fun hge => ?_)
    · simp only [decide_eq_true_eq] at hlt
      have hb := d_byte (d_v e0) (d_v e2) h1 hlt
      have hst := esc_step h1 (show i < (strI s).length by omega)
      have hc1 := cat_I R (d_v e1) (row_I R hb)
      have hc2 := cat_I R hc1 (row_I R (x := .ki .u8 (.ofNat 255)) (z := 255) rfl)
      have hi1 := d_add (R := R) (d_v e2) (d_k .i64 1) (by omega) (by omega)
      refine round_knows (l := [_, _]) ?_ ?_
      · intro q hq
        simp only [List.mem_cons, List.not_mem_nil, or_false] at hq
        rcases hq with rfl | rfl
        · rw [d_lss (d_v e2) (d_k .i64 0)]; simp; omega
        · exact len_le R (d_v e1) (by omega)
      have next : ∀ (e : SX) (l' : List Int), den R e = .list (bytesI (l ++ l')) → l'.length ≤ 2 → l' ++ escI ((strI s).drop (i + 1).toNat) = escI ((strI s).drop i.toNat) → goalRound LRb invRb muRb R (.next [.v 0, e, add (.v 2) (k64 1)]) := by
        intro e l' he hl' heq
        have s0 := sub_get R [.v 0, e, add (.v 2) (k64 1)] 0 rfl (d_v e0)
        have s1 := sub_get R [.v 0, e, add (.v 2) (k64 1)] 1 rfl he
        have s2 := sub_get R [.v 0, e, add (.v 2) (k64 1)] 2 rfl hi1
        refine round_next (fun _ => rfl) ⟨s, l ++ l', i + 1, s0, s1, s2, by omega, by omega, h3, by rw [List.length_append]; omega⟩ ?_ ?_
        · simp only [muRb, s0, s2, e0, e2]
          omega
        · rw [hout R l i hI e0 e1 e2, hout (R.sub [.v 0, e, add (.v 2) (k64 1)]) (l ++ l') (i + 1) hI s0 s1 s2, List.append_assoc, heq]
      refine round_ask (d_eql hb (d_k .u8 0)) (fun hz => ?_) (fun hz => ?_)
      · simp only [decide_eq_true_eq] at hz
        replace hz : (strI s).getD i.toNat 0 = 0 := hz
        refine round_know (len_le R hc1 (by simp; omega)) ?_
        refine next cE2 [(strI s).getD i.toNat 0, 255] ?_ (by simp) ?_
        · rw [hc2]
          simp
        · rw [hst, if_pos hz, hz]
      · simp only [decide_eq_false_iff_not] at hz
        replace hz : ¬ (strI s).getD i.toNat 0 = 0 := hz
        refine next cE1 [(strI s).getD i.toNat 0] hc1 (by simp) ?_
        rw [hst, if_neg hz]
    · simp only [decide_eq_false_iff_not] at hge
      refine round_exit (fun _ => rfl) ?_
      rw [hout R l i hI e0 e1 e2]
      have : (strI s).drop i.toNat = [] := List.drop_eq_nil_of_le (by omega)
      rw [this]
      simp only [List.map_cons, List.map_nil, den, e1]
      simp [escI]
end Go.Proofs.YtjplhjnbcjohoaaGreatDoor
namespace Go.Proofs.YtjplhjnbcjohoaaGreatDoor
open Go Go.AM
/-! ### ledger.said: templates of its two loops -/
noncomputable def eEnc : Ent := eFn 47 [.agg tV] [.one tB, .one tI] [] 2
theorem eEnc_ok : EntsOK Tryz.prog G theI [eEnc] := ⟨eFn_ok plainG (pre_true fnEnc) (fun _ => rfl) [] (by kernel_rfl), trivial⟩
noncomputable def bOk (i : Nat) : Blk := { t := 4, row := false, sz := 1, n := 1, z := [.dead], c := (Tr.nil : Tr AV).put 0 (.sy .bool (.v i)) }
noncomputable def TL1 : Tmpl := { tm := [(0, .own 7 [tU8] (.v 1)), (3, .clo (.func 46) [] [.ptr 1 0]), (24, .sy tRow (.v 0)), (25, .sy tI (.len (.v 0))), (26, .sy tI (.v 2))], ob := [(1, bOk 3)], ow := [⟨7, 5, [tU8], .v 1⟩], src := [.tm 24 tRow, .own 0, .tm 26 tI, .cell 1 0 .bool], osrc := [.tm 0 5 [tU8]] }
noncomputable def TL2 : Tmpl := { tm := [(0, .own 7 [tU8] (.v 1)), (3, .clo (.func 44) [] [.ptr 1 0]), (24, .sy tRows (.v 0)), (25, .sy tI (.len (.v 0))), (26, .sy tI (.v 2))], ob := [(1, bOk 3)], ow := [⟨7, 5, [tU8], .v 1⟩], src := [.tm 24 tRows, .own 0, .tm 26 tI, .cell 1 0 .bool], osrc := [.tm 0 5 [tU8]] }
noncomputable def YL : Tmpl := { tm := [(0, .own 7 [tU8] (.v 0))], ob := [(1, bOk 1)], ow := [⟨7, 5, [tU8], .v 0⟩], src := [.own 0, .cell 1 0 .bool], osrc := [.tm 0 5 [tU8]] }
noncomputable def LL1 : LoopSp := { n := 36, T := TL1, pre := [(lss (k64 12) (.len (.v 0)), false), (lss (k64 900000) (.len (.v 1)), false), (eql (.v 2) (k64 0), true)], yes := (.exit 0, YL, [.app 111 [.v 0, .v 1, .v 2], .app 112 [.v 0, .v 2, .v 3]]) }
noncomputable def LL2 : LoopSp := { n := 36, T := TL2, pre := [(lss (k64 255) (.len (.v 0)), false), (lss (k64 64) (.len (.v 1)), false), (eql (.v 2) (k64 0), true)], yes := (.exit 0, YL, [.app 113 [.v 0, .v 1, .v 2], .app 114 [.v 0, .v 2, .v 3]]) }
noncomputable abbrev codeL1 : Code := loopAt 45 0
noncomputable abbrev codeL2 : Code := loopAt 43 0
noncomputable abbrev subL2 : SubL := [(44, []), (45, [(6, LL1)])]
noncomputable abbrev subSaid : SubL := [(43, [(6, LL2)])]
end Go.Proofs.YtjplhjnbcjohoaaGreatDoor
namespace Go.Proofs.YtjplhjnbcjohoaaGreatDoor
open Go Go.AM
/-! ### ledger.said -/
noncomputable abbrev aV : List SX := [.at (.v 0) (.v 2) 0, .at (.v 0) (.v 2) 1, .at (.v 0) (.v 2) 2]
noncomputable abbrev encB : SX := .at (.app 2 aV) (k64 0) 0
noncomputable abbrev encE : SX := .at (.app 2 aV) (k64 1) 0
noncomputable def rL1 : RPln :=
  .ask (lss (.v 2) (.len (.v 0)))
    (knowR [(lss (.v 2) (k64 0), false), (lss (k64 1000000) (.len (.v 1)), false), (lss (k64 1000000) (.len encB), false)]
      (.ask (.v 3)
        (.next [.v 0, .cat (.v 1) encB, add (.v 2) (k64 1), eql encE (k64 0)])
        (.next [.v 0, .cat (.v 1) encB, add (.v 2) (k64 1), .kb false])))
    (.exit true [.v 1, .v 3])
theorem okL1 : (LL1.yes.2.1.ok LL1.T LL1.n && LL1.no.2.1.ok LL1.T LL1.n && checkRound LL1 (roundI theI (entS [eEnc]) [] codeL1) [] rL1) = true := by kernel_rfl
noncomputable def muI (R : Rho) : Nat := match R.ρ 0, R.ρ 2 with
  | .list l, .int _ i => l.length - i.toNat
  | _, _ => 0
theorem dEnc {R : Rho} (hI : R.I = theI) {es : List SX} {r : List DV} (hr : IsV r) (hes : es.map (den R) = r) : den R (.at (.app 2 es) (k64 0) 0) = .list (bytesI (mayEnc r)) ∧ den R (.at (.app 2 es) (k64 1) 0) = .int .i64 (if okVal r then 0 else 150) := by
  obtain ⟨k, n, s, rfl, _⟩ := hr
  have h : FvEnc (es.map (den R)) = if okVal [.int .i64 k, .int .i64 n, .str s] then [[.list (bytesI (encVal [.int .i64 k, .int .i64 n, .str s]))], [.int .i64 0]] else [[.list []], [.int .i64 150]] := by
    rw [hes]
    rfl
  constructor
  · refine d_res (F := FvEnc) (by rw [hI]; rfl) ?_
    rw [h]
    unfold mayEnc
    split <;> rfl
  · refine d_res (F := FvEnc) (by rw [hI]; rfl) ?_
    rw [h]
    split <;> rfl
theorem maxLen_lt : maxLen ≤ 9223372036854775807 := by unfold maxLen; omega
theorem row_cells {R : Rho} {x i : SX} {l : List (List DV)} {k : Int} {r : List DV} (hx : den R x = .list l) (hi : den R i = .int .i64 k) (hl : l.getD k.toNat [] = r) (hr : IsV r) : ([.at x i 0, .at x i 1, .at x i 2] : List SX).map (den R) = r := by
  obtain ⟨a, b, c, rfl, _⟩ := hr
  simp only [List.map_cons, List.map_nil, d_at _ hx hi, hl]
  rfl
def invL1 (R : Rho) : Prop := ∃ l b i ok, R.ρ 0 = .list l ∧ R.ρ 1 = .list (bytesI b) ∧ R.ρ 2 = .int .i64 i ∧ R.ρ 3 = .bool ok ∧ (∀ v ∈ l, IsV v) ∧ 0 ≤ i ∧ i ≤ l.length ∧ l.length ≤ 12 ∧ (b.length : Int) ≤ 900000 + 131 * i
theorem outL1 {R : Rho} (hI : R.I = theI) {l : List (List DV)} {b : List Int} {i : Int} {ok : Bool} (e0 : R.ρ 0 = .list l) (e1 : R.ρ 1 = .list (bytesI b)) (e2 : R.ρ 2 = .int .i64 i) (e3 : R.ρ 3 = .bool ok) :
    LL1.yes.2.2.map (den R) = [.list (bytesI (b ++ (l.drop i.toNat).flatMap mayEnc)), .bool (ok && (l.drop i.toNat).all okVal)] := by
  show [den R (.app 111 [.v 0, .v 1, .v 2]), den R (.app 112 [.v 0, .v 2, .v 3])] = _
  rw [d_app, d_app, hI]
  simp only [List.map_cons, List.map_nil, den, e0, e1, e2, e3]
  show [FL1 _, FL1ok _] = _
  simp only [FL1, FL1ok, intsD, lD, iD, bD, List.getD_cons_zero, List.getD_cons_succ, ints_bytes]
theorem loopL1 : LoopOK Tryz.prog G theI codeL1 LL1 := by
  refine loop_run (lps := []) (entS_ok eEnc_ok) noLoops rL1 okL1 invL1 muI ?_ ?_
  · intro m a w hr hp
    obtain ⟨l, e0, _, hv⟩ := (head_sy hr (t := 24) (i := 0) (ty := tRow) (by kernel_rfl)).vals
    obtain ⟨b, e1, _, _⟩ := (head_own hr (t := 0) (id := 7) (i := 1) (el := 5) (ts := [tU8]) (by kernel_rfl) (by kernel_rfl)).ints
    obtain ⟨i, e2, _⟩ := (head_sy hr (t := 26) (i := 2) (ty := tI) (by kernel_rfl)).i64
    obtain ⟨ok, e3⟩ := (head_cell hr (id := 1) (k := 0) (i := 3) (ty := .bool) (b := bOk 3) (by kernel_rfl) (by decide) (by kernel_rfl)).bool
    have p1 := hp (lss (k64 12) (.len (.v 0)), false) (by simp [LL1])
    have p2 := hp (lss (k64 900000) (.len (.v 1)), false) (by simp [LL1])
    have p3 := hp (eql (.v 2) (k64 0), true) (by simp [LL1])
    rw [d_lss (d_k .i64 12) (d_lenL (d_v e0))] at p1
    rw [d_lss (d_k .i64 900000) (d_lenI (d_v e1))] at p2
    rw [d_eql (d_v e2) (d_k .i64 0)] at p3
    simp only [DV.bool.injEq, decide_eq_false_iff_not, decide_eq_true_eq] at p1 p2 p3
    exact ⟨l, b, i, ok, e0, e1, e2, e3, hv, by omega, by omega, by omega, by omega⟩
  · rintro R hI ⟨l, b, i, ok, e0, e1, e2, e3, hv, h1, h2, h3, h4⟩
    unfold rL1
    refine round_ask (d_lss (d_v e2) (d_lenL (d_v e0))) (fun hlt => ?_) (fun hge => ?_)
    · simp only [decide_eq_true_eq] at hlt
      have l1 : i.toNat < l.length := by omega
      have hg : l.getD i.toNat [] = l[i.toNat] := getD_lt l1
      have hvi := hv _ (List.getElem_mem l1)
      obtain ⟨d1, d2⟩ := dEnc hI hvi (row_cells (d_v e0) (d_v e2) hg hvi)
      have hml := mayEnc_len l[i.toNat]
      have hc := cat_I R (d_v e1) d1
      have hi1 : den R (add (.v 2) (k64 1)) = .int .i64 (i + 1) := d_add (R := R) (d_v e2) (d_k .i64 1) (by omega) (by omega)
      have hfl := flat_step (f := mayEnc) l1
      have hal := all_step (f := okVal) l1
      refine round_knows (l := [_, _, _]) ?_ ?_
      · intro q hq
        simp only [List.mem_cons, List.not_mem_nil, or_false] at hq
        rcases hq with rfl | rfl | rfl
        · rw [d_lss (d_v e2) (d_k .i64 0)]; simp; omega
        · exact len_le R (d_v e1) (by omega)
        · exact len_le R d1 (by omega)
      have next : ∀ (e : SX) (ok' : Bool), den R e = .bool ok' → (ok' && (l.drop (i.toNat + 1)).all okVal) = (ok && (l.drop i.toNat).all okVal) → goalRound LL1 invL1 muI R (.next [.v 0, .cat (.v 1) encB, add (.v 2) (k64 1), e]) := by
        intro e ok' he hok
        have s0 := sub_get R [.v 0, .cat (.v 1) encB, add (.v 2) (k64 1), e] 0 rfl (d_v e0)
        have s1 := sub_get R [.v 0, .cat (.v 1) encB, add (.v 2) (k64 1), e] 1 rfl hc
        have s2 := sub_get R [.v 0, .cat (.v 1) encB, add (.v 2) (k64 1), e] 2 rfl hi1
        have s3 := sub_get R [.v 0, .cat (.v 1) encB, add (.v 2) (k64 1), e] 3 rfl he
        refine round_next (fun _ => rfl) ⟨l, b ++ mayEnc l[i.toNat], i + 1, ok', s0, s1, s2, s3, hv, by omega, by omega, h3, by rw [List.length_append]; omega⟩ ?_ ?_
        · simp only [muI, s0, s2, e0, e2]
          omega
        · rw [outL1 (R := R.sub _) hI s0 s1 s2 s3, outL1 hI e0 e1 e2 e3, toNat_succ h1, hfl, hok, List.append_assoc]
      refine round_ask (b := ok) (d_v e3) (fun ht => ?_) (fun hf => ?_)
      · refine next _ _ (d_eql d2 (d_k .i64 0)) ?_
        rw [hal, ht]
        cases hok : okVal l[i.toNat] <;> simp
      · refine next _ false rfl ?_
        rw [hf]
        rfl
    · simp only [decide_eq_false_iff_not] at hge
      refine round_exit (fun _ => rfl) ?_
      rw [outL1 hI e0 e1 e2 e3]
      have : l.drop i.toNat = [] := List.drop_eq_nil_of_le (by omega)
      rw [this]
      simp only [List.map_cons, List.map_nil, den, e1, e3]
      simp
theorem lL1 : LoopsAre theI 45 [(6, LL1)] := loops1 (by kernel_rfl) loopL1
theorem subL2_ok : SubsOK theI subL2 := ⟨fun _ _ _ h => by simp [lpsOf] at h, lL1, trivial⟩
/-! ### all rows -/
noncomputable abbrev rowX : SX := .at (.v 0) (.v 2) 0
noncomputable abbrev cRow : SX := .cat (.v 1) (.row [.conv .u8 (.len rowX)])
noncomputable def rL2 : RPln :=
  .ask (lss (.v 2) (.len (.v 0)))
    (.know (lss (.v 2) (k64 0)) false
      (.ask (lss (k64 12) (.len rowX))
        (.next [.v 0, .v 1, add (.v 2) (k64 1), .kb false])
        (knowR [(lss (k64 1000000) (.len (.v 1)), false), (lss (k64 900000) (.len cRow), false)]
          (.next [.v 0, .app 111 [rowX, cRow, k64 0], add (.v 2) (k64 1), .app 112 [rowX, k64 0, .v 3]]))))
    (.exit true [.v 1, .v 3])
theorem okL2 : (LL2.yes.2.1.ok LL2.T LL2.n && LL2.no.2.1.ok LL2.T LL2.n && checkRound LL2 (roundS theI (entS [eEnc]) subL2 [] codeL2) [] rL2) = true := by kernel_rfl
def invL2 (R : Rho) : Prop := ∃ l b i ok, R.ρ 0 = .list l ∧ R.ρ 1 = .list (bytesI b) ∧ R.ρ 2 = .int .i64 i ∧ R.ρ 3 = .bool ok ∧ (∀ v ∈ l, IsR v) ∧ 0 ≤ i ∧ i ≤ l.length ∧ l.length ≤ 255 ∧ (b.length : Int) ≤ 64 + 1573 * i
theorem outL2 {R : Rho} (hI : R.I = theI) {l : List (List DV)} {b : List Int} {i : Int} {ok : Bool} (e0 : R.ρ 0 = .list l) (e1 : R.ρ 1 = .list (bytesI b)) (e2 : R.ρ 2 = .int .i64 i) (e3 : R.ρ 3 = .bool ok) :
    LL2.yes.2.2.map (den R) = [.list (bytesI (b ++ rowsB (l.drop i.toNat))), .bool (ok && rowsOK (l.drop i.toNat))] := by
  show [den R (.app 113 [.v 0, .v 1, .v 2]), den R (.app 114 [.v 0, .v 2, .v 3])] = _
  rw [d_app, d_app, hI]
  simp only [List.map_cons, List.map_nil, den, e0, e1, e2, e3]
  show [FL2 _, FL2ok _] = _
  simp only [FL2, FL2ok, intsD, lD, iD, bD, List.getD_cons_zero, List.getD_cons_succ, ints_bytes]
theorem d111 {R : Rho} (hI : R.I = theI) {x y z : SX} {l : List (List DV)} {b : List Int} {i : Int} (hx : den R x = .list l) (hy : den R y = .list (bytesI b)) (hz : den R z = .int .i64 i) : den R (.app 111 [x, y, z]) = .list (bytesI (b ++ (l.drop i.toNat).flatMap mayEnc)) := by
  rw [d_app, hI]
  simp only [List.map_cons, List.map_nil, hx, hy, hz]
  show FL1 _ = _
  simp only [FL1, intsD, lD, iD, List.getD_cons_zero, List.getD_cons_succ, ints_bytes]
theorem d112 {R : Rho} (hI : R.I = theI) {x y z : SX} {l : List (List DV)} {ok : Bool} {i : Int} (hx : den R x = .list l) (hy : den R y = .int .i64 i) (hz : den R z = .bool ok) : den R (.app 112 [x, y, z]) = .bool (ok && (l.drop i.toNat).all okVal) := by
  rw [d_app, hI]
  simp only [List.map_cons, List.map_nil, hx, hy, hz]
  show FL1ok _ = _
  simp only [FL1ok, lD, iD, bD, List.getD_cons_zero, List.getD_cons_succ]
theorem d113 {R : Rho} (hI : R.I = theI) {x y z : SX} {l : List (List DV)} {b : List Int} {i : Int} (hx : den R x = .list l) (hy : den R y = .list (bytesI b)) (hz : den R z = .int .i64 i) : den R (.app 113 [x, y, z]) = .list (bytesI (b ++ rowsB (l.drop i.toNat))) := by
  rw [d_app, hI]
  simp only [List.map_cons, List.map_nil, hx, hy, hz]
  show FL2 _ = _
  simp only [FL2, intsD, lD, iD, List.getD_cons_zero, List.getD_cons_succ, ints_bytes]
theorem d114 {R : Rho} (hI : R.I = theI) {x y z : SX} {l : List (List DV)} {ok : Bool} {i : Int} (hx : den R x = .list l) (hy : den R y = .int .i64 i) (hz : den R z = .bool ok) : den R (.app 114 [x, y, z]) = .bool (ok && rowsOK (l.drop i.toNat)) := by
  rw [d_app, hI]
  simp only [List.map_cons, List.map_nil, hx, hy, hz]
  show FL2ok _ = _
  simp only [FL2ok, lD, iD, bD, List.getD_cons_zero, List.getD_cons_succ]
theorem rowsB_step {l : List (List DV)} {i : Nat} (h : i < l.length) : rowsB (l.drop i) = rowB (lD l[i] 0) ++ rowsB (l.drop (i + 1)) := flat_step (f := fun r => rowB (lD r 0)) h
theorem rowsOK_step {l : List (List DV)} {i : Nat} (h : i < l.length) : rowsOK (l.drop i) = (rowOK (lD l[i] 0) && rowsOK (l.drop (i + 1))) := all_step (f := fun r => rowOK (lD r 0)) h
theorem loopL2 : LoopOK Tryz.prog G theI codeL2 LL2 := by
  refine loop_runS (lps := []) (entS_ok eEnc_ok) subL2_ok noLoops rL2 okL2 invL2 muI ?_ ?_
  · intro m a w hr hp
    obtain ⟨l, e0, _, hv⟩ := (head_sy hr (t := 24) (i := 0) (ty := tRows) (by kernel_rfl)).rows
    obtain ⟨b, e1, _, _⟩ := (head_own hr (t := 0) (id := 7) (i := 1) (el := 5) (ts := [tU8]) (by kernel_rfl) (by kernel_rfl)).ints
    obtain ⟨i, e2, _⟩ := (head_sy hr (t := 26) (i := 2) (ty := tI) (by kernel_rfl)).i64
    obtain ⟨ok, e3⟩ := (head_cell hr (id := 1) (k := 0) (i := 3) (ty := .bool) (b := bOk 3) (by kernel_rfl) (by decide) (by kernel_rfl)).bool
    have p1 := hp (lss (k64 255) (.len (.v 0)), false) (by simp [LL2])
    have p2 := hp (lss (k64 64) (.len (.v 1)), false) (by simp [LL2])
    have p3 := hp (eql (.v 2) (k64 0), true) (by simp [LL2])
    rw [d_lss (d_k .i64 255) (d_lenL (d_v e0))] at p1
    rw [d_lss (d_k .i64 64) (d_lenI (d_v e1))] at p2
    rw [d_eql (d_v e2) (d_k .i64 0)] at p3
    simp only [DV.bool.injEq, decide_eq_false_iff_not, decide_eq_true_eq] at p1 p2 p3
    exact ⟨l, b, i, ok, e0, e1, e2, e3, hv, by omega, by omega, by omega, by omega⟩
  · rintro R hI ⟨l, b, i, ok, e0, e1, e2, e3, hv, h1, h2, h3, h4⟩
    unfold rL2
    refine round_ask (d_lss (d_v e2) (d_lenL (d_v e0))) (fun hlt => ?_) (fun hge => ?_)
    · simp only [decide_eq_true_eq] at hlt
      have l1 : i.toNat < l.length := by omega
      have hg : l.getD i.toNat [] = l[i.toNat] := getD_lt l1
      obtain ⟨lv, hlv, m1, _⟩ := hv _ (List.getElem_mem l1)
      have dx : den R rowX = .list lv := by rw [d_at 0 (d_v e0) (d_v e2), hg, hlv]; rfl
      have hld : lD l[i.toNat] 0 = lv := by rw [hlv]; rfl
      have hi1 : den R (add (.v 2) (k64 1)) = .int .i64 (i + 1) := d_add (R := R) (d_v e2) (d_k .i64 1) (by omega) (by omega)
      have hfl := rowsB_step l1
      have hal := rowsOK_step l1
      rw [hld] at hfl hal
      have next : ∀ (x e : SX) (ok' : Bool) (t : List Int), den R x = .list (bytesI (b ++ t)) → den R e = .bool ok' → t = rowB lv → ok' = (ok && rowOK lv) → goalRound LL2 invL2 muI R (.next [.v 0, x, add (.v 2) (k64 1), e]) := by
        intro x e ok' t hx he ht hok
        have s0 := sub_get R [.v 0, x, add (.v 2) (k64 1), e] 0 rfl (d_v e0)
        have s1 := sub_get R [.v 0, x, add (.v 2) (k64 1), e] 1 rfl hx
        have s2 := sub_get R [.v 0, x, add (.v 2) (k64 1), e] 2 rfl hi1
        have s3 := sub_get R [.v 0, x, add (.v 2) (k64 1), e] 3 rfl he
        have htl : t.length ≤ 1573 := by rw [ht]; exact rowB_len lv
        refine round_next (fun _ => rfl) ⟨l, b ++ t, i + 1, ok', s0, s1, s2, s3, hv, by omega, by omega, h3, by rw [List.length_append]; omega⟩ ?_ ?_
        · simp only [muI, s0, s2, e0, e2]
          omega
        · rw [outL2 (R := R.sub _) hI s0 s1 s2 s3, outL2 hI e0 e1 e2 e3, toNat_succ h1, hfl, hal, ht, hok, List.append_assoc, Bool.and_assoc]
      refine round_know (by rw [d_lss (d_v e2) (d_k .i64 0)]; simp; omega) ?_
      refine round_ask (d_lss (d_k .i64 12) (d_lenL dx)) (fun hb => ?_) (fun hb => ?_)
      · simp only [decide_eq_true_eq] at hb
        have hb' : 12 < lv.length := by omega
        refine next _ _ false [] (by rw [List.append_nil]; exact d_v e1) rfl ?_ ?_
        · unfold rowB
          rw [if_pos hb']
        · have : rowOK lv = false := by
            unfold rowOK
            rw [decide_eq_false (by omega)]
            rfl
          rw [this, Bool.and_false]
      · simp only [decide_eq_false_iff_not] at hb
        have hb' : ¬ 12 < lv.length := by omega
        have hc := cat_I R (d_v e1) (row_I R (d_u8 (d_lenL dx)))
        have hk := maxLen_lt
        refine round_knows (l := [_, _]) ?_ ?_
        · intro q hq
          simp only [List.mem_cons, List.not_mem_nil, or_false] at hq
          rcases hq with rfl | rfl
          · exact len_le R (d_v e1) (by omega)
          · rw [d_lss (d_k .i64 900000) (d_lenI hc)]
            simp
            omega
        · have d1 := d111 hI dx hc (d_k .i64 0)
          have d2 := d112 hI dx (d_k .i64 0) (d_v e3)
          refine next _ _ _ (((lv.length : Int) % 256) :: lv.flatMap mayEnc) ?_ d2 ?_ ?_
          · rw [d1]
            simp
          · unfold rowB
            rw [if_neg hb']
          · unfold rowOK
            rw [decide_eq_true (by omega)]
            simp
    · simp only [decide_eq_false_iff_not] at hge
      refine round_exit (fun _ => rfl) ?_
      rw [outL2 hI e0 e1 e2 e3]
      have : l.drop i.toNat = [] := List.drop_eq_nil_of_le (by omega)
      rw [this]
      simp only [List.map_cons, List.map_nil, den, e1, e3]
      simp [rowsB, rowsOK]
theorem lL2 : LoopsAre theI 43 [(6, LL2)] := loops1 (by kernel_rfl) loopL2
theorem subSaid_ok : SubsOK theI subSaid := ⟨lL2, trivial⟩
end Go.Proofs.YtjplhjnbcjohoaaGreatDoor
namespace Go.Proofs.YtjplhjnbcjohoaaGreatDoor
open Go Go.AM
/-! ### ledger.said and ledger.EncodeResult as contracts -/
noncomputable abbrev sh16 (x : SX) (n : Nat) : SX := .row [.conv .u8 (.bin .shr (.conv .u16 x) (k64 n))]
noncomputable abbrev hB : SX := .cat (sh16 (.v 0) 8) (.cat (sh16 (.v 0) 0) (.cat (sh16 (.v 1) 8) (.cat (sh16 (.v 1) 0) (.cat (sh16 (.v 3) 8) (.cat (sh16 (.v 3) 0) (.row [.conv .u8 (.len (.v 2))]))))))
noncomputable abbrev sB : SX := .app 113 [.v 2, hB, k64 0]
noncomputable abbrev noB : Pln := .done [[.emp], [.kb false]]
noncomputable def pSaid : Pln :=
  .ask (lss (.v 0) (k64 0)) noB (.ask (lss (k64 65535) (.v 0)) noB
    (.ask (lss (.v 1) (k64 0)) noB (.ask (lss (k64 65535) (.v 1)) noB
      (.ask (lss (.v 3) (k64 0)) noB (.ask (lss (k64 65535) (.v 3)) noB
        (.ask (lss (k64 255) (.len (.v 2))) noB
          (.know (lss (k64 64) (.len hB)) false
            (.ask (.app 114 [.v 2, k64 0, .kb true])
              (.done [[sB], [.not (lss (k64 3000) (.len sB))]])
              (.done [[sB], [.kb false]])))))))))
theorem kSaid : (hasB 16 && checkPlan [.one tB, .one .bool] (runS theI (entS [eEnc]) subSaid [] [some (5, [tU8]), none] 16 [.agg tO]) [] pSaid) = true := by kernel_rfl
theorem agg_o {ds : List (List DV)} (h : IsArgs [.agg tO] ds) : ∃ e a l c, ds = [[.int .i64 e, .int .i64 a, .list l, .int .i64 c]] ∧ l.length ≤ maxLen ∧ ∀ r ∈ l, IsR r := by
  simp only [IsArgs, IsOne, IsL, tO] at h
  obtain ⟨_, _, rfl, ⟨d1, _, rfl, h1, d2, _, rfl, h2, d3, _, rfl, h3, d4, _, rfl, h4, rfl⟩, rfl⟩ := h
  obtain ⟨e, rfl, _⟩ := h1.i64
  obtain ⟨a, rfl, _⟩ := h2.i64
  obtain ⟨l, rfl, k1, k2⟩ := h3.rows
  obtain ⟨c, rfl, _⟩ := h4.i64
  exact ⟨e, a, l, c, rfl, k1, k2⟩
theorem sh16_I {R : Rho} {x : SX} {e : Int} (hx : den R x = .int .i64 e) (h0 : 0 ≤ e) (h1 : e ≤ 65535) (n : Nat) (hn : n ≤ 16) : den R (sh16 x n) = .list (bytesI [e / 2 ^ n % 256]) := row_I R (shr_I R (d_c16 hx ⟨h0, h1⟩) h0 n (by simpa [IntKind.bits] using hn))
theorem hB_I {R : Rho} {e a c : Int} {l : List (List DV)} (q0 : R.ρ 0 = .int .i64 e) (q1 : R.ρ 1 = .int .i64 a) (q2 : R.ρ 2 = .list l) (q3 : R.ρ 3 = .int .i64 c) (he : 0 ≤ e ∧ e ≤ 65535) (ha : 0 ≤ a ∧ a ≤ 65535) (hc : 0 ≤ c ∧ c ≤ 65535) :
    den R hB = .list (bytesI (be2 e ++ (be2 a ++ (be2 c ++ [(l.length : Int) % 256])))) := by
  rw [cat_I R (sh16_I (d_v q0) he.1 he.2 8 (by omega)) (cat_I R (sh16_I (d_v q0) he.1 he.2 0 (by omega)) (cat_I R (sh16_I (d_v q1) ha.1 ha.2 8 (by omega)) (cat_I R (sh16_I (d_v q1) ha.1 ha.2 0 (by omega)) (cat_I R (sh16_I (d_v q3) hc.1 hc.2 8 (by omega)) (cat_I R (sh16_I (d_v q3) hc.1 hc.2 0 (by omega)) (row_I R (d_u8 (d_lenL (d_v q2)))))))))]
  simp [be2]
theorem Fsaid_no {e a c : Int} {l : List (List DV)} (h : headOK e a c l = false) : Fsaid [.int .i64 e, .int .i64 a, .list l, .int .i64 c] = [[.list []], [.bool false]] := by
  show (if headOK e a c l = true then _ else _) = _
  rw [h]
  rfl
theorem Fsaid_yes {e a c : Int} {l : List (List DV)} (h : headOK e a c l = true) : Fsaid [.int .i64 e, .int .i64 a, .list l, .int .i64 c] = [[.list (bytesI (saidB e a c l))], [.bool (rowsOK l && decide ((saidB e a c l).length ≤ 3000))]] := by
  show (if headOK e a c l = true then _ else _) = _
  rw [if_pos h]
  show [[DV.list (bytesI (saidB e a c l))], [DV.bool (saidOK e a c l)]] = _
  unfold saidOK
  rw [h, Bool.true_and]
theorem fnSaid : FnOK Tryz.prog G 16 [.agg tO] [.one tB, .one .bool] (fun _ => True) Fsaid := by
  have hk := kSaid
  rw [Bool.and_eq_true] at hk
  refine fn_runS (entS_ok eEnc_ok) subSaid_ok [] _ noLoops hk.1 pSaid hk.2 ?_
  intro ds h _
  obtain ⟨e, a, l, c, rfl, hl, hr⟩ := agg_o h
  have no : headOK e a c l = false → goalPlan (rhoOf theI [[.int .i64 e, .int .i64 a, .list l, .int .i64 c]].flatten) (Fsaid [[.int .i64 e, .int .i64 a, .list l, .int .i64 c]].flatten) noB := fun h => Fsaid_no h
  have yes := fun h => @Fsaid_yes e a c l h
  have hF : Fsaid [[.int .i64 e, .int .i64 a, .list l, .int .i64 c]].flatten = Fsaid [.int .i64 e, .int .i64 a, .list l, .int .i64 c] := rfl
  rw [hF] at no ⊢
  generalize hR : rhoOf theI [[.int .i64 e, .int .i64 a, .list l, .int .i64 c]].flatten = R at no ⊢
  have hI : R.I = theI := by rw [← hR]; rfl
  have q0 : R.ρ 0 = .int .i64 e := by rw [← hR]; rfl
  have q1 : R.ρ 1 = .int .i64 a := by rw [← hR]; rfl
  have q2 : R.ρ 2 = .list l := by rw [← hR]; rfl
  have q3 : R.ρ 3 = .int .i64 c := by rw [← hR]; rfl
  unfold pSaid
  refine goal_ask (d_lss (d_v q0) (d_k .i64 0)) (fun h1 => no ?_) (fun h1 => goal_ask (d_lss (d_k .i64 65535) (d_v q0)) (fun h2 => no ?_) (fun h2 => ?_))
  any_goals (simp [headOK, two] at *; omega)
  refine goal_ask (d_lss (d_v q1) (d_k .i64 0)) (fun h3 => no ?_) (fun h3 => goal_ask (d_lss (d_k .i64 65535) (d_v q1)) (fun h4 => no ?_) (fun h4 => ?_))
  any_goals (simp [headOK, two] at *; omega)
  refine goal_ask (d_lss (d_v q3) (d_k .i64 0)) (fun h5 => no ?_) (fun h5 => goal_ask (d_lss (d_k .i64 65535) (d_v q3)) (fun h6 => no ?_) (fun h6 => ?_))
  any_goals (simp [headOK, two] at *; omega)
  refine goal_ask (d_lss (d_k .i64 255) (d_lenL (d_v q2))) (fun h7 => no ?_) (fun h7 => ?_)
  · simp [headOK, two] at *; omega
  simp only [decide_eq_false_iff_not, Int.not_lt] at h1 h2 h3 h4 h5 h6 h7
  replace h1 : 0 ≤ e := h1
  replace h2 : e ≤ 65535 := h2
  replace h3 : 0 ≤ a := h3
  replace h4 : a ≤ 65535 := h4
  replace h5 : 0 ≤ c := h5
  replace h6 : c ≤ 65535 := h6
  replace h7 : (l.length : Int) ≤ 255 := h7
  have hok : headOK e a c l = true := by
    simp [headOK, two]
    omega
  have hb := hB_I q0 q1 q2 q3 ⟨h1, h2⟩ ⟨h3, h4⟩ ⟨h5, h6⟩
  have hs : den R sB = .list (bytesI (saidB e a c l)) := by
    rw [d113 hI (d_v q2) hb (d_k .i64 0)]
    simp [saidB]
  have hd : den R (.app 114 [.v 2, k64 0, .kb true]) = .bool (rowsOK l) := by
    rw [d114 (ok := true) hI (d_v q2) (d_k .i64 0) rfl]
    simp
  have hn : den R (.not (lss (k64 3000) (.len sB))) = .bool (decide ((saidB e a c l).length ≤ 3000)) := by
    have := d_lss (d_k .i64 3000) (d_lenI hs)
    show notD (den R (lss (k64 3000) (.len sB))) = _
    rw [this]
    simp only [notD, DV.bool.injEq]
    rw [Bool.eq_iff_iff]
    simp
    omega
  refine goal_know (by rw [d_lss (d_k .i64 64) (d_lenI hb)]; simp [be2]) ?_
  refine goal_ask hd (fun h8 => ?_) (fun h8 => ?_)
  · show Fsaid _ = _
    rw [yes hok, h8]
    simp only [List.map_cons, List.map_nil, hs, hn, Bool.true_and]
  · show Fsaid _ = _
    rw [yes hok, h8]
    simp only [List.map_cons, List.map_nil, hs, Bool.false_and]
    rfl
noncomputable def eSaid : Ent := eFn 16 [.agg tO] [.one tB, .one .bool] [] 9
theorem eSaid_ok : EntsOK Tryz.prog G theI [eSaid] := ⟨eFn_ok plainG (pre_true fnSaid) (fun _ => rfl) [] (by kernel_rfl), trivial⟩
noncomputable abbrev saS (j : Nat) : SX := .at (.app 9 [.v 0, .v 1, .v 2, .v 3]) (k64 j) 0
noncomputable def pEncR : Pln := .ask (saS 1) (.done [[saS 0], [k64 0]]) (.done [[.emp], [k64 271]])
theorem kEncR : (hasB 6 && checkPlan [.one tB, .one tI] (runI theI (entS [eSaid]) [] [] 6 [.agg tO]) [] pEncR) = true := by kernel_rfl
theorem dSaid {R : Rho} (hI : R.I = theI) {x0 x1 x2 x3 : SX} {e a c : Int} {l : List (List DV)} (h0 : den R x0 = .int .i64 e) (h1 : den R x1 = .int .i64 a) (h2 : den R x2 = .list l) (h3 : den R x3 = .int .i64 c) :
    den R (.at (.app 9 [x0, x1, x2, x3]) (k64 1) 0) = .bool (saidOK e a c l) ∧ (headOK e a c l = true → den R (.at (.app 9 [x0, x1, x2, x3]) (k64 0) 0) = .list (bytesI (saidB e a c l))) := by
  have he : ([x0, x1, x2, x3] : List SX).map (den R) = [.int .i64 e, .int .i64 a, .list l, .int .i64 c] := by simp only [List.map_cons, List.map_nil, h0, h1, h2, h3]
  constructor
  · refine d_res (F := Fsaid) (by rw [hI]; rfl) ?_
    rw [he]
    cases hh : headOK e a c l with
    | true => rw [Fsaid_yes hh]; unfold saidOK; rw [hh]; rfl
    | false => rw [Fsaid_no hh]; unfold saidOK; rw [hh]; rfl
  · intro hh
    refine d_res (F := Fsaid) (by rw [hI]; rfl) ?_
    rw [he, Fsaid_yes hh]
    rfl
theorem saidOK_head {e a c : Int} {l : List (List DV)} (h : saidOK e a c l = true) : headOK e a c l = true := by
  unfold saidOK at h
  rw [Bool.and_eq_true] at h
  exact h.1
theorem fnEncR : FnOK Tryz.prog G 6 [.agg tO] [.one tB, .one tI] (fun _ => True) FencR := by
  have hk := kEncR
  rw [Bool.and_eq_true] at hk
  refine fn_run (entS_ok eSaid_ok) [] _ noLoops hk.1 pEncR hk.2 ?_
  intro ds h _
  obtain ⟨e, a, l, c, rfl, hl, hr⟩ := agg_o h
  have hF : FencR [[.int .i64 e, .int .i64 a, .list l, .int .i64 c]].flatten = if saidOK e a c l then [[.list (bytesI (saidB e a c l))], [.int .i64 0]] else [[.list []], [.int .i64 271]] := rfl
  rw [hF]
  generalize hR : rhoOf theI [[.int .i64 e, .int .i64 a, .list l, .int .i64 c]].flatten = R
  have hI : R.I = theI := by rw [← hR]; rfl
  have q0 : R.ρ 0 = .int .i64 e := by rw [← hR]; rfl
  have q1 : R.ρ 1 = .int .i64 a := by rw [← hR]; rfl
  have q2 : R.ρ 2 = .list l := by rw [← hR]; rfl
  have q3 : R.ρ 3 = .int .i64 c := by rw [← hR]; rfl
  obtain ⟨d1, d2⟩ := dSaid hI (d_v q0) (d_v q1) (d_v q2) (d_v q3)
  unfold pEncR
  refine goal_ask d1 (fun hs => ?_) (fun hs => ?_)
  · show _ = _
    rw [hs]
    simp only [if_true, List.map_cons, List.map_nil, d2 (saidOK_head hs)]
    rfl
  · show _ = _
    rw [hs]
    rfl
noncomputable def eEncR : Ent := eFn 6 [.agg tO] [.one tB, .one tI] [] 10
end Go.Proofs.YtjplhjnbcjohoaaGreatDoor
namespace Go.Proofs.YtjplhjnbcjohoaaGreatDoor
open Go Go.AM
/-! ### the document's bytes of a value -/
theorem eBoth_ok : EntsOK Tryz.prog G theI [eBoth] := ⟨eOwn_ok plainG (fnBoth theI) (fun _ => rfl) _ (by kernel_rfl), trivial⟩
theorem eRight_ok : EntsOK Tryz.prog G theI [eRight] := ⟨eFn_ok plainG (pre_true fnRight) (fun _ => rfl) [] (by kernel_rfl), trivial⟩
theorem lRb : LoopsAre theI 24 [(13, LRb)] := loops1 (by kernel_rfl) loopRb
noncomputable def qq (x : SX) : Nat → SX
  | 0 => x
  | n + 1 => .bin .quo (qq x n) (.ki .u64 (.ofNat 256))
noncomputable abbrev rq (x : SX) (n : Nat) : SX := .row [.conv .u8 (.bin .rem (qq x n) (.ki .u64 (.ofNat 256)))]
noncomputable abbrev hi8 (x : SX) : SX := .cat (rq x 7) (.cat (rq x 6) (.cat (rq x 5) (.cat (rq x 4) (.cat (rq x 3) (.cat (rq x 2) (.cat (rq x 1) (rq x 0)))))))
noncomputable abbrev xsub : SX := .bin .sub (.conv .u64 (.v 1)) (.ki .u64 (.ofNat 9223372036854775808))
noncomputable abbrev xadd : SX := .bin .add (.conv .u64 (.v 1)) (.ki .u64 (.ofNat 9223372036854775808))
noncomputable abbrev both (x y : SX) : SX := .at (.app 3 [x, y]) (k64 0) 0
noncomputable abbrev isR : SX × Bool := (.at (.app 7 [.v 0, .v 1, .v 2]) (k64 0) 0, true)
noncomputable def pRB : Pln :=
  .know isR.1 true (.ask (eql (.v 0) (k64 2))
    (knows [(eql (.v 0) (k64 3), false), (eql (.v 0) (k64 4), false)] (.done [[.cat r0 (.row [.conv .u8 (.v 1)])]]))
    (.ask (eql (.v 0) (k64 3))
      (knows [(eql (.v 0) (k64 4), false), (lss (k64 1000000) (.len r0), false)] (.ask (lss (.v 1) (k64 0))
        (.know (lss (k64 1000000) (.len (hi8 xsub))) false (.done [[both r0 (hi8 xsub)]]))
        (.know (lss (k64 1000000) (.len (hi8 xadd))) false (.done [[both r0 (hi8 xadd)]]))))
      (.ask (eql (.v 0) (k64 4))
        (knows [(lss (k64 64) (.len (.v 2)), false), (lss (k64 64) (.len r0), false), (lss (k64 1000000) (.len tE), false)]
          (.done [[.cat tE (.cat (.row [.ki .u8 (.ofNat 0)]) (.row [.ki .u8 (.ofNat 0)]))]]))
        (.done [[r0]]))))
theorem kRB : (hasB 24 && checkPlan [.one tB] (runI theI (entS [eBoth]) [(13, LRb)] [some (5, [tU8])] 24 [.agg tV]) [] pRB) = true := by kernel_rfl
theorem dRight {R : Rho} (hI : R.I = theI) {es : List SX} {r : List DV} (hr : IsV r) (hes : es.map (den R) = r) : den R (.at (.app 7 es) (k64 0) 0) = .bool (okVal r) := by
  refine d_res (F := Fright) (by rw [hI]; rfl) ?_
  rw [hes]
  rfl
theorem qq_I {R : Rho} {x : SX} {s : Int} (hx : den R x = .int .u64 s) (h0 : 0 ≤ s) (h1 : s ≤ 18446744073709551615) : ∀ n : Nat, den R (qq x n) = .int .u64 (s / 256 ^ n) ∧ 0 ≤ s / 256 ^ n ∧ s / 256 ^ n ≤ 18446744073709551615
  | 0 => ⟨by simpa [qq] using hx, by simpa using h0, by simpa using h1⟩
  | n + 1 => by
    obtain ⟨e1, e2, e3⟩ := qq_I hx h0 h1 n
    have h := quo_I R e1 e2 e3
    have e4 : s / 256 ^ n / 256 = s / 256 ^ (n + 1) := by
      rw [Int.ediv_ediv_of_nonneg (Int.le_of_lt (Int.pow_pos (by decide))), Int.pow_succ]
    rw [e4] at h
    refine ⟨h, ?_, ?_⟩
    · rw [← e4]; omega
    · rw [← e4]; omega
theorem rq_I {R : Rho} {x : SX} {s : Int} (hx : den R x = .int .u64 s) (h0 : 0 ≤ s) (h1 : s ≤ 18446744073709551615) (n : Nat) : den R (rq x n) = .list (bytesI [s / 256 ^ n % 256]) := by
  obtain ⟨e1, e2, _⟩ := qq_I hx h0 h1 n
  exact row_I R (rem_I R e1 e2)
theorem hi8_I {R : Rho} {x : SX} {s : Int} (hx : den R x = .int .u64 s) (h0 : 0 ≤ s) (h1 : s ≤ 18446744073709551615) : den R (hi8 x) = .list (bytesI (be8 s)) := by
  have c := fun n => rq_I hx h0 h1 n
  rw [cat_I R (c 7) (cat_I R (c 6) (cat_I R (c 5) (cat_I R (c 4) (cat_I R (c 3) (cat_I R (c 2) (cat_I R (c 1) (c 0)))))))]
  simp [be8]
theorem dBoth {R : Rho} (hI : R.I = theI) {x y : SX} {a b : List Int} (hx : den R x = .list (bytesI a)) (hy : den R y = .list (bytesI b)) : den R (both x y) = .list (bytesI (a ++ b)) := by
  refine d_res (F := Fboth) (by rw [hI]; rfl) ?_
  simp only [List.map_cons, List.map_nil, hx, hy]
  show DV.list (bytesI a ++ bytesI b) = _
  simp [bytesI]
theorem fnRB : FnOK Tryz.prog G 24 [.agg tV] [.one tB] (fun ds => ∀ p ∈ [isR], den (rhoOf theI ds) p.1 = .bool p.2) FrBytes := by
  have hk := kRB
  rw [Bool.and_eq_true] at hk
  refine fn_run (entS_ok eBoth_ok) [(13, LRb)] _ lRb hk.1 pRB hk.2 ?_
  intro ds h hpre
  obtain ⟨k, n, s, rfl, n1, n2⟩ := agg_v h
  have hp := hpre isR (by simp)
  have hF : FrBytes [[.int .i64 k, .int .i64 n, .str s]].flatten = [[.list (bytesI (encV k n s))]] := rfl
  rw [hF]
  generalize hR : rhoOf theI [[.int .i64 k, .int .i64 n, .str s]].flatten = R at hp ⊢
  have hI : R.I = theI := by rw [← hR]; rfl
  have q0 : R.ρ 0 = .int .i64 k := by rw [← hR]; rfl
  have q1 : R.ρ 1 = .int .i64 n := by rw [← hR]; rfl
  have q2 : R.ρ 2 = .str s := by rw [← hR]; rfl
  have hv : valOK k n s.size = true := by
    have : den R isR.1 = .bool (valOK k n s.size) := by
      refine d_res (F := Fright) (by rw [hI]; rfl) ?_
      simp only [List.map_cons, List.map_nil, d_v q0, d_v q1, d_v q2]
      rfl
    rw [this] at hp
    simpa using hp
  have hr0 := row_I R (d_u8 (d_v q0))
  have fin : ∀ e : SX, den R e = .list (bytesI (encV k n s)) → goalPlan R [[DV.list (bytesI (encV k n s))]] (.done [[e]]) := by
    intro e h2
    show _ = _
    simp only [List.map_cons, List.map_nil, h2]
  have ak : ∀ j : Nat, den R (eql (.v 0) (k64 j)) = .bool (decide (k = j)) := fun j => d_eql (d_v q0) (d_k .i64 j)
  unfold pRB
  refine goal_know hp (goal_ask (ak 2) (fun h2 => ?_) (fun h2 => ?_))
  · simp only [decide_eq_true_eq] at h2
    replace h2 : k = 2 := h2
    refine goal_knows (l := [_, _]) ?_ (fin _ ?_)
    · intro q hq
      simp only [List.mem_cons, List.not_mem_nil, or_false] at hq
      rcases hq with rfl | rfl
      · rw [ak 3, h2]; rfl
      · rw [ak 4, h2]; rfl
    · have hn : n = 0 ∨ n = 1 := by
        simp [valOK] at hv
        omega
      rw [cat_I R hr0 (row_I R (d_u8 (d_v q1))), h2]
      rcases hn with rfl | rfl <;> rfl
  simp only [decide_eq_false_iff_not] at h2
  replace h2 : ¬ k = 2 := h2
  refine goal_ask (ak 3) (fun h3 => ?_) (fun h3 => ?_)
  · simp only [decide_eq_true_eq] at h3
    replace h3 : k = 3 := h3
    refine goal_knows (l := [_, _]) ?_ ?_
    · intro q hq
      simp only [List.mem_cons, List.not_mem_nil, or_false] at hq
      rcases hq with rfl | rfl
      · rw [ak 4, h3]; rfl
      · exact len_le R hr0 (by simp)
    have hx : ∀ x : SX, den R x = .int .u64 (n + 9223372036854775808) → goalPlan R [[DV.list (bytesI (encV k n s))]] (.know (lss (k64 1000000) (.len (hi8 x))) false (.done [[both r0 (hi8 x)]])) := by
      intro x hx
      have h8 := hi8_I hx (by omega) (by omega)
      refine goal_know (len_le R h8 (by simp [be8])) (fin _ ?_)
      rw [dBoth hI hr0 h8, h3]
      simp [encV]
    refine goal_ask (d_lss (d_v q1) (d_k .i64 0)) (fun h4 => hx _ ?_) (fun h4 => hx _ ?_)
    · simp only [decide_eq_true_eq] at h4
      replace h4 : n < 0 := h4
      simp only [den, q1, convD, binD, wrap_u64]
      congr 1
      have : Int.ofNat 9223372036854775808 = 9223372036854775808 := rfl
      rw [this]
      omega
    · simp only [decide_eq_false_iff_not] at h4
      replace h4 : ¬ n < 0 := h4
      simp only [den, q1, convD, binD, wrap_u64]
      congr 1
      have : Int.ofNat 9223372036854775808 = 9223372036854775808 := rfl
      rw [this]
      omega
  simp only [decide_eq_false_iff_not] at h3
  replace h3 : ¬ k = 3 := h3
  refine goal_ask (ak 4) (fun h4 => ?_) (fun h4 => ?_)
  · simp only [decide_eq_true_eq] at h4
    replace h4 : k = 4 := h4
    have hs : s.size ≤ 64 := by
      simp [valOK, h4] at hv
      omega
    have ht : den R tE = .list (bytesI ([k % 256] ++ escI (strI s))) := by
      show den R (.app 101 _) = _
      rw [d_app, hI]
      simp only [List.map_cons, List.map_nil, hr0, d_v q2, d_k]
      show FvEsc _ = _
      simp only [FvEsc, intsD, lD, sD, iD, List.getD_cons_zero, List.getD_cons_succ, ints_bytes]
      rfl
    have hl := esc_len (strI s)
    rw [len_strI] at hl
    refine goal_knows (l := [_, _, _]) ?_ (fin _ ?_)
    · intro q hq
      simp only [List.mem_cons, List.not_mem_nil, or_false] at hq
      rcases hq with rfl | rfl | rfl
      · rw [d_lss (d_k .i64 64) (d_lens (d_v q2))]; simp; omega
      · rw [d_lss (d_k .i64 64) (d_lenI hr0)]; simp
      · exact len_le R ht (by simp; omega)
    · rw [cat_I R ht (cat_I R (row_I R (x := .ki .u8 (.ofNat 0)) (z := 0) rfl) (row_I R (x := .ki .u8 (.ofNat 0)) (z := 0) rfl)), h4]
      simp [encV]
  · simp only [decide_eq_false_iff_not] at h4
    replace h4 : ¬ k = 4 := h4
    refine fin _ ?_
    have h1 : k = 1 := by
      simp [valOK] at hv
      omega
    rw [hr0, h1]
    rfl
noncomputable def eRB : Ent := eFn 24 [.agg tV] [.one tB] [isR] 8
end Go.Proofs.YtjplhjnbcjohoaaGreatDoor
namespace Go.Proofs.YtjplhjnbcjohoaaGreatDoor
open Go Go.AM
/-! ### the document's bytes of an outcome -/
theorem eRB_ok : EntsOK Tryz.prog G theI [eRB] := ⟨eFn_ok plainG fnRB (fun _ => rfl) [] (by kernel_rfl), trivial⟩
noncomputable abbrev entB : List Ent := [eBoth, eRight, eRB]
theorem entB_ok : EntsOK Tryz.prog G theI entB := ⟨eBoth_ok.1, eRight_ok.1, eRB_ok.1, trivial⟩
noncomputable def bO : Blk := { t := 25, row := false, sz := 1, n := 4, z := [.dead], c := (Tr.nil : Tr AV).put 2 (.sy tRows (.v 0)) }
noncomputable def bO0 : Blk := { t := 25, row := false, sz := 1, n := 0, z := [.dead], c := .nil }
noncomputable abbrev osB : List OSrc := [.tm 4 5 [tU8]]
noncomputable def NB : Tmpl := { tm := [(2, .sc (.slice none 0 0)), (3, .sc (.bool false))], ob := [(0, bO0)] }
noncomputable def TB1 : Tmpl := { tm := [(1, .ptr 0 0), (4, .own 7 [tU8] (.v 1)), (5, .sy tI (.v 2)), (6, .sy tI (.v 3))], ob := [(0, bO)], ow := [⟨7, 5, [tU8], .v 1⟩], src := [.cell 0 2 tRows, .own 0, .tm 5 tI, .tm 6 tI], osrc := osB }
noncomputable def YB1 : Tmpl := { tm := [(1, .ptr 0 0), (4, .own 7 [tU8] (.v 1)), (5, .sy tI (.v 2))], ob := [(0, bO)], ow := [⟨7, 5, [tU8], .v 1⟩], src := [.cell 0 2 tRows, .own 0, .tm 5 tI], osrc := osB }
noncomputable def YB2 : Tmpl := { tm := [(4, .own 7 [tU8] (.v 0))], ob := [(0, bO0)], ow := [⟨7, 5, [tU8], .v 0⟩], src := [.own 0], osrc := osB }
noncomputable abbrev aW : List SX := [.at rowX (.v 3) 0, .at rowX (.v 3) 1, .at rowX (.v 3) 2]
noncomputable abbrev rbW : SX := .at (.app 8 aW) (k64 0) 0
noncomputable def LB1 : LoopSp := { n := 121, T := TB1, pre := [(lss (.v 2) (k64 0), false), (lss (.v 2) (.len (.v 0)), true), (lss (k64 12) (.len rowX), false), (lss (k64 900000) (.len (.v 1)), false), (eql (.v 3) (k64 0), true)], cnd := .app 115 [rowX, .v 3], yes := (.exit 2, YB1, [.v 0, .app 111 [rowX, .v 1, .v 3], .v 2]), no := (.ret, NB, []) }
noncomputable def LB2 : LoopSp := { n := 121, T := YB1, pre := [(lss (k64 255) (.len (.v 0)), false), (lss (k64 64) (.len (.v 1)), false), (eql (.v 2) (k64 0), true)], cnd := .app 116 [.v 0, .v 2], yes := (.exit 0, YB2, [.app 113 [.v 0, .v 1, .v 2]]), no := (.ret, NB, []) }
noncomputable abbrev codeB2 : Code := loopAt 10 0
noncomputable def codeB1 : Code := (loopsIn codeB2).getD 0 .skip
noncomputable def rB1 : RPln :=
  .ask (lss (.v 3) (.len rowX))
    (knowR [(lss (.v 2) (.len (.v 0)), true), (lss (.v 2) (k64 0), false), (lss (.v 3) (k64 0), false)]
      (.ask (.at (.app 7 aW) (k64 0) 0)
        (knowR [(lss (k64 1000000) (.len (.v 1)), false), (lss (k64 1000000) (.len rbW), false)]
          (.next [.v 0, both (.v 1) rbW, .v 2, add (.v 3) (k64 1)]))
        (.exit false [])))
    (knowR [(lss (.v 2) (.len (.v 0)), true), (lss (.v 2) (k64 0), false)] (.exit true [.v 0, .v 1, .v 2]))
theorem okB1 : (LB1.yes.2.1.ok LB1.T LB1.n && LB1.no.2.1.ok LB1.T LB1.n && checkRound LB1 (roundI theI (entS entB) [] codeB1) [] (.know (lss (.v 2) (.len (.v 0))) true (.know (lss (.v 2) (k64 0)) false rB1))) = true := by kernel_rfl
noncomputable def rB2 : RPln :=
  .ask (lss (.v 2) (.len (.v 0)))
    (.know (lss (.v 2) (k64 0)) false
      (.ask (lss (k64 12) (.len rowX))
        (.exit false [])
        (knowR [(lss (k64 1000000) (.len (.v 1)), false), (lss (k64 900000) (.len cRow), false)]
          (.ask (.app 115 [rowX, k64 0])
            (.next [.v 0, .app 111 [rowX, cRow, k64 0], add (.v 2) (k64 1)])
            (.exit false [])))))
    (.exit true [.v 1])
theorem okB2 : (LB2.yes.2.1.ok LB2.T LB2.n && LB2.no.2.1.ok LB2.T LB2.n && checkRound LB2 (roundI theI (entS entB) [(13, LB1)] codeB2) [] rB2) = true := by kernel_rfl
theorem d115 {R : Rho} (hI : R.I = theI) {x y : SX} {l : List (List DV)} {i : Int} (hx : den R x = .list l) (hy : den R y = .int .i64 i) : den R (.app 115 [x, y]) = .bool ((l.drop i.toNat).all okVal) := by
  rw [d_app, hI]
  simp only [List.map_cons, List.map_nil, hx, hy]
  show FallOK _ = _
  simp only [FallOK, lD, iD, List.getD_cons_zero, List.getD_cons_succ]
theorem d116 {R : Rho} (hI : R.I = theI) {x y : SX} {l : List (List DV)} {i : Int} (hx : den R x = .list l) (hy : den R y = .int .i64 i) : den R (.app 116 [x, y]) = .bool (rowsOK (l.drop i.toNat)) := by
  rw [d_app, hI]
  simp only [List.map_cons, List.map_nil, hx, hy]
  show FrowsOK _ = _
  simp only [FrowsOK, lD, iD, List.getD_cons_zero, List.getD_cons_succ]
theorem dRB {R : Rho} (hI : R.I = theI) {es : List SX} {r : List DV} (hes : es.map (den R) = r) : den R (.at (.app 8 es) (k64 0) 0) = .list (bytesI (encVal r)) := by
  refine d_res (F := FrBytes) (by rw [hI]; rfl) ?_
  rw [hes]
  rfl
def invB1 (R : Rho) : Prop := ∃ l b i k lv, R.ρ 0 = .list l ∧ R.ρ 1 = .list (bytesI b) ∧ R.ρ 2 = .int .i64 i ∧ R.ρ 3 = .int .i64 k ∧ 0 ≤ i ∧ i < l.length ∧ l.getD i.toNat [] = [.list lv] ∧ (∀ v ∈ lv, IsV v) ∧ lv.length ≤ 12 ∧ 0 ≤ k ∧ k ≤ lv.length ∧ (b.length : Int) ≤ 900000 + 131 * k
noncomputable def muB1 (R : Rho) : Nat := match R.ρ 0, R.ρ 2, R.ρ 3 with
  | .list la, .int _ i, .int _ k => (lD (la.getD i.toNat []) 0).length - k.toNat
  | _, _, _ => 0
theorem loopB1 : LoopOK Tryz.prog G theI codeB1 LB1 := by
  refine loop_run (lps := []) (entS_ok entB_ok) noLoops _ okB1 invB1 muB1 ?_ ?_
  · intro m a w hr hp
    obtain ⟨l, e0, _, hv⟩ := (head_cell hr (id := 0) (k := 2) (i := 0) (ty := tRows) (b := bO) (by kernel_rfl) (by decide) (by kernel_rfl)).rows
    obtain ⟨b, e1, _, _⟩ := (head_own hr (t := 4) (id := 7) (i := 1) (el := 5) (ts := [tU8]) (by kernel_rfl) (by kernel_rfl)).ints
    obtain ⟨i, e2, _⟩ := (head_sy hr (t := 5) (i := 2) (ty := tI) (by kernel_rfl)).i64
    obtain ⟨k, e3, _⟩ := (head_sy hr (t := 6) (i := 3) (ty := tI) (by kernel_rfl)).i64
    have p1 := hp (lss (.v 2) (k64 0), false) (by simp [LB1])
    have p2 := hp (lss (.v 2) (.len (.v 0)), true) (by simp [LB1])
    have p3 := hp (lss (k64 12) (.len rowX), false) (by simp [LB1])
    have p4 := hp (lss (k64 900000) (.len (.v 1)), false) (by simp [LB1])
    have p5 := hp (eql (.v 3) (k64 0), true) (by simp [LB1])
    rw [d_lss (d_v e2) (d_k .i64 0)] at p1
    rw [d_lss (d_v e2) (d_lenL (d_v e0))] at p2
    rw [d_lss (d_k .i64 900000) (d_lenI (d_v e1))] at p4
    rw [d_eql (d_v e3) (d_k .i64 0)] at p5
    simp only [DV.bool.injEq, decide_eq_false_iff_not, decide_eq_true_eq] at p1 p2 p4 p5
    have h1 : i.toNat < l.length := by omega
    obtain ⟨lv, hlv, _, hvv⟩ := hv _ (List.getElem_mem h1)
    have hg : l.getD i.toNat [] = [.list lv] := by rw [getD_lt h1, hlv]
    have dx : den m.R rowX = .list lv := by rw [d_at 0 (d_v e0) (d_v e2), hg]; rfl
    rw [d_lss (d_k .i64 12) (d_lenL dx)] at p3
    simp only [DV.bool.injEq, decide_eq_false_iff_not] at p3
    exact ⟨l, b, i, k, lv, e0, e1, e2, e3, by omega, p2, hg, hvv, by omega, by omega, by omega, by omega⟩
  · rintro R hI ⟨l, b, i, k, lv, e0, e1, e2, e3, i0, i1, hg, hvv, h12, k0, k1, hb⟩
    have dx : den R rowX = .list lv := by rw [d_at 0 (d_v e0) (d_v e2), hg]; rfl
    have hc : den R LB1.cnd = _ := d115 hI dx (d_v e3)
    have f1 : den R (lss (.v 2) (.len (.v 0))) = .bool true := by rw [d_lss (d_v e2) (d_lenL (d_v e0))]; simp; omega
    have f2 : den R (lss (.v 2) (k64 0)) = .bool false := by rw [d_lss (d_v e2) (d_k .i64 0)]; simp; omega
    unfold rB1
    refine round_know f1 (round_know f2 (round_ask (d_lss (d_v e3) (d_lenL dx)) (fun hlt => ?_) (fun hge => ?_)))
    · simp only [decide_eq_true_eq] at hlt
      have l1 : k.toNat < lv.length := by omega
      have hgv : lv.getD k.toNat [] = lv[k.toNat] := getD_lt l1
      have hvi := hvv _ (List.getElem_mem l1)
      have hes := row_cells (x := rowX) (i := .v 3) dx (d_v e3) hgv hvi
      have hfl := flat_step (f := mayEnc) l1
      have hal := all_step (f := okVal) l1
      have hi1 : den R (add (.v 3) (k64 1)) = .int .i64 (k + 1) := d_add (R := R) (d_v e3) (d_k .i64 1) (by omega) (by omega)
      refine round_knows (l := [_, _, _]) ?_ ?_
      · intro q hq
        simp only [List.mem_cons, List.not_mem_nil, or_false] at hq
        rcases hq with rfl | rfl | rfl
        · exact f1
        · exact f2
        · rw [d_lss (d_v e3) (d_k .i64 0)]; simp; omega
      refine round_ask (dRight hI hvi hes) (fun ht => ?_) (fun hf => ?_)
      · have hml := encV_len (show valOK _ _ _ = true from ht)
        have hme := mayEnc_ok ht
        have d1 := dRB hI hes
        have hb2 : den R (both (.v 1) rbW) = .list (bytesI (b ++ mayEnc lv[k.toNat])) := by rw [dBoth hI (d_v e1) d1, hme]
        refine round_knows (l := [_, _]) ?_ ?_
        · intro q hq
          simp only [List.mem_cons, List.not_mem_nil, or_false] at hq
          rcases hq with rfl | rfl
          · exact len_le R (d_v e1) (by omega)
          · refine len_le R d1 ?_
            have : (encVal lv[k.toNat]).length ≤ 131 := hml
            omega
        have s0 := sub_get R [.v 0, both (.v 1) rbW, .v 2, add (.v 3) (k64 1)] 0 rfl (d_v e0)
        have s1 := sub_get R [.v 0, both (.v 1) rbW, .v 2, add (.v 3) (k64 1)] 1 rfl hb2
        have s2 := sub_get R [.v 0, both (.v 1) rbW, .v 2, add (.v 3) (k64 1)] 2 rfl (d_v e2)
        have s3 := sub_get R [.v 0, both (.v 1) rbW, .v 2, add (.v 3) (k64 1)] 3 rfl hi1
        have dx' : den (R.sub [.v 0, both (.v 1) rbW, .v 2, add (.v 3) (k64 1)]) rowX = .list lv := by rw [d_at 0 (d_v s0) (d_v s2), hg]; rfl
        have hmx := mayEnc_len lv[k.toNat]
        refine ⟨⟨l, _, i, k + 1, lv, s0, s1, s2, s3, i0, i1, hg, hvv, h12, by omega, by omega, by rw [List.length_append]; omega⟩, ?_, ?_, fun b' _ => ?_⟩
        · simp only [muB1, s0, s2, s3, e0, e2, e3, hg, lD, List.getD_cons_zero]
          omega
        · have := d115 (R := R.sub [.v 0, both (.v 1) rbW, .v 2, add (.v 3) (k64 1)]) hI dx' (d_v s3)
          rw [hc]
          show den (R.sub _) (.app 115 [rowX, .v 3]) = _
          rw [this, toNat_succ k0, hal, ht, Bool.true_and]
        · cases b'
          · rfl
          · show [den (R.sub _) (.v 0), den (R.sub _) (.app 111 [rowX, .v 1, .v 3]), den (R.sub _) (.v 2)] = [den R (.v 0), den R (.app 111 [rowX, .v 1, .v 3]), den R (.v 2)]
            rw [d111 (R := R.sub _) hI dx' (d_v s1) (d_v s3), d111 hI dx (d_v e1) (d_v e3), d_v s0, d_v s2, d_v e0, d_v e2, toNat_succ k0, hfl, List.append_assoc]
      · refine ⟨?_, rfl⟩
        rw [hc, hal, hf, Bool.false_and]
    · simp only [decide_eq_false_iff_not] at hge
      have hn : lv.drop k.toNat = [] := List.drop_eq_nil_of_le (by omega)
      refine round_knows (l := [_, _]) ?_ ?_
      · intro q hq
        simp only [List.mem_cons, List.not_mem_nil, or_false] at hq
        rcases hq with rfl | rfl
        · exact f1
        · exact f2
      refine ⟨by rw [hc, hn]; rfl, ?_⟩
      show [den R (.v 0), den R (.v 1), den R (.v 2)] = [den R (.v 0), den R (.app 111 [rowX, .v 1, .v 3]), den R (.v 2)]
      rw [d111 hI dx (d_v e1) (d_v e3), hn, d_v e1]
      simp
theorem lB2 : LoopsOK Tryz.prog G theI (lpsOf [(13, LB1)]) codeB2 := by
  intro B hB M hM
  have h1 := lpsOf_mem hM
  simp only [List.mem_cons, List.not_mem_nil, or_false, Prod.mk.injEq] at h1
  obtain ⟨_, rfl⟩ := h1
  have hc : loopsIn codeB2 = [codeB1] := by kernel_rfl
  rw [hc] at hB
  simp only [List.mem_cons, List.not_mem_nil, or_false] at hB
  rw [hB]
  exact loopB1
def invB2 (R : Rho) : Prop := ∃ l b i, R.ρ 0 = .list l ∧ R.ρ 1 = .list (bytesI b) ∧ R.ρ 2 = .int .i64 i ∧ (∀ v ∈ l, IsR v) ∧ 0 ≤ i ∧ i ≤ l.length ∧ l.length ≤ 255 ∧ (b.length : Int) ≤ 64 + 1573 * i
theorem loopB2 : LoopOK Tryz.prog G theI codeB2 LB2 := by
  refine loop_run (lps := [(13, LB1)]) (entS_ok entB_ok) lB2 rB2 okB2 invB2 muI ?_ ?_
  · intro m a w hr hp
    obtain ⟨l, e0, _, hv⟩ := (head_cell hr (id := 0) (k := 2) (i := 0) (ty := tRows) (b := bO) (by kernel_rfl) (by decide) (by kernel_rfl)).rows
    obtain ⟨b, e1, _, _⟩ := (head_own hr (t := 4) (id := 7) (i := 1) (el := 5) (ts := [tU8]) (by kernel_rfl) (by kernel_rfl)).ints
    obtain ⟨i, e2, _⟩ := (head_sy hr (t := 5) (i := 2) (ty := tI) (by kernel_rfl)).i64
    have p1 := hp (lss (k64 255) (.len (.v 0)), false) (by simp [LB2])
    have p2 := hp (lss (k64 64) (.len (.v 1)), false) (by simp [LB2])
    have p3 := hp (eql (.v 2) (k64 0), true) (by simp [LB2])
    rw [d_lss (d_k .i64 255) (d_lenL (d_v e0))] at p1
    rw [d_lss (d_k .i64 64) (d_lenI (d_v e1))] at p2
    rw [d_eql (d_v e2) (d_k .i64 0)] at p3
    simp only [DV.bool.injEq, decide_eq_false_iff_not, decide_eq_true_eq] at p1 p2 p3
    exact ⟨l, b, i, e0, e1, e2, hv, by omega, by omega, by omega, by omega⟩
  · rintro R hI ⟨l, b, i, e0, e1, e2, hv, h1, h2, h3, h4⟩
    have hcn : den R LB2.cnd = _ := d116 hI (d_v e0) (d_v e2)
    have hmx := maxLen_lt
    unfold rB2
    refine round_ask (d_lss (d_v e2) (d_lenL (d_v e0))) (fun hlt => ?_) (fun hge => ?_)
    · simp only [decide_eq_true_eq] at hlt
      have l1 : i.toNat < l.length := by omega
      have hg : l.getD i.toNat [] = l[i.toNat] := getD_lt l1
      obtain ⟨lv, hlv, m1, _⟩ := hv _ (List.getElem_mem l1)
      have dx : den R rowX = .list lv := by rw [d_at 0 (d_v e0) (d_v e2), hg, hlv]; rfl
      have hld : lD l[i.toNat] 0 = lv := by rw [hlv]; rfl
      have hi1 : den R (add (.v 2) (k64 1)) = .int .i64 (i + 1) := d_add (R := R) (d_v e2) (d_k .i64 1) (by omega) (by omega)
      have hfl := rowsB_step l1
      have hal := rowsOK_step l1
      rw [hld] at hfl hal
      refine round_know (by rw [d_lss (d_v e2) (d_k .i64 0)]; simp; omega) ?_
      refine round_ask (d_lss (d_k .i64 12) (d_lenL dx)) (fun hb => ?_) (fun hb => ?_)
      · simp only [decide_eq_true_eq] at hb
        have : rowOK lv = false := by
          unfold rowOK
          rw [decide_eq_false (by omega)]
          rfl
        refine ⟨?_, rfl⟩
        rw [hcn, hal, this, Bool.false_and]
      · simp only [decide_eq_false_iff_not] at hb
        have hb' : ¬ 12 < lv.length := by omega
        have hc := cat_I R (d_v e1) (row_I R (d_u8 (d_lenL dx)))
        refine round_knows (l := [_, _]) ?_ ?_
        · intro q hq
          simp only [List.mem_cons, List.not_mem_nil, or_false] at hq
          rcases hq with rfl | rfl
          · exact len_le R (d_v e1) (by omega)
          · rw [d_lss (d_k .i64 900000) (d_lenI hc)]
            simp
            omega
        have hrow : rowB lv = ((lv.length : Int) % 256) :: lv.flatMap mayEnc := by
          unfold rowB
          rw [if_neg hb']
        have hrk : rowOK lv = lv.all okVal := by
          unfold rowOK
          rw [decide_eq_true (by omega), Bool.true_and]
        have hrl := rowB_len lv
        have d1 : den R (.app 111 [rowX, cRow, k64 0]) = .list (bytesI (b ++ rowB lv)) := by
          rw [d111 hI dx hc (d_k .i64 0), hrow]
          simp
        have d2 : den R (.app 115 [rowX, k64 0]) = .bool (lv.all okVal) := d115 hI dx (d_k .i64 0)
        refine round_ask d2 (fun ht => ?_) (fun hf => ?_)
        · have s0 := sub_get R [.v 0, .app 111 [rowX, cRow, k64 0], add (.v 2) (k64 1)] 0 rfl (d_v e0)
          have s1 := sub_get R [.v 0, .app 111 [rowX, cRow, k64 0], add (.v 2) (k64 1)] 1 rfl d1
          have s2 := sub_get R [.v 0, .app 111 [rowX, cRow, k64 0], add (.v 2) (k64 1)] 2 rfl hi1
          refine ⟨⟨l, _, i + 1, s0, s1, s2, hv, by omega, by omega, h3, by rw [List.length_append]; omega⟩, ?_, ?_, fun b' _ => ?_⟩
          · simp only [muI, s0, s2, e0, e2]
            omega
          · rw [hcn]
            show den (R.sub _) (.app 116 [.v 0, .v 2]) = _
            rw [d116 (R := R.sub _) hI (d_v s0) (d_v s2), toNat_succ h1, hal, hrk, ht, Bool.true_and]
          · cases b'
            · rfl
            · show [den (R.sub _) (.app 113 [.v 0, .v 1, .v 2])] = [den R (.app 113 [.v 0, .v 1, .v 2])]
              rw [d113 (R := R.sub _) hI (d_v s0) (d_v s1) (d_v s2), d113 hI (d_v e0) (d_v e1) (d_v e2), toNat_succ h1, hfl, List.append_assoc]
        · refine ⟨?_, rfl⟩
          rw [hcn, hal, hrk, hf, Bool.false_and]
    · simp only [decide_eq_false_iff_not] at hge
      have hn : l.drop i.toNat = [] := List.drop_eq_nil_of_le (by omega)
      refine ⟨by rw [hcn, hn]; rfl, ?_⟩
      show [den R (.v 1)] = [den R (.app 113 [.v 0, .v 1, .v 2])]
      rw [d113 hI (d_v e0) (d_v e1) (d_v e2), hn, d_v e1]
      simp [rowsB]
theorem lB : LoopsAre theI 10 [(7, LB2)] := loops1 (by kernel_rfl) loopB2
/-! the function -/
noncomputable abbrev hi2 (x : SX) : SX := .cat (rq x 1) (rq x 0)
noncomputable abbrev u64x (i : Nat) : SX := .conv .u64 (.v i)
noncomputable abbrev bo1 : SX := both (hi2 (u64x 0)) (hi2 (u64x 1))
noncomputable abbrev bo2 : SX := both bo1 (hi2 (u64x 3))
noncomputable abbrev bo3 : SX := .cat bo2 (.row [.conv .u8 (.len (.v 2))])
noncomputable abbrev bo4 : SX := .app 113 [.v 2, bo3, k64 0]
noncomputable def pRefB : Pln :=
  .ask (lss (.v 0) (k64 0)) noB (.ask (lss (k64 65535) (.v 0)) noB
    (.ask (lss (.v 1) (k64 0)) noB (.ask (lss (k64 65535) (.v 1)) noB
      (.ask (lss (.v 3) (k64 0)) noB (.ask (lss (k64 65535) (.v 3)) noB
        (.ask (lss (k64 255) (.len (.v 2))) noB
          (knows [(lss (k64 1000000) (.len (hi2 (u64x 0))), false), (lss (k64 1000000) (.len (hi2 (u64x 1))), false), (lss (k64 1000000) (.len (hi2 (u64x 3))), false), (lss (k64 1000000) (.len bo1), false), (lss (k64 1000000) (.len bo2), false), (lss (k64 64) (.len bo3), false)]
            (.ask (.app 116 [.v 2, k64 0])
              (.done [[bo4], [.not (lss (k64 3000) (.len bo4))]])
              noB))))))))
theorem kRefB : (hasB 10 && checkPlan [.one tB, .one .bool] (runI theI (entS entB) [(7, LB2)] [some (5, [tU8]), none] 10 [.agg tO]) [] pRefB) = true := by kernel_rfl
theorem hi2_I {R : Rho} {x : SX} {s : Int} (hx : den R x = .int .i64 s) (h0 : 0 ≤ s) (h1 : s ≤ 65535) : den R (hi2 (.conv .u64 x)) = .list (bytesI (be2 s)) := by
  have hu := d_u64 hx h0 (by omega)
  rw [cat_I R (rq_I hu h0 (by omega) 1) (rq_I hu h0 (by omega) 0)]
  simp [be2]
theorem fnRefB : FnOK Tryz.prog G 10 [.agg tO] [.one tB, .one .bool] (fun _ => True) FrefB := by
  have hk := kRefB
  rw [Bool.and_eq_true] at hk
  refine fn_run (entS_ok entB_ok) [(7, LB2)] _ lB hk.1 pRefB hk.2 ?_
  intro ds h _
  obtain ⟨e, a, l, c, rfl, hl, hr⟩ := agg_o h
  have hF : FrefB [[.int .i64 e, .int .i64 a, .list l, .int .i64 c]].flatten = if headOK e a c l && rowsOK l then [[.list (bytesI (saidB e a c l))], [.bool (saidOK e a c l)]] else [[.list []], [.bool false]] := rfl
  rw [hF]
  generalize hR : rhoOf theI [[.int .i64 e, .int .i64 a, .list l, .int .i64 c]].flatten = R
  have hI : R.I = theI := by rw [← hR]; rfl
  have q0 : R.ρ 0 = .int .i64 e := by rw [← hR]; rfl
  have q1 : R.ρ 1 = .int .i64 a := by rw [← hR]; rfl
  have q2 : R.ρ 2 = .list l := by rw [← hR]; rfl
  have q3 : R.ρ 3 = .int .i64 c := by rw [← hR]; rfl
  have no : headOK e a c l = false → goalPlan R (if headOK e a c l && rowsOK l then [[.list (bytesI (saidB e a c l))], [.bool (saidOK e a c l)]] else [[.list []], [.bool false]]) noB := fun h => by
    show _ = _
    rw [h]
    rfl
  unfold pRefB
  refine goal_ask (d_lss (d_v q0) (d_k .i64 0)) (fun h1 => no ?_) (fun h1 => goal_ask (d_lss (d_k .i64 65535) (d_v q0)) (fun h2 => no ?_) (fun h2 => ?_))
  any_goals (simp [headOK, two] at *; omega)
  refine goal_ask (d_lss (d_v q1) (d_k .i64 0)) (fun h3 => no ?_) (fun h3 => goal_ask (d_lss (d_k .i64 65535) (d_v q1)) (fun h4 => no ?_) (fun h4 => ?_))
  any_goals (simp [headOK, two] at *; omega)
  refine goal_ask (d_lss (d_v q3) (d_k .i64 0)) (fun h5 => no ?_) (fun h5 => goal_ask (d_lss (d_k .i64 65535) (d_v q3)) (fun h6 => no ?_) (fun h6 => ?_))
  any_goals (simp [headOK, two] at *; omega)
  refine goal_ask (d_lss (d_k .i64 255) (d_lenL (d_v q2))) (fun h7 => no ?_) (fun h7 => ?_)
  · simp [headOK, two] at *; omega
  simp only [decide_eq_false_iff_not, Int.not_lt] at h1 h2 h3 h4 h5 h6 h7
  replace h1 : 0 ≤ e := h1
  replace h2 : e ≤ 65535 := h2
  replace h3 : 0 ≤ a := h3
  replace h4 : a ≤ 65535 := h4
  replace h5 : 0 ≤ c := h5
  replace h6 : c ≤ 65535 := h6
  replace h7 : (l.length : Int) ≤ 255 := h7
  have hok : headOK e a c l = true := by
    simp [headOK, two]
    omega
  have b1 := hi2_I (d_v q0) h1 h2
  have b2 := hi2_I (d_v q1) h3 h4
  have b3 := hi2_I (d_v q3) h5 h6
  have b4 := dBoth hI b1 b2
  have b5 := dBoth hI b4 b3
  have b6 := cat_I R b5 (row_I R (d_u8 (d_lenL (d_v q2))))
  have hs : den R bo4 = .list (bytesI (saidB e a c l)) := by
    rw [d113 hI (d_v q2) b6 (d_k .i64 0)]
    simp [saidB]
  have hd : den R (.app 116 [.v 2, k64 0]) = .bool (rowsOK l) := d116 hI (d_v q2) (d_k .i64 0)
  refine goal_knows (l := [_, _, _, _, _, _]) ?_ ?_
  · intro q hq
    simp only [List.mem_cons, List.not_mem_nil, or_false] at hq
    rcases hq with rfl | rfl | rfl | rfl | rfl | rfl
    · exact len_le R b1 (by simp [be2])
    · exact len_le R b2 (by simp [be2])
    · exact len_le R b3 (by simp [be2])
    · exact len_le R b4 (by simp [be2])
    · exact len_le R b5 (by simp [be2])
    · rw [d_lss (d_k .i64 64) (d_lenI b6)]; simp [be2]
  refine goal_ask hd (fun h8 => ?_) (fun h8 => ?_)
  · have hn : den R (.not (lss (k64 3000) (.len bo4))) = .bool (saidOK e a c l) := by
      have := d_lss (d_k .i64 3000) (d_lenI hs)
      show notD (den R (lss (k64 3000) (.len bo4))) = _
      rw [this]
      simp only [notD, DV.bool.injEq]
      unfold saidOK
      rw [hok, h8, Bool.true_and, Bool.true_and, Bool.eq_iff_iff]
      simp
      omega
    show _ = _
    rw [hok, h8]
    simp only [List.map_cons, List.map_nil, hs, hn, Bool.and_self, if_true]
  · show _ = _
    rw [hok, h8]
    rfl
noncomputable def eRefB : Ent := eFn 10 [.agg tO] [.one tB, .one .bool] [] 11
end Go.Proofs.YtjplhjnbcjohoaaGreatDoor
namespace Go.Proofs.YtjplhjnbcjohoaaGreatDoor
open Go Go.AM
/-! ### overRows -/
noncomputable abbrev rowE : SX := .at (.v 0) (.v 1) 0
noncomputable def NO : Tmpl := { tm := [(2, .sc (.bool true))] }
noncomputable def TO1 : Tmpl := { tm := [(3, .sy tI (.v 2)), (11, .sy tRows (.v 0)), (12, .sy tI (.len (.v 0))), (13, .sy tI (.v 1)), (20, .sy tRow rowE), (21, .sy tI (.len rowE)), (22, .sy tI (.v 3))], src := [.tm 11 tRows, .tm 13 tI, .tm 3 tI, .tm 22 tI] }
noncomputable def TO2 : Tmpl := { tm := [(3, .sy tI (.v 2)), (11, .sy tRows (.v 0)), (12, .sy tI (.len (.v 0))), (13, .sy tI (.v 1))], src := [.tm 11 tRows, .tm 13 tI, .tm 3 tI] }
noncomputable def YO2 : Tmpl := { tm := [] }
noncomputable def LO1 : LoopSp := { n := 38, T := TO1, pre := [(lss (.v 1) (k64 0), false), (lss (.v 1) (.len (.v 0)), true), (lss (k64 2000) (.v 2), false), (lss (.v 2) (k64 0), false), (lss (k64 50) (.len rowE), false), (eql (.v 3) (k64 0), true)], cnd := .app 117 [rowE, .v 3, .v 2], yes := (.exit 2, TO2, [.v 0, .v 1, add (.v 2) (sub (.len rowE) (.v 3))]), no := (.ret, NO, []) }
noncomputable def LO2 : LoopSp := { n := 38, T := TO2, pre := [(eql (.v 1) (k64 0), true), (eql (.v 2) (k64 0), true)], cnd := .app 118 [.v 0, .v 1, .v 2], yes := (.exit 0, YO2, []), no := (.ret, NO, []) }
noncomputable abbrev codeO2 : Code := loopAt 5 0
noncomputable def codeO1 : Code := (loopsIn codeO2).getD 0 .skip
noncomputable abbrev fO : List (SX × Bool) := [(lss (.v 1) (.len (.v 0)), true), (lss (.v 1) (k64 0), false)]
noncomputable def rO1 : RPln :=
  knowR fO (.ask (lss (.v 3) (.len rowE))
    (.know (lss (.v 3) (k64 0)) false
      (.ask (lss (k64 1000) (.len (.at rowE (.v 3) 2)))
        (.exit false [])
        (.ask (lss (k64 2000) (add (.v 2) (k64 1)))
          (.exit false [])
          (.next [.v 0, .v 1, add (.v 2) (k64 1), add (.v 3) (k64 1)]))))
    (.exit true [.v 0, .v 1, .v 2]))
theorem okO1 : (LO1.yes.2.1.ok LO1.T LO1.n && LO1.no.2.1.ok LO1.T LO1.n && checkRound LO1 (roundI theI (entS []) [] codeO1) [] rO1) = true := by kernel_rfl
noncomputable def rO2 : RPln :=
  .ask (lss (.v 1) (.len (.v 0)))
    (.know (lss (.v 1) (k64 0)) false
      (.ask (lss (k64 50) (.len rowE))
        (.exit false [])
        (knowR [(lss (k64 2000) (.v 2), false), (lss (.v 2) (k64 0), false)]
          (.ask (.app 117 [rowE, k64 0, .v 2])
            (.next [.v 0, add (.v 1) (k64 1), add (.v 2) (sub (.len rowE) (k64 0))])
            (.exit false [])))))
    (.exit true [])
theorem okO2 : (LO2.yes.2.1.ok LO2.T LO2.n && LO2.no.2.1.ok LO2.T LO2.n && checkRound LO2 (roundI theI (entS []) [(11, LO1)] codeO2) [] rO2) = true := by kernel_rfl
theorem ovV_len : ∀ {l : List (List DV)} {n : Int}, ovV l n = true → n ≤ 2000 → n + l.length ≤ 2000
  | [], n, _, h => by simpa using h
  | v :: l, n, h, hn => by
    unfold ovV at h
    split at h
    · cases h
    split at h
    · cases h
    · have := ovV_len h (by omega)
      rw [List.length_cons]
      omega
theorem d117 {R : Rho} (hI : R.I = theI) {x y z : SX} {l : List (List DV)} {i n : Int} (hx : den R x = .list l) (hy : den R y = .int .i64 i) (hz : den R z = .int .i64 n) : den R (.app 117 [x, y, z]) = .bool (ovV (l.drop i.toNat) n) := by
  rw [d_app, hI]
  simp only [List.map_cons, List.map_nil, hx, hy, hz]
  show FovV _ = _
  simp only [FovV, lD, iD, List.getD_cons_zero, List.getD_cons_succ]
theorem d118 {R : Rho} (hI : R.I = theI) {x y z : SX} {l : List (List DV)} {i n : Int} (hx : den R x = .list l) (hy : den R y = .int .i64 i) (hz : den R z = .int .i64 n) : den R (.app 118 [x, y, z]) = .bool (ovR (l.drop i.toNat) n) := by
  rw [d_app, hI]
  simp only [List.map_cons, List.map_nil, hx, hy, hz]
  show FovR _ = _
  simp only [FovR, lD, iD, List.getD_cons_zero, List.getD_cons_succ]
def invO1 (R : Rho) : Prop := ∃ l i n k lv, R.ρ 0 = .list l ∧ R.ρ 1 = .int .i64 i ∧ R.ρ 2 = .int .i64 n ∧ R.ρ 3 = .int .i64 k ∧ 0 ≤ i ∧ i < l.length ∧ l.getD i.toNat [] = [.list lv] ∧ (∀ v ∈ lv, IsV v) ∧ lv.length ≤ 50 ∧ 0 ≤ k ∧ k ≤ lv.length ∧ 0 ≤ n ∧ n ≤ 2000
noncomputable def muO1 (R : Rho) : Nat := match R.ρ 0, R.ρ 1, R.ρ 3 with
  | .list la, .int _ i, .int _ k => (lD (la.getD i.toNat []) 0).length - k.toNat
  | _, _, _ => 0
theorem loopO1 : LoopOK Tryz.prog G theI codeO1 LO1 := by
  refine loop_run (lps := []) (entS_ok (l := []) trivial) noLoops _ okO1 invO1 muO1 ?_ ?_
  · intro m a w hr hp
    obtain ⟨l, e0, _, hv⟩ := (head_sy hr (t := 11) (i := 0) (ty := tRows) (by kernel_rfl)).rows
    obtain ⟨i, e1, _⟩ := (head_sy hr (t := 13) (i := 1) (ty := tI) (by kernel_rfl)).i64
    obtain ⟨n, e2, _⟩ := (head_sy hr (t := 3) (i := 2) (ty := tI) (by kernel_rfl)).i64
    obtain ⟨k, e3, _⟩ := (head_sy hr (t := 22) (i := 3) (ty := tI) (by kernel_rfl)).i64
    have p1 := hp (lss (.v 1) (k64 0), false) (by simp [LO1])
    have p2 := hp (lss (.v 1) (.len (.v 0)), true) (by simp [LO1])
    have p3 := hp (lss (k64 2000) (.v 2), false) (by simp [LO1])
    have p4 := hp (lss (.v 2) (k64 0), false) (by simp [LO1])
    have p5 := hp (eql (.v 3) (k64 0), true) (by simp [LO1])
    have p6 := hp (lss (k64 50) (.len rowE), false) (by simp [LO1])
    rw [d_lss (d_v e1) (d_k .i64 0)] at p1
    rw [d_lss (d_v e1) (d_lenL (d_v e0))] at p2
    rw [d_lss (d_k .i64 2000) (d_v e2)] at p3
    rw [d_lss (d_v e2) (d_k .i64 0)] at p4
    rw [d_eql (d_v e3) (d_k .i64 0)] at p5
    simp only [DV.bool.injEq, decide_eq_false_iff_not, decide_eq_true_eq] at p1 p2 p3 p4 p5
    have h1 : i.toNat < l.length := by omega
    obtain ⟨lv, hlv, _, hvv⟩ := hv _ (List.getElem_mem h1)
    have hg : l.getD i.toNat [] = [.list lv] := by rw [getD_lt h1, hlv]
    have dx : den m.R rowE = .list lv := by rw [d_at 0 (d_v e0) (d_v e1), hg]; rfl
    rw [d_lss (d_k .i64 50) (d_lenL dx)] at p6
    simp only [DV.bool.injEq, decide_eq_false_iff_not] at p6
    exact ⟨l, i, n, k, lv, e0, e1, e2, e3, by omega, p2, hg, hvv, by omega, by omega, by omega, by omega, by omega⟩
  · rintro R hI ⟨l, i, n, k, lv, e0, e1, e2, e3, i0, i1, hg, hvv, hm, k0, k1, n0, n1⟩
    have hmx := maxLen_lt
    have dx : den R rowE = .list lv := by rw [d_at 0 (d_v e0) (d_v e1), hg]; rfl
    have hc : den R LO1.cnd = _ := d117 hI dx (d_v e3) (d_v e2)
    have out : den R (add (.v 2) (sub (.len rowE) (.v 3))) = .int .i64 (n + (lv.length - k)) := d_add (d_v e2) (d_sub (d_lenL dx) (d_v e3) (by omega) (by omega)) (by omega) (by omega)
    unfold rO1
    refine round_knows (l := [_, _]) ?_ (round_ask (d_lss (d_v e3) (d_lenL dx)) (fun hlt => ?_) (fun hge => ?_))
    · intro q hq
      simp only [List.mem_cons, List.not_mem_nil, or_false] at hq
      rcases hq with rfl | rfl
      · rw [d_lss (d_v e1) (d_lenL (d_v e0))]; simp; omega
      · rw [d_lss (d_v e1) (d_k .i64 0)]; simp; omega
    · simp only [decide_eq_true_eq] at hlt
      have l1 : k.toNat < lv.length := by omega
      have hgv : lv.getD k.toNat [] = lv[k.toNat] := getD_lt l1
      obtain ⟨a, b, s, hvi, _⟩ := hvv _ (List.getElem_mem l1)
      have ds : den R (.at rowE (.v 3) 2) = .str s := by rw [d_at 2 dx (d_v e3), hgv, hvi]; rfl
      have hi1 : den R (add (.v 3) (k64 1)) = .int .i64 (k + 1) := d_add (R := R) (d_v e3) (d_k .i64 1) (by omega) (by omega)
      have hn1 : den R (add (.v 2) (k64 1)) = .int .i64 (n + 1) := d_add (R := R) (d_v e2) (d_k .i64 1) (by omega) (by omega)
      have hst : ovV (lv.drop k.toNat) n = if 1000 < s.size then false else if 2000 < n + 1 then false else ovV (lv.drop (k.toNat + 1)) (n + 1) := by
        rw [List.drop_eq_getElem_cons l1, hvi]
        rfl
      refine round_know (by rw [d_lss (d_v e3) (d_k .i64 0)]; simp; omega) ?_
      refine round_ask (d_lss (d_k .i64 1000) (d_lens ds)) (fun ht => ?_) (fun ht => ?_)
      · simp only [decide_eq_true_eq] at ht
        refine ⟨?_, rfl⟩
        rw [hc, hst, if_pos (by omega)]
      · simp only [decide_eq_false_iff_not] at ht
        rw [if_neg (by omega)] at hst
        refine round_ask (d_lss (d_k .i64 2000) hn1) (fun hq => ?_) (fun hq => ?_)
        · simp only [decide_eq_true_eq] at hq
          replace hq : 2000 < n + 1 := hq
          refine ⟨?_, rfl⟩
          rw [hc, hst, if_pos hq]
        · simp only [decide_eq_false_iff_not] at hq
          replace hq : ¬ 2000 < n + 1 := hq
          rw [if_neg hq] at hst
          have s0 := sub_get R [.v 0, .v 1, add (.v 2) (k64 1), add (.v 3) (k64 1)] 0 rfl (d_v e0)
          have s1 := sub_get R [.v 0, .v 1, add (.v 2) (k64 1), add (.v 3) (k64 1)] 1 rfl (d_v e1)
          have s2 := sub_get R [.v 0, .v 1, add (.v 2) (k64 1), add (.v 3) (k64 1)] 2 rfl hn1
          have s3 := sub_get R [.v 0, .v 1, add (.v 2) (k64 1), add (.v 3) (k64 1)] 3 rfl hi1
          have dx' : den (R.sub [.v 0, .v 1, add (.v 2) (k64 1), add (.v 3) (k64 1)]) rowE = .list lv := by rw [d_at 0 (d_v s0) (d_v s1), hg]; rfl
          refine ⟨⟨l, i, n + 1, k + 1, lv, s0, s1, s2, s3, i0, i1, hg, hvv, hm, by omega, by omega, by omega, by omega⟩, ?_, ?_, fun b' _ => ?_⟩
          · simp only [muO1, s0, s1, s3, e0, e1, e3, hg, lD, List.getD_cons_zero]
            omega
          · rw [hc]
            show den (R.sub _) (.app 117 [rowE, .v 3, .v 2]) = _
            rw [d117 (R := R.sub _) hI dx' (d_v s3) (d_v s2), toNat_succ k0, hst]
          · cases b'
            · rfl
            · have out' : den (R.sub [.v 0, .v 1, add (.v 2) (k64 1), add (.v 3) (k64 1)]) (add (.v 2) (sub (.len rowE) (.v 3))) = .int .i64 (n + 1 + (lv.length - (k + 1))) := d_add (d_v s2) (d_sub (d_lenL dx') (d_v s3) (by omega) (by omega)) (by omega) (by omega)
              show [den (R.sub _) (.v 0), den (R.sub _) (.v 1), den (R.sub _) (add (.v 2) (sub (.len rowE) (.v 3)))] = [den R (.v 0), den R (.v 1), den R (add (.v 2) (sub (.len rowE) (.v 3)))]
              rw [out, out', d_v s0, d_v s1, d_v e0, d_v e1]
              have : n + 1 + ((lv.length : Int) - (k + 1)) = n + (lv.length - k) := by omega
              rw [this]
    · simp only [decide_eq_false_iff_not] at hge
      have hn : lv.drop k.toNat = [] := List.drop_eq_nil_of_le (by omega)
      refine ⟨by rw [hc, hn]; rfl, ?_⟩
      show [den R (.v 0), den R (.v 1), den R (.v 2)] = [den R (.v 0), den R (.v 1), den R (add (.v 2) (sub (.len rowE) (.v 3)))]
      rw [out, d_v e2]
      have : n + ((lv.length : Int) - k) = n := by omega
      rw [this]
theorem lO2 : LoopsOK Tryz.prog G theI (lpsOf [(11, LO1)]) codeO2 := by
  intro B hB M hM
  have h1 := lpsOf_mem hM
  simp only [List.mem_cons, List.not_mem_nil, or_false, Prod.mk.injEq] at h1
  obtain ⟨_, rfl⟩ := h1
  have hc : loopsIn codeO2 = [codeO1] := by kernel_rfl
  rw [hc] at hB
  simp only [List.mem_cons, List.not_mem_nil, or_false] at hB
  rw [hB]
  exact loopO1
def invO2 (R : Rho) : Prop := ∃ l i n, R.ρ 0 = .list l ∧ R.ρ 1 = .int .i64 i ∧ R.ρ 2 = .int .i64 n ∧ (∀ v ∈ l, IsR v) ∧ l.length ≤ maxLen ∧ 0 ≤ i ∧ i ≤ l.length ∧ 0 ≤ n ∧ n ≤ 2000
noncomputable def muO2 (R : Rho) : Nat := match R.ρ 0, R.ρ 1 with
  | .list la, .int _ i => la.length - i.toNat
  | _, _ => 0
theorem loopO2 : LoopOK Tryz.prog G theI codeO2 LO2 := by
  refine loop_run (lps := [(11, LO1)]) (entS_ok (l := []) trivial) lO2 rO2 okO2 invO2 muO2 ?_ ?_
  · intro m a w hr hp
    obtain ⟨l, e0, hm, hv⟩ := (head_sy hr (t := 11) (i := 0) (ty := tRows) (by kernel_rfl)).rows
    obtain ⟨i, e1, _⟩ := (head_sy hr (t := 13) (i := 1) (ty := tI) (by kernel_rfl)).i64
    obtain ⟨n, e2, _⟩ := (head_sy hr (t := 3) (i := 2) (ty := tI) (by kernel_rfl)).i64
    have p1 := hp (eql (.v 1) (k64 0), true) (by simp [LO2])
    have p2 := hp (eql (.v 2) (k64 0), true) (by simp [LO2])
    rw [d_eql (d_v e1) (d_k .i64 0)] at p1
    rw [d_eql (d_v e2) (d_k .i64 0)] at p2
    simp only [DV.bool.injEq, decide_eq_true_eq] at p1 p2
    exact ⟨l, i, n, e0, e1, e2, hv, hm, by omega, by omega, by omega, by omega⟩
  · rintro R hI ⟨l, i, n, e0, e1, e2, hv, hm, i0, i1, n0, n1⟩
    have hmx := maxLen_lt
    have hc : den R LO2.cnd = _ := d118 hI (d_v e0) (d_v e1) (d_v e2)
    unfold rO2
    refine round_ask (d_lss (d_v e1) (d_lenL (d_v e0))) (fun hlt => ?_) (fun hge => ?_)
    · simp only [decide_eq_true_eq] at hlt
      have l1 : i.toNat < l.length := by omega
      obtain ⟨lv, hlv, m1, _⟩ := hv _ (List.getElem_mem l1)
      have hg : l.getD i.toNat [] = [.list lv] := by rw [getD_lt l1, hlv]
      have dx : den R rowE = .list lv := by rw [d_at 0 (d_v e0) (d_v e1), hg]; rfl
      have hst : ovR (l.drop i.toNat) n = if 50 < lv.length then false else if ovV lv n then ovR (l.drop (i.toNat + 1)) (n + lv.length) else false := by
        rw [List.drop_eq_getElem_cons l1, hlv]
        rfl
      refine round_know (by rw [d_lss (d_v e1) (d_k .i64 0)]; simp; omega) ?_
      refine round_ask (d_lss (d_k .i64 50) (d_lenL dx)) (fun hb => ?_) (fun hb => ?_)
      · simp only [decide_eq_true_eq] at hb
        refine ⟨?_, rfl⟩
        rw [hc, hst, if_pos (by omega)]
      · simp only [decide_eq_false_iff_not] at hb
        rw [if_neg (by omega)] at hst
        refine round_knows (l := [_, _]) ?_ ?_
        · intro q hq
          simp only [List.mem_cons, List.not_mem_nil, or_false] at hq
          rcases hq with rfl | rfl
          · rw [d_lss (d_k .i64 2000) (d_v e2)]; simp; omega
          · rw [d_lss (d_v e2) (d_k .i64 0)]; simp; omega
        have d2 : den R (.app 117 [rowE, k64 0, .v 2]) = .bool (ovV lv n) := d117 hI dx (d_k .i64 0) (d_v e2)
        refine round_ask d2 (fun ht => ?_) (fun ht => ?_)
        · have hle := ovV_len ht n1
          have hi1 : den R (add (.v 1) (k64 1)) = .int .i64 (i + 1) := d_add (R := R) (d_v e1) (d_k .i64 1) (by omega) (by omega)
          have hn1 : den R (add (.v 2) (sub (.len rowE) (k64 0))) = .int .i64 (n + (lv.length - 0)) := d_add (R := R) (d_v e2) (d_sub (d_lenL dx) (d_k .i64 0) (by omega) (by omega)) (by omega) (by omega)
          rw [Int.sub_zero] at hn1
          rw [ht, if_pos rfl] at hst
          have s0 := sub_get R [.v 0, add (.v 1) (k64 1), add (.v 2) (sub (.len rowE) (k64 0))] 0 rfl (d_v e0)
          have s1 := sub_get R [.v 0, add (.v 1) (k64 1), add (.v 2) (sub (.len rowE) (k64 0))] 1 rfl hi1
          have s2 := sub_get R [.v 0, add (.v 1) (k64 1), add (.v 2) (sub (.len rowE) (k64 0))] 2 rfl hn1
          refine ⟨⟨l, i + 1, n + lv.length, s0, s1, s2, hv, hm, by omega, by omega, by omega, hle⟩, ?_, ?_, fun b' _ => ?_⟩
          · simp only [muO2, s0, s1, e0, e1]
            omega
          · rw [hc]
            show den (R.sub _) (.app 118 [.v 0, .v 1, .v 2]) = _
            rw [d118 (R := R.sub _) hI (d_v s0) (d_v s1) (d_v s2), toNat_succ i0, hst]
          · cases b' <;> rfl
        · refine ⟨?_, rfl⟩
          rw [hc, hst, ht]
          rfl
    · simp only [decide_eq_false_iff_not] at hge
      have hn : l.drop i.toNat = [] := List.drop_eq_nil_of_le (by omega)
      exact ⟨by rw [hc, hn]; rfl, rfl⟩
theorem lO : LoopsAre theI 5 [(6, LO2)] := loops1 (by kernel_rfl) loopO2
noncomputable def pOver : Pln := .ask (lss (k64 300) (.len (.v 0))) (.done [[.kb true]]) (.ask (.app 118 [.v 0, k64 0, k64 0]) (.done [[.kb false]]) (.done [[.kb true]]))
theorem kOver : (hasB 5 && checkPlan [.one .bool] (runI theI (entS []) [(6, LO2)] [] 5 [.one tRows]) [] pOver) = true := by kernel_rfl
theorem fnOver : FnOK Tryz.prog G 5 [.one tRows] [.one .bool] (fun _ => True) Fover := by
  have hk := kOver
  rw [Bool.and_eq_true] at hk
  refine fn_run (entS_ok (l := []) trivial) [(6, LO2)] _ lO hk.1 pOver hk.2 ?_
  intro ds h _
  simp only [IsArgs, IsOne] at h
  obtain ⟨_, _, rfl, ⟨d, rfl, hd⟩, rfl⟩ := h
  obtain ⟨l, rfl, _⟩ := hd.rows
  have hF : Fover [[DV.list l]].flatten = [[.bool (if 300 < l.length then true else !ovR l 0)]] := rfl
  rw [hF]
  generalize hR : rhoOf theI [[DV.list l]].flatten = R
  have hI : R.I = theI := by rw [← hR]; rfl
  have q0 : R.ρ 0 = .list l := by rw [← hR]; rfl
  unfold pOver
  refine goal_ask (d_lss (d_k .i64 300) (d_lenL (d_v q0))) (fun h1 => ?_) (fun h1 => ?_)
  · simp only [decide_eq_true_eq] at h1
    show _ = _
    rw [if_pos (by omega)]
    rfl
  · simp only [decide_eq_false_iff_not] at h1
    rw [if_neg (by omega)]
    have d2 : den R (.app 118 [.v 0, k64 0, k64 0]) = .bool (ovR l 0) := d118 hI (d_v q0) (d_k .i64 0) (d_k .i64 0)
    refine goal_ask d2 (fun h2 => ?_) (fun h2 => ?_)
    · show _ = _
      rw [h2]
      rfl
    · show _ = _
      rw [h2]
      rfl
noncomputable def eOver : Ent := eFn 5 [.one tRows] [.one .bool] [] 13
end Go.Proofs.YtjplhjnbcjohoaaGreatDoor
