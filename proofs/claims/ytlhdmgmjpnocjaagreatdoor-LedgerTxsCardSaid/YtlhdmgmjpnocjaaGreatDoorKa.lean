/-
  A part of the proof of LedgerTxs (the machine on named data, and the contracts of the functions that the law reaches): Lf0 Lf1 Lf2 Lf3 Lf4.
-/
import Derived.KernelRfl
import Derived.WalkKit
import Derived.Laws.IdiomStrings
import Derived.Lib.SliceRun
import Derived.Test.YtlhdmgmjpnocjaaGreatDoorAmH
import Derived.Test.YtlhdmgmjpnocjaaGreatDoorGa
set_option linter.all false
set_option linter.unusedVariables false
set_option linter.unusedSimpArgs false
set_option linter.unusedSectionVars false
namespace Go.Proofs.YtlhdmgmjpnocjaaGreatDoor
open Go Go.AM
abbrev tI : Ty := .int .i64
abbrev tU8 : Ty := .int .u8
abbrev tU32 : Ty := .int .u32
def tTx : List Ty := [tI, tU32, .str]
abbrev tB : Ty := .slice [tU8]
def bstr (a : Array UInt8) : ByteArray := ⟨a⟩
def iD (ds : List DV) (k : Nat) : Int := match ds.getD k (.bool false) with
  | .int _ z => z
  | _ => 0
def sD (ds : List DV) (k : Nat) : ByteArray := match ds.getD k (.bool false) with
  | .str s => s
  | _ => ⟨#[]⟩
def lD (ds : List DV) (k : Nat) : List (List DV) := match ds.getD k (.bool false) with
  | .list es => es
  | _ => []
/-- May a transaction be? -/
def txB (c s : Int) (t : ByteArray) : Bool := decide (1 ≤ c) && decide (c ≤ 3) && decide (s ≠ 0) && decide (t.size ≤ 1019)
def F9 (ds : List DV) : List (List DV) := [[.int .i64 (if txB (iD ds 0) (iD ds 1) (sD ds 2) then 0 else 270)]]
def F8 (ds : List DV) : List (List DV) := [[.bool (txB (iD ds 0) (iD ds 1) (sD ds 2))]]
/-- Two rows of bytes, one behind the other. -/
def F23 (ds : List DV) : List (List DV) := [[.list (lD ds 0 ++ lD ds 1)]]
def F4 (_ : List DV) : List (List DV) := [[.bool true]]
end Go.Proofs.YtlhdmgmjpnocjaaGreatDoor
namespace Go.Proofs.YtlhdmgmjpnocjaaGreatDoor
open Go Go.AM
theorem hmix : Tryz.prog.follows .mixedOrders = true := by kernel_rfl
theorem namesRun : Tryz.prog.funcs.toList.all (fun fn => !(fn.name == "runtime.NumGoroutine")) = true := by kernel_rfl
theorem hNum (f : FuncId) (fn : Func) (h : Tryz.prog.funcs[f]? = some fn) : (fn.name == "runtime.NumGoroutine") = false := by
  have := List.all_eq_true.1 namesRun fn (List.mem_iff_getElem?.2 ⟨f, by simpa using h⟩)
  simpa using this
noncomputable def isSc : AV → Bool
  | .sc _ => true
  | _ => false
theorem isSc_ok {cs : List AV} (h : cs.all isSc = true) : ∀ c ∈ cs, ∃ u, c = AV.sc u := by
  intro c hc
  have := List.all_eq_true.1 h c hc
  unfold isSc at this
  split at this
  · exact ⟨_, rfl⟩
  · cases this
theorem scStart : gStart.all isSc = true := by kernel_rfl
theorem scOrders : gOrders.all isSc = true := by kernel_rfl
theorem scFours : gFours.all isSc = true := by kernel_rfl
theorem plain_key (cs l : List AV) (hl : l.all isSc = true) (e : some l = some cs) : ∀ c ∈ cs, ∃ u, c = AV.sc u := by
  cases e
  exact isSc_ok hl
theorem G0 : G 0 = some gStart := by kernel_rfl
theorem G1 : G 1 = some gOrders := by kernel_rfl
theorem G2 : G 2 = some gFours := by kernel_rfl
theorem G4 (n : Nat) : G (n + 3) = none := by kernel_rfl
theorem plainG : PlainG G := by
  intro g cs h
  rcases g with _ | _ | _ | n
  · exact plain_key cs gStart scStart (G0.symm.trans h)
  · exact plain_key cs gOrders scOrders (G1.symm.trans h)
  · exact plain_key cs gFours scFours (G2.symm.trans h)
  · exact absurd ((G4 n).symm.trans h) (by simp)
noncomputable def hasB (f : FuncId) : Bool := match Tryz.prog.funcs[f]? with
  | some fn => !fn.body.isNone && Bool.not (Nat.beq f yid)
  | none => false
theorem hasB_ok {f : FuncId} (h : hasB f = true) : HasBody Tryz.prog f := by
  unfold hasB at h
  split at h
  · rename_i fn e
    simp only [Bool.and_eq_true, Bool.not_eq_true'] at h
    exact ⟨fn, e, h.1, hNum f fn e, Nat.ne_of_beq_eq_false h.2⟩
  · cases h
theorem noSpec_ok (O : Orc) : SpecOK Tryz.prog G noSpec := fun f sp h => by simp [noSpec] at h
theorem sameF {f : FuncId} {X : CallF} : (fun g args h => if g = f then X g args h else none) = (fun g args h => if g = f then X f args h else none) := by
  funext g args h
  by_cases e : g = f
  · rw [if_pos e, if_pos e, e]
  · rw [if_neg e, if_neg e]
/-- A function whose loops are run; its results' blocks are data. -/
noncomputable def runI (I : Nat → List DV → DV) (spec : Orc → FuncId → Option (List AV → AHeap → Out)) (ts : List (Option Ty)) (f : FuncId) (sg : Sig) (facts : List (SX × Bool)) : Out :=
  iceRes ts (@callL (mkO facts I) Tryz.prog G (spec (mkO facts I)) 100 (fun _ => none) f (mkArgs 0 sg) heap0)
theorem fn_run {I : Nat → List DV → DV} {spec : Orc → FuncId → Option (List AV → AHeap → Out)} (hsp : ∀ O : Orc, O.I = I → @SpecOK O Tryz.prog G (spec O)) (ts : List (Option Ty)) {f : FuncId} {sg rs : Sig} {pre : List DV → Prop} {F : List DV → List (List DV)} (hb : hasB f = true) (p : Pln)
    (hc : checkPlan rs (runI I spec ts f sg) [] p = true)
    (hgoal : ∀ (E : Nat → Option Obj) (ds : List (List DV)) (vs : List Value), RepArgs (envE E) sg ds vs → pre ds.flatten → goalPlan (rhoOf I ds.flatten) (F ds.flatten) p) : FnOK Tryz.prog G f sg rs pre F := by
  have hl : ∀ (O : Orc) (fn : Func) (c : Code), Tryz.prog.funcs[f]? = some fn → fn.body = some c → LoopsOK Tryz.prog G O.I (fun _ => none) c := by
    intro O fn c _ _ B _ L h
    exact absurd h (by simp)
  have hcall : ∀ O : Orc, O.I = I → @CallOK O Tryz.prog G (fun g args h => if g = f then iceRes ts (@callL O Tryz.prog G (spec O) 100 (fun _ => none) g args h) else none) := by
    intro O hI
    have h1 := @callL_ok O Tryz.prog G (spec O) (fun _ => none) hmix hNum (hsp O hI) plainG 100 f (hl O)
    have h2 := @iceRes_ok O Tryz.prog G ts _ h1
    intro g args h av h' hq
    simp only at hq
    split at hq
    · rename_i e
      exact h2 g args h av h' (by simp only [if_pos e]; subst e; exact hq)
    · cases hq
  exact fn_plan (call := fun O g args h => iceRes ts (@callL O Tryz.prog G (spec O) 100 (fun _ => none) g args h)) plainG (hasB_ok hb) hcall p hc hgoal
end Go.Proofs.YtlhdmgmjpnocjaaGreatDoor
namespace Go.Proofs.YtlhdmgmjpnocjaaGreatDoor
open Go Go.AM Go.RowKit
theorem inf5 : (Tryz.prog.info? 5).map (fun i => (i.zero, i.size, i.bytes)) = some (some (.int .u8 0), 1, 1) := by kernel_rfl
theorem info_parts {t : TypeId} {z : Value} {s b : Nat} (h : (Tryz.prog.info? t).map (fun i => (i.zero, i.size, i.bytes)) = some (some z, s, b)) : ∃ i, Tryz.prog.info? t = some i ∧ i.zero = some z ∧ i.size = s ∧ i.bytes = b := by
  cases e : Tryz.prog.info? t with
  | none => rw [e] at h; cases h
  | some i =>
    rw [e] at h
    simp only [Option.map_some, Option.some.injEq, Prod.mk.injEq] at h
    exact ⟨i, rfl, h.1, h.2.1, h.2.2⟩
theorem io_of {w w' : World} (h1 : w'.os = w.os) (h2 : w'.output = w.output) : ioOf w' = ioOf w := by
  unfold ioOf; rw [h1, h2]
/-- Where the bytes of a slice stand. -/
def Src (w : World) (a : Option Addr) (n : Nat) (news : List Value) : Prop := news.length = n ∧ (∀ u ∈ news, u.oneCell' = true) ∧ ((a = none ∧ n = 0) ∨ ∃ ad, a = some ad ∧ (n = 0 ∨ ∃ b o, ad = ⟨b, o, none⟩) ∧ ∀ j u, news[j]? = some u → w.cell? (ad.add j) = some u)
theorem src_of {E : Nat → Option Obj} {w : World} (hE : ∀ b o, E b = some o → w.heap[b]? = some o) {d : DV} {v : Value} (h : Rep (envE E) tB d v) : ∃ (ds : List DV) (a : Option Addr) (c : Nat), d = .list (ds.map fun x => [x]) ∧ ds.length ≤ maxLen ∧
    (∀ x ∈ ds, ∃ z, x = .int .u8 z ∧ IntKind.min .u8 ≤ z ∧ z ≤ IntKind.max .u8) ∧ v = .slice a ds.length c ∧ ds.length ≤ c ∧ (a = none → c = 0) ∧ Src w a ds.length (ds.map valD) := by
  obtain ⟨ds, rfl, h2, h3, h4⟩ := sy_exact (t := tU8) rfl h
  simp only [V, List.length_map] at h4
  obtain ⟨a, c, rfl, g1, _, g3, g4⟩ := h4
  have hint : ∀ x ∈ ds, ∃ z, x = .int .u8 z ∧ IntKind.min .u8 ≤ z ∧ z ≤ IntKind.max .u8 := by
    intro x hx
    have := h3 x hx
    simp only [Rep] at this
    obtain ⟨z, e, _, k1, k2⟩ := this
    exact ⟨z, e, k1, k2⟩
  refine ⟨ds, a, c, rfl, h2, hint, rfl, g1, g3, by simp, fun u hu => ?_, ?_⟩
  · obtain ⟨x, hx, rfl⟩ := List.mem_map.1 hu
    obtain ⟨z, rfl, _⟩ := hint x hx
    rfl
  · rcases g4 with g4 | ⟨b, o, rfl, hv⟩
    · have hn : ds.length = 0 := by omega
      have hnil : ds = [] := List.length_eq_zero_iff.1 hn
      subst hnil
      cases a with
      | none => exact .inl ⟨rfl, rfl⟩
      | some ad => exact .inr ⟨ad, rfl, .inl rfl, fun j u hj => by simp at hj⟩
    · refine .inr ⟨_, rfl, .inr ⟨b, o, rfl⟩, fun j u hj => ?_⟩
      have key : ∀ (l : List DV) (o : Nat), VR (envE E) b 1 o (l.map fun x => [.sc (valD x)]) → ∀ i x, (l.map valD)[i]? = some x → (envE E).ecell b (o + i) = some x := by
        intro l
        induction l with
        | nil => intro o _ i x hi; simp at hi
        | cons y l ih =>
          intro o hv i x hi
          simp only [List.map_cons, VR, VC, V] at hv
          obtain ⟨_, ⟨⟨u, h1, rfl⟩, _⟩, h2⟩ := hv
          cases i with
          | zero => simp only [List.map_cons, List.getElem?_cons_zero, Option.some.injEq] at hi; subst hi; simpa using h1
          | succ i =>
            have := ih (o + 1) h2 i x (by simpa using hi)
            rw [show o + (i + 1) = o + 1 + i by omega]
            exact this
      have h1 := key ds o hv j u hj
      unfold Env.ecell at h1
      split at h1
      · rename_i cells t p hb
        have h2 := hE b _ hb
        rw [add_plain]
        unfold World.cell?
        simp only [h2]
        exact h1
      · cases h1
/-- A row of the call's own, as data. -/
theorem own_rep {E : Nat → Option Obj} {w w' : World} {v : Value} {ds : List DV} (hE : ∀ b o, E b = some o → w.heap[b]? = some o) (hb : Below w.heap.size w w') (hds : ∀ x ∈ ds, ∃ z, x = .int .u8 z ∧ IntKind.min .u8 ≤ z ∧ z ≤ IntKind.max .u8)
    (hl : ds.length ≤ maxLen) (hown : w'.ownsRow w.heap.size 5 1 v ds.length (ds.map valD)) : ∃ E', Grows E E' w w' ∧ Rep (envE E') tB (.list (ds.map fun x => [x])) v := by
  have hold : ∀ b o, E b = some o → w'.heap[b]? = some o := by
    intro b o h
    have h1 := hE b o h
    rw [hb.block b (Array.getElem?_eq_some_iff.1 h1).1]
    exact h1
  obtain ⟨_, ⟨rfl, h0⟩ | ⟨g, cap, cur, rfl, hg0, hg, hn, _, hcs, htk⟩⟩ := hown
  · have hnil : ds = [] := List.length_eq_zero_iff.1 h0
    subst hnil
    refine ⟨E, ⟨fun b o h => h, fun b o h => ⟨hold b o h, .inl h⟩, fun b hlt => hb.block b hlt, io_of hb.os hb.output⟩, ?_⟩
    simp only [Rep]
    exact ⟨[], none, 0, rfl, rfl, Nat.le_refl _, by simp, fun _ => rfl, .inl rfl⟩
  · have hEg : E g = none := by
      cases h : E g with
      | none => rfl
      | some o =>
        have := (Array.getElem?_eq_some_iff.1 (hE g o h)).1
        omega
    refine ⟨fun k => if k = g then some (.cells cur 5 (0, 0)) else E k, ⟨fun b o h => ?_, fun b o h => ?_, fun b hlt => hb.block b hlt, io_of hb.os hb.output⟩, ?_⟩
    · have : b ≠ g := fun e => by rw [e, hEg] at h; cases h
      simp only [if_neg this]
      exact h
    · by_cases e : b = g
      · subst e
        simp only [if_true, Option.some.injEq] at h
        subst h
        exact ⟨hg, .inr hg0⟩
      · simp only [if_neg e] at h
        exact ⟨hold b o h, .inl h⟩
    · simp only [Rep]
      refine ⟨_, _, cap, rfl, by rw [List.length_map], by rw [List.length_map]; exact hn, by rw [List.length_map]; exact hl, (fun e => by cases e), .inr ⟨g, 0, rfl, fun i row hi => ?_⟩⟩
      rw [List.getElem?_map] at hi
      cases hx : ds[i]? with
      | none => rw [hx] at hi; cases hi
      | some x =>
        rw [hx] at hi
        cases hi
        obtain ⟨z, rfl, k1, k2⟩ := hds x (List.mem_iff_getElem?.2 ⟨i, hx⟩)
        simp only [RepL, List.length_singleton, Nat.mul_one, Nat.zero_add]
        refine ⟨_, [], .int .u8 z, rfl, ?_, ?_, rfl⟩
        · unfold Env.ecell
          simp only [envE, if_true]
          have hlt := (List.getElem?_eq_some_iff.1 hx).1
          have h1 : (cur.toList.take (ds.length * 1))[i]? = some (valD (.int .u8 z)) := by
            rw [htk, List.getElem?_map, hx]
            rfl
          rw [List.getElem?_take_of_lt (by omega)] at h1
          simpa [valD] using h1
        · simp only [Rep]
          exact ⟨z, rfl, rfl, k1, k2⟩
/-- 'append' of bytes from wherever, to a row of one's own. -/
theorem wpList_append_src {ops : Array Oper} {rest : List Oper} {o : Oper} {a : Act} {w : World} {Q : Exit → Act → World → Prop} (hgd : o.guard = none) (s x : Operand)
    (ho : o.op = .call { callee := .builtin .append, args := #[s, x], argTypes := #[25, 25] }) (base : Nat) (v : Value) (n : Nat) (xs : List Value) (hs : a.eval s = v) (hown : w.ownsRow base 5 1 v n xs)
    (ad : Option Addr) (m c : Nat) (news : List Value) (hx : a.eval x = .slice ad m c) (hsrc : Src w ad m news) (h63 : n + m ≤ 10000000) (hbase : base ≤ w.heap.size)
    (h : ∀ v' w', w'.ownsRow base 5 1 v' (n + m) (xs ++ news) → w.grownBy w' v.ownBlock → wpList Tryz.prog ops Q rest (a.put o.dst v') w') : wpList Tryz.prog ops Q (o :: rest) a w := by
  obtain ⟨i0, hi, hz0, hz1, hz2⟩ := info_parts inf5
  obtain ⟨hl, h1, hsrc | ⟨ad', rfl, _, hc⟩⟩ := hsrc
  · obtain ⟨rfl, rfl⟩ := hsrc
    have hnil : news = [] := List.length_eq_zero_iff.1 hl
    subst hnil
    refine wpList_plain hgd fun K hK => ?_
    have hv : ∃ b n' c', v = .slice b n' c' ∧ n' ≤ c' := by
      obtain ⟨_, ⟨rfl, _⟩ | ⟨g, cap, cur, rfl, _, _, hn, _⟩⟩ := hown
      · exact ⟨_, _, _, rfl, Nat.le_refl _⟩
      · exact ⟨_, _, _, rfl, hn⟩
    obtain ⟨b, n', c', rfl, hn'⟩ := hv
    have hrun := run_append_zero (P := Tryz.prog) (w := w) (ts := #[25, 25]) (t := 25) (u := 25) (ty := o.type) (e := 5) (i := i0) rfl rfl Tryz.underlying25 Tryz.underlying25 (fun k e => by cases e) hi (base := b) (sLen := n') (sCap := c') (x := .slice none 0 c)
      (by simp [Builtin.lenOf]) (by simp [Builtin.firstCells]) hn'
    unfold Oper.wp execOp
    simp only [ho, resolve, invoke, builtin, Sem.run_bind, Sem.run_pure, Result.andThen_ok, List.map_toArray, List.map_cons, List.map_nil, hs, hx, hrun]
    exact hK _ _ (h _ _ (by simpa using hown) ⟨rfl, rfl, rfl, Nat.le_refl _, fun _ _ _ => rfl⟩)
  · exact wpList_append_own w hgd s x 25 ho base 5 i0 (.int .u8 0) 1 1 Tryz.underlying25 hi hz0 hz1 hz2 rfl (by decide) v n xs hs hown ad' m c news hx (by rw [Nat.mul_one]; exact hl) hc h1 (by unfold maxLen; omega) (by omega) hbase fun v' w' k1 k2 _ => h v' w' k1 k2
theorem Src.mono {L : Nat} {w w' : World} {a : Option Addr} {n : Nat} {news : List Value} (h : Src w a n news) (hw : ∀ (ad : Addr) (u : Value), w.cell? ad = some u → w'.cell? ad = some u) : Src w' a n news := by
  obtain ⟨h1, h2, h3 | ⟨ad, h3, h5, h4⟩⟩ := h
  · exact ⟨h1, h2, .inl h3⟩
  · exact ⟨h1, h2, .inr ⟨ad, h3, h5, fun j u hj => hw _ _ (h4 j u hj)⟩⟩
theorem Src.below {w w' : World} {a : Option Addr} {n : Nat} {news : List Value} (h : Src w a n news) (hb : Below w.heap.size w w') : Src w' a n news :=
  h.mono (L := 0) fun ad u hc => (World.cell?_of_block (hb.block ad.block (World.block_lt_of_cell? w ad hc))).trans hc
theorem below_grown {B : Nat} {a b : World} (h : a.grownBy b none) (hB : B ≤ a.heap.size) : Below B a b := (Below.refl B a).grown h hB (by intro k hk; cases hk)
set_option maxHeartbeats 1600000 in
set_option maxRecDepth 1000000 in
theorem both_any (a1 a2 : Option Addr) (n1 c1 n2 c2 : Nat) (x1 x2 : List Value) (w : World) (h1 : Src w a1 n1 x1) (h2 : Src w a2 n2 x2) (hn1 : n1 ≤ 1000000) (hn2 : n2 ≤ 1000000) :
    Calls Tryz.prog 23 #[.slice a1 n1 c1, .slice a2 n2 c2] w fun e w' => ∃ v', e = .returned v' ∧ w'.ownsRow w.heap.size 5 1 v' (n1 + n2) (x1 ++ x2) ∧ Below w.heap.size w w' := by
  obtain ⟨i0, hi, hz0, hz1, hz2⟩ := info_parts inf5
  obtain ⟨w1, hm, hown, hgrow⟩ := run_make_own (P := Tryz.prog) w w.heap.size 25 5 i0 (.int .u8 0) 1 Tryz.underlying25 hi hz0 hz1 .i64 .i64 (n1 + n2) (by rw [hz2]; omega) (by unfold maxLen; omega) (Nat.le_refl _)
  rw [Int.natCast_add] at hm
  have hb1 : Below w.heap.size w w1 := below_grown hgrow (Nat.le_refl _)
  have h1' : Src w1 a1 n1 x1 := h1.mono (L := 0) fun ad u h => hgrow.cell h (by simp)
  have h2' : Src w1 a2 n2 x2 := h2.mono (L := 0) fun ad u h => hgrow.cell h (by simp)
  have hs1 : w.heap.size ≤ w1.heap.size := hgrow.size
  go_enter Tryz.func23, Tryz.ntmps23
  go_wp2_with (at_builtin; refine wpList_append_src rfl _ _ rfl w.heap.size _ 0 [] rfl hown a1 n1 c1 x1 rfl h1' (by omega) hs1 ?_)
  intro v2 w2 hown2 hgrow2
  have hb2 : Below w.heap.size w w2 := hb1.grown hgrow2 hs1 (by intro k hk; simp [Value.ownBlock] at hk; omega)
  have h2'' : Src w2 a2 n2 x2 := h2.below hb2
  have hs2 : w.heap.size ≤ w2.heap.size := hb2.size
  have hlt := hown2.lt
  clear hgrow2 hown hgrow h1' h2' hb1 hm
  go_wp2_with (at_builtin; refine wpList_append_src rfl _ _ rfl w.heap.size _ n1 x1 rfl hown2 a2 n2 c2 x2 rfl h2'' (by omega) hs2 ?_)
  intro v3 w3 hown3 hgrow3
  have hb3 : Below w.heap.size w w3 := hb2.grown hgrow3 hs2 (by intro k hk; exact (hlt k hk).1)
  clear hgrow3 hown2 h2'' hb2
  go_wp2
  go_ret
  exact ⟨v3, rfl, hown3, hb3⟩
set_option maxHeartbeats 1600000 in
set_option maxRecDepth 1000000 in
theorem clone_any (a1 : Option Addr) (n1 c1 : Nat) (x1 : List Value) (w : World) (h1 : Src w a1 n1 x1) (hn1 : n1 ≤ 1000000) :
    Calls Tryz.prog 39 #[.slice a1 n1 c1] w fun e w' => ∃ v', e = .returned v' ∧ w'.ownsRow w.heap.size 5 1 v' n1 x1 ∧ Below w.heap.size w w' := by
  have q : ∀ (w : World) (a : Option Addr) (n c n' c' : Nat), (binOp .eql 25 (.slice a n c) (.slice none n' c')).run Tryz.prog w = .ok (.bool a.isNone) w := fun w a n c n' c' => Lib.run_eql_slice_nil w _ _ a n c n' c' Tryz.underlying25
  cases a1 with
  | none =>
    have hz : n1 = 0 ∧ x1 = [] := by
      obtain ⟨g1, _, g2 | ⟨ad, g2, _, _⟩⟩ := h1
      · obtain ⟨_, rfl⟩ := g2
        exact ⟨rfl, List.length_eq_zero_iff.1 g1⟩
      · cases g2
    obtain ⟨rfl, rfl⟩ := hz
    go_enter Tryz.func39, Tryz.ntmps39
    go_wp2
    go_ret
    exact ⟨_, rfl, World.ownsRow_nil _ _ _ _, Below.refl _ _⟩
  | some ad =>
    have hown0 : ∀ wr : World, w.heap.size ≤ wr.heap.size → (wr.alloc (.cells #[] 5)).ownsRow w.heap.size 5 1 (.slice (some ⟨wr.heap.size, 0, none⟩) 0 0) 0 [] := fun wr hs => World.ownsRow_made wr #[] 0 hs (Nat.zero_le _) (by simp)
    go_enter Tryz.func39, Tryz.ntmps39
    go_wp2_with (at_builtin; refine wpList_append_src rfl _ _ rfl w.heap.size _ 0 [] rfl (hown0 w (Nat.le_refl _)) (some ad) n1 c1 x1 rfl (h1.below ((Below.refl _ w).alloc (Nat.le_refl _) _)) (by omega) (by simp) ?_)
    intro v2 w2 hown2 hgrow2
    have hb2 : Below w.heap.size w w2 := ((Below.refl _ w).alloc (Nat.le_refl _) _).grown hgrow2 (by simp) (by intro k hk; simp [Value.ownBlock] at hk; omega)
    clear hgrow2 hown0
    go_wp2
    go_ret
    exact ⟨v2, rfl, by simpa using hown2, hb2⟩
theorem len_fact {I : Nat → List DV → DV} {l : List (List DV)} {n : Nat} {ds : List DV} {k : Nat} (h : den (rhoOf I ds) (.bin .lss (.ki .i64 (.ofNat n)) (.len (.v k))) = .bool false) (hk : ds.getD k (.bool false) = .list l) : l.length ≤ n := by
  simp only [den, rhoOf, hk, lenD, binD, DV.bool.injEq, decide_eq_false_iff_not] at h
  simp at h
  omega
/-- What lengths are asked of lists of bytes. -/
noncomputable def lenOK (k : Nat) : SX × Bool := (.bin .lss (.ki .i64 (.ofNat 1000000)) (.len (.v k)), false)
theorem fn23 (I : Nat → List DV → DV) : FnOK Tryz.prog G 23 [.one tB, .one tB] [.one tB] (fun ds => ∀ p ∈ [lenOK 0, lenOK 1], den (rhoOf I ds) p.1 = .bool p.2) F23 := by
  refine ⟨hasB_ok (by kernel_rfl), fun E ds vs w hE hr hpre _ => ?_⟩
  simp only [RepArgs, RepOne] at hr
  obtain ⟨_, _, v1, _, rfl, e1, ⟨d1, rfl, g1⟩, _, _, v2, _, rfl, rfl, ⟨d2, rfl, g2⟩, rfl, rfl⟩ := hr
  obtain ⟨l1, a1, c1, rfl, m1, i1, rfl, k1, _, s1⟩ := src_of hE g1
  obtain ⟨l2, a2, c2, rfl, m2, i2, rfl, k2, _, s2⟩ := src_of hE g2
  have hvs : vs = #[.slice a1 l1.length c1, .slice a2 l2.length c2] := Array.toList_inj.1 e1
  subst hvs
  have b1 : l1.length ≤ 1000000 := by
    have := len_fact (l := l1.map fun x => [x]) (hpre (lenOK 0) (by simp)) (by simp)
    simpa using this
  have b2 : l2.length ≤ 1000000 := by
    have := len_fact (l := l2.map fun x => [x]) (hpre (lenOK 1) (by simp)) (by simp)
    simpa using this
  refine (both_any a1 a2 _ c1 _ c2 _ _ w s1 s2 b1 b2).mono ?_
  rintro e w' ⟨v', rfl, hown, hb⟩
  rw [← List.length_append, ← List.map_append] at hown
  obtain ⟨E', hg, hrep⟩ := own_rep hE hb (ds := l1 ++ l2) (fun x hx => (List.mem_append.1 hx).elim (i1 x) (i2 x)) (by rw [List.length_append]; unfold maxLen; omega) hown
  refine ⟨v', E', rfl, hg, ?_⟩
  simp only [RepRes, RepOne]
  exact ⟨_, rfl, .list ((l1 ++ l2).map fun x => [x]), by simp [lD], hrep⟩
def F39 (ds : List DV) : List (List DV) := [[.list (lD ds 0)]]
theorem fn39 (I : Nat → List DV → DV) : FnOK Tryz.prog G 39 [.one tB] [.one tB] (fun ds => ∀ p ∈ [lenOK 0], den (rhoOf I ds) p.1 = .bool p.2) F39 := by
  refine ⟨hasB_ok (by kernel_rfl), fun E ds vs w hE hr hpre _ => ?_⟩
  simp only [RepArgs, RepOne] at hr
  obtain ⟨_, _, v1, _, rfl, e1, ⟨d1, rfl, g1⟩, rfl, rfl⟩ := hr
  obtain ⟨l1, a1, c1, rfl, m1, i1, rfl, k1, _, s1⟩ := src_of hE g1
  have hvs : vs = #[.slice a1 l1.length c1] := Array.toList_inj.1 e1
  subst hvs
  have b1 : l1.length ≤ 1000000 := by
    have := len_fact (l := l1.map fun x => [x]) (hpre (lenOK 0) (by simp)) (by simp)
    simpa using this
  refine (clone_any a1 _ c1 _ w s1 b1).mono ?_
  rintro e w' ⟨v', rfl, hown, hb⟩
  obtain ⟨E', hg, hrep⟩ := own_rep hE hb i1 m1 hown
  refine ⟨v', E', rfl, hg, ?_⟩
  simp only [RepRes, RepOne]
  exact ⟨_, rfl, .list (l1.map fun x => [x]), by simp [lD], hrep⟩
end Go.Proofs.YtlhdmgmjpnocjaaGreatDoor
namespace Go.Proofs.YtlhdmgmjpnocjaaGreatDoor
open Go Go.AM Go.RowKit
/-- Bytes that stand in a row. -/
theorem Src.at {w : World} {a : Option Addr} {n : Nat} {x : List Int} (h : Src w a n (x.map (Value.int .u8))) (hn : 0 < n) : ∃ b o, a = some ⟨b, o, none⟩ ∧ ∀ k z, x[k]? = some z → w.cell? ⟨b, o + k, none⟩ = some (.int .u8 z) := by
  obtain ⟨_, _, ⟨_, h0⟩ | ⟨ad, rfl, h5, h4⟩⟩ := h
  · omega
  · rcases h5 with h5 | ⟨b, o, rfl⟩
    · omega
    · refine ⟨b, o, rfl, fun k z hk => ?_⟩
      have := h4 k (.int .u8 z) (by rw [List.getElem?_map, hk]; rfl)
      rwa [add_plain] at this
set_option maxHeartbeats 1600000 in
set_option maxRecDepth 1000000 in
theorem same_any (a1 a2 : Option Addr) (n1 c1 n2 c2 : Nat) (x1 x2 : List Int) (w : World) (h1 : Src w a1 n1 (x1.map (Value.int .u8))) (h2 : Src w a2 n2 (x2.map (Value.int .u8))) (hn1 : n1 ≤ 1000000) (hn2 : n2 ≤ 1000000) :
    Calls Tryz.prog 10 #[.slice a1 n1 c1, .slice a2 n2 c2] w fun e w' => e = .returned (.bool (decide (x1 = x2))) ∧ Below w.heap.size w w' := by
  have e1 : x1.length = n1 := by simpa using h1.1
  have e2 : x2.length = n2 := by simpa using h2.1
  by_cases hn : n1 = n2
  · subst hn
    rcases Nat.eq_zero_or_pos n1 with rfl | hpos
    · have : x1 = x2 := by rw [List.length_eq_zero_iff.1 e1, List.length_eq_zero_iff.1 e2]
      go_enter Tryz.func10, Tryz.ntmps10
      go_wp2
      go_loopw [13] (fun i wr => i = .int .i64 0 ∧ wr = w) (fun _ _ => 0)
      case atStart => exact ⟨rfl, rfl⟩
      case round =>
        obtain ⟨rfl, rfl⟩ := hrel
        go_wp2
        go_ret
        exact ⟨by simp [this], Below.refl _ _⟩
    · obtain ⟨b1, o1, rfl, g1⟩ := h1.at hpos
      obtain ⟨b2, o2, rfl, g2⟩ := h2.at hpos
      clear h1 h2
      go_enter Tryz.func10, Tryz.ntmps10
      go_wp2
      go_loopw [13] (fun i wr => ∃ k : Nat, k ≤ n1 ∧ i = .int .i64 k ∧ Below w.heap.size w wr ∧ x1.take k = x2.take k) (fun i _ => n1 - (intOf i).toNat)
      case atStart => exact ⟨0, Nat.zero_le _, rfl, Below.refl _ _, by simp⟩
      case round =>
        obtain ⟨k, hk, rfl, hb, heq⟩ := hrel
        rcases Nat.lt_or_ge k n1 with hlt | hge
        · have q1 : x1[k]? = some x1[k] := List.getElem?_eq_getElem (by omega)
          have q2 : x2[k]? = some x2[k] := List.getElem?_eq_getElem (by omega)
          have r1 := (World.cell?_of_block (hb.block _ (World.block_lt_of_cell? w _ (g1 k _ q1)))).trans (g1 k _ q1)
          have r2 := (World.cell?_of_block (hb.block _ (World.block_lt_of_cell? w _ (g2 k _ q2)))).trans (g2 k _ q2)
          generalize hz1 : x1[k] = z1 at r1 q1
          generalize hz2 : x2[k] = z2 at r2 q2
          by_cases hz : z1 = z2
          · subst hz
            have heq' : x1.take (k + 1) = x2.take (k + 1) := by rw [List.take_succ, List.take_succ, heq, q1, q2]
            go_wp2
            go_region
            all_goals
              go_wp2
              go_roundw
              case rel => exact ⟨k + 1, by omega, by simp, hb.drew, heq'⟩
              case measure => simp [intOf]; omega
          · have hne : x1 ≠ x2 := by
              rintro rfl
              rw [q1] at q2
              exact hz (by simpa using q2)
            go_wp2
            go_region
            all_goals
              go_wp2
              go_ret
              exact ⟨by simp [hne], hb.drew⟩
        · have hkn : k = n1 := by omega
          subst hkn
          have : x1 = x2 := by
            rw [List.take_of_length_le (by omega), List.take_of_length_le (by omega)] at heq
            exact heq
          go_wp2
          go_ret
          exact ⟨by simp [this], hb⟩
  · go_enter Tryz.func10, Tryz.ntmps10
    go_wp2
    go_ret
    refine ⟨?_, Below.refl _ _⟩
    have : x1 ≠ x2 := fun e => hn (by rw [← e1, ← e2, e])
    simp [this]
end Go.Proofs.YtlhdmgmjpnocjaaGreatDoor
namespace Go.Proofs.YtlhdmgmjpnocjaaGreatDoor
open Go Go.AM
def bytesI (l : List Int) : List (List DV) := l.map fun z => [DV.int .u8 z]
def intOfRow : List DV → Int
  | [.int _ z] => z
  | _ => 0
def intsD (ds : List DV) (k : Nat) : List Int := (lD ds k).map intOfRow
theorem ints_bytes (l : List Int) : (bytesI l).map intOfRow = l := by
  unfold bytesI
  rw [List.map_map]
  conv => rhs; rw [← List.map_id l]
  exact List.map_congr_left fun z _ => rfl
/-- The bytes of a string. -/
def strI (t : ByteArray) : List Int := t.data.toList.map fun b => (b.toNat : Int)
/-- The string of bytes. -/
def textI (l : List Int) : ByteArray := ⟨(l.map fun z => UInt8.ofNat z.toNat).toArray⟩
/-- A transaction's bytes. -/
def encI (c s : Int) (t : ByteArray) : List Int := [c % 256, s / 16777216 % 256, s / 65536 % 256, s / 256 % 256, s % 256] ++ strI t
def F5 (ds : List DV) : List (List DV) := if txB (iD ds 0) (iD ds 1) (sD ds 2) then [[.list (bytesI (encI (iD ds 0) (iD ds 1) (sD ds 2)))], [.int .i64 0]] else [[.list []], [.int .i64 270]]
def F11 (ds : List DV) : List (List DV) := [[.list (bytesI (encI (iD ds 0) (iD ds 1) (sD ds 2)))]]
def noTx (e : Int) : List (List DV) := [[.int .i64 0, .int .u32 0, .str (bstr #[])], [.int .i64 e]]
/-- The transaction of bytes. -/
def decF : List Int → List (List DV)
  | a :: b :: c :: d :: e :: r => if txB a (((b * 256 + c) * 256 + d) * 256 + e) (textI r) then [[.int .i64 a, .int .u32 (((b * 256 + c) * 256 + d) * 256 + e), .str (textI r)], [.int .i64 0]] else noTx 270
  | _ => noTx 7
def F6 (ds : List DV) : List (List DV) := decF (intsD ds 0)
def F10 (ds : List DV) : List (List DV) := [[.bool (decide (intsD ds 0 = intsD ds 1))]]
def F3 (_ : List DV) : List (List DV) := [[.bool true]]
noncomputable def theI : Nat → List DV → DV
  | 4, ds => .list (F4 ds)
  | 5, ds => .list (F5 ds)
  | 6, ds => .list (F6 ds)
  | 7, ds => .list (F6 ds)
  | 8, ds => .list (F8 ds)
  | 9, ds => .list (F9 ds)
  | 10, ds => .list (F10 ds)
  | 11, ds => .list (F11 ds)
  | 23, ds => .list (F23 ds)
  | 39, ds => .list (F39 ds)
  | _, _ => .bool false
noncomputable def spL [O : Orc] : FuncId → Option (List AV → AHeap → Out)
  | 4 => some (symSp [] [.one .bool] [] 4)
  | 5 => some (symSp [.agg tTx] [.one tB, .one tI] [] 5)
  | 6 => some (symSp [.one tB] [.agg tTx, .one tI] [lenOK 0] 6)
  | 7 => some (symSp [.one tB] [.agg tTx, .one tI] [] 7)
  | 8 => some (symSp [.agg tTx] [.one .bool] [] 8)
  | 9 => some (symSp [.agg tTx] [.one tI] [] 9)
  | 10 => some (symSp [.one tB, .one tB] [.one .bool] [lenOK 0, lenOK 1] 10)
  | 11 => some (symSp [.agg tTx] [.one tB] [lenOK 2] 11)
  | _ => none
noncomputable def spM [O : Orc] : FuncId → Option (List AV → AHeap → Out)
  | 23 => some (iceSp [some tU8, some tU8] (symSp [.one tB, .one tB] [.one tB] [lenOK 0, lenOK 1] 23))
  | 39 => some (symSp [.one tB] [.one tB] [lenOK 0] 39)
  | _ => none
theorem fn10 (I : Nat → List DV → DV) : FnOK Tryz.prog G 10 [.one tB, .one tB] [.one .bool] (fun ds => ∀ p ∈ [lenOK 0, lenOK 1], den (rhoOf I ds) p.1 = .bool p.2) F10 := by
  refine ⟨hasB_ok (by kernel_rfl), fun E ds vs w hE hr hpre _ => ?_⟩
  simp only [RepArgs, RepOne] at hr
  obtain ⟨_, _, v1, _, rfl, e1, ⟨d1, rfl, g1⟩, _, _, v2, _, rfl, rfl, ⟨d2, rfl, g2⟩, rfl, rfl⟩ := hr
  obtain ⟨l1, a1, c1, rfl, m1, i1, rfl, k1, _, s1⟩ := src_of hE g1
  obtain ⟨l2, a2, c2, rfl, m2, i2, rfl, k2, _, s2⟩ := src_of hE g2
  have hvs : vs = #[.slice a1 l1.length c1, .slice a2 l2.length c2] := Array.toList_inj.1 e1
  subst hvs
  have b1 : l1.length ≤ 1000000 := by
    have := len_fact (l := l1.map fun x => [x]) (hpre (lenOK 0) (by simp)) (by simp)
    simpa using this
  have b2 : l2.length ≤ 1000000 := by
    have := len_fact (l := l2.map fun x => [x]) (hpre (lenOK 1) (by simp)) (by simp)
    simpa using this
  have asI : ∀ l : List DV, (∀ x ∈ l, ∃ z, x = .int .u8 z ∧ IntKind.min .u8 ≤ z ∧ z ≤ IntKind.max .u8) → ∃ z : List Int, l = z.map (DV.int .u8) := by
    intro l
    induction l with
    | nil => intro _; exact ⟨[], rfl⟩
    | cons x l ih =>
      intro h
      obtain ⟨z, rfl, _⟩ := h x (by simp)
      obtain ⟨zs, rfl⟩ := ih fun y hy => h y (List.mem_cons_of_mem _ hy)
      exact ⟨z :: zs, rfl⟩
  obtain ⟨z1, rfl⟩ := asI l1 i1
  obtain ⟨z2, rfl⟩ := asI l2 i2
  have hv : ∀ z : List Int, (z.map (DV.int .u8)).map valD = z.map (Value.int .u8) := fun z => by rw [List.map_map]; rfl
  rw [hv] at s1 s2
  refine (same_any a1 a2 _ c1 _ c2 z1 z2 w s1 s2 b1 b2).mono ?_
  rintro e w' ⟨rfl, hb⟩
  refine ⟨_, E, rfl, ⟨fun b o h => h, fun b o h => ⟨?_, .inl h⟩, fun b hlt => hb.block b hlt, io_of hb.os hb.output⟩, ?_⟩
  · have h1 := hE b o h
    rw [hb.block b (Array.getElem?_eq_some_iff.1 h1).1]
    exact h1
  · simp only [RepRes, RepOne, Rep]
    refine ⟨_, rfl, _, rfl, _, ?_, rfl⟩
    have hi : ∀ z : List Int, ((z.map (DV.int .u8)).map fun x => [x]).map intOfRow = z := by
      intro z
      rw [List.map_map, List.map_map]
      conv => rhs; rw [← List.map_id z]
      exact List.map_congr_left fun z _ => rfl
    simp only [intsD, lD, List.flatten_cons, List.flatten_nil, List.singleton_append, List.append_nil, List.getD_cons_zero, List.getD_cons_succ, hi]
end Go.Proofs.YtlhdmgmjpnocjaaGreatDoor
