/-
  A part of the proof of QueryValues (the machine on named data, and the contracts of the functions that the law reaches): AmSym AmSym2 AmSym3 AmSym4 AmSym5.
-/
import Derived.DeepKeys
import Derived.Laws.StructEq
import Derived.DeepKeys3
import Derived.MapKept
import Derived.Test.YtholilpmihngaaaGreatDoorAmC
set_option linter.all false
set_option linter.unusedVariables false
set_option linter.unusedSimpArgs false
set_option linter.unusedSectionVars false
namespace Go.AM
open Go

section
variable {P : Program} {m : Env} {h : AHeap} {w : World}

theorem resB_sound [O : Orc] (hF : FactsOK m.R) {a : AV} {v : Value} (hv : V m a v) : V m (resB a) v := by
  unfold resB
  split
  · rename_i e
    split
    · rename_i b hb
      simp only [V, Rep] at hv ⊢
      obtain ⟨c, h1, rfl⟩ := hv
      rw [look_den hF hb] at h1
      cases h1
      rfl
    · exact hv
  · exact hv

/-- What a name of a plain kind says. -/
def Plain (R : Rho) (t : Ty) (e : SX) (v : Value) : Prop :=
  match t with
  | .int k => ∃ z, den R e = .int k z ∧ v = .int k z
  | .bool => ∃ b, den R e = .bool b ∧ v = .bool b
  | .str => ∃ s, den R e = .str s ∧ v = .string s
  | .slice _ => True

theorem Rep.plain {R : Rho} {t : Ty} {e : SX} {v : Value} (h : Rep m t (den R e) v) : Plain R t e v := by
  cases t with
  | int k => simp only [Rep] at h; obtain ⟨z, h1, h2, _⟩ := h; exact ⟨z, h1, h2⟩
  | bool => simp only [Rep] at h; exact h
  | str => simp only [Rep] at h; obtain ⟨s, h1, h2, _⟩ := h; exact ⟨s, h1, h2⟩
  | slice cs => trivial

theorem asSX_spec {a : AV} {t : Ty} {e : SX} {v : Value} (h : asSX a = some (t, e)) (hv : V m a v) : Plain m.R t e v := by
  unfold asSX at h
  split at h <;> simp only [Option.some.injEq, Prod.mk.injEq, reduceCtorEq] at h
  · obtain ⟨rfl, rfl⟩ := h
    simp only [V] at hv
    exact hv.plain
  all_goals
    obtain ⟨rfl, rfl⟩ := h
    simp only [V] at hv
    subst hv
    exact ⟨_, rfl, rfl⟩

theorem intSX_spec {a : AV} {e : SX} {v : Value} (h : intSX a = some e) (hv : V m a v) : ∃ k z, den m.R e = .int k z ∧ v = .int k z := by
  unfold intSX at h
  split at h
  · rename_i k e' he
    simp only [Option.some.injEq] at h
    subst h
    obtain ⟨z, h1, h2⟩ := asSX_spec he hv
    exact ⟨k, z, h1, h2⟩
  · cases h

theorem eqD_self (d : DV) (h : (∃ k z, d = .int k z) ∨ (∃ b, d = .bool b) ∨ ∃ s, d = .str s) : binD .eql d d = .bool true := by
  rcases h with ⟨k, z, rfl⟩ | ⟨b, rfl⟩ | ⟨s, rfl⟩ <;> simp [binD]

theorem eqS_den {R : Rho} {x y : SX} (h : (∃ k z, den R x = .int k z) ∨ (∃ b, den R x = .bool b) ∨ ∃ s, den R x = .str s) : den R (eqS x y) = binD .eql (den R x) (den R y) := by
  unfold eqS
  split
  · rename_i e
    rw [← eqSX_eq e, eqD_self _ h]
    rfl
  · rfl

theorem leS_sound [O : Orc] (hF : FactsOK m.R) {x y : SX} (hl : leS x y = true) {k l : IntKind} {a b : Int} (hx : den m.R x = .int k a) (hy : den m.R y = .int l b) : a ≤ b := by
  unfold leS at hl
  split at hl
  · simp only [den, DV.int.injEq] at hx hy
    obtain ⟨rfl, rfl⟩ := hx
    obtain ⟨rfl, rfl⟩ := hy
    have := Nat.le_of_ble_eq_true hl
    simp only [Int.ofNat_eq_natCast]
    omega
  · rename_i e
    simp only [den, DV.int.injEq] at hx
    obtain ⟨rfl, rfl⟩ := hx
    simp only [den] at hy
    unfold lenD at hy
    split at hy <;> simp only [DV.int.injEq, reduceCtorEq] at hy
    · obtain ⟨_, rfl⟩ := hy; simp
    · obtain ⟨_, rfl⟩ := hy; simp
  · simp only [Bool.or_eq_true] at hl
    rcases hl with hl | hl
    · rw [eqSX_eq hl, hy] at hx
      cases hx
      omega
    · split at hl
      · rename_i hk
        have := look_den hF hk
        simp only [den, hx, hy, binD, DV.bool.injEq, decide_eq_true_eq] at this
        omega
      · split at hl
        · rename_i hk
          have := look_den hF hk
          simp only [den, hx, hy, binD, DV.bool.injEq, decide_eq_false_iff_not] at this
          omega
        · cases hl

/-! ### Rows that go by a name -/

theorem rowsOf_length (e : SX) (cs : List Ty) : ∀ (n i : Nat), (rowsOf e cs i n).length = n
  | 0, _ => rfl
  | n + 1, i => by simp [rowsOf, rowsOf_length e cs n]
theorem rowsOf_get (e : SX) (cs : List Ty) : ∀ (n i j : Nat), j < n → (rowsOf e cs i n)[j]? = some (elemCells e (.ki .i64 (.ofNat (i + j))) 0 cs)
  | n + 1, i, 0, _ => by simp [rowsOf]
  | n + 1, i, j + 1, h => by
    rw [rowsOf, List.getElem?_cons_succ, rowsOf_get e cs n (i + 1) j (by omega)]
    rw [show i + 1 + j = i + (j + 1) by omega]
theorem rowsOf_drop (e : SX) (cs : List Ty) : ∀ (l n i : Nat), (rowsOf e cs i n).drop l = rowsOf e cs (i + l) (n - l)
  | 0, n, i => by simp
  | l + 1, 0, i => by simp [rowsOf]
  | l + 1, n + 1, i => by
    rw [rowsOf, List.drop_succ_cons, rowsOf_drop e cs l n (i + 1)]
    rw [show i + 1 + l = i + (l + 1) by omega, show n + 1 - (l + 1) = n - l by omega]
theorem rowsOf_take (e : SX) (cs : List Ty) : ∀ (u n i : Nat), (rowsOf e cs i n).take u = rowsOf e cs i (min u n)
  | 0, n, i => by simp [rowsOf]
  | u + 1, 0, i => by simp [rowsOf]
  | u + 1, n + 1, i => by
    rw [rowsOf, List.take_succ_cons, rowsOf_take e cs u n (i + 1)]
    rw [show min (u + 1) (n + 1) = min u n + 1 by omega, rowsOf]

theorem elemCells_length (e i : SX) : ∀ (cs : List Ty) (k : Nat), (elemCells e i k cs).length = cs.length
  | [], _ => rfl
  | t :: ts, k => by simp [elemCells, elemCells_length e i ts]

theorem RepL.length {b : Nat} : ∀ {ts : List Ty} {ds : List DV} {o : Nat}, RepL m ts ds b o → ds.length = ts.length
  | [], ds, o, h => by simp only [RepL] at h; simp [h]
  | t :: ts, ds, o, h => by
    simp only [RepL] at h
    obtain ⟨d, rest, v, rfl, _, _, h4⟩ := h
    simp [h4.length]

theorem VC_elem {e i : SX} {es : List (List DV)} {row : List DV} {k0 : IntKind} {j : Nat} (he : den m.R e = .list es) (hi : den m.R i = .int k0 (j : Int)) (hj : es[j]? = some row) {b : Nat} :
    ∀ {ts : List Ty} {k o : Nat} {ds : List DV}, row.drop k = ds → (RepL m ts ds b o ↔ VC m b o (elemCells e i k ts) ∧ ds.length = ts.length)
  | [], k, o, ds, hd => by simp [RepL, elemCells, VC]
  | t :: ts, k, o, ds, hd => by
    have hden : den m.R (.at e i k) = row.getD k (.bool false) := by
      simp only [den, he, hi, atD, Int.toNat_natCast, List.getD_eq_getElem?_getD, hj, Option.getD_some]
    simp only [RepL, elemCells, VC, V]
    constructor
    · rintro ⟨d, rest, v, rfl, h1, h2, h3⟩
      have hr : row.drop (k + 1) = rest := by rw [← List.drop_drop, hd]; rfl
      have hk : row.getD k (.bool false) = d := by
        have : row[k]? = some d := by
          have := congrArg (·[0]?) hd
          simpa using this
        simp [List.getD_eq_getElem?_getD, this]
      obtain ⟨h4, h5⟩ := (VC_elem he hi hj (b := b) hr).1 h3
      exact ⟨⟨⟨v, h1, by rw [hden, hk]; exact h2⟩, h4⟩, by simp [h5]⟩
    · rintro ⟨⟨⟨v, h1, h2⟩, h3⟩, h4⟩
      cases ds with
      | nil => simp at h4
      | cons d rest =>
        have hr : row.drop (k + 1) = rest := by rw [← List.drop_drop, hd]; rfl
        have hk : row.getD k (.bool false) = d := by
          have : row[k]? = some d := by
            have := congrArg (·[0]?) hd
            simpa using this
          simp [List.getD_eq_getElem?_getD, this]
        rw [hden, hk] at h2
        exact ⟨d, rest, v, rfl, h1, h2, (VC_elem he hi hj (b := b) hr).2 ⟨h3, by simpa using h4⟩⟩

theorem VR_at {b sz : Nat} : ∀ {es : List (List AV)} {o i : Nat} {e : List AV}, VR m b sz o es → es[i]? = some e → e.length = sz ∧ VC m b (o + i * sz) e
  | x :: xs, o, 0, e, h, hi => by
    simp only [VR] at h
    simp only [List.getElem?_cons_zero, Option.some.injEq] at hi
    subst hi
    simpa using ⟨h.1, h.2.1⟩
  | x :: xs, o, i + 1, e, h, hi => by
    simp only [VR] at h
    rw [List.getElem?_cons_succ] at hi
    have := VR_at h.2.2 hi
    rw [show o + (i + 1) * sz = o + sz + i * sz by rw [Nat.add_mul, Nat.one_mul]; omega]
    exact this
theorem VR_mk {b sz : Nat} : ∀ {es : List (List AV)} {o : Nat}, (∀ i e, es[i]? = some e → e.length = sz ∧ VC m b (o + i * sz) e) → VR m b sz o es
  | [], o, h => by simp [VR]
  | x :: xs, o, h => by
    simp only [VR]
    have h0 := h 0 x rfl
    refine ⟨h0.1, by simpa using h0.2, VR_mk fun i e hi => ?_⟩
    have := h (i + 1) e (by simpa using hi)
    rw [show o + (i + 1) * sz = o + sz + i * sz by rw [Nat.add_mul, Nat.one_mul]; omega] at this
    exact this

/-- A slice under a name, as a slice of known cells. -/
theorem sy_fsl {cs : List Ty} {e : SX} {v : Value} (hv : Rep m (.slice cs) (den m.R e) v) : ∃ es : List (List DV), den m.R e = .list es ∧ es.length ≤ maxLen ∧ V m (.fsl cs.length false (rowsOf e cs 0 es.length)) v ∧ ∀ (i : Nat) (row : List DV), es[i]? = some row → row.length = cs.length ∨ es.length = 0 ∨ v = .slice none 0 0 := by
  simp only [Rep] at hv
  obtain ⟨es, a, c, h1, rfl, h3, h4, h5, h6⟩ := hv
  refine ⟨es, h1, h4, ?_, ?_⟩
  · simp only [V]
    rw [rowsOf_length]
    refine ⟨a, c, rfl, h3, (fun e => by cases e), h5, ?_⟩
    rcases h6 with h6 | ⟨b, o, e1, h7⟩
    · exact .inl h6
    · refine .inr ⟨b, o, e1, VR_mk fun i x hi => ?_⟩
      have hlt : i < es.length := by
        have := (List.getElem?_eq_some_iff.1 hi).1
        rwa [rowsOf_length] at this
      rw [rowsOf_get _ _ _ _ _ hlt, Option.some.injEq] at hi
      subst hi
      refine ⟨elemCells_length _ _ _ _, ?_⟩
      have hrow : es[i]? = some es[i] := List.getElem?_eq_getElem hlt
      refine ((VC_elem (ts := cs) (k := 0) (ds := es[i]) h1 (j := i) (k0 := .i64) ?_ hrow (List.drop_zero) (b := b) (o := o + i * cs.length)).1 (h7 i _ hrow)).1
      simp [den]
  · intro i row hi
    rcases h6 with h6 | ⟨b, o, e1, h7⟩
    · have := h6
      exact .inr (.inl (by omega))
    · exact .inl (h7 i row hi).length

theorem fsl_sy {cs : List Ty} {e e' : SX} {es : List (List DV)} {l n : Nat} {ex : Bool} {v : Value} (he : den m.R e = .list es) (hle : l + n ≤ es.length) (hes : es.length ≤ maxLen) (hrow : ∀ (i : Nat) (row : List DV), es[i]? = some row → row.length = cs.length)
    (he' : den m.R e' = .list ((es.drop l).take n)) (hv : V m (.fsl cs.length ex (rowsOf e cs l n)) v) : Rep m (.slice cs) (den m.R e') v := by
  simp only [V] at hv
  obtain ⟨a, c, rfl, h2, h3, h4, h5⟩ := hv
  rw [rowsOf_length] at h2 h3 ⊢
  simp only [Rep]
  have hln : ((es.drop l).take n).length = n := by simp; omega
  refine ⟨(es.drop l).take n, a, c, he', by rw [hln], by omega, by omega, h4, ?_⟩
  rcases h5 with h5 | ⟨b, o, e1, h6⟩
  · exact .inl h5
  · refine .inr ⟨b, o, e1, fun i row hi => ?_⟩
    have hlt : i < n := by
      have := (List.getElem?_eq_some_iff.1 hi).1
      omega
    rw [List.getElem?_take_of_lt hlt, List.getElem?_drop] at hi
    have := (VR_at h6 (rowsOf_get e cs n l i hlt)).2
    exact (VC_elem (ts := cs) (k := 0) (ds := row) he (j := l + i) (k0 := .i64) (by simp [den]) hi (List.drop_zero) (b := b) (o := o + i * cs.length)).2 ⟨this, hrow _ _ hi⟩
end
end Go.AM
namespace Go.AM
open Go

section
variable {P : Program} {m : Env} {h : AHeap} {w : World}

theorem wrap_in (k : IntKind) (z : Int) : k.min ≤ k.wrap z ∧ k.wrap z ≤ k.max := by
  unfold IntKind.min IntKind.max IntKind.wrap
  have hb : (0 : Int) < 2 ^ (k.bits - 1) ∧ (2 : Int) ^ k.bits = 2 * 2 ^ (k.bits - 1) := by cases k <;> decide
  generalize (2 : Int) ^ (k.bits - 1) = B at hb ⊢
  rw [hb.2]
  have h1 := Int.emod_nonneg z (show (2 * B : Int) ≠ 0 by omega)
  have h2 := Int.emod_lt_of_pos z (show (0 : Int) < 2 * B by omega)
  cases k.signed
  · simp only [Bool.false_and, Bool.false_eq_true, if_false]
    omega
  · simp only [Bool.true_and, if_true, decide_eq_true_eq]
    split <;> omega

theorem ieq (a b : Int) : (a == b) = decide (a = b) := Bool.eq_iff_iff.2 (by simp)
theorem ile (a b : Int) : decide (a ≤ b) = !decide (b < a) := by
  by_cases h : a ≤ b
  · have : ¬ b < a := by omega
    simp [h, this]
  · have : b < a := by omega
    simp [h, this]

theorem cmpS_den {R : Rho} {op : BinOp} {x y e : SX} {k : IntKind} {a b : Int} (h : cmpS op x y = some e) (hx : den R x = .int k a) (hy : den R y = .int k b) :
    ∃ c, den R e = .bool c ∧ (Op.intCmp op a b) = pure (.bool c) := by
  have hq : den R (eqS x y) = .bool (decide (a = b)) := by
    rw [eqS_den (.inl ⟨_, _, hx⟩), hx, hy]; simp [binD]
  cases op <;> simp only [cmpS, Option.some.injEq, reduceCtorEq] at h <;> subst h
  case eql => exact ⟨_, hq, by simp only [Op.intCmp, ieq]⟩
  case neq => exact ⟨!decide (a = b), by simp [den, hq, notD], by simp only [Op.intCmp, bne, ieq]⟩
  case lss => exact ⟨_, by simp [den, hx, hy, binD]; rfl, by simp only [Op.intCmp]⟩
  case leq => exact ⟨!decide (b < a), by simp [den, hx, hy, binD, notD], by simp only [Op.intCmp, ile]⟩
  case gtr => exact ⟨_, by simp [den, hx, hy, binD]; rfl, by simp only [Op.intCmp, gt_iff_lt]⟩
  case geq => exact ⟨!decide (a < b), by simp [den, hx, hy, binD, notD], by simp only [Op.intCmp, ge_iff_le, ile]⟩

theorem run_bin_int {op : BinOp} {t : TypeId} {p q : Operand} {k : IntKind} {a b : Int} {s : Sem Value} {z : Value} (hs : binOp op t (.int k a) (.int k b) = s) (hz : s = pure z) :
    ((do eqGuard op t p q (.int k a) (.int k b); binOp op t (.int k a) (.int k b)) : Sem Value).run P w = .ok z w := by
  rw [hs, hz]
  have : (eqGuard op t p q (.int k a) (.int k b)).run P w = .ok () w := by
    unfold eqGuard
    cases op <;> simp
  rw [Sem.run_bind, this]
  simp

theorem str_eq (a b : ByteArray) : (a.toList == b.toList) = decide (a = b) := by
  rw [ByteArray.toList_eq, ByteArray.toList_eq]
  by_cases e : a = b
  · simp [e]
  · have : ¬ a.data = b.data := fun h => e (bytes_ext (by rw [h]))
    simp [e, this]

theorem run_bin_str {op : BinOp} {t : TypeId} {p q : Operand} {a b : ByteArray} {z : Value} (hz : Op.stringOp op a b = pure z) (hop : op ≠ .shl ∧ op ≠ .shr) :
    ((do eqGuard op t p q (.string a) (.string b); binOp op t (.string a) (.string b)) : Sem Value).run P w = .ok z w := by
  have hb : binOp op t (.string a) (.string b) = Op.stringOp op a b := by
    cases op <;> simp [binOp]
  rw [hb, hz]
  have : (eqGuard op t p q (.string a) (.string b)).run P w = .ok () w := by
    unfold eqGuard
    cases op <;> simp
  rw [Sem.run_bind, this]
  simp

/-! ### The plain cells of a value -/
def litD : DV → Lit
  | .int k z => .int k z
  | .bool b => .bool b
  | .str s => .string s.data.toList
  | .list _ => .bool false

def plainD : DV → Prop
  | .list _ => False
  | _ => True

theorem litD_inj {a b : DV} (ha : plainD a) (hb : plainD b) (h : litD a = litD b) : a = b := by
  cases a <;> cases b <;> simp only [litD, plainD, reduceCtorEq, Lit.int.injEq, Lit.bool.injEq, Lit.string.injEq] at *
  · rw [h.1, h.2]
  · rw [h]
  · rw [bytes_ext h]

theorem inR_spec {k : IntKind} {z : Int} (h : inR k z = true) : k.min ≤ z ∧ z ≤ k.max := by
  unfold inR at h
  split at h
  · rename_i n
    have := blt_lt h
    cases k <;> simp [lim, IntKind.min, IntKind.max, IntKind.signed, IntKind.bits] at * <;> omega
  · rename_i n
    simp only [Bool.and_eq_true] at h
    have := blt_lt h.2
    cases k <;> simp [lim, IntKind.min, IntKind.max, IntKind.signed, IntKind.bits] at * <;> omega

theorem wf_int {k : IntKind} {z : Int} (h1 : k.min ≤ z) (h2 : z ≤ k.max) : (Lit.int k z).wf = true := by
  simp [Lit.wf]
  exact ⟨h1, h2⟩

theorem cellSX_int {q : IntKind} {a : AV} {e : SX} {v : Value} (h : cellSX (.int q) a = some e) (hv : V m a v) : ∃ z, den m.R e = .int q z ∧ v = .int q z ∧ q.min ≤ z ∧ z ≤ q.max := by
  unfold cellSX at h
  split at h <;> (try (cases h; done)) <;> (try (rename_i hq; cases hq; done))
  · rename_i k l e' heq
    cases heq
    split at h
    · rename_i hk
      cases h
      cases eqK_eq hk
      simpa only [V, Rep] using hv
    · cases h
  · rename_i k l z heq
    cases heq
    split at h
    · rename_i hk
      cases h
      simp only [Bool.and_eq_true] at hk
      cases eqK_eq hk.1
      simp only [V] at hv
      exact ⟨z, rfl, hv, inR_spec hk.2⟩
    · cases h
theorem cellSX_bool {a : AV} {e : SX} {v : Value} (h : cellSX .bool a = some e) (hv : V m a v) : ∃ b, den m.R e = .bool b ∧ v = .bool b := by
  unfold cellSX at h
  split at h <;> (try (cases h; done)) <;> (try (rename_i heq; cases heq; done))
  · cases h
    simpa only [V, Rep] using hv
  · cases h
    simp only [V] at hv
    exact ⟨_, rfl, hv⟩
theorem cellSX_str {a : AV} {e : SX} {v : Value} (h : cellSX .str a = some e) (hv : V m a v) : ∃ s, den m.R e = .str s ∧ v = .string s ∧ s.size ≤ maxLen := by
  unfold cellSX at h
  split at h <;> (try (cases h; done)) <;> (try (rename_i heq; cases heq; done))
  · cases h
    simpa only [V, Rep] using hv
  · split at h
    · rename_i hs
      cases h
      simp only [V] at hv
      exact ⟨_, rfl, hv, Nat.le_of_ble_eq_true hs⟩
    · cases h

/-- What symLits says: the same cells are the literals of the key. -/
def Lits (m : Env) (xs : List SX) (ls : List Lit) : Prop := ls = xs.map (fun x => litD (den m.R x)) ∧ ∀ x ∈ xs, plainD (den m.R x)

theorem Lits.flatten {xss : List (List SX)} {lss : List (List Lit)} (hl : xss.length = lss.length) (h : ∀ (i : Nat) (xs : List SX) (ls : List Lit), xss[i]? = some xs → lss[i]? = some ls → Lits m xs ls) : Lits m xss.flatten lss.flatten := by
  induction xss generalizing lss with
  | nil =>
    cases lss with
    | nil => exact ⟨rfl, by simp⟩
    | cons => simp at hl
  | cons xs xss ih =>
    cases lss with
    | nil => simp at hl
    | cons ls lss =>
      have h0 := h 0 xs ls rfl rfl
      have h1 := ih (lss := lss) (by simpa using hl) fun i a b ha hb => h (i + 1) a b (by simpa using ha) (by simpa using hb)
      refine ⟨by simp only [List.flatten_cons, List.map_append]; rw [h0.1, h1.1], fun x hx => ?_⟩
      simp only [List.flatten_cons, List.mem_append] at hx
      rcases hx with hx | hx
      · exact h0.2 x hx
      · exact h1.2 x hx

theorem mapM_some {α β : Type} {f : α → Option β} : ∀ {l : List α} {ys : List β}, l.mapM f = some ys → ys.length = l.length ∧ ∀ (i : Nat) (x : α), l[i]? = some x → ∃ y, ys[i]? = some y ∧ f x = some y
  | [], ys, h => by simp at h; subst h; simp
  | x :: l, ys, h => by
    rw [List.mapM_cons] at h
    simp only [bind, Option.bind_eq_some_iff, pure, Option.some.injEq] at h
    obtain ⟨y, hy, ys', hys, rfl⟩ := h
    obtain ⟨h1, h2⟩ := mapM_some hys
    refine ⟨by simp [h1], fun i z hz => ?_⟩
    cases i with
    | zero => simp at hz; subst hz; exact ⟨y, rfl, hy⟩
    | succ i => simpa using h2 i z (by simpa using hz)
theorem mapM_mk {α β : Type} {f : α → Option β} : ∀ {l : List α}, (∀ x ∈ l, ∃ y, f x = some y) → ∃ ys, l.mapM f = some ys
  | [], _ => ⟨[], by simp⟩
  | x :: l, h => by
    obtain ⟨y, hy⟩ := h x (by simp)
    obtain ⟨ys, hys⟩ := mapM_mk (l := l) fun z hz => h z (by simp [hz])
    exact ⟨y :: ys, by rw [List.mapM_cons]; simp [hy, hys]⟩

theorem Lits.mapM {α : Type} {f : α → Option (List SX)} {g : α → Option (List Lit)} {l : List α} {xss : List (List SX)} (h : l.mapM f = some xss) (hfg : ∀ x ∈ l, ∀ xs, f x = some xs → ∃ ls, g x = some ls ∧ Lits m xs ls) :
    ∃ lss, l.mapM g = some lss ∧ Lits m xss.flatten lss.flatten := by
  obtain ⟨h1, h2⟩ := mapM_some h
  have hg : ∃ lss, l.mapM g = some lss := by
    refine mapM_mk fun x hx => ?_
    obtain ⟨i, hi⟩ := List.mem_iff_getElem?.1 hx
    obtain ⟨y, _, hy⟩ := h2 i x hi
    obtain ⟨ls, hls, _⟩ := hfg x hx y hy
    exact ⟨ls, hls⟩
  obtain ⟨lss, hlss⟩ := hg
  obtain ⟨k1, k2⟩ := mapM_some hlss
  refine ⟨lss, hlss, Lits.flatten (by omega) fun i xs ls hx hl => ?_⟩
  have hlt : i < l.length := by rw [← h1]; exact (List.getElem?_eq_some_iff.1 hx).1
  have hli : l[i]? = some l[i] := List.getElem?_eq_getElem hlt
  obtain ⟨y, hy1, hy2⟩ := h2 i _ hli
  obtain ⟨z, hz1, hz2⟩ := k2 i _ hli
  rw [hx] at hy1; cases hy1
  rw [hl] at hz1; cases hz1
  obtain ⟨ls', e1, e2⟩ := hfg _ (List.mem_iff_getElem?.2 ⟨i, hli⟩) _ hy2
  rw [hz2] at e1
  cases e1
  exact e2

theorem symLits_spec : ∀ (d : Nat) {t : TypeId} {cs : List AV} {xs : List SX} {vs : List Value}, symLits P d t cs = some xs → VL m cs vs → ∃ ls, P.keyLits d t vs = some ls ∧ Lits m xs ls
  | 0, t, cs, xs, vs, h, hv => by simp [symLits] at h
  | d + 1, t, cs, xs, vs, h, hv => by
    unfold symLits at h
    unfold Program.keyLits
    split at h
    · rename_i hu
      split at h
      · rename_i c
        simp only [Option.map_eq_some_iff] at h
        obtain ⟨e, he, rfl⟩ := h
        simp only [VL] at hv
        obtain ⟨v, us, rfl, hv, rfl⟩ := hv
        obtain ⟨b, h1, rfl⟩ := cellSX_bool he hv
        rw [hu]
        exact ⟨[.bool b], rfl, by simp [h1, litD], by simp [h1, plainD]⟩
      · cases h
    · rename_i q hu
      split at h
      · rename_i c
        simp only [Option.map_eq_some_iff] at h
        obtain ⟨e, he, rfl⟩ := h
        simp only [VL] at hv
        obtain ⟨v, us, rfl, hv, rfl⟩ := hv
        obtain ⟨z, h1, rfl, h2, h3⟩ := cellSX_int he hv
        rw [hu]
        exact ⟨[.int q z], by simp [wf_int h2 h3], by simp [h1, litD], by simp [h1, plainD]⟩
      · cases h
    · rename_i hu
      split at h
      · rename_i c
        simp only [Option.map_eq_some_iff] at h
        obtain ⟨e, he, rfl⟩ := h
        simp only [VL] at hv
        obtain ⟨v, us, rfl, hv, rfl⟩ := hv
        obtain ⟨s, h1, rfl, h2⟩ := cellSX_str he hv
        rw [hu]
        exact ⟨[.string s.data.toList], by simp [h2], by simp [h1, litD], by simp [h1, plainD]⟩
      · cases h
    · rename_i n e hu
      split at h
      · rename_i hlen
        rw [Nat.beq_eq] at hlen
        simp only [Option.map_eq_some_iff] at h
        obtain ⟨xss, hx, rfl⟩ := h
        obtain ⟨lss, h1, h2⟩ := Lits.mapM (m := m) (g := fun i => P.keyLits d e ((vs.drop (i * P.cellsOf e)).take (P.cellsOf e))) hx fun i _ ys hy => symLits_spec d hy (VL_take (VL_drop hv _) _)
        rw [hu]
        simp only [VL_length hv, hlen, if_true]
        exact ⟨lss.flatten, by rw [h1]; rfl, h2⟩
      · cases h
    · rename_i fs hu
      split at h
      · rename_i hlen
        simp only [Bool.and_eq_true, Nat.beq_eq] at hlen
        simp only [Option.map_eq_some_iff] at h
        obtain ⟨xss, hx, rfl⟩ := h
        obtain ⟨lss, h1, h2⟩ := Lits.mapM (m := m) (g := fun (f : Field) => P.keyLits d f.type ((vs.drop f.offset).take (P.cellsOf f.type))) hx fun f _ ys hy => symLits_spec d hy (VL_take (VL_drop hv _) _)
        rw [hu]
        simp only [VL_length hv, hlen.1, hlen.2, and_self, if_true]
        exact ⟨lss.flatten, by rw [h1]; rfl, h2⟩
      · cases h
    · cases h

end
end Go.AM
namespace Go.AM
open Go

section
variable {P : Program} {m : Env} {h : AHeap} {w : World}

theorem eql_lit {a b : DV} (ha : plainD a) (hb : plainD b) : ∃ r : Bool, binD .eql a b = .bool r ∧ (r = true ↔ litD a = litD b) := by
  cases a <;> cases b <;> simp only [plainD] at ha hb <;> refine ⟨_, rfl, ?_⟩ <;> simp [litD]
  exact ⟨fun h => by rw [h], fun h => bytes_ext (by rw [h])⟩

theorem zipEq_den : ∀ {xs ys : List SX}, xs.length = ys.length → (∀ x ∈ xs, plainD (den m.R x)) → (∀ y ∈ ys, plainD (den m.R y)) →
    (den.denAll m.R (zipEq xs ys) = true ↔ xs.map (fun x => litD (den m.R x)) = ys.map (fun x => litD (den m.R x)))
  | [], [], _, _, _ => by simp [zipEq, den.denAll]
  | x :: xs, y :: ys, hl, hx, hy => by
    have ih := zipEq_den (xs := xs) (ys := ys) (by simpa using hl) (fun z hz => hx z (by simp [hz])) (fun z hz => hy z (by simp [hz]))
    rw [zipEq]
    split
    · rename_i e
      have := eqSX_eq e
      subst this
      rw [ih]
      simp
    · obtain ⟨r, h0, h1⟩ := eql_lit (hx x (by simp)) (hy y (by simp))
      simp only [den.denAll, den, h0, isT, Bool.and_eq_true, ih, List.map_cons, List.cons.injEq, h1]
  | [], _ :: _, hl, _, _ => by simp at hl
  | _ :: _, [], hl, _, _ => by simp at hl

theorem zipEq_bool : ∀ {xs ys : List SX}, (∀ x ∈ xs, plainD (den m.R x)) → (∀ y ∈ ys, plainD (den m.R y)) → ∀ e ∈ zipEq xs ys, ∃ b, den m.R e = .bool b
  | x :: xs, y :: ys, hx, hy, e, he => by
    have ih := zipEq_bool (xs := xs) (ys := ys) (fun z hz => hx z (by simp [hz])) (fun z hz => hy z (by simp [hz]))
    rw [zipEq] at he
    split at he
    · exact ih e he
    · simp only [List.mem_cons] at he
      rcases he with rfl | he
      · obtain ⟨r, h0, _⟩ := eql_lit (hx x (by simp)) (hy y (by simp))
        exact ⟨r, by rw [den, h0]⟩
      · exact ih e he
  | [], _, _, _, e, he => by simp [zipEq] at he
  | _ :: _, [], _, _, e, he => by simp [zipEq] at he

theorem allS_den {R : Rho} : ∀ {es : List SX}, (∀ e ∈ es, ∃ b, den R e = .bool b) → den R (allS es) = .bool (den.denAll R es)
  | [], _ => rfl
  | [e], h => by
    obtain ⟨b, hb⟩ := h e (by simp)
    simp [allS, hb, den.denAll, isT]
  | e :: f :: es, _ => rfl

theorem aggOf_spec {a : AV} {cs : List AV} {v : Value} (h : aggOf a = some cs) (hv : V m a v) : ∃ vs : Array Value, v = .agg vs ∧ VL m cs vs.toList := by
  unfold aggOf at h
  split at h <;> simp only [Option.some.injEq, reduceCtorEq] at h
  · rename_i xs
    subst h
    simp only [V] at hv
    exact ⟨xs, hv, VL_sc m _⟩
  · subst h
    simpa only [V] using hv

theorem formed_of_lits {d : Nat} {t : TypeId} {vs : Array Value} {ls : List Lit} (h : P.keyLits d t vs.toList = some ls) (hn : P.keyTypeAt 8 t = true) (hagg : ∀ v, vs.toList = [v] → isAggT P t = some true) : (Value.agg vs).formed P t = true ∨ isAggT P t = some false := by
  cases d with
  | zero => simp [Program.keyLits] at h
  | succ d =>
    unfold Program.keyLits at h
    cases hu : P.underlying t with
    | none => simp [hu] at h
    | some kd =>
      cases kd <;> simp only [hu] at h <;> (try (cases h; done))
      case array n e =>
        split at h
        · rename_i hl
          left
          simp only [Value.formed, hu]
          simpa using hl
        · cases h
      case struct fs =>
        split at h
        · rename_i hl
          left
          simp only [Value.formed, hu]
          simpa using hl.1
        · cases h
      all_goals (right; simp [isAggT, hu])

theorem symEq_spec {t : TypeId} {a b : AV} {e : SX} {x y : Value} (h : symEq P t a b = some e) (hx : V m a x) (hy : V m b y) (hagg : isAggT P t = some true) :
    ∃ r : Bool, den m.R e = .bool r ∧ (Op.equal t x y).run P w = .ok r w ∧ ∃ xs ys, x = .agg xs ∧ y = .agg ys ∧ P.eqGuardType P.depth t = false := by
  unfold symEq at h
  split at h
  · rename_i cs ds ha hb
    split at h
    · rename_i hk
      simp only [Bool.and_eq_true, Bool.not_eq_true'] at hk
      split at h
      · rename_i xs ys h1 h2
        split at h
        · rename_i hlen
          rw [Nat.beq_eq] at hlen
          cases h
          obtain ⟨vs, rfl, hv⟩ := aggOf_spec ha hx
          obtain ⟨us, rfl, hu⟩ := aggOf_spec hb hy
          obtain ⟨la, e1, p1, p2⟩ := symLits_spec (m := m) 8 h1 hv
          obtain ⟨lb, e2, q1, q2⟩ := symLits_spec (m := m) 8 h2 hu
          have f1 := formed_of_lits e1 hk.1 fun _ _ => hagg
          have f2 := formed_of_lits e2 hk.1 fun _ _ => hagg
          rw [hagg] at f1 f2
          simp only [Option.some.injEq, Bool.true_eq_false, or_false] at f1 f2
          obtain ⟨r, hr, hiff⟩ := run_equalIn_deep (P := P) 9992 8 t hk.1 w 8 8 _ _ la lb f1 f2 (by simpa [Value.cells] using e1) (by simpa [Value.cells] using e2)
          refine ⟨r, ?_, hr, vs, us, rfl, rfl, hk.2⟩
          rw [allS_den (zipEq_bool p2 q2)]
          have := zipEq_den hlen p2 q2
          rw [← p1, ← q1, ← hiff] at this
          congr 1
          exact Bool.eq_iff_iff.2 this
        · cases h
      · cases h
    · cases h
  · cases h
end
end Go.AM
namespace Go.AM
open Go

section
variable {P : Program} {m : Env} {h : AHeap} {w : World}

theorem Rep_bool {R : Rho} {e : SX} {b : Bool} (h : den R e = .bool b) : Rep m .bool (den R e) (.bool b) := by
  simp only [Rep]; exact ⟨b, h, rfl⟩

theorem less_tri : ∀ x y : List UInt8, Op.bytesLess y x = !(Op.bytesLess x y || x == y)
  | [], [] => by simp [Op.bytesLess]
  | [], _ :: _ => by simp [Op.bytesLess]
  | _ :: _, [] => by simp [Op.bytesLess]
  | a :: x, b :: y => by
    simp only [Op.bytesLess, less_tri x y, List.cons_beq_cons]
    rcases Nat.lt_trichotomy a.toNat b.toNat with h | h | h
    · have h1 : a < b := h
      have h2 : ¬ b < a := fun h3 => by have : b.toNat < a.toNat := h3; omega
      have h4 : ¬ b = a := fun e => by subst e; omega
      simp [h1, h2, h4]
    · have h1 : a = b := UInt8.toNat_inj.1 h
      subst h1
      have h2 : ¬ a < a := fun h3 => by have : a.toNat < a.toNat := h3; omega
      simp [h2]
    · have h1 : b < a := h
      have h2 : ¬ a < b := fun h3 => by have : a.toNat < b.toNat := h3; omega
      have h4 : ¬ a = b := fun e => by subst e; omega
      simp [h1, h2, h4]
theorem symBin0_sound {op : BinOp} {t : TypeId} {p q : Operand} {a b r : AV} {x y : Value} (hs : symBin0 P op t a b = some r) (hx : V m a x) (hy : V m b y) :
    ∃ z, ((do eqGuard op t p q x y; binOp op t x y) : Sem Value).run P w = .ok z w ∧ V m r z := by
  unfold symBin0 at hs
  split at hs
  · rename_i k x' l y' h1 h2
    split at hs
    · rename_i hk
      cases eqK_eq hk
      obtain ⟨u, d1, rfl⟩ := asSX_spec h1 hx
      obtain ⟨v, d2, rfl⟩ := asSX_spec h2 hy
      have cmp : (cmpS op x' y').map (AV.sy .bool) = some r → binOp op t (.int k u) (.int k v) = Op.intCmp op u v → ∃ z, ((do eqGuard op t p q (.int k u) (.int k v); binOp op t (.int k u) (.int k v)) : Sem Value).run P w = .ok z w ∧ V m r z := by
        intro hc hb
        simp only [Option.map_eq_some_iff] at hc
        obtain ⟨e, he, rfl⟩ := hc
        obtain ⟨c, g1, g2⟩ := cmpS_den he d1 d2
        exact ⟨_, run_bin_int (hb.trans g2) rfl, by simp only [V]; exact Rep_bool g1⟩
      have ar : ∀ {o : BinOp} {z : Int}, den m.R (.bin o x' y') = .int k (k.wrap z) → r = .sy (.int k) (.bin o x' y') → binOp op t (.int k u) (.int k v) = pure (.int k (k.wrap z)) → ∃ z, ((do eqGuard op t p q (.int k u) (.int k v); binOp op t (.int k u) (.int k v)) : Sem Value).run P w = .ok z w ∧ V m r z := by
        intro o z g1 g2 g3
        subst g2
        refine ⟨_, run_bin_int g3 rfl, ?_⟩
        simp only [V, Rep, g1]
        exact ⟨_, rfl, rfl, (wrap_in k z).1, (wrap_in k z).2⟩
      split at hs
      · cases hs; exact ar (by simp only [den, d1, d2, binD]; rfl) rfl (by simp [binOp, Op.intArith])
      · cases hs; exact ar (by simp only [den, d1, d2, binD]; rfl) rfl (by simp [binOp, Op.intArith])
      · cases hs; exact ar (by simp only [den, d1, d2, binD]; rfl) rfl (by simp [binOp, Op.intArith])
      · cases hs; exact ar (by simp only [den, d1, d2, binD, bitsD]; rfl) rfl (by simp [binOp, Op.intBits])
      · cases hs; exact ar (by simp only [den, d1, d2, binD, bitsD]; rfl) rfl (by simp [binOp, Op.intBits])
      · cases hs; exact ar (by simp only [den, d1, d2, binD, bitsD]; rfl) rfl (by simp [binOp, Op.intBits])
      · cases hs; exact ar (by simp only [den, d1, d2, binD, bitsD]; rfl) rfl (by simp [binOp, Op.intBits])
      · refine cmp hs ?_
        cases op <;> simp_all [binOp, cmpS]
    · cases hs
  · rename_i x' y' h1 h2
    obtain ⟨u, d1, rfl⟩ := asSX_spec h1 hx
    obtain ⟨v, d2, rfl⟩ := asSX_spec h2 hy
    have hq : den m.R (eqS x' y') = .bool (decide (u = v)) := by
      rw [eqS_den (.inr (.inr ⟨_, d1⟩)), d1, d2]; simp [binD]
    split at hs <;> (try (cases hs; done)) <;> cases hs
    · exact ⟨.bool (decide (u = v)), run_bin_str (by simp only [Op.stringOp, str_eq]) ⟨by simp, by simp⟩, by simp only [V]; exact Rep_bool hq⟩
    · exact ⟨.bool (!decide (u = v)), run_bin_str (by simp only [Op.stringOp, str_eq]) ⟨by simp, by simp⟩, by simp only [V]; exact Rep_bool (by simp only [den, hq, notD])⟩
    · exact ⟨.bool (Op.bytesLess u.toList v.toList), run_bin_str (by simp only [Op.stringOp]) ⟨by simp, by simp⟩, by simp only [V]; exact Rep_bool (by simp only [den, d1, d2, binD])⟩
    · exact ⟨.bool (!Op.bytesLess u.toList v.toList), run_bin_str (by simp only [Op.stringOp]) ⟨by simp, by simp⟩, by simp only [V]; exact Rep_bool (by simp only [den, d1, d2, binD, notD])⟩
    · exact ⟨.bool (Op.bytesLess v.toList u.toList), run_bin_str (by simp only [Op.stringOp, less_tri u.toList v.toList]) ⟨by simp, by simp⟩, by simp only [V]; exact Rep_bool (by simp only [den, d1, d2, binD])⟩
    · exact ⟨.bool (!Op.bytesLess v.toList u.toList), run_bin_str (by simp only [Op.stringOp, less_tri u.toList v.toList, Bool.not_not]) ⟨by simp, by simp⟩, by simp only [V]; exact Rep_bool (by simp only [den, d1, d2, binD, notD])⟩
  · rename_i x' y' h1 h2
    obtain ⟨u, d1, rfl⟩ := asSX_spec h1 hx
    obtain ⟨v, d2, rfl⟩ := asSX_spec h2 hy
    have hq : den m.R (eqS x' y') = .bool (u == v) := by
      rw [eqS_den (.inr (.inl ⟨_, d1⟩)), d1, d2]; simp [binD]
    split at hs
    · rename_i hu
      have hg : (eqGuard op t p q (.bool u) (.bool v)).run P w = .ok () w := by
        unfold eqGuard
        cases op <;> simp
      split at hs <;> (try (cases hs; done)) <;> cases hs
      · refine ⟨.bool (u == v), ?_, by simp only [V]; exact Rep_bool hq⟩
        rw [Sem.run_bind, hg]
        simp only [Result.andThen_ok, binOp, Sem.run_bind, run_equal_bool (P := P) w t u v hu, Sem.run_pure]
      · refine ⟨.bool (!(u == v)), ?_, by simp only [V]; exact Rep_bool (by simp only [den, hq, notD])⟩
        rw [Sem.run_bind, hg]
        simp only [Result.andThen_ok, binOp, Sem.run_bind, run_equal_bool (P := P) w t u v hu, Sem.run_pure]
    · cases hs
  · split at hs <;> (try (cases hs; done))
    · split at hs
      · rename_i hagg
        simp only [Option.map_eq_some_iff] at hs
        obtain ⟨e, he, rfl⟩ := hs
        obtain ⟨c, g1, g2, xs, ys, rfl, rfl, g3⟩ := symEq_spec (w := w) he hx hy hagg
        have hg : ∀ o, (eqGuard o t p q (.agg xs) (.agg ys)).run P w = .ok () w := fun o => run_eqGuard_agg w o t p q xs ys g3
        refine ⟨.bool c, ?_, by simp only [V]; exact Rep_bool (g1)⟩
        rw [Sem.run_bind, hg]
        simp only [Result.andThen_ok, binOp, Sem.run_bind, g2, Sem.run_pure]
      · cases hs
    · split at hs
      · rename_i hagg
        simp only [Option.map_eq_some_iff] at hs
        obtain ⟨e, he, rfl⟩ := hs
        obtain ⟨c, g1, g2, xs, ys, rfl, rfl, g3⟩ := symEq_spec (w := w) he hx hy hagg
        have hg : ∀ o, (eqGuard o t p q (.agg xs) (.agg ys)).run P w = .ok () w := fun o => run_eqGuard_agg w o t p q xs ys g3
        refine ⟨.bool (!c), ?_, by simp only [V]; exact Rep_bool (by simp only [den, g1, notD])⟩
        rw [Sem.run_bind, hg]
        simp only [Result.andThen_ok, binOp, Sem.run_bind, g2, Sem.run_pure]
      · cases hs

theorem fdiv_in {k : IntKind} {x : Int} {n : Nat} (h1 : k.min ≤ x) (h2 : x ≤ k.max) : k.min ≤ x.fdiv (2 ^ n) ∧ x.fdiv (2 ^ n) ≤ k.max := by
  have hp : (1 : Int) ≤ 2 ^ n := by
    have := Nat.one_le_two_pow (n := n)
    exact_mod_cast this
  have hm : k.min ≤ 0 ∧ 0 ≤ k.max := by cases k <;> decide
  rw [Int.fdiv_eq_ediv_of_nonneg _ (by omega)]
  constructor
  · by_cases hx : 0 ≤ x
    · have := Int.ediv_nonneg hx (show (0 : Int) ≤ 2 ^ n by omega)
      omega
    · have : x ≤ x / 2 ^ n := by
        rw [Int.le_ediv_iff_mul_le (by omega)]
        have h3 : x * 2 ^ n ≤ x * 1 := Int.mul_le_mul_of_nonpos_left (by omega) hp
        omega
      omega
  · by_cases hx : 0 ≤ x
    · have := Int.ediv_le_self (2 ^ n) hx
      omega
    · have : x / 2 ^ n ≤ 0 := by
        have := Int.ediv_le_ediv (a := x) (b := 0) (c := 2 ^ n) (by omega) (by omega)
        simpa using this
      omega

theorem tmod_in {k : IntKind} {x : Int} {n : Nat} (h1 : k.min ≤ x) (h2 : x ≤ k.max) : k.min ≤ x.tmod (n : Int) ∧ x.tmod (n : Int) ≤ k.max := by
  have hm : k.min ≤ 0 ∧ 0 ≤ k.max := by cases k <;> decide
  rcases Int.lt_or_le x 0 with h | h
  · have e : x = -((-x).toNat : Int) := by omega
    have : x.tmod (n : Int) = -(((-x).toNat % n : Nat) : Int) := by
      conv => lhs; rw [e]
      rw [Int.neg_tmod]
      rfl
    have hle := Nat.mod_le (-x).toNat n
    omega
  · have e : x = (x.toNat : Int) := by omega
    have : x.tmod (n : Int) = ((x.toNat % n : Nat) : Int) := by
      conv => lhs; rw [e]
      rfl
    have hle := Nat.mod_le x.toNat n
    omega

theorem symBin_sound {op : BinOp} {t : TypeId} {p q : Operand} {a b r : AV} {x y : Value} (hs : symBin P op t a b = some r) (hx : V m a x) (hy : V m b y) :
    ∃ z, ((do eqGuard op t p q x y; binOp op t x y) : Sem Value).run P w = .ok z w ∧ V m r z := by
  unfold symBin at hs
  split at hs
  · rename_i r' hr
    cases hs
    unfold shrS at hr
    split at hr
    · rename_i k e l c
      cases hr
      simp only [V, Rep] at hx hy
      obtain ⟨u, d1, rfl, g1, g2⟩ := hx
      subst hy
      refine ⟨.int k (u.fdiv (2 ^ min c k.bits)), ?_, ?_⟩
      · have hg : (eqGuard .shr t p q (.int k u) (.int l (.ofNat c))).run P w = .ok () w := by
          unfold eqGuard; simp
        rw [Sem.run_bind, hg]
        have hc : ¬ ((Int.ofNat c) < 0) := by simp
        simp only [Result.andThen_ok, binOp, Op.shift, if_neg hc]
        rfl
      · simp only [V, Rep, den, d1, binD]
        exact ⟨_, rfl, rfl, fdiv_in g1 g2⟩
    · rename_i k e l c
      cases hr
      simp only [V, Rep] at hx hy
      obtain ⟨u, d1, rfl, g1, g2⟩ := hx
      subst hy
      refine ⟨.int k (k.wrap (u * 2 ^ min c k.bits)), ?_, ?_⟩
      · have hg : (eqGuard .shl t p q (.int k u) (.int l (.ofNat c))).run P w = .ok () w := by
          unfold eqGuard; simp
        rw [Sem.run_bind, hg]
        have hc : ¬ ((Int.ofNat c) < 0) := by simp
        simp only [Result.andThen_ok, binOp, Op.shift, if_neg hc]
        rfl
      · simp only [V, Rep, den, d1, binD]
        exact ⟨_, rfl, rfl, (wrap_in k _).1, (wrap_in k _).2⟩
    · rename_i k e l c
      split at hr
      · rename_i hk
        cases hr
        simp only [Bool.and_eq_true] at hk
        cases eqK_eq hk.1
        have hc0 := blt_lt hk.2
        simp only [V, Rep] at hx hy
        obtain ⟨u, d1, rfl, g1, g2⟩ := hx
        subst hy
        refine ⟨.int k (k.wrap (u.tdiv c)), run_bin_int ?_ rfl, ?_⟩
        · have hne : ¬ ((Int.ofNat c) = 0) := by simp; omega
          simp only [binOp, Op.intDiv, if_neg hne, ne_eq, not_true_eq_false, if_false]
          rfl
        · simp only [V, Rep, den, d1, binD]
          exact ⟨_, rfl, rfl, (wrap_in k _).1, (wrap_in k _).2⟩
      · cases hr
    · rename_i k e l c
      split at hr
      · rename_i hk
        cases hr
        simp only [Bool.and_eq_true] at hk
        cases eqK_eq hk.1
        have hc0 := blt_lt hk.2
        simp only [V, Rep] at hx hy
        obtain ⟨u, d1, rfl, g1, g2⟩ := hx
        subst hy
        refine ⟨.int k (u.tmod c), run_bin_int ?_ rfl, ?_⟩
        · have hne : ¬ ((Int.ofNat c) = 0) := by simp; omega
          simp only [binOp, Op.intDiv, if_neg hne, ne_eq, not_true_eq_false, if_false]
          rfl
        · simp only [V, Rep, den, d1, binD]
          exact ⟨_, rfl, rfl, tmod_in g1 g2⟩
      · cases hr
    · cases hr
  · exact symBin0_sound hs hx hy
end
end Go.AM
namespace Go.AM
open Go

section
variable [O : Orc] {P : Program} {m : Env} {h : AHeap} {w : World}

open Classical in
/-- What an operation sees, with one operand described otherwise. -/
noncomputable def seen (ρ : Operand → Value) (x : Operand) (a : AV) : Operand → AV := fun y => if y = x then a else .sc (ρ y)
theorem seen_ok {ρ : Operand → Value} {x : Operand} {a : AV} (ha : V m a (ρ x)) (y : Operand) : V m (seen ρ x a y) (ρ y) := by
  unfold seen
  by_cases e : y = x
  · rw [if_pos e, e]; exact ha
  · rw [if_neg e]; simp [V]

theorem Good.imp {r : Result Next} {a b : AV} {h' : AHeap} (hg : Good m r a h') (hab : ∀ m' v, m.le m' → V m' a v → V m' b v) : Good m r b h' := by
  obtain ⟨v, w', m', h1, h2, h3, h4⟩ := hg
  exact ⟨v, w', m', h1, h2, hab m' v h2 h3, h4⟩

/-- A bound, as a number. -/
theorem boundS_spec {ev : Operand → AV} {ρ : Operand → Value} (hev : ∀ x, V m (ev x) (ρ x)) {d e : SX} {x : Option Operand} {n : Nat} (hd : den m.R d = .int .i64 (n : Int)) (hb : boundS ev d x = some e) :
    ∃ k z, den m.R e = .int k z ∧ (∀ y, x = some y → ρ y = .int k z) ∧ (x = none → z = n) := by
  cases x with
  | none => cases hb; exact ⟨_, _, hd, (fun y e => by cases e), fun _ => rfl⟩
  | some y =>
    obtain ⟨k, z, h1, h2⟩ := intSX_spec hb (hev y)
    exact ⟨k, z, h1, (fun y' e => by cases e; exact h2), fun e => by cases e⟩

theorem bound_seen {ρ : Operand → Value} {x : Operand} {a : AV} {b : Option Operand} {d n : Nat} {k : IntKind} (h1 : ∀ y, b = some y → ρ y = .int k (n : Int)) (h0 : b = none → n = d) (hx : ∀ y, b = some y → y ≠ x) : bound (seen ρ x a) d b = some n := by
  cases b with
  | none => simp [bound, h0 rfl]
  | some y =>
    simp only [bound, seen, if_neg (hx y rfl), h1 y rfl]
    rfl

theorem ok_symIndexAddr (hF : FactsOK m.R) {t : TypeId} {x ix : Operand} {dst type pos after guard} {ev : Operand → AV} {ρ : Operand → Value} (hev : ∀ x, V m (ev x) (ρ x)) (hr : HR m h w) {av : AV} {h' : AHeap}
    (hop : symOp0 P ev h ⟨dst, .indexAddr t x ix, type, pos, after, guard⟩ = some (av, h')) : Good m ((execOp ρ ⟨dst, .indexAddr t x ix, type, pos, after, guard⟩).run P w) av h' := by
  simp only [symOp0] at hop
  split at hop <;> (try (cases hop; done))
  rename_i el cs e hu hx
  split at hop <;> (try (cases hop; done))
  rename_i size i hs hi
  split at hop <;> (try (cases hop; done))
  rename_i hle
  simp only [Bool.and_eq_true, Nat.beq_eq] at hle
  obtain ⟨hle, rfl⟩ := hle
  split at hop <;> (try (cases hop; done))
  rename_i hlt
  cases hop
  have hxv := hev x
  rw [hx] at hxv
  simp only [V] at hxv
  obtain ⟨es, e1, e2, e3, e4⟩ := sy_fsl hxv
  obtain ⟨k, z, d1, d2⟩ := intSX_spec hi (hev ix)
  have hz0 := leS_sound hF hle (x := zeroS) (a := 0) (k := .i64) (by simp [zeroS, den]) d1
  have hzl := look_den hF hlt
  simp only [den, d1, e1, lenD, binD, DV.bool.injEq, decide_eq_true_eq] at hzl
  obtain ⟨j, rfl⟩ := Int.eq_ofNat_of_zero_le hz0
  have hj : j < es.length := by omega
  have hne : ix ≠ x := by
    intro e
    rw [e] at d2
    simp only [V] at e3
    obtain ⟨a, c, e5, _⟩ := e3
    rw [d2] at e5
    cases e5
  refine (ok_indexAddr t x ix dst type pos after guard (seen ρ x (.fsl cs.length false (rowsOf e cs 0 es.length))) ρ (seen_ok e3) hr (.fp (elemCells e (.ki .i64 (.ofNat j)) 0 cs)) h ?_).imp ?_
  · simp only [opA, opIndexAddr, seen, if_pos, if_neg hne, d2]
    have : natOf (.sc (.int k ((j : Nat) : Int))) = some j := rfl
    simp only [this, hu, hs, Nat.beq_refl]
    rw [rowsOf_get e cs es.length 0 j hj]
    simp
  · intro m' v hm hv
    simp only [V] at hv ⊢
    obtain ⟨b, o, rfl, hc⟩ := hv
    refine ⟨b, o, rfl, ?_⟩
    have key : ∀ (ts : List Ty) (k0 o : Nat), VC m' b o (elemCells e (.ki .i64 (.ofNat j)) k0 ts) → VC m' b o (elemCells e i k0 ts) := by
      intro ts
      induction ts with
      | nil => intro k0 o _; simp [elemCells, VC]
      | cons t ts ih =>
        intro k0 o hc
        simp only [elemCells, VC, V] at hc ⊢
        obtain ⟨⟨v, g1, g2⟩, g3⟩ := hc
        refine ⟨⟨v, g1, ?_⟩, ih _ _ g3⟩
        have : den m'.R (.at e i k0) = den m'.R (.at e (.ki .i64 (.ofNat j)) k0) := by
          rw [hm.R]
          simp only [den, d1, e1, atD]
          rfl
        rw [this]
        exact g2
    exact key _ _ _ hc

theorem ok_symIndex (hF : FactsOK m.R) {t : TypeId} {x ix : Operand} {dst type pos after guard} {ev : Operand → AV} {ρ : Operand → Value} (hev : ∀ x, V m (ev x) (ρ x)) (hr : HR m h w) {av : AV} {h' : AHeap}
    (hop : symOp0 P ev h ⟨dst, .index t x ix, type, pos, after, guard⟩ = some (av, h')) : Good m ((execOp ρ ⟨dst, .index t x ix, type, pos, after, guard⟩).run P w) av h' := by
  simp only [symOp0] at hop
  split at hop <;> (try (cases hop; done))
  rename_i e hu hx
  split at hop <;> (try (cases hop; done))
  rename_i i hi
  split at hop <;> (try (cases hop; done))
  rename_i hle
  split at hop <;> (try (cases hop; done))
  rename_i hlt
  cases hop
  have hxv := hev x
  rw [hx] at hxv
  simp only [V, Rep] at hxv
  obtain ⟨s, e1, e2, e3⟩ := hxv
  obtain ⟨k, z, d1, d2⟩ := intSX_spec hi (hev ix)
  have hz0 := leS_sound hF hle (x := zeroS) (a := 0) (k := .i64) (by simp [zeroS, den]) d1
  have hzl := look_den hF hlt
  simp only [den, d1, e1, lenD, binD, DV.bool.injEq, decide_eq_true_eq] at hzl
  obtain ⟨j, rfl⟩ := Int.eq_ofNat_of_zero_le hz0
  have hj : j < s.size := by omega
  refine (ok_index t x ix dst type pos after guard (fun y => .sc (ρ y)) ρ (fun y => by simp [V]) hr (.sc (.int .u8 (s[j]).toNat)) h ?_).imp ?_
  · simp only [opA, opIndex, hu, e2, d2]
    have : natOf (.sc (.int k ((j : Nat) : Int))) = some j := rfl
    simp only [this]
    rw [show s[j]? = some s[j] from getElem?_pos s j hj]
  · intro m' v hm hv
    simp only [V] at hv
    subst hv
    simp only [V, Rep]
    refine ⟨_, ?_, rfl, ?_, ?_⟩
    · rw [hm.R]
      simp only [den, d1, e1, byteD]
      have : (s.data.toList.getD ((j : Nat) : Int).toNat 0) = s[j] := by
        have hj' : j < s.data.toList.length := by simpa using hj
        simp only [Int.toNat_natCast, List.getD_eq_getElem?_getD, List.getElem?_eq_getElem hj', Option.getD_some]
        simp
        rfl
      rw [this]
    · simp [IntKind.min, IntKind.signed]
    · have := (s[j]).toNat_lt
      simp [IntKind.max, IntKind.signed, IntKind.bits]
      omega

theorem ok_symSlice (hF : FactsOK m.R) {t : TypeId} {x : Operand} {lo hi : Option Operand} {dst type pos after guard} {ev : Operand → AV} {ρ : Operand → Value} (hev : ∀ x, V m (ev x) (ρ x)) (hr : HR m h w) {av : AV} {h' : AHeap}
    (hop : symOp0 P ev h ⟨dst, .slice t x lo hi none, type, pos, after, guard⟩ = some (av, h')) : Good m ((execOp ρ ⟨dst, .slice t x lo hi none, type, pos, after, guard⟩).run P w) av h' := by
  simp only [symOp0] at hop
  split at hop <;> (try (cases hop; done))
  · rename_i e hu hx
    split at hop <;> (try (cases hop; done))
    rename_i a b ha hb
    split at hop <;> (try (cases hop; done))
    rename_i hle
    cases hop
    simp only [Bool.and_eq_true] at hle
    have hxv := hev x
    rw [hx] at hxv
    simp only [V, Rep] at hxv
    obtain ⟨s, e1, e2, e3⟩ := hxv
    obtain ⟨ka, za, a1, a2, a3⟩ := boundS_spec (n := 0) hev (by simp [zeroS, den]) ha
    obtain ⟨kb, zb, b1, b2, b3⟩ := boundS_spec (n := s.size) hev (by simp [den, e1, lenD]) hb
    have g1 := leS_sound hF hle.1.1 (x := zeroS) (a := 0) (k := .i64) (by simp [zeroS, den]) a1
    have g2 := leS_sound hF hle.1.2 a1 b1
    have g3 := leS_sound hF hle.2 (l := .i64) (b := (s.size : Int)) b1 (by simp [den, e1, lenD])
    obtain ⟨l, rfl⟩ := Int.eq_ofNat_of_zero_le g1
    obtain ⟨u, rfl⟩ := Int.eq_ofNat_of_zero_le (show 0 ≤ zb by omega)
    have bnd : ∀ (bb : Option Operand) (d n : Nat) (k : IntKind), (∀ y, bb = some y → ρ y = .int k (n : Int)) → (bb = none → (n : Int) = d) → bound (fun y => AV.sc (ρ y)) d bb = some n := by
      intro bb d n k q1 q2
      cases bb with
      | none => simp only [bound]; have := q2 rfl; congr 1; omega
      | some y => simp only [bound, q1 y rfl]; rfl
    refine (ok_slice t x lo hi none dst type pos after guard (fun y => .sc (ρ y)) ρ (fun y => by simp [V]) hr (.sc (.string (s.extract l u))) h ?_).imp ?_
    · simp only [opA, opSlice, hu, e2]
      rw [bnd lo 0 l ka a2 (fun q => by have := a3 q; omega), bnd hi s.size u kb b2 b3]
      have h1 : Nat.ble l u = true := by rw [Nat.ble_eq]; omega
      have h2 : Nat.ble u s.size = true := by rw [Nat.ble_eq]; omega
      simp [h1, h2]
    · intro m' v hm hv
      simp only [V] at hv
      subst hv
      simp only [V, Rep]
      refine ⟨_, ?_, rfl, ?_⟩
      · rw [hm.R]
        simp only [den, e1, a1, b1, cutD, Int.toNat_natCast]
      · have : (s.extract l u).size ≤ s.size := by simp; omega
        omega
  · rename_i el cs e hu hx
    split at hop <;> (try (cases hop; done))
    rename_i size hs
    split at hop <;> (try (cases hop; done))
    rename_i a b ha hb
    split at hop <;> (try (cases hop; done))
    rename_i hle
    cases hop
    simp only [Bool.and_eq_true, Nat.beq_eq] at hle
    obtain ⟨hle, rfl⟩ := hle
    have hxv := hev x
    rw [hx] at hxv
    simp only [V] at hxv
    obtain ⟨es, e1, e2, e3, e4⟩ := sy_fsl hxv
    obtain ⟨ka, za, a1, a2, a3⟩ := boundS_spec (n := 0) hev (by simp [zeroS, den]) ha
    obtain ⟨kb, zb, b1, b2, b3⟩ := boundS_spec (n := es.length) hev (by simp [den, e1, lenD]) hb
    have g1 := leS_sound hF hle.1.1 (x := zeroS) (a := 0) (k := .i64) (by simp [zeroS, den]) a1
    have g2 := leS_sound hF hle.1.2 a1 b1
    have g3 := leS_sound hF hle.2 (l := .i64) (b := (es.length : Int)) b1 (by simp [den, e1, lenD])
    obtain ⟨l, rfl⟩ := Int.eq_ofNat_of_zero_le g1
    obtain ⟨u, rfl⟩ := Int.eq_ofNat_of_zero_le (show 0 ≤ zb by omega)
    have hnsl : ∃ a c, ρ x = .slice a es.length c := by
      simp only [V] at e3
      obtain ⟨a, c, q, _⟩ := e3
      rw [rowsOf_length] at q
      exact ⟨a, c, q⟩
    obtain ⟨aa, cc, hsl⟩ := hnsl
    have hne : ∀ (bb : Option Operand) (n : Nat) (k : IntKind), (∀ y, bb = some y → ρ y = .int k (n : Int)) → ∀ y, bb = some y → y ≠ x := by
      intro bb n k q y hy e
      have := q y hy
      rw [e, hsl] at this
      cases this
    refine (ok_slice t x lo hi none dst type pos after guard (seen ρ x (.fsl cs.length false (rowsOf e cs 0 es.length))) ρ (seen_ok e3) hr (.fsl cs.length false (rowsOf e cs l (u - l))) h ?_).imp ?_
    · simp only [opA, opSlice, hu, hs]
      have hsx : seen ρ x (.fsl cs.length false (rowsOf e cs 0 es.length)) x = .fsl cs.length false (rowsOf e cs 0 es.length) := by simp [seen]
      rw [hsx]
      simp only [rowsOf_length, Option.map_none]
      rw [bound_seen (n := l) (k := ka) a2 (fun q => by have := a3 q; omega) (hne lo l ka a2), bound_seen (n := u) (k := kb) b2 (fun q => by have := b3 q; omega) (hne hi u kb b2)]
      have h1 : Nat.ble l u = true := by rw [Nat.ble_eq]; omega
      have h2 : Nat.ble u es.length = true := by rw [Nat.ble_eq]; omega
      simp only [h1, h2, Nat.beq_refl, Bool.and_self, Bool.false_and]
      rw [rowsOf_take, rowsOf_drop, Nat.min_eq_left (by omega), Nat.zero_add]
    · intro m' v hm hv
      simp only [V]
      by_cases hz : es.length = 0
      · have : u - l = 0 := by omega
        rw [this] at hv
        simp only [V, rowsOf] at hv
        obtain ⟨a, c, rfl, q2, q3, q4, q5⟩ := hv
        simp only [Rep]
        refine ⟨[], a, c, ?_, rfl, by simp, by simp, q4, ?_⟩
        · rw [hm.R]
          simp only [den, e1, a1, b1, cutD]
          have : es = [] := List.length_eq_zero_iff.1 hz
          simp [this]
        · rcases q5 with q5 | ⟨bb, o, q6, q7⟩
          · exact .inl q5
          · exact .inr ⟨bb, o, q6, by simp⟩
      · refine fsl_sy (es := es) (l := l) (n := u - l) (e := e) (by rw [hm.R]; exact e1) (by omega) e2 ?_ ?_ hv
        · intro i row hi
          rcases e4 i row hi with q | q | q
          · exact q
          · exact absurd q hz
          · rw [hsl] at q
            simp only [Value.slice.injEq] at q
            omega
        · rw [hm.R]
          simp only [den, e1, a1, b1, cutD, Int.toNat_natCast, List.drop_take]
  · rename_i el id len hu hx
    split at hop <;> (try (cases hop; done))
    rename_i size blk hs hblk
    split at hop <;> (try (cases hop; done))
    rename_i l u hl hh
    split at hop <;> (try (cases hop; done))
    rename_i hb
    cases hop
    simp only [Bool.and_eq_true, Nat.ble_eq, Nat.beq_eq] at hb
    obtain ⟨⟨⟨⟨hrow, hsz⟩, h1⟩, hlt⟩, hle⟩ := hb
    have hlt := blt_lt hlt
    have hxv := hev x
    rw [hx] at hxv
    simp only [V] at hxv
    obtain ⟨hid, c, hxe, g1, _, g3⟩ := hxv
    have hc := g3 trivial trivial
    obtain ⟨_, _, cs, b1, b2, b3, b4⟩ := hr.obj id _ (blk?_some hblk)
    obtain ⟨b5, b6, b7⟩ := b4 hrow
    have huc : u ≤ c := by
      rw [hc]
      rw [hsz] at b7
      exact Nat.le_of_mul_le_mul_right (Nat.le_trans hle b7) (by omega)
    have hrun := run_slice (P := P) (w := w) (mm := c) hu hs (a := some ⟨(m.mu id).1, 0, none⟩) (len := len) (cap := c) (bound_Bd hev hl) (bound_Bd hev hh) (mx := none) rfl (fun e => by cases e) (Nat.le_of_lt hlt) huc (Nat.le_refl _)
    refine Good.run (s := Instr.sliceAt t (ρ x) (lo.map ρ) (hi.map ρ) none) hr ?_ (by rw [hxe]; exact hrun)
    rw [if_neg (by omega : ¬ c = l)]
    simp only [V, Option.map_some, add_plain, Nat.zero_add]
    refine ⟨hid, c - l, rfl, by omega, fun k e => (by cases e), fun _ e => ?_⟩
    have : l = 0 := by
      rcases Nat.mul_eq_zero.1 e with e | e
      · exact e
      · omega
    omega

omit O in
theorem asTy_spec {m : Env} {t : Ty} {a : AV} {e : SX} {v : Value} (h : asTy t a = some e) (hv : V m a v) : Rep m t (den m.R e) v := by
  unfold asTy at h
  split at h
  · split at h
    · rename_i hk
      cases h
      rw [eqTy_eq hk]
      simpa only [V] using hv
    · cases h
  · simp only [V] at hv
    subst hv
    split at h
    · split at h
      · rename_i hk
        cases h
        simp only [Bool.and_eq_true] at hk
        cases eqK_eq hk.1
        simp only [Rep]
        exact ⟨_, rfl, rfl, (inR_spec hk.2).1, (inR_spec hk.2).2⟩
      · cases h
    · cases h
      simp only [Rep]
      exact ⟨_, rfl, rfl⟩
    · split at h
      · rename_i hs
        cases h
        simp only [Rep]
        exact ⟨_, rfl, rfl, Nat.le_of_ble_eq_true hs⟩
      · cases h
    · cases h
      simp only [Rep]
      exact ⟨[], none, 0, rfl, rfl, Nat.le_refl _, by simp, fun _ => rfl, .inl rfl⟩
    · cases h
  · cases h

/-- The value of scalar data. -/
noncomputable def valD : DV → Value
  | .int k z => .int k z
  | .bool b => .bool b
  | .str s => .string s
  | .list _ => .nilFunc
omit O in
theorem flat1 {α β : Type} (f : α → β) : ∀ l : List α, (l.map fun x => [f x]).flatten = l.map f
  | [] => rfl
  | x :: l => by simp [flat1 f l]
omit O in
theorem Rep_val {t : Ty} (ht : scalarT t = true) {d : DV} {v : Value} (h : Rep m t d v) : v = valD d := by
  cases t with
  | int k => simp only [Rep] at h; obtain ⟨z, rfl, rfl, _⟩ := h; rfl
  | bool => simp only [Rep] at h; obtain ⟨b, rfl, rfl⟩ := h; rfl
  | str => simp only [Rep] at h; obtain ⟨s, rfl, rfl, _⟩ := h; rfl
  | slice cs => cases ht
omit O in
theorem valD_ok {t : Ty} (ht : scalarT t = true) {d : DV} {v : Value} (h : Rep m t d v) : okCell (.sc v) = true := by
  cases t with
  | int k => simp only [Rep] at h; obtain ⟨z, rfl, rfl, _⟩ := h; rfl
  | bool => simp only [Rep] at h; obtain ⟨b, rfl, rfl⟩ := h; rfl
  | str => simp only [Rep] at h; obtain ⟨s, rfl, rfl, _⟩ := h; rfl
  | slice cs => cases ht
omit O in
theorem Rep_move {m' : Env} {t : Ty} (ht : scalarT t = true) {d : DV} {v : Value} (h : Rep m t d v) : Rep m' t d v := by
  cases t with
  | int k => simpa only [Rep] using h
  | bool => simpa only [Rep] using h
  | str => simpa only [Rep] using h
  | slice cs => cases ht

omit O in
/-- A slice of scalars, as a slice of exact values. -/
theorem sy_exact {t : Ty} (ht : scalarT t = true) {d : DV} {v : Value} (h : Rep m (.slice [t]) d v) : ∃ ds : List DV, d = .list (ds.map fun x => [x]) ∧ ds.length ≤ maxLen ∧ (∀ x ∈ ds, Rep m t x (valD x)) ∧
    V m (.fsl 1 false (ds.map fun x => [.sc (valD x)])) v := by
  simp only [Rep] at h
  obtain ⟨es, a, c, rfl, rfl, h3, h4, h5, h6⟩ := h
  rcases h6 with h6 | ⟨b, o, rfl, h7⟩
  · have : es = [] := List.eq_nil_of_length_eq_zero (by omega)
    subst this
    refine ⟨[], rfl, by simp, by simp, ?_⟩
    simp only [V, List.map_nil, List.length_nil]
    exact ⟨a, c, rfl, Nat.zero_le _, (fun e => by cases e), h5, .inl h6⟩
  · have hrow : ∀ i row, es[i]? = some row → ∃ x, row = [x] ∧ m.ecell b (o + i) = some (valD x) ∧ Rep m t x (valD x) := by
      intro i row hi
      have := h7 i row hi
      simp only [RepL, List.length_singleton, Nat.mul_one] at this
      obtain ⟨x, rest, u, rfl, k1, k2, rfl⟩ := this
      have hu := Rep_val ht k2
      subst hu
      exact ⟨x, rfl, k1, k2⟩
    have hes : ∃ ds : List DV, es = ds.map fun x => [x] := by
      refine ⟨es.map fun r => r.headD (.bool false), ?_⟩
      rw [List.map_map]
      refine (List.ext_getElem? fun i => ?_)
      rw [List.getElem?_map]
      cases hi : es[i]? with
      | none => rfl
      | some row =>
        obtain ⟨x, rfl, _⟩ := hrow i row hi
        rfl
    obtain ⟨ds, rfl⟩ := hes
    rw [List.length_map] at h3 h4
    refine ⟨ds, rfl, h4, fun x hx => ?_, ?_⟩
    · obtain ⟨i, hi⟩ := List.mem_iff_getElem?.1 hx
      obtain ⟨y, e, _, k⟩ := hrow i [x] (by rw [List.getElem?_map, hi]; rfl)
      cases e
      exact k
    · simp only [V, List.length_map]
      refine ⟨_, c, rfl, h3, (fun e => by cases e), h5, .inr ⟨b, o, rfl, VR_mk fun i e hi => ?_⟩⟩
      rw [List.getElem?_map] at hi
      cases hd : ds[i]? with
      | none => rw [hd] at hi; cases hi
      | some x =>
        rw [hd] at hi
        cases hi
        obtain ⟨y, e, k1, _⟩ := hrow i [x] (by rw [List.getElem?_map, hd]; rfl)
        cases e
        simp only [VC, V, List.length_singleton, and_true, true_and, Nat.mul_one]
        exact ⟨_, k1, rfl⟩

omit O in
/-- Frozen cells of scalars are data. -/
theorem fsl_rep {t : Ty} {ds : List DV} {ex : Bool} {v : Value} (hl : ds.length ≤ maxLen) (hd : ∀ x ∈ ds, Rep m t x (valD x)) (h : V m (.fsl 1 ex (ds.map fun x => [.sc (valD x)])) v) : Rep m (.slice [t]) (.list (ds.map fun x => [x])) v := by
  simp only [V, List.length_map] at h
  obtain ⟨a, c, rfl, h1, h2, h3, h4⟩ := h
  simp only [Rep]
  refine ⟨_, a, c, rfl, by rw [List.length_map], by rw [List.length_map]; exact h1, by rw [List.length_map]; exact hl, h3, ?_⟩
  rcases h4 with h4 | ⟨b, o, rfl, hv⟩
  · exact .inl h4
  · refine .inr ⟨b, o, rfl, ?_⟩
    have key : ∀ (l : List DV) (o : Nat), VR m b 1 o (l.map fun x => [.sc (valD x)]) → ∀ i x, l[i]? = some x → m.ecell b (o + i) = some (valD x) := by
      intro l
      induction l with
      | nil => intro o _ i x hi; simp at hi
      | cons y l ih =>
        intro o hv i x hi
        simp only [List.map_cons, VR, VC, V] at hv
        obtain ⟨_, ⟨⟨u, h1, rfl⟩, _⟩, h2⟩ := hv
        cases i with
        | zero => simp only [List.getElem?_cons_zero, Option.some.injEq] at hi; subst hi; simpa using h1
        | succ i =>
          have := ih (o + 1) h2 i x (by simpa using hi)
          rw [show o + (i + 1) = o + 1 + i by omega]
          exact this
    intro i row hi
    rw [List.getElem?_map] at hi
    cases hx : ds[i]? with
    | none => rw [hx] at hi; cases hi
    | some x =>
      rw [hx] at hi
      cases hi
      simp only [RepL, List.length_singleton, Nat.mul_one]
      exact ⟨x, [], _, rfl, key ds o hv i x hx, hd x (List.mem_iff_getElem?.2 ⟨i, hx⟩), rfl⟩

omit O in
/-- The data of a string's bytes. -/
theorem bytesD_ds (s : ByteArray) : bytesD (.str s) = .list ((s.data.toList.map fun b => DV.int .u8 b.toNat).map fun x => [x]) := by
  simp [bytesD]
omit O in
theorem u8_in (b : UInt8) : IntKind.min .u8 ≤ (b.toNat : Int) ∧ (b.toNat : Int) ≤ IntKind.max .u8 := by
  have := b.toNat_lt
  constructor
  · simp [IntKind.min, IntKind.signed]
  · simp [IntKind.max, IntKind.signed, IntKind.bits]; omega

omit O in
theorem flat_get {e : SX} {cs : List Ty} {j : Nat} (hj : j < cs.length) : ∀ (n s i : Nat), i < n → (rowsOf e cs s n).flatten[i * cs.length + j]? = (elemCells e (.ki .i64 (.ofNat (s + i))) 0 cs)[j]? := by
  intro n
  induction n with
  | zero => intro s i hi; omega
  | succ n ih =>
    intro s i hi
    rw [rowsOf, List.flatten_cons]
    cases i with
    | zero =>
      rw [Nat.zero_mul, Nat.zero_add, List.getElem?_append_left (by rw [elemCells_length]; exact hj)]
      rfl
    | succ i =>
      rw [List.getElem?_append_right (by rw [elemCells_length, Nat.succ_mul]; omega), elemCells_length]
      rw [show (i + 1) * cs.length + j - cs.length = i * cs.length + j by rw [Nat.succ_mul]; omega, ih (s + 1) i (by omega)]
      rw [show s + 1 + i = s + (i + 1) by omega]

omit O in
/-- Fewer things known of the heap. -/
theorem HR.sub {m : Env} {h1 h2 : AHeap} {w : World} (hr : HR m h1 w) (hn : h2.next = h1.next) (hl : h2.lim = h1.lim) (hs : ∀ id o, h2.t.get id = some o → h1.t.get id = some o) : HR m h2 w :=
  ⟨fun id hd => by rw [hn, hl]; exact hr.next id hd, by rw [hn, hl]; exact hr.lim, fun id hd => by rw [hn, hl]; exact hr.res id hd, hr.EF, hr.E, hr.F, fun id o ho => hr.objL id o (hs id o ho), fun i j x y hx hy => hr.injL i j x y (hs i x hx) (hs j y hy), hr.io⟩

omit O in
theorem elemCells_get {e i : SX} : ∀ {cs : List Ty} {k j : Nat} {t : Ty}, cs[j]? = some t → (elemCells e i k cs)[j]? = some (.sy t (.at e i (k + j)))
  | c :: cs, k, 0, t, h => by
    simp only [List.getElem?_cons_zero, Option.some.injEq] at h
    subst h
    simp [elemCells]
  | c :: cs, k, j + 1, t, h => by
    rw [elemCells, List.getElem?_cons_succ, elemCells_get (k := Nat.succ k) (by simpa using h)]
    congr 3
    show k + 1 + j = _
    omega
omit O in
theorem rowsOf_flat_length (e : SX) (cs : List Ty) : ∀ n i, (rowsOf e cs i n).flatten.length = n * cs.length := by
  intro n
  induction n with
  | zero => intro i; simp [rowsOf]
  | succ n ih => intro i; rw [rowsOf, List.flatten_cons, List.length_append, elemCells_length, ih]; rw [Nat.succ_mul]; omega
omit O in
theorem growB_cell {t : TypeId} {ts : List Ty} {E : SX} {N k : Nat} (hts : 1 ≤ ts.length) (hk : k < N * ts.length) : (growB t ts E N).cell k = .sy (ts.getD (k % ts.length) .bool) (.at E (.ki .i64 (.ofNat (k / ts.length))) (k % ts.length)) := by
  have hi : k / ts.length < N := (Nat.div_lt_iff_lt_mul hts).2 hk
  have hj : k % ts.length < ts.length := Nat.mod_lt _ hts
  have hkk : k / ts.length * ts.length + k % ts.length = k := by rw [Nat.mul_comm]; exact Nat.div_add_mod k _
  have e2 : ts[k % ts.length]? = some ts[k % ts.length] := List.getElem?_eq_getElem hj
  unfold Blk.cell growB
  simp only [get_putAll]
  rw [if_pos ⟨Nat.zero_le _, by rw [rowsOf_flat_length]; omega⟩, Nat.sub_zero]
  have := flat_get (e := E) hj N 0 (k / ts.length) hi
  rw [hkk, Nat.zero_add, elemCells_get e2, Nat.zero_add] at this
  rw [this]
  simp only [List.getD_eq_getElem?_getD, e2, Option.getD_some]

omit O in
theorem RepL_of {m : Env} {b : Nat} : ∀ {ts : List Ty} {ds : List DV} {o : Nat}, ds.length = ts.length → (∀ (j : Nat) (t : Ty) (d : DV), ts[j]? = some t → ds[j]? = some d → ∃ u, m.ecell b (o + j) = some u ∧ Rep m t d u) → RepL m ts ds b o
  | [], ds, o, hl, _ => by
    simp only [RepL]
    exact List.length_eq_zero_iff.1 hl
  | t :: ts, [], o, hl, _ => by simp at hl
  | t :: ts, d :: ds, o, hl, h => by
    simp only [RepL]
    obtain ⟨u, h1, h2⟩ := h 0 t d rfl rfl
    refine ⟨d, ds, u, rfl, h1, h2, RepL_of (by simpa using hl) fun j t' d' h3 h4 => ?_⟩
    rw [show o + 1 + j = o + (j + 1) by omega]
    exact h (j + 1) t' d' (by simpa using h3) (by simpa using h4)
omit O in
/-- A slice that grows becomes data. -/
theorem iceOwn {m : Env} {h : AHeap} {w : World} {id : Nat} {t : TypeId} {ts : List Ty} {e : SX} {v : Value} (hr : HR m h w) (hv : V m (.own id ts e) v) (hg : h.t.get id = some (.grow t ts e)) :
    ∃ m2, m.le m2 ∧ V m2 (.sy (.slice ts) e) v ∧ HR m2 { next := h.next, lim := h.lim, t := h.t.cut id } w := by
  simp only [V] at hv
  obtain ⟨hd, l, a, d1, rfl, d2, d3, d4, d5⟩ := hv
  have sub : ∀ i o, (h.t.cut id).get i = some o → h.t.get i = some o ∧ i ≠ id := by
    intro i o hi
    rw [Tr.get_cut] at hi
    split at hi
    · cases hi
    · rename_i hne; exact ⟨hi, fun e => hne e.symm⟩
  obtain ⟨_, hEF, hG⟩ := hr.objL id _ hg
  by_cases hp : (m.mu id).2 = 0
  · refine ⟨m, .refl m, ?_, hr.sub rfl rfl fun i o ho => (sub i o ho).1⟩
    simp only [V, Rep]
    exact ⟨l, a, _, d1, rfl, d2, by omega, d4, .inl hp⟩
  obtain ⟨hE, hF⟩ := hEF hp
  rcases GR.own (show GR m (m.mu id) t ts e w from hG) (by assumption) with h0 | ⟨l', e1, e2, e3, e4, hB⟩
  · exact absurd h0 hp
  rw [d1] at e1
  cases e1
  obtain ⟨cells, g1, g2, g3, _⟩ := hB
  have hne : ∀ k o, m.E k = some o → k ≠ (m.mu id).1 := fun k o ho e => by rw [e, hE] at ho; cases ho
  have hw : m.wle { m with E := fun k => if k = (m.mu id).1 then some (.cells cells t (0, 0)) else m.E k } := ⟨fun _ h => h, fun _ _ => rfl, fun k o ho => by
    simp only [if_neg (hne k o ho)]; exact ho, rfl, rfl⟩
  refine ⟨_, ⟨hw, fun _ _ h => h, fun _ h => h⟩, ?_, ⟨hr.next, hr.lim, hr.res, fun k x hk => ?_, fun k o hk => ?_, hr.F, fun i o ho => ?_, fun i j x y hi hj => hr.injL i j x y (sub i x hi).1 (sub j y hj).1, hr.io⟩⟩
  · simp only [V, Rep]
    refine ⟨l, a, _, d1, rfl, d2, by omega, d4, .inr ⟨_, 0, d5 hp, fun i row hi => ?_⟩⟩
    have hlt : i < l.length := (List.getElem?_eq_some_iff.1 hi).1
    have hrow := e2 row (List.mem_iff_getElem?.2 ⟨i, hi⟩)
    refine RepL_of hrow fun j t' d h3 h4 => ?_
    have hj : j < ts.length := (List.getElem?_eq_some_iff.1 h3).1
    have hk : i * ts.length + j < l.length * ts.length := by
      have : i * ts.length + ts.length ≤ l.length * ts.length := by rw [← Nat.succ_mul]; exact Nat.mul_le_mul_right _ hlt
      omega
    obtain ⟨u, u1, u2⟩ := g3 (i * ts.length + j) hk
    refine ⟨u, ?_, ?_⟩
    · simp only [Env.ecell, if_pos, Nat.zero_add]
      exact u1
    · rw [growB_cell e4 hk] at u2
      have q1 : (i * ts.length + j) / ts.length = i := by
        rw [Nat.mul_comm, Nat.mul_add_div (by omega), Nat.div_eq_of_lt hj]; rfl
      have q2 : (i * ts.length + j) % ts.length = j := by
        rw [Nat.mul_comm, Nat.mul_add_mod, Nat.mod_eq_of_lt hj]
      rw [q1, q2] at u2
      simp only [V, den, d1, atD, Int.ofNat_eq_natCast, Int.toNat_natCast, List.getD_eq_getElem?_getD, hi, Option.getD_some, h3, h4] at u2
      exact Rep.wmono hw _ _ _ u2
  · have h1 := hr.EF k x hk
    have : k ≠ (m.mu id).1 := fun e => by rw [e, hF] at hk; cases hk
    simp only [if_neg this]
    exact h1
  · by_cases e : k = (m.mu id).1
    · simp only [if_pos e, Option.some.injEq] at hk
      subst hk
      rw [e]
      exact g1
    · simp only [if_neg e] at hk
      exact hr.E k o hk
  · obtain ⟨l1, l2⟩ := sub i o ho
    obtain ⟨n1, n2, n3⟩ := hr.objL i o l1
    refine ⟨n1, fun lo => ⟨?_, (n2 lo).2⟩, n3.wmove hw fun _ => rfl⟩
    have : (m.mu i).1 ≠ (m.mu id).1 := fun e => l2 (hr.injL i id o _ l1 hg lo hp e)
    simp only [if_neg this]
    exact (n2 lo).1
omit O in
theorem exists_map {α β : Type} {f : β → α} : ∀ {l : List α}, (∀ x ∈ l, ∃ b, x = f b) → ∃ bs : List β, l = bs.map f
  | [], _ => ⟨[], rfl⟩
  | x :: l, h => by
    obtain ⟨b, rfl⟩ := h x (by simp)
    obtain ⟨bs, rfl⟩ := exists_map (l := l) fun y hy => h y (List.mem_cons_of_mem _ hy)
    exact ⟨b :: bs, rfl⟩
omit O in
theorem bytesList_u8 : ∀ bs : List UInt8, bytesList (bs.map fun b => .sc (.int .u8 b.toNat)) = some bs
  | [] => rfl
  | b :: bs => by
    show (bytesList (bs.map fun b => .sc (.int .u8 b.toNat))).map (UInt8.ofNat (Int.toNat (b.toNat : Int)) :: ·) = _
    rw [bytesList_u8 bs]
    simp
/-- The text of a slice of bytes that grows. -/
theorem own_string {src dt el : TypeId} {x : Operand} {id : Nat} {t : TypeId} {e : SX} {ρ : Operand → Value} (hr : HR m h w) (hx : V m (.own id [.int .u8] e) (ρ x)) (hg : h.t.get id = some (.grow t [.int .u8] e))
    (hs : P.underlying src = some (.slice el)) (hd : P.underlying dt = some .string) (hel : P.underlying el = some (.int .u8)) : Good m ((do pure (Next.value (← convert src dt (ρ x))) : Sem Next).run P w) (.sy .str (.text e)) h := by
  simp only [V] at hx
  obtain ⟨hdm, l, a, d1, hv, d2, d3, d4, d5⟩ := hx
  obtain ⟨_, hEF, hG⟩ := hr.objL id _ hg
  have text : ∀ (bs : List UInt8), l = bs.map (fun b => [DV.int .u8 b.toNat]) → textD (den m.R e) = .str ⟨bs.toArray⟩ := by
    rintro bs rfl
    rw [d1]
    simp only [textD, List.map_map]
    have : ∀ b : UInt8, (byteOf ∘ fun b : UInt8 => [DV.int .u8 b.toNat]) b = _root_.id b := by
      intro b
      simp only [Function.comp, byteOf]
      simp
    rw [List.map_congr_left (fun b _ => this b)]
    simp
  by_cases hp : (m.mu id).2 = 0
  · have hl0 : l = [] := List.length_eq_zero_iff.1 (by omega)
    subst hl0
    have hc := ok_convert (P := P) (m := m) (h := h) (w := w) src dt x none 0 "" #[] none (seen ρ x (.emp 0)) ρ (seen_ok (by
      rw [hv]
      simp only [V]
      exact ⟨a, _, rfl, fun _ => hp, d4⟩)) hr
    have hsx : seen ρ x (.emp 0) x = .emp 0 := by simp [seen]
    have hop2 : opA P (seen ρ x (.emp 0)) h { dst := none, op := .convert src dt x, type := 0, pos := "", after := #[], guard := none } = some (.sc (.string ⟨([] : List UInt8).toArray⟩), h) := by
      simp only [opA, opConvert, hs, hd, hel, hsx]
      rfl
    refine (hc _ _ hop2).imp fun m' v hm hv => ?_
    simp only [V] at hv ⊢
    subst hv
    rw [hm.R]
    simp only [Rep, den, text [] rfl]
    exact ⟨_, rfl, rfl, Nat.zero_le _⟩
  · obtain ⟨hE, hF⟩ := hEF hp
    rcases GR.own (show GR m (m.mu id) t [.int .u8] e w from hG) (by assumption) with h0 | ⟨l', e1, e2, e3, e4, hB⟩
    · exact absurd h0 hp
    rw [d1] at e1
    cases e1
    obtain ⟨c, b1, b2, b3, b4⟩ := hB
    have cells : ∀ k, k < l.length → ∃ b : UInt8, l[k]? = some [DV.int .u8 b.toNat] ∧ c[k]? = some (.int .u8 b.toNat) := by
      intro k hk
      have hk1 : k < l.length * [Ty.int .u8].length := by simpa using hk
      obtain ⟨u, u1, u2⟩ := b3 k hk1
      rw [growB_cell e4 hk1] at u2
      simp only [List.length_singleton, Nat.mod_one, Nat.div_one, List.getD_cons_zero, V, Rep, den, d1, atD, Int.ofNat_eq_natCast, Int.toNat_natCast] at u2
      obtain ⟨z, z1, rfl, z2, z3⟩ := u2
      have hrow := e2 l[k] (List.getElem_mem hk)
      have hk2 : l[k]? = some l[k] := List.getElem?_eq_getElem hk
      obtain ⟨d, hd1⟩ := List.length_eq_one_iff.1 (by simpa using hrow : l[k].length = 1)
      simp only [List.getD_eq_getElem?_getD, hk2, Option.getD_some, hd1, List.getElem?_cons_zero] at z1
      subst z1
      have h3 : 0 ≤ z ∧ z < 256 := by simp [IntKind.min, IntKind.max, IntKind.signed, IntKind.bits] at z2 z3; omega
      have h4 : (UInt8.ofNat z.toNat).toNat = z.toNat % 256 := UInt8.toNat_ofNat'
      refine ⟨UInt8.ofNat z.toNat, by rw [hk2, hd1]; congr 3; omega, by rw [u1]; congr 2; omega⟩
    obtain ⟨bs, hbs⟩ : ∃ bs : List UInt8, l = bs.map (fun b => [DV.int .u8 b.toNat]) := exists_map fun row hrow => by
      obtain ⟨k, hk⟩ := List.mem_iff_getElem?.1 hrow
      obtain ⟨b, h1, _⟩ := cells k (List.getElem?_eq_some_iff.1 hk).1
      rw [hk] at h1
      exact ⟨b, by simpa using h1⟩
    have hlen : l.length = bs.length := by rw [hbs]; simp
    have ha := d5 hp
    subst ha
    have hr1 : HR m (h.put id (.blk { t, row := false, sz := 1, n := l.length, z := [], c := Blk.putAll .nil 0 (bs.map fun b => .sc (.int .u8 b.toNat)) })) w := by
      refine hr.put (o' := .blk _) hg ⟨c, b1, (by have e0 : (growB t [Ty.int .u8] e l.length).n = l.length * 1 := rfl; show l.length ≤ c.size; omega), fun k hk => ?_, fun hrow => by cases hrow⟩ (fun _ _ => rfl) rfl hp
      obtain ⟨b, q1, q2⟩ := cells k hk
      refine ⟨_, q2, ?_⟩
      unfold Blk.cell
      have hk' : k < bs.length := by rw [← hlen]; exact hk
      rw [get_putAll, if_pos ⟨Nat.zero_le _, by simpa using hk'⟩, Nat.sub_zero, List.getElem?_map, List.getElem?_eq_getElem hk']
      simp only [Option.map_some, V]
      rw [hbs, List.getElem?_map, List.getElem?_eq_getElem hk'] at q1
      simpa using q1.symm
    have hs0 : V m (.sl id 0 l.length none) (ρ x) := by
      rw [hv]
      simp only [V]
      exact ⟨hdm, _, rfl, d2, (fun k e => by cases e), fun _ _ => rfl⟩
    have hbk : ∀ b : Blk, (h.put id (.blk b)).blk? id = some b := fun b => by
      unfold AHeap.blk? AHeap.put
      simp [Tr.get_put]
    have hrc : rowCells (h.put id (.blk { t, row := false, sz := 1, n := l.length, z := [], c := Blk.putAll .nil 0 (bs.map fun b => .sc (.int .u8 b.toNat)) })) 1 l.length (.sl id 0 l.length none) = some (bs.map fun b => .sc (.int .u8 b.toNat)) := by
      have hce : ({ t, row := false, sz := 1, n := l.length, z := [], c := Blk.putAll .nil 0 (bs.map fun b => .sc (.int .u8 b.toNat)) } : Blk).cellsFrom 0 l.length = bs.map fun b => .sc (.int .u8 b.toNat) := by
        refine List.ext_getElem? fun k => ?_
        by_cases hk : k < l.length
        · rw [getElem?_cellsFrom _ _ 0 k hk, Nat.zero_add]
          unfold Blk.cell
          rw [get_putAll, if_pos ⟨Nat.zero_le _, by simp; omega⟩, Nat.sub_zero, List.getElem?_eq_getElem (by simp; omega)]
        · rw [List.getElem?_eq_none (by rw [length_cellsFrom]; omega), List.getElem?_eq_none (by simp; omega)]
      have hb1 : (Nat.ble l.length l.length && Nat.ble (0 + l.length * 1) l.length) = true := by rw [Bool.and_eq_true, Nat.ble_eq, Nat.ble_eq]; omega
      simp only [rowCells, hbk, hb1]
      rw [Nat.mul_one, hce]
    obtain ⟨vs, k1, k2, _, _⟩ := rowCells_sound (P := P) hr1 hs0 hrc
    have hbl := bytesList_u8 bs
    obtain ⟨ns, rfl, hns⟩ := bytesList_spec hbl k1
    refine Good.run (s := convert src dt (ρ x)) (v := .string ⟨(ns.map fun n => UInt8.ofNat n.toNat).toArray⟩) hr ?_ ?_
    · simp only [V, Rep, den, text bs hbs]
      refine ⟨_, rfl, by rw [hns], ?_⟩
      show bs.toArray.size ≤ maxLen
      simp only [List.size_toArray]
      omega
    · rw [hv]
      have hld : (loadCells ⟨(m.mu id).1, 0, none⟩ l.length).run P w = .ok (ns.map (Value.int .u8)).toArray w := by
        rw [hv] at k2
        simpa [Builtin.firstCells] using k2
      have := run_bytesToString w ⟨(m.mu id).1, 0, none⟩ l.length (m.mu id).2 ns hld
      rw [foldl_bytes] at this
      simp only [convert, Sem.run_bind, run_underlying hs, run_underlying hd, Result.andThen_ok, run_underlying hel]
      exact this

theorem VC_pre {m : Env} {b : Nat} : ∀ {xs ys : List AV} {o : Nat}, VC m b o (xs ++ ys) → VC m b o xs
  | [], _, _, _ => by simp [VC]
  | x :: xs, ys, o, h => by
    simp only [List.cons_append, VC] at h ⊢
    exact ⟨h.1, VC_pre h.2⟩
theorem rowsOf_split (e : SX) (cs : List Ty) : ∀ (n k i : Nat), rowsOf e cs i (n + k) = rowsOf e cs i n ++ rowsOf e cs (i + n) k
  | 0, k, i => by simp [rowsOf]
  | n + 1, k, i => by
    rw [show n + 1 + k = (n + k) + 1 by omega, rowsOf, rowsOf, rowsOf_split e cs n k (i + 1), List.cons_append, show i + 1 + n = i + (n + 1) by omega]
theorem ok_symArr (hF : FactsOK m.R) {t : TypeId} {x : Operand} {dst type pos after guard} {ev : Operand → AV} {ρ : Operand → Value} (hev : ∀ x, V m (ev x) (ρ x)) (hr : HR m h w) {av : AV} {h' : AHeap}
    (hop : symOp0 P ev h ⟨dst, .sliceToArrayPointer t x, type, pos, after, guard⟩ = some (av, h')) : Good m ((execOp ρ ⟨dst, .sliceToArrayPointer t x, type, pos, after, guard⟩).run P w) av h' := by
  simp only [symOp0] at hop
  split at hop <;> (try (cases hop; done))
  rename_i n el cs e hu hx
  split at hop <;> (try (cases hop; done))
  rename_i size hs
  split at hop <;> (try (cases hop; done))
  rename_i hle
  simp only [Bool.and_eq_true, Nat.beq_eq, Nat.ble_eq] at hle
  obtain ⟨⟨hsz, h1⟩, h2⟩ := hle
  subst hsz
  cases hop
  have hxv := hev x
  rw [hx] at hxv
  simp only [V] at hxv
  obtain ⟨es, e1, e2, e3, e4⟩ := sy_fsl hxv
  have hn := leS_sound hF h2 (k := .i64) (l := .i64) (a := (n : Int)) (b := (es.length : Int)) (by simp [den]) (by simp only [den, e1, lenD])
  have hn' : n ≤ es.length := by omega
  refine (ok_sliceToArrayPointer t x dst type pos after guard (seen ρ x (.fsl cs.length false (rowsOf e cs 0 es.length))) ρ (seen_ok e3) hr (.fp (rowsOf e cs 0 es.length).flatten) h ?_).imp ?_
  · have hsx : seen ρ x (.fsl cs.length false (rowsOf e cs 0 es.length)) x = .fsl cs.length false (rowsOf e cs 0 es.length) := by simp [seen]
    have hc : (Nat.ble n (rowsOf e cs 0 es.length).length && Nat.beq cs.length cs.length && Nat.ble 1 n) = true := by
      rw [rowsOf_length]
      simp only [Bool.and_eq_true, Nat.ble_eq, Nat.beq_eq]
      exact ⟨⟨hn', trivial⟩, h1⟩
    simp only [opA, opSliceToArrayPointer, hu, hs, hsx, hc]
  · intro m' v hm hv
    obtain ⟨k, hk⟩ : ∃ k, es.length = n + k := ⟨es.length - n, by omega⟩
    rw [hk, rowsOf_split, List.flatten_append] at hv
    simp only [V] at hv ⊢
    obtain ⟨b, o, rfl, hc⟩ := hv
    exact ⟨b, o, rfl, VC_pre hc⟩
theorem copy_same {h : AHeap} {ts : Array TypeId} {ty : TypeId} {id off len n : Nat} {cap : Option Nat} {cs : List Ty} {e : SX} (hn : len ≤ n) :
    biCopy P h ts ty [.sl id off len cap, .fsl cs.length false (rowsOf e cs 0 n)] = biCopy P h ts 0 [.sl id off len cap, .fsl cs.length false (rowsOf e cs 0 len)] := by
  obtain ⟨k, rfl⟩ : ∃ k, n = len + k := ⟨n - len, by omega⟩
  have e1 : Nat.min (len + k) len = len := Nat.min_eq_right (by omega)
  have e2 : Nat.min len len = len := Nat.min_self _
  have e3 : (rowsOf e cs 0 (len + k)).take len = rowsOf e cs 0 len := by
    rw [rowsOf_split, List.take_left' (rowsOf_length e cs len 0)]
  have e4 : (rowsOf e cs 0 len).take len = rowsOf e cs 0 len := List.take_of_length_le (by rw [rowsOf_length]; omega)
  have e5 : Nat.ble len (len + k) = true := by rw [Nat.ble_eq]; omega
  have e6 : Nat.ble len len = true := by rw [Nat.ble_eq]; omega
  cases hts : ts[0]? with
  | none => simp only [biCopy, hts]
  | some t =>
    simp only [biCopy, hts]
    cases hu : P.underlying t with
    | none => rfl
    | some d =>
      cases d with
      | slice el =>
        simp only
        cases hz : sizeT P el with
        | none => rfl
        | some size => simp only [lenOf, rowsOf_length, rowCells, e1, e2, e3, e4, e5, e6]
      | _ => rfl
omit O in
theorem isZ8_eq {l : List Value} (h : isZ8 l = true) : l = [.int .u8 0] := by
  unfold isZ8 at h
  split at h
  · rfl
  · cases h
theorem symMake_sound (hF : FactsOK m.R) {t : TypeId} {l c : AV} {lv cv : Value} (hl : V m l lv) (hc : V m c cv) (hr : HR m h w) {av : AV} {h' : AHeap} (hop : symMake P h t l c = some (av, h')) :
    Good m ((do pure (Next.value (← Instr.makeSlice t lv cv)) : Sem Next).run P w) av h' := by
  unfold symMake at hop
  split at hop <;> (try (cases hop; done))
  rename_i el d c' ht hc'
  split at hop <;> (try (cases hop; done))
  rename_i i hi
  split at hop <;> (try (cases hop; done))
  rename_i z hz
  split at hop <;> (try (cases hop; done))
  rename_i hk
  simp only [Bool.and_eq_true, Nat.beq_eq] at hk
  obtain ⟨⟨⟨⟨hk1, hk2⟩, hk3⟩, hk4⟩, hk5⟩ := hk
  simp only [Option.some.injEq, Prod.mk.injEq] at hop
  obtain ⟨rfl, rfl⟩ := hop
  have hz8 : z.cells = #[.int .u8 0] := Array.ext' (by simpa using isZ8_eq hk1)
  simp only [V, Rep] at hl
  obtain ⟨n, n1, rfl, n2, n3⟩ := hl
  obtain ⟨k, q, q1, rfl⟩ := intSX_spec hc' hc
  have a1 := leS_sound hF hk4 n1 q1
  have a2 := leS_sound hF hk5 q1 (show den m.R (.ki .i64 (.ofNat 1000000)) = .int .i64 1000000 from rfl)
  have hn0 : 0 ≤ n := by
    simp only [den] at n1
    cases hx : den m.R d with
    | str s => rw [hx] at n1; simp only [lenD, DV.int.injEq, true_and] at n1; omega
    | list s => rw [hx] at n1; simp only [lenD, DV.int.injEq, true_and] at n1; omega
    | int k z => rw [hx] at n1; simp [lenD] at n1
    | bool b => rw [hx] at n1; simp [lenD] at n1
  obtain ⟨len, rfl⟩ := Int.eq_ofNat_of_zero_le hn0
  obtain ⟨cap, rfl⟩ := Int.eq_ofNat_of_zero_le (Int.le_trans hn0 a1)
  have b1 : len ≤ cap := by omega
  have b2 : cap ≤ 1000000 := by omega
  have hd : den m.R (.bytes (.len d)) = .list (List.replicate len [.int .u8 0]) := by
    show bytesD (den m.R (.len d)) = _
    rw [n1]
    simp [bytesD]
  have hsz : ((Array.range (cap * i.size)).map (z.cells[· % z.cells.size]!)).size = cap := by simp [hk2]
  have hcell : ∀ j, j < cap → ((Array.range (cap * i.size)).map (z.cells[· % z.cells.size]!))[j]? = some (.int .u8 0) := by
    intro j hj
    simp [hk2, hj, hz8, Nat.mod_one]
  refine Good.new (s := Instr.makeSlice t (.int .i64 (len : Int)) (.int k (cap : Int))) (m' := m.add h.next (w.heap.size, cap)) (w' := w.alloc (.cells ((Array.range (cap * i.size)).map (z.cells[· % z.cells.size]!)) el)) (v := .slice (some ⟨w.heap.size, 0, none⟩) len cap) (hr.le_add _) ?_ ?_
    (run_makeSlice_small ht hi hz (wrap_small .i64 len (lim64 (by omega))) (wrap_small .i64 cap (lim64 (by omega))) (by omega) (by omega) (by omega) (by rw [hk3]; simp; omega))
  · refine hr.alloc _ _ _ (.inr (.inl ⟨List.replicate len [.int .u8 0], hd, ?_, by simpa using b1, by simp, _, heap_alloc_new w _, ?_, ?_, ?_⟩))
    · intro row hrow
      rw [List.eq_of_mem_replicate hrow]
      rfl
    · rw [hsz]
      show (List.replicate len ([.int .u8 0] : List DV)).length * 1 ≤ cap
      simpa using b1
    · intro j hj
      have hj' : j < (List.replicate len ([.int .u8 0] : List DV)).length * ([.int .u8] : List Ty).length := hj
      have hj2 : j < len := by simpa using hj'
      refine ⟨_, hcell j (by omega), ?_⟩
      rw [growB_cell (by simp) hj']
      simp only [V]
      have e1 : den (m.add h.next (w.heap.size, cap)).R (.at (.bytes (.len d)) (.ki .i64 (.ofNat (j / ([.int .u8] : List Ty).length))) (j % ([.int .u8] : List Ty).length)) = .int .u8 0 := by
        show atD (den m.R (.bytes (.len d))) (.int .i64 (.ofNat (j / 1))) (j % 1) = _
        rw [hd, Nat.div_one, Nat.mod_one]
        simp [atD, hj2]
      rw [e1]
      simp only [List.length_singleton, Nat.mod_one, List.getD_cons_zero, Rep]
      exact ⟨0, rfl, rfl, by decide, by decide⟩
    · intro _
      rw [hsz]
      exact ⟨by show cap * 1 ≤ cap; omega, by unfold maxLen; show cap ≤ _; omega, by show (List.replicate len [DV.int IntKind.u8 0]).length * 1 ≤ cap * 1; simpa using b1⟩
  · simp only [V]
    exact ⟨Env.add_dom _ _ _, List.replicate len [.int .u8 0], some ⟨w.heap.size, 0, none⟩, hd, by simp, by simpa using b1, by simp [maxLen]; omega, (fun e => by cases e), fun _ => by simp⟩
/-! ### Maps whose keys go by names -/
theorem dvOf_rep {m : Env} {t : Ty} {d : DV} {v : Value} (hs : scalarT t = true) (h : Rep m t d v) : dvOf t d = some v ∧ plainD d := by
  cases t with
  | int k =>
    simp only [Rep] at h
    obtain ⟨z, rfl, rfl, h1, h2⟩ := h
    exact ⟨by simp [dvOf, h1, h2], trivial⟩
  | bool =>
    simp only [Rep] at h
    obtain ⟨b, rfl, rfl⟩ := h
    exact ⟨rfl, trivial⟩
  | str =>
    simp only [Rep] at h
    obtain ⟨b, rfl, rfl, h1⟩ := h
    exact ⟨by simp [dvOf, h1], trivial⟩
  | slice cs => cases hs
theorem rep_dvOf {m : Env} {t : Ty} {d : DV} {v : Value} (h : dvOf t d = some v) : Rep m t d v := by
  unfold dvOf at h
  split at h
  · split at h
    · rename_i hc
      cases h
      obtain ⟨rfl, h1, h2⟩ := hc
      simp only [Rep]
      exact ⟨_, rfl, rfl, h1, h2⟩
    · cases h
  · cases h
    simp [Rep]
  · split at h
    · rename_i hc
      cases h
      simp only [Rep]
      exact ⟨_, rfl, rfl, hc⟩
    · cases h
  · cases h
def unV : Value → DV
  | .int k z => .int k z
  | .bool b => .bool b
  | .string s => .str s
  | _ => .bool false
theorem dvOf_un {t : Ty} {d : DV} {v : Value} (h : dvOf t d = some v) : d = unV v := by
  cases t <;> cases d <;> simp only [dvOf, reduceCtorEq] at h
  · rename_i k l z
    by_cases hc : k = l ∧ k.min ≤ z ∧ z ≤ k.max
    · rw [if_pos hc] at h
      cases h
      rw [hc.1]
      rfl
    · rw [if_neg hc] at h
      cases h
  · cases h
    rfl
  · rename_i s
    by_cases hc : s.size ≤ maxLen
    · rw [if_pos hc] at h
      cases h
      rfl
    · rw [if_neg hc] at h
      cases h
theorem dvOf_inj {t : Ty} {a b : DV} {v : Value} (h : dvOf t a = some v) (k : dvOf t b = some v) : a = b := by rw [dvOf_un h, dvOf_un k]
theorem zipTy_spec {m : Env} : ∀ {ts : List Ty} {cs : List AV} {es : List SX} {vs : List Value}, zipTy ts cs = some es → scalTs ts = true → VL m cs vs → rowVs ts (den.denL m.R es) = some vs
  | [], [], es, vs, h, _, hv => by
    cases h
    simp only [VL] at hv
    subst hv
    rfl
  | t :: ts, c :: cs, es, vs, h, hs, hv => by
    simp only [zipTy] at h
    simp only [scalTs, Bool.and_eq_true] at hs
    split at h <;> (try (cases h; done))
    rename_i e es' h1 h2
    cases h
    simp only [VL] at hv
    obtain ⟨v, us, rfl, hv, hl⟩ := hv
    simp only [den.denL, rowVs, (dvOf_rep hs.1 (asTy_spec h1 hv)).1, zipTy_spec h2 hs.2 hl]
  | [], _ :: _, _, _, h, _, _ => by simp [zipTy] at h
  | _ :: _, [], _, _, h, _, _ => by simp [zipTy] at h
theorem keySX_spec {m : Env} {b : Nat} {ts : List Ty} {a : AV} {ks : List SX} {v : Value} (h : keySX b ts a = some ks) (hs : scalTs ts = true) (hv : V m a v) : KeyV b ts (den.denL m.R ks) v := by
  unfold keySX at h
  split at h
  · rename_i hb
    rw [Nat.beq_eq] at hb
    exact ⟨[v], zipTy_spec h hs (by simp only [VL]; exact ⟨v, [], rfl, hv, rfl⟩), .inl ⟨hb, rfl⟩⟩
  · rename_i hb
    split at h <;> (try (cases h; done))
    rename_i cs hc
    obtain ⟨vs, rfl, hl⟩ := aggOf_spec hc hv
    exact ⟨vs.toList, zipTy_spec h hs hl, .inr ⟨(fun e => by subst e; cases hb), rfl⟩⟩
theorem rowVs_inj : ∀ {ts : List Ty} {a b : List DV} {vs : List Value}, rowVs ts a = some vs → rowVs ts b = some vs → a = b
  | [], [], [], _, _, _ => rfl
  | t :: ts, x :: xs, y :: ys, vs, h, k => by
    simp only [rowVs] at h k
    split at h <;> (try (cases h; done))
    rename_i v us h1 h2
    cases h
    split at k <;> (try (cases k; done))
    rename_i v' us' k1 k2
    simp only [Option.some.injEq, List.cons.injEq] at k
    obtain ⟨rfl, rfl⟩ := k
    rw [dvOf_inj h1 k1, rowVs_inj h2 k2]
  | [], _ :: _, _, _, h, _ => by simp [rowVs] at h
  | [], _, _ :: _, _, _, h => by simp [rowVs] at h
  | _ :: _, [], _, _, h, _ => by simp [rowVs] at h
  | _ :: _, _, [], _, _, h => by simp [rowVs] at h
theorem KeyV.inj {b : Nat} {ts : List Ty} {r s : List DV} {x : Value} (h : KeyV b ts r x) (k : KeyV b ts s x) : r = s := by
  obtain ⟨vs, h1, h2⟩ := h
  obtain ⟨us, k1, k2⟩ := k
  have : vs = us := by
    rcases h2 with ⟨h2, h3⟩ | ⟨h2, h3⟩ <;> rcases k2 with ⟨k2, k3⟩ | ⟨k2, k3⟩
    · rw [h3, k3]
    · exact absurd h2 k2
    · exact absurd k2 h2
    · rw [h3] at k3
      simpa using k3
  subst this
  exact rowVs_inj h1 k1
theorem KeyV.ext {b : Nat} {ts : List Ty} {r : List DV} {x y : Value} (h : KeyV b ts r x) (k : KeyV b ts r y) : x = y := by
  obtain ⟨vs, h1, h2⟩ := h
  obtain ⟨us, k1, k2⟩ := k
  rw [h1] at k1
  cases k1
  rcases h2 with ⟨h2, h3⟩ | ⟨h2, h3⟩ <;> rcases k2 with ⟨k2, k3⟩ | ⟨k2, k3⟩
  · rw [h3] at k3
    simpa using k3
  · exact absurd h2 k2
  · exact absurd k2 h2
  · rw [h3, k3]
theorem dummies_VL {m : Env} : ∀ {ts : List Ty} {row : List DV} {vs : List Value} {i : Nat}, rowVs ts row = some vs → (∀ j d, row[j]? = some d → m.R.ρ (i + j) = d) → VL m (dummies ts i) vs ∧ den.denL m.R (varsFrom ts i) = row ∧ row.length = ts.length
  | [], [], vs, i, h, _ => by
    cases h
    simp [dummies, VL, varsFrom, den.denL]
  | t :: ts, d :: ds, vs, i, h, hρ => by
    simp only [rowVs] at h
    split at h <;> (try (cases h; done))
    rename_i v us h1 h2
    cases h
    have h0 : m.R.ρ i = d := hρ 0 d rfl
    obtain ⟨g1, g2, g3⟩ := dummies_VL (m := m) (i := Nat.succ i) h2 (fun j e he => by
      have := hρ (j + 1) e (by simpa using he)
      rw [show Nat.succ i + j = i + (j + 1) by omega]
      exact this)
    refine ⟨?_, ?_, by simp [g3]⟩
    · simp only [dummies, VL]
      exact ⟨v, us, rfl, by simp only [V, den]; rw [h0]; exact rep_dvOf h1, g1⟩
    · simp only [varsFrom, den.denL, den, h0, g2]
  | [], _ :: _, _, _, h, _ => by simp [rowVs] at h
  | _ :: _, [], _, _, h, _ => by simp [rowVs] at h
theorem dvOf_cells {t : Ty} {d : DV} {v : Value} (h : dvOf t d = some v) : v.cells.toList = [v] ∧ (∀ cs, v ≠ .agg cs) ∧ (∀ cs, v ≠ .tuple cs) := by
  unfold dvOf at h
  split at h
  · split at h <;> cases h
    simp [Value.cells]
  · cases h
    simp [Value.cells]
  · split at h <;> cases h
    simp [Value.cells]
  · cases h

theorem KeysOK.snoc {b : Nat} {ts : List Ty} {r : List DV} {x : MapEntry} (hk : KeyV b ts r x.key) (hv : x.val = .bool true) : ∀ {l : List (List DV)} {c : List MapEntry}, KeysOK b ts l c → KeysOK b ts (l ++ [r]) (c ++ [x])
  | [], [], _ => ⟨⟨hk, hv⟩, trivial⟩
  | _ :: _, _ :: _, h => ⟨h.1, KeysOK.snoc hk hv h.2⟩
  | [], _ :: _, h => h.elim
  | _ :: _, [], h => h.elim
structure MapI (P : Program) (t k e : TypeId) (b : Nat) (ts : List Ty) : Prop where
  und : P.underlying t = some (.map k e)
  kind : keyKind P k = some b
  scal : scalTs ts = true
  zero : zeroOf P e = some (.bool false)
  lits : ∃ xs, symLits P 8 k (dummies ts 0) = some xs ∧ eqSX.eqSXs xs (varsFrom ts 0) = true
theorem mapS_spec {P : Program} {t k e : TypeId} {b : Nat} {ts : List Ty} (h : mapS P t = some (k, e, b, ts)) : MapI P t k e b ts := by
  unfold mapS at h
  split at h <;> (try (cases h; done))
  rename_i k' e' hu
  split at h <;> (try (cases h; done))
  rename_i b' ts' h1 h2 h3
  split at h <;> (try (cases h; done))
  rename_i xs hx
  split at h <;> (try (cases h; done))
  rename_i hb
  cases h
  simp only [Bool.and_eq_true] at hb
  exact ⟨hu, h1, hb.1, h3, xs, hx, hb.2⟩

section
variable {k : TypeId} {b : Nat} {ts : List Ty} {t e : TypeId}
theorem MapI.keyType (hi : MapI P t k e b ts) : P.keyTypeAt 8 k = true := by
  have h := hi.kind
  unfold keyKind at h
  split at h
  · rename_i q hu
    simp [Program.keyTypeAt, hu]
  · split at h
    · rename_i hk; exact hk
    · cases h
  · cases h
theorem MapI.wide (hi : MapI P t k e b ts) : (b = 0 ∧ ∃ q, P.underlying k = some (.int q)) ∨ (b = 1 ∧ isAggT P k = some true ∧ (match P.underlying k with | some (.array _ _) | some (.struct _) => true | _ => false) = true) := by
  have h := hi.kind
  unfold keyKind at h
  split at h
  · rename_i q hu
    cases h
    exact .inl ⟨rfl, q, hu⟩
  · rename_i fs hu
    split at h
    · cases h
      exact .inr ⟨rfl, by simp [isAggT, hu], by simp [hu]⟩
    · cases h
  · cases h
theorem MapI.key (hi : MapI P t k e b ts) (m : Env) {row : List DV} {x : Value} (h : KeyV b ts row x) : P.keyLits 8 k x.cells.toList = some (row.map litD) ∧ (∀ d ∈ row, plainD d) ∧ x.formed P k = true := by
  obtain ⟨vs, h1, h2⟩ := h
  obtain ⟨xs, x1, x2⟩ := hi.lits
  have x2 := eqSXs_eq x2
  subst x2
  obtain ⟨g1, g2, _⟩ := dummies_VL (m := { m with R := ⟨fun j => row.getD j (.bool false), m.R.I⟩ }) (i := 0) h1 (fun j d hd => by
    show row.getD (0 + j) (.bool false) = d
    rw [Nat.zero_add, List.getD_eq_getElem?_getD, hd]
    rfl)
  obtain ⟨ls, l1, l2, l3⟩ := symLits_spec (m := { m with R := ⟨fun j => row.getD j (.bool false), m.R.I⟩ }) 8 x1 g1
  have hden : ∀ (R : Rho) (es : List SX), den.denL R es = es.map (den R) := by
    intro R es
    induction es with
    | nil => rfl
    | cons a as ih => simp only [den.denL, ih, List.map_cons]
  rw [hden] at g2
  have e1 : ls = row.map litD := by
    have := congrArg (List.map litD) g2
    rw [List.map_map] at this
    rw [l2]
    exact this
  have e2 : ∀ d ∈ row, plainD d := by
    intro d hd
    rw [← g2] at hd
    obtain ⟨y, hy, rfl⟩ := List.mem_map.1 hd
    exact l3 y hy
  subst e1
  rcases hi.wide with ⟨rfl, q, hu⟩ | ⟨rfl, hagg, _⟩
  · rcases h2 with ⟨_, rfl⟩ | ⟨h2, _⟩
    · have hx : x.cells.toList = [x] ∧ (∀ cs, x ≠ .agg cs) ∧ (∀ cs, x ≠ .tuple cs) := by
        cases ts with
        | nil => cases row <;> simp [rowVs] at h1
        | cons t0 ts0 =>
          cases row with
          | nil => simp [rowVs] at h1
          | cons d ds =>
            simp only [rowVs] at h1
            split at h1 <;> (try (cases h1; done))
            rename_i v us q1 q2
            simp only [Option.some.injEq, List.cons.injEq] at h1
            obtain ⟨rfl, _⟩ := h1
            exact dvOf_cells q1
      refine ⟨by rw [hx.1]; exact l1, e2, ?_⟩
      cases x <;> simp [Value.formed, hu]
      · exact absurd rfl (hx.2.1 _)
      · exact absurd rfl (hx.2.2 _)
    · exact absurd rfl h2
  · rcases h2 with ⟨h2, _⟩ | ⟨_, rfl⟩
    · cases h2
    · have l1' : P.keyLits 8 k vs.toArray.toList = some (row.map litD) := by simpa using l1
      have f1 := formed_of_lits l1' hi.keyType fun _ _ => hagg
      rw [hagg] at f1
      simp only [Option.some.injEq, Bool.true_eq_false, or_false] at f1
      exact ⟨by simpa [Value.cells] using l1, e2, f1⟩
theorem map_litD {r s : List DV} (hr : ∀ d ∈ r, plainD d) (hs : ∀ d ∈ s, plainD d) (h : r.map litD = s.map litD) : r = s := by
  induction r generalizing s with
  | nil => cases s with
    | nil => rfl
    | cons _ _ => simp at h
  | cons a as ih => cases s with
    | nil => simp at h
    | cons b bs =>
      simp only [List.map_cons, List.cons.injEq] at h
      rw [litD_inj (hr a (by simp)) (hs b (by simp)) h.1, ih (fun d hd => hr d (by simp [hd])) (fun d hd => hs d (by simp [hd])) h.2]

theorem MapI.check (hi : MapI P t k e b ts) (m : Env) (em : Bool) {row : List DV} {x : Value} (h : KeyV b ts row x) : (Instr.checkKey em 10000 k x).run P w = .ok () w := by
  obtain ⟨h1, _, h3⟩ := hi.key m h
  exact run_checkKey_deep em 9992 8 k hi.keyType w 8 x _ h3 h1

theorem MapI.find (hi : MapI P t k e b ts) (m : Env) {row : List DV} {x : Value} (h : KeyV b ts row x) {l : List (List DV)} {c : List MapEntry} (hl : KeysOK b ts l c) :
    ∃ r, (Instr.findKey k x c).run P w = .ok r w ∧ (r = none ↔ row ∉ l) ∧ ∀ p, r = some p → p.2 = .bool true := by
  rcases hi.wide with ⟨rfl, q, hu⟩ | ⟨rfl, hagg, hwide⟩
  · have int : ∀ {r : List DV} {y : Value}, KeyV 0 ts r y → ∃ z, y = .int q z := by
      intro r y hy
      obtain ⟨g1, _, _⟩ := hi.key m hy
      obtain ⟨vs, g2, g3⟩ := hy
      rcases g3 with ⟨_, rfl⟩ | ⟨g3, _⟩
      · have hy : y.cells.toList = [y] := by
          cases ts with
          | nil => cases r <;> simp [rowVs] at g2
          | cons t0 ts0 =>
            cases r with
            | nil => simp [rowVs] at g2
            | cons d ds =>
              simp only [rowVs] at g2
              split at g2 <;> (try (cases g2; done))
              rename_i v us q1 q2
              simp only [Option.some.injEq, List.cons.injEq] at g2
              obtain ⟨rfl, _⟩ := g2
              exact (dvOf_cells q1).1
        rw [hy] at g1
        unfold Program.keyLits at g1
        simp only [hu] at g1
        split at g1 <;> simp_all
      · exact absurd rfl g3
    obtain ⟨z, rfl⟩ := int h
    have key : ∀ (l : List (List DV)) (c : List MapEntry) (i : Nat), KeysOK 0 ts l c → ∃ r, Instr.findNow (.int q) (.int q z) c i = some r ∧ (r = none ↔ row ∉ l) ∧ ∀ p, r = some p → p.2 = .bool true := by
      intro l
      induction l with
      | nil =>
        intro c i hl
        cases c with
        | nil => exact ⟨none, rfl, by simp, by simp⟩
        | cons _ _ => exact hl.elim
      | cons r l ih =>
        intro c i hl
        cases c with
        | nil => exact hl.elim
        | cons y c =>
        obtain ⟨hy, hl⟩ := hl
        obtain ⟨u, hu'⟩ := int hy.1
        obtain ⟨r', r1, r2, r3⟩ := ih c (i + 1) hl
        simp only [Instr.findNow, hu', Instr.sameNow, if_true]
        by_cases hz : z = u
        · subst hz
          have : row = r := by
            have := hy.1
            rw [hu'] at this
            exact h.inj this
          subst this
          simp only [beq_self_eq_true]
          exact ⟨_, rfl, by simp, by simp [hy.2]⟩
        · rw [beq_eq_false_iff_ne.2 hz]
          have hne : row ≠ r := by
            rintro rfl
            have := h.ext hy.1
            rw [hu'] at this
            cases this
            exact hz rfl
          exact ⟨r', r1, by simp [r2, hne], r3⟩
    obtain ⟨r, r1, r2, r3⟩ := key l c 0 hl
    exact ⟨r, by simp [Instr.findKey, run_underlying hu, Result.andThen, r1], r2, r3⟩
  · rw [run_findKey_eq w hwide]
    have key : ∀ (l : List (List DV)) (c : List MapEntry) (i : Nat), KeysOK 1 ts l c → ∃ r, (Instr.findAsking k x c i).run P w = .ok r w ∧ (r = none ↔ row ∉ l) ∧ ∀ p, r = some p → p.2 = .bool true := by
      intro l
      induction l with
      | nil =>
        intro c i hl
        cases c with
        | nil => exact ⟨none, by simp [Instr.findAsking], by simp, by simp⟩
        | cons _ _ => exact hl.elim
      | cons r l ih =>
        intro c i hl
        cases c with
        | nil => exact hl.elim
        | cons y c =>
        obtain ⟨hy, hl⟩ := hl
        obtain ⟨r', r1, r2, r3⟩ := ih c (i + 1) hl
        obtain ⟨a1, a2, a3⟩ := hi.key m h
        obtain ⟨b1, b2, b3⟩ := hi.key m hy.1
        obtain ⟨z, hz, hiff⟩ := run_equalIn_deep (P := P) 9992 8 k hi.keyType w 8 8 _ _ _ _ a3 b3 a1 b1
        have hz' : (Op.equal k x y.key).run P w = .ok z w := hz
        cases z with
        | true =>
          have : row = r := map_litD a2 b2 (hiff.1 rfl)
          subst this
          exact ⟨some (i, y.val), by simp [Instr.findAsking, hz'], by simp, by simp [hy.2]⟩
        | false =>
          have hne : row ≠ r := by
            rintro rfl
            have := hiff.2 rfl
            cases this
          exact ⟨r', by simp [Instr.findAsking, hz', r1], by simp [r2, hne], r3⟩
    exact key l c 0 hl
end

theorem neCs_ne {R : Rho} : ∀ {xs ys : List SX}, neCs xs ys = true → den.denL R xs ≠ den.denL R ys
  | x :: xs, y :: ys, h, e => by
    simp only [neCs, Bool.or_eq_true] at h
    simp only [den.denL, List.cons.injEq] at e
    rcases h with h | h
    · unfold neC at h
      split at h
      · rename_i z _ y
        simp only [den, DV.int.injEq] at e
        rw [e.1.2] at h
        cases y <;> simp [eqI] at h
      · simp only [den, DV.bool.injEq] at e
        rw [e.1] at h
        simp at h
      · cases h
    · exact neCs_ne h e.2
  | [], _, h, _ => by simp [neCs] at h
  | _ :: _, [], h, _ => by simp [neCs] at h
theorem hasC_spec {R : Rho} {ks : List SX} : ∀ {e : SX} {c : Bool} {l : List (List DV)}, hasC e ks = some c → den R e = .list l → (c = true ↔ den.denL R ks ∈ l)
  | .emp, c, l, h, hd => by
    simp only [hasC, Option.some.injEq] at h
    simp only [den, DV.list.injEq] at hd
    subst h hd
    simp
  | .cat x (.row ls), c, l, h, hd => by
    simp only [hasC] at h
    simp only [den] at hd
    cases hx : den R x <;> rw [hx] at hd <;> simp only [catD, DV.list.injEq, reduceCtorEq] at hd
    rename_i es
    subst hd
    split at h
    · rename_i hb
      cases h
      rw [eqSXs_eq hb]
      simp
    · split at h <;> (try (cases h; done))
      rename_i hn
      have := hasC_spec h hx
      rw [this]
      have hne := neCs_ne (R := R) hn
      simp only [List.mem_append, List.mem_singleton]
      exact ⟨.inl, fun h => h.resolve_right fun e => hne e.symm⟩
  | .v _, _, _, h, _ | .ki _ _, _, _, h, _ | .kb _, _, _, h, _ | .ks _, _, _, h, _ | .len _, _, _, h, _ | .at _ _ _, _, _, h, _ | .byte _ _, _, _, h, _ | .bin _ _ _, _, _, h, _
  | .conv _ _, _, _, h, _ | .not _, _, _, h, _ | .cut _ _ _, _, _, h, _ | .bytes _, _, _, h, _ | .text _, _, _, h, _ | .all _, _, _, h, _ | .app _ _, _, _, h, _ | .row _, _, _, h, _ => by simp [hasC] at h
  | .cat _ (.v _), _, _, h, _ | .cat _ (.ki _ _), _, _, h, _ | .cat _ (.kb _), _, _, h, _ | .cat _ (.ks _), _, _, h, _ | .cat _ (.len _), _, _, h, _ | .cat _ (.at _ _ _), _, _, h, _ | .cat _ (.byte _ _), _, _, h, _ | .cat _ (.bin _ _ _), _, _, h, _
  | .cat _ (.conv _ _), _, _, h, _ | .cat _ (.not _), _, _, h, _ | .cat _ (.cut _ _ _), _, _, h, _ | .cat _ (.bytes _), _, _, h, _ | .cat _ (.text _), _, _, h, _ | .cat _ (.all _), _, _, h, _ | .cat _ (.app _ _), _, _, h, _ | .cat _ .emp, _, _, h, _ | .cat _ (.cat _ _), _, _, h, _ => by simp [hasC] at h

theorem lenC_spec {R : Rho} : ∀ {e : SX} {n : Nat} {l : List (List DV)}, lenC e = some n → den R e = .list l → l.length = n := by
  intro e
  induction e using SX.rec (motive_2 := fun _ => True) with
  | emp =>
    intro n l h hd
    simp only [lenC, Option.some.injEq] at h
    simp only [den, DV.list.injEq] at hd
    subst h hd
    rfl
  | cat x y ihx _ =>
    intro n l h hd
    cases y with
    | row ls =>
      simp only [lenC] at h
      split at h <;> (try (cases h; done))
      rename_i k hk
      cases h
      simp only [den] at hd
      cases hx : den R x <;> rw [hx] at hd <;> simp only [catD, DV.list.injEq, reduceCtorEq] at hd
      subst hd
      have := ihx hk hx
      simp [this]
    | _ => simp [lenC] at h
  | nil => trivial
  | cons _ _ _ _ => trivial
  | _ => intro n l h; simp [lenC] at h
theorem map_of {id b : Nat} {ts : List Ty} {e : SX} {v : Value} (hr : HR m h w) (hv : V m (.hnd 2 id) v) (hg : h.t.get id = some (.grow b ts e)) : MR m (m.mu id) b ts e w ∧ v = .map (some (m.mu id).1) := by
  simp only [V, hndV] at hv
  obtain ⟨⟨_, h2⟩, rfl⟩ := hv
  have h2 := h2 trivial
  obtain ⟨_, _, g⟩ := hr.objL id _ hg
  rcases (show GR m (m.mu id) b ts e w from g) with g | ⟨l, _, _, g3, _, c, _, _, _, g4⟩ | g
  · rw [h2] at g
    cases g
  · have := (g4 rfl).2
    omega
  · exact ⟨g, rfl⟩

theorem makeMap_sound {t : TypeId} {r : Option Operand} {ev : Operand → AV} {ρ : Operand → Value} (hev : ∀ x, V m (ev x) (ρ x)) (hr : HR m h w) {av : AV} {h' : AHeap} (hop : symMakeMap P ev h t r = some (av, h')) :
    Good m ((do pure (Next.value (← Instr.makeMap t (r.map ρ))) : Sem Next).run P w) av h' := by
  have new : ∀ b ts, HR (m.add h.next (w.heap.size, maxLen + 1)) (h.alloc (.grow b ts .emp)) (w.alloc (.map #[] 0)) := fun b ts =>
    hr.alloc _ _ _ (.inr (.inr ⟨rfl, [], #[], 0, rfl, by simp, heap_alloc_new w _, trivial⟩))
  have hv : V (m.add h.next (w.heap.size, maxLen + 1)) (.hnd 2 h.next) (.map (some w.heap.size)) := by simp [V, hndV]
  unfold symMakeMap at hop
  split at hop
  · cases hop
    exact Good.new (s := Instr.makeMap t none) (hr.le_add _) (new _ _) hv (by simp [Instr.makeMap])
  · rename_i k e b ts x hi
    have hi := mapS_spec hi
    split at hop <;> (try (cases hop; done))
    rename_i j z ez
    cases hop
    have hx := hev x
    rw [ez] at hx
    simp only [V] at hx
    refine Good.new (s := Instr.makeMap t (some (ρ x))) (hr.le_add _) (new _ _) hv ?_
    rw [hx]
    simp [Instr.makeMap, run_underlying hi.und, asInt, asIntOf]
  · cases hop

theorem lookup_sound {t : TypeId} {x i : AV} {xv iv : Value} (hx : V m x xv) (hi : V m i iv) (hr : HR m h w) {av : AV} {h' : AHeap} (hop : symLookup P h t x i = some (av, h')) :
    Good m ((do pure (Next.value (← Instr.lookup t xv iv false)) : Sem Next).run P w) av h' := by
  unfold symLookup at hop
  split at hop <;> (try (cases hop; done))
  rename_i k e b ts id hm
  have hm := mapS_spec hm
  split at hop <;> (try (cases hop; done))
  rename_i c us E ks hg hk
  split at hop <;> (try (cases hop; done))
  rename_i hb
  rw [Bool.and_eq_true, Nat.beq_eq] at hb
  obtain ⟨rfl, hb⟩ := hb
  obtain rfl := eqTys_eq hb
  obtain ⟨⟨_, l, c, clock, q1, _, q2, q3⟩, rfl⟩ := map_of hr hx hg
  have hkey := keySX_spec hk hm.scal hi
  obtain ⟨r, r1, r2, r3⟩ := hm.find (w := w) m hkey q3
  have run : (Instr.lookup t (.map (some (m.mu id).1)) iv false).run P w = .ok (.bool (decide (r ≠ none))) w := by
    unfold Instr.lookup
    simp only [Sem.run_bind, run_underlying hm.und, Result.andThen_ok, MapKept.run_getObj_map q2, Sem.run_pure, hm.check (w := w) m _ hkey, r1]
    cases r with
    | none =>
      have hz : (zeroValue e).run P w = .ok (.bool false) w := by simp [run_zeroValue' hm.zero]
      simp [hz]
    | some p =>
      obtain ⟨j, u⟩ := p
      have := r3 _ rfl
      simp only at this
      subst this
      simp
  have hden : (r ≠ none) ↔ den.denL m.R ks ∈ l := by
    constructor
    · intro h1
      by_cases hin : den.denL m.R ks ∈ l
      · exact hin
      · exact absurd (r2.2 hin) h1
    · intro h1 h2
      exact r2.1 h2 h1
  split at hop
  · rename_i cb hc
    cases hop
    have := hasC_spec hc q1
    have hv : decide (r ≠ none) = cb := by
      by_cases hin : den.denL m.R ks ∈ l
      · rw [this.2 hin, decide_eq_true (hden.2 hin)]
      · have h1 : cb = false := by
          cases cb with
          | false => rfl
          | true => exact absurd (this.1 rfl) hin
        rw [h1, decide_eq_false fun hn => hin (hden.1 hn)]
    rw [hv] at run
    exact Good.run (s := Instr.lookup t _ iv false) hr (by simp only [V]) run
  · cases hop
    refine Good.run (s := Instr.lookup t _ iv false) hr ?_ run
    simp only [V]
    refine Rep_bool ?_
    simp only [den, binD, q1, memD]
    congr 1
    exact decide_eq_decide.2 hden.symm

theorem symUpdate_sound [O : Orc] (hF : FactsOK m.R) {t : TypeId} {x i u : AV} {xv iv uv : Value} (hx : V m x xv) (hi : V m i iv) (hu : V m u uv) (hr : HR m h w) {av : AV} {h' : AHeap} (hop : symUpdate P h t x i u = some (av, h')) :
    Good m ((do Instr.mapUpdate t xv iv uv; pure Next.skip : Sem Next).run P w) av h' := by
  unfold symUpdate at hop
  split at hop <;> (try (cases hop; done))
  rename_i k e b ts id hm
  have hm := mapS_spec hm
  split at hop <;> (try (cases hop; done))
  rename_i c us E ks hg hk
  split at hop <;> (try (cases hop; done))
  rename_i hb
  rw [Bool.and_eq_true, Nat.beq_eq] at hb
  obtain ⟨rfl, hb⟩ := hb
  obtain rfl := eqTys_eq hb
  split at hop <;> (try (cases hop; done))
  rename_i hs hle
  cases hop
  obtain ⟨⟨q0, l, c, clock, q1, _, q2, q3⟩, rfl⟩ := map_of hr hx hg
  simp only [V] at hu
  subst hu
  have hkey := keySX_spec hk hm.scal hi
  obtain ⟨r, r1, r2, r3⟩ := hm.find (w := w) m hkey q3
  have hnot : den.denL m.R ks ∉ l := by
    unfold hasS at hs
    split at hs
    · rename_i cb hc
      cases hs
      have := hasC_spec hc q1
      intro hin
      have := this.2 hin
      cases this
    · have := look_den hF hs
      simp only [den, binD, q1, memD, DV.bool.injEq, decide_eq_false_iff_not] at this
      exact this
  have hr0 := r2.2 hnot
  subst hr0
  have hlen : l.length ≤ 1000000 := by
    unfold shortS at hle
    split at hle
    · rename_i n hn
      rw [lenC_spec hn q1]
      simpa using hle
    · have := leS_sound hF hle (k := .i64) (l := .i64) (a := (l.length : Int)) (b := 1000000) (by simp only [den, q1, lenD]) (by simp only [den]; rfl)
      omega
  have hput : HR m (h.put id (.grow b us (.cat E (.row ks)))) { w with heap := w.heap.setIfInBounds (m.mu id).1 (.map (c.push { key := iv, val := .bool true, born := clock }) (clock + 1)) } := by
    obtain ⟨s1, s2⟩ := MapKept.heap_set (w := w) (o' := .map (c.push { key := iv, val := .bool true, born := clock }) (clock + 1)) q2
    refine hr.put hg (.inr (.inr ⟨q0, l ++ [den.denL m.R ks], _, _, by simp only [den, q1, catD], by simp [maxLen]; omega, s1, ?_⟩)) (fun b hb => s2 b hb) rfl (by show (m.mu id).2 ≠ 0; rw [q0]; omega)
    simp only [Array.toList_push]
    exact KeysOK.snoc hkey rfl q3
  refine Good.done (.refl m) hput ?_
  unfold Instr.mapUpdate
  simp only [Sem.run_bind, run_underlying hm.und, Result.andThen_ok, MapKept.run_getObj_map q2, hm.check (w := w) m _ hkey, r1, MapKept.run_setObj_map _ q2]

theorem symOp0_sound (hF : FactsOK m.R) (o : Oper) {ev : Operand → AV} {ρ : Operand → Value} (hev : ∀ x, V m (ev x) (ρ x)) (hr : HR m h w) {av : AV} {h' : AHeap} (hop : symOp0 P ev h o = some (av, h')) :
    Good m ((execOp ρ o).run P w) av h' := by
  obtain ⟨dst, op, type, pos, after, guard⟩ := o
  have hop' := hop
  simp only [symOp0] at hop
  split at hop
  · rename_i c a b
    have hc := resB_sound hF (hev c)
    split at hop <;> (try (cases hop; done)) <;> rename_i hb <;> cases hop <;> rw [hb] at hc <;> simp only [V] at hc
    · exact .val hr (hev a) (by simp [execOp, hc, asBool])
    · exact .val hr (hev b) (by simp [execOp, hc, asBool])
  · rename_i bop t x y _
    simp only [Option.map_eq_some_iff, Prod.mk.injEq] at hop
    obtain ⟨r, h1, rfl, rfl⟩ := hop
    obtain ⟨z, g1, g2⟩ := symBin_sound (P := P) (p := x) (q := y) (w := w) h1 (hev x) (hev y)
    exact Good.run (s := do eqGuard bop t x y (ρ x) (ρ y); binOp bop t (ρ x) (ρ y)) hr g2 g1
  · rename_i t x
    split at hop <;> (try (cases hop; done))
    rename_i e he
    cases hop
    have hx := hev x
    rw [he] at hx
    simp only [V, Rep] at hx
    obtain ⟨b, h1, h2⟩ := hx
    refine Good.run (s := Op.unary .not (ρ x)) (v := .bool (!b)) hr (by simp only [V]; exact Rep_bool (by simp only [den, h1, notD])) ?_
    rw [h2]
    simp [Op.unary]
  · rename_i src dt x
    split at hop <;> (try (cases hop; done))
    · rename_i sd k l e hs hd he
      cases hop
      have hx := hev x
      rw [he] at hx
      simp only [V, Rep] at hx
      obtain ⟨z, h1, h2, h3, h4⟩ := hx
      refine Good.run (s := convert src dt (ρ x)) (v := .int k (k.wrap z)) hr (by simp only [V, Rep, den, h1, convD]; exact ⟨_, rfl, rfl, (wrap_in k z).1, (wrap_in k z).2⟩) ?_
      rw [h2]
      simp [convert, run_underlying hs, run_underlying hd, Conv.intToInt]
    · rename_i el e hs hd he
      split at hop <;> (try (cases hop; done))
      rename_i hel
      cases hop
      have hx := hev x
      rw [he] at hx
      simp only [V] at hx
      obtain ⟨ds, e1, e2, e3, e4⟩ := sy_exact (t := .int .u8) rfl hx
      have hds : ∃ bs : List UInt8, ds = bs.map fun b => DV.int .u8 b.toNat := by
        refine ⟨ds.map fun x => byteOf [x], ?_⟩
        rw [List.map_map]
        have : ∀ x ∈ ds, x = DV.int .u8 (byteOf [x]).toNat := by
          intro x hx
          have := e3 x hx
          simp only [Rep] at this
          obtain ⟨z, rfl, _, h1, h2⟩ := this
          simp only [byteOf]
          have h3 : 0 ≤ z ∧ z < 256 := by simp [IntKind.min, IntKind.max, IntKind.signed, IntKind.bits] at h1 h2; omega
          congr 1
          have h4 : (UInt8.ofNat z.toNat).toNat = z.toNat % 256 := UInt8.toNat_ofNat'
          omega
        conv => lhs; rw [← List.map_id ds]
        exact List.map_congr_left this
      obtain ⟨bs, rfl⟩ := hds
      have hc := ok_convert (P := P) (m := m) (h := h) (w := w) src dt x none 0 "" #[] none (seen ρ x (.fsl 1 false ((bs.map fun b => DV.int .u8 b.toNat).map fun x => [.sc (valD x)]))) ρ (seen_ok e4) hr
      have hop2 : opA P (seen ρ x (.fsl 1 false ((bs.map fun b => DV.int .u8 b.toNat).map fun x => [.sc (valD x)]))) h { dst := none, op := .convert src dt x, type := 0, pos := "", after := #[], guard := none } = some (.sc (.string ⟨bs.toArray⟩), h) := by
        have hsx : seen ρ x (.fsl 1 false ((bs.map fun b => DV.int .u8 b.toNat).map fun x => [.sc (valD x)])) x = .fsl 1 false ((bs.map fun b => DV.int .u8 b.toNat).map fun x => [.sc (valD x)]) := by simp [seen]
        simp only [opA, opConvert, hs, hd, hel, hsx, lenOf, List.length_map]
        have hrc : rowCells h 1 bs.length (.fsl 1 false ((bs.map fun b => DV.int .u8 b.toNat).map fun x => [.sc (valD x)])) = some (bs.map fun b => .sc (.int .u8 b.toNat)) := by
          have : (Nat.beq 1 1 && Nat.ble bs.length ((bs.map fun b => DV.int .u8 b.toNat).map fun x => [AV.sc (valD x)]).length) = true := by
            rw [Bool.and_eq_true, Nat.ble_eq]; simp
          simp only [rowCells, this]
          rw [List.take_of_length_le (by simp), flat1 (fun x => AV.sc (valD x)), List.map_map]
          rfl
        rw [hrc]
        have hbl : bytesList (bs.map fun b => .sc (.int .u8 b.toNat)) = some bs := by
          clear hrc hsx hc e4 e3 e2 e1 hx he
          induction bs with
          | nil => rfl
          | cons b bs ih =>
            show (bytesList (bs.map fun b => .sc (.int .u8 b.toNat))).map (UInt8.ofNat (Int.toNat (b.toNat : Int)) :: ·) = _
            rw [ih]
            simp
        simp [hbl]
      refine (hc _ _ hop2).imp fun m' v hm hv => ?_
      simp only [V] at hv ⊢
      subst hv
      rw [hm.R]
      simp only [Rep, den, e1, textD]
      refine ⟨⟨bs.toArray⟩, ?_, rfl, ?_⟩
      · congr 2
        rw [List.map_map, List.map_map]
        have : ∀ b : UInt8, ((byteOf ∘ fun x => [x]) ∘ fun b : UInt8 => DV.int .u8 b.toNat) b = id b := by
          intro b
          simp only [Function.comp, byteOf]
          simp
        rw [List.map_congr_left (fun b _ => this b)]
        simp
      · have e2' : bs.length ≤ maxLen := by simpa using e2
        exact e2'
    · rename_i el id e hs hd he
      split at hop <;> (try (cases hop; done))
      rename_i t f hel hg
      split at hop <;> (try (cases hop; done))
      rename_i hk
      cases hop
      obtain rfl := eqSX_eq hk
      have hx := hev x
      rw [he] at hx
      exact own_string (P := P) (x := x) (ρ := ρ) hr hx hg hs hd hel
    · rename_i el e hs hd he
      split at hop <;> (try (cases hop; done))
      rename_i hel
      cases hop
      have hx := hev x
      rw [he] at hx
      simp only [V, Rep] at hx
      obtain ⟨s, h1, h2, h3⟩ := hx
      have hc := ok_convert (P := P) (m := m) (h := h) (w := w) src dt x none 0 "" #[] none (seen ρ x (.sc (.string s))) ρ (seen_ok (by simp [V, h2])) hr
      have hop2 : opA P (seen ρ x (.sc (.string s))) h { dst := none, op := .convert src dt x, type := 0, pos := "", after := #[], guard := none } = some (.fsl 1 false (s.data.toList.map fun b => [.sc (.int .u8 b.toNat)]), h) := by
        have hsx : seen ρ x (.sc (.string s)) x = .sc (.string s) := by simp [seen]
        simp only [opA, opConvert, hs, hd, hel, hsx]
      refine (hc _ _ hop2).imp fun m' v hm hv => ?_
      simp only [V]
      rw [hm.R]
      simp only [den, h1]
      rw [bytesD_ds]
      refine fsl_rep (ex := false) (by simpa using h3) (fun x hx => ?_) ?_
      · obtain ⟨b, _, rfl⟩ := List.mem_map.1 hx
        simp only [valD, Rep]
        exact ⟨_, rfl, rfl, (u8_in b).1, (u8_in b).2⟩
      · rw [List.map_map]
        exact hv
  · exact ok_symSlice hF hev hr hop'
  · rename_i t x lo hi mx
    split at hop <;> (try (cases hop; done))
    rename_i el cs e hu hx
    split at hop <;> (try (cases hop; done))
    rename_i size hs hlo hhi hmx
    split at hop <;> (try (cases hop; done))
    rename_i hk
    rw [Nat.beq_eq] at hk
    subst hk
    cases hop
    have hxv := hev x
    rw [hx] at hxv
    simp only [V] at hxv
    obtain ⟨es, e1, e2, e3, e4⟩ := sy_fsl hxv
    have hsl : ∃ a c, ρ x = .slice a es.length c := by
      simp only [V] at e3
      obtain ⟨a, c, q, _⟩ := e3
      rw [rowsOf_length] at q
      exact ⟨a, c, q⟩
    obtain ⟨aa, cc, hsl⟩ := hsl
    have bnd : ∀ (bb : Option Operand) (d d' : Nat), (∀ y, bb = some y → True) → (bb = none → d = 0 ∧ d' = 0) → bound ev d bb = some 0 → bound (seen ρ x (.fsl cs.length false (rowsOf e cs 0 es.length))) d' bb = some 0 := by
      intro bb d d' _ hd hb
      cases bb with
      | none => obtain ⟨_, rfl⟩ := hd rfl; rfl
      | some y =>
        simp only [bound] at hb ⊢
        have hyv := hev y
        obtain ⟨k2, hy⟩ := natOf_spec hb hyv
        have hne : y ≠ x := by
          intro e
          rw [e, hsl] at hy
          cases hy
        simp only [seen, if_neg hne, hy]
        rfl
    have hhi' : ∃ y, hi = some y := by
      cases hi with
      | none => simp [bound] at hhi
      | some y => exact ⟨y, rfl⟩
    obtain ⟨y, rfl⟩ := hhi'
    refine (ok_slice t x lo (some y) (some mx) dst type pos after guard (seen ρ x (.fsl cs.length false (rowsOf e cs 0 es.length))) ρ (seen_ok e3) hr (.emp 0) h ?_)
    simp only [opA, opSlice, hu, hs]
    have hsx : seen ρ x (.fsl cs.length false (rowsOf e cs 0 es.length)) x = .fsl cs.length false (rowsOf e cs 0 es.length) := by simp [seen]
    rw [hsx]
    simp only [rowsOf_length, Option.map_some, Function.comp]
    rw [bnd lo 0 0 (fun _ _ => trivial) (fun _ => ⟨rfl, rfl⟩) hlo, bnd (some y) 1 es.length (fun _ _ => trivial) (fun e => by cases e) hhi, bnd (some mx) 1 0 (fun _ _ => trivial) (fun e => by cases e) hmx]
    have hk2 : (Nat.ble 0 0 && Nat.ble 0 0 && Nat.ble 0 es.length && Nat.beq cs.length cs.length && (some y).isSome) = true := by
      rw [Nat.beq_refl]
      simp
    simp only [hk2]
  · exact ok_symIndexAddr hF hev hr hop'
  · exact ok_symIndex hF hev hr hop'
  · exact ok_symArr hF hev hr hop'
  · rename_i t l c
    exact symMake_sound hF (hev l) (hev c) hr hop
  · exact makeMap_sound hev hr hop
  · rename_i t x i
    exact lookup_sound (hev x) (hev i) hr hop
  · rename_i t x k v
    exact symUpdate_sound hF (hev x) (hev k) (hev v) hr hop
  · rename_i t x k v
    exact symUpdate_sound hF (hev x) (hev k) (hev v) hr hop
  · cases hop

/-- The heap, with a name used up. -/
noncomputable def AHeap.skip (h : AHeap) : AHeap := { next := h.lim, lim := Nat.succ h.lim, t := h.t }
omit O in
theorem HR.skip {m : Env} {h : AHeap} {w : World} (hr : HR m h w) : HR m h.skip w := by
  have hl := hr.lim
  refine ⟨fun id hd => ?_, Nat.lt_succ_self _, fun id hd => ?_, hr.EF, hr.E, hr.F, hr.objL, hr.injL, hr.io⟩
  · have := hr.next id hd
    show id ≠ h.lim ∧ id < h.lim + 1
    omega
  · obtain ⟨h1, h2, h3⟩ := hr.res id hd
    refine ⟨h1, ?_⟩
    show id ≠ h.lim ∧ id < h.lim + 1
    omega

/-- A new slice, frozen. -/
theorem freeze {cs : List Ty} {e : SX} {es : List (List DV)} {v : Value} {w' : World} {m' : Env} {b : Blk} (hr : HR m h w) (hm : m.le m') (hr' : HR m' (h.alloc (.blk b)) w') (hv : V m' (.sl h.next 0 es.length none) v)
    (he : den m.R e = .list es) (hes : es.length ≤ maxLen) (hrow : ∀ (i : Nat) (row : List DV), es[i]? = some row → row.length = cs.length)
    (hb : b.n = es.length * cs.length ∧ b.c = Blk.putAll .nil 0 (rowsOf e cs 0 es.length).flatten) : ∃ m2, m.le m2 ∧ V m2 (.sy (.slice cs) e) v ∧ HR m2 h.skip w' := by
  simp only [V] at hv
  obtain ⟨hd, c, rfl, hc1, _, _⟩ := hv
  obtain ⟨_, ⟨hE, hF⟩, hB⟩ := hr'.obj h.next (.blk b) (by simp [AHeap.alloc, Tr.get_put])
  obtain ⟨cells, g1, g2, g3, _⟩ := hB
  have hne : ∀ k o, m'.E k = some o → k ≠ (m'.mu h.next).1 := fun k o ho e => by rw [e, hE] at ho; cases ho
  have hw : m'.wle { m' with E := fun k => if k = (m'.mu h.next).1 then some (.cells cells b.t (0, 0)) else m'.E k } := ⟨fun _ h => h, fun _ _ => rfl, fun k o ho => by
    simp only [if_neg (hne k o ho)]; exact ho, rfl, rfl⟩
  have hsub : ∀ id o, h.t.get id = some o → (h.alloc (.blk b)).t.get id = some o ∧ id ≠ h.next := by
    intro id o ho
    have hd' := (hr.objL id o ho).1
    have hne := (hr.next id hd').1
    exact ⟨by simp [AHeap.alloc, Tr.get_put, Ne.symm hne, ho], hne⟩
  have hblk : ∀ id o, h.t.get id = some o → live o (m'.mu id) → (m'.mu id).1 ≠ (m'.mu h.next).1 := by
    intro id o ho lo e
    obtain ⟨k1, k2⟩ := hsub id o ho
    exact k2 (hr'.injL id h.next o (.blk b) k1 (by simp [AHeap.alloc, Tr.get_put]) lo trivial e)
  refine ⟨_, hm.trans ⟨hw, fun _ _ h => h, fun _ h => h⟩, ?_, ⟨hr'.next, hr'.lim, hr'.res, fun k x hk => ?_, fun k o hk => ?_, hr'.F, fun id o ho => ?_, fun i j x y hi hj li lj e => ?_, hr'.io⟩⟩
  · simp only [V, Rep]
    refine ⟨es, some ⟨(m'.mu h.next).1, 0, none⟩, c, by rw [hm.R]; exact he, rfl, hc1, hes, (fun e => by cases e), .inr ⟨_, 0, rfl, fun i row hi => ?_⟩⟩
    have hlt : i < es.length := (List.getElem?_eq_some_iff.1 hi).1
    have cell : ∀ j, j < cs.length → ∃ u, cells[i * cs.length + j]? = some u ∧ V m' ((elemCells e (.ki .i64 (.ofNat i)) 0 cs).getD j .dead) u := by
      intro j hj
      have hlt2 : i * cs.length + j < b.n := by
        rw [hb.1]
        have : i * cs.length + cs.length ≤ es.length * cs.length := by
          rw [← Nat.succ_mul]
          exact Nat.mul_le_mul_right _ hlt
        omega
      obtain ⟨u, h1, h2⟩ := g3 _ hlt2
      refine ⟨u, h1, ?_⟩
      have hfl := flat_get (e := e) hj es.length 0 i hlt
      rw [Nat.zero_add] at hfl
      have hj' : j < (elemCells e (.ki .i64 (.ofNat i)) 0 cs).length := by rw [elemCells_length]; exact hj
      have hcell : b.cell (i * cs.length + j) = (elemCells e (.ki .i64 (.ofNat i)) 0 cs).getD j .dead := by
        unfold Blk.cell
        rw [hb.2, get_putAll]
        have hin : 0 ≤ i * cs.length + j ∧ i * cs.length + j < 0 + (rowsOf e cs 0 es.length).flatten.length := by
          refine ⟨Nat.zero_le _, ?_⟩
          have := List.getElem?_eq_getElem hj'
          rw [← hfl] at this
          have := (List.getElem?_eq_some_iff.1 this).1
          omega
        rw [if_pos hin, Nat.sub_zero, hfl]
        generalize hx : (elemCells e (.ki .i64 (.ofNat i)) 0 cs)[j]? = x
        cases x with
        | none => rw [List.getElem?_eq_getElem hj'] at hx; cases hx
        | some x =>
          show x = _
          rw [List.getD_eq_getElem?_getD, hx]
          rfl
      rw [← hcell]
      exact h2
    rw [Nat.zero_add]
    refine (VC_elem (i := .ki .i64 (.ofNat i)) (ts := cs) (k := 0) (ds := row) (by show den m'.R e = _; rw [hm.R]; exact he) (j := i) (k0 := .i64) rfl hi (List.drop_zero) (o := i * cs.length)).2 ⟨?_, hrow i row hi⟩
    have mk : ∀ (ts : List Ty) (k : Nat), (∀ j, j < ts.length → ∃ u, cells[i * cs.length + k + j]? = some u ∧ V m' ((elemCells e (.ki .i64 (.ofNat i)) k ts).getD j .dead) u) →
        VC { m' with E := fun k => if k = (m'.mu h.next).1 then some (.cells cells b.t (0, 0)) else m'.E k } (m'.mu h.next).1 (i * cs.length + k) (elemCells e (.ki .i64 (.ofNat i)) k ts) := by
      intro ts
      induction ts with
      | nil => intro k _; simp [elemCells, VC]
      | cons t ts ih =>
        intro k H
        simp only [elemCells, VC]
        obtain ⟨u, h1, h2⟩ := H 0 (by simp)
        refine ⟨⟨u, ?_, ?_⟩, ?_⟩
        · simp only [Env.ecell, if_pos]
          simpa using h1
        · simp only [elemCells, List.getD_cons_zero] at h2
          exact V.wmono hw _ _ h2
        · rw [show i * cs.length + k + 1 = i * cs.length + (k + 1) by omega]
          refine ih (k + 1) fun j hj => ?_
          obtain ⟨u, h1, h2⟩ := H (j + 1) (by simpa using hj)
          refine ⟨u, by rw [show i * cs.length + (k + 1) + j = i * cs.length + k + (j + 1) by omega]; exact h1, ?_⟩
          simpa [elemCells] using h2
    have := mk cs 0 fun j hj => by simpa using cell j hj
    simpa using this
  · have h1 := hr'.EF k x hk
    have : k ≠ (m'.mu h.next).1 := fun e => by rw [e, hF] at hk; cases hk
    simp only [if_neg this]
    exact h1
  · by_cases e : k = (m'.mu h.next).1
    · simp only [if_pos e, Option.some.injEq] at hk
      subst hk
      rw [e]
      exact g1
    · simp only [if_neg e] at hk
      exact hr'.E k o hk
  · obtain ⟨l1, _⟩ := hsub id o ho
    obtain ⟨n1, n2, n3⟩ := hr'.objL id o l1
    refine ⟨n1, fun lo => ⟨?_, (n2 lo).2⟩, n3.wmove hw fun _ => rfl⟩
    simp only [if_neg (hblk id o ho lo)]
    exact (n2 lo).1
  · exact hr'.injL i j x y (hsub i x hi).1 (hsub j y hj).1 li lj e

theorem symAppend_sound (hF : FactsOK m.R) {ts : Array TypeId} {ty : TypeId} {consts : Array Bool} {as : List AV} {vs : Array Value} (hl : VL m as vs.toList) (hr : HR m h w) {av : AV} {h' : AHeap}
    (hop : symAppend P h ts as = some (av, h')) : Good m ((builtin .append ts ty consts vs).run P w) av h' := by
  unfold symAppend at hop
  split at hop <;> (try (cases hop; done))
  rename_i t u s cs e hts0 hts1
  split at hop <;> (try (cases hop; done))
  rename_i el el2 ht hu
  split at hop <;> (try (cases hop; done))
  rename_i inf z hinf hz
  split at hop <;> (try (cases hop; done))
  rename_i hk
  simp only [Bool.and_eq_true, Nat.beq_eq, Nat.ble_eq] at hk
  obtain ⟨⟨⟨⟨⟨hroom, hcs⟩, hzl⟩, hs1⟩, hb1⟩, hbound⟩ := hk
  split at hop <;> (try (cases hop; done))
  rename_i hlen
  cases hop
  simp only [VL] at hl
  obtain ⟨sv, us, hvs, hs, xv, us', rfl, hx, rfl⟩ := hl
  obtain rfl : vs = #[sv, xv] := by apply Array.ext'; simpa using hvs
  simp only [V] at hx
  obtain ⟨es, e1, e2, e3, e4⟩ := sy_fsl hx
  have hl2 := look_den hF hlen
  simp only [den, e1, lenD, binD, DV.bool.injEq, decide_eq_false_iff_not] at hl2
  have hn : es.length ≤ 1000000 := by simp at hl2; omega
  have hs' : V m (.fsl inf.size true []) sv := by
    unfold noRoom at hroom
    split at hroom
    · simp only [V] at hs ⊢
      exact ⟨none, 0, hs, Nat.le_refl _, fun _ => rfl, fun _ => rfl, .inl rfl⟩
    · simp only [V] at hs ⊢
      obtain ⟨_, c, rfl, h2, h3, _⟩ := hs
      have := h3 0 rfl
      subst this
      exact ⟨_, 0, rfl, Nat.le_refl _, fun _ => rfl, (fun e => by cases e), .inr ⟨_, _, rfl, by simp [VR]⟩⟩
    · simp only [V] at hs ⊢
      obtain ⟨a, c, rfl, h2, h3⟩ := hs
      have := h2 trivial
      subst this
      exact ⟨a, 0, rfl, Nat.le_refl _, fun _ => rfl, h3, .inl rfl⟩
    · cases hroom
  have hrow : ∀ (i : Nat) (row : List DV), es[i]? = some row → row.length = cs.length := by
    intro i row hi
    rcases e4 i row hi with q | q | q
    · exact q
    · have := (List.getElem?_eq_some_iff.1 hi).1
      omega
    · rw [q] at e3
      simp only [V] at e3
      obtain ⟨a, c, q2, _⟩ := e3
      rw [rowsOf_length] at q2
      simp only [Value.slice.injEq] at q2
      have := (List.getElem?_eq_some_iff.1 hi).1
      omega
  have hflat : (rowsOf e cs 0 es.length).flatten.length = es.length * inf.size := by
    have : ∀ n i, (rowsOf e cs i n).flatten.length = n * cs.length := by
      intro n
      induction n with
      | zero => intro i; simp [rowsOf]
      | succ n ih => intro i; rw [rowsOf, List.flatten_cons, List.length_append, elemCells_length, ih]; rw [Nat.succ_mul]; omega
    rw [this, hcs]
  have hall : (rowsOf e cs 0 es.length).flatten.all okCell = true := by
    rw [List.all_eq_true]
    intro x hx
    obtain ⟨l, hl, hxl⟩ := List.mem_flatten.1 hx
    have h1 : ∀ n i, ∀ l ∈ rowsOf e cs i n, ∀ x ∈ l, okCell x = true := by
      intro n
      induction n with
      | zero => intro i l hl; simp [rowsOf] at hl
      | succ n ih =>
        intro i l hl x hx
        simp only [rowsOf, List.mem_cons] at hl
        rcases hl with rfl | hl
        · have h2 : ∀ (cs : List Ty) k, ∀ x ∈ elemCells e (.ki .i64 (.ofNat i)) k cs, okCell x = true := by
            intro cs
            induction cs with
            | nil => intro k x hx; simp [elemCells] at hx
            | cons t ts ih2 =>
              intro k x hx
              simp only [elemCells, List.mem_cons] at hx
              rcases hx with rfl | hx
              · rfl
              · exact ih2 _ x hx
          exact h2 _ _ x hx
        · exact ih _ l hl x hx
    exact h1 _ _ l hl x hxl
  have hrc : rowCells h inf.size es.length (.fsl cs.length false (rowsOf e cs 0 es.length)) = some (rowsOf e cs 0 es.length).flatten := by
    simp only [rowCells, rowsOf_length, hcs, Nat.beq_refl]
    rw [show Nat.ble es.length es.length = true by rw [Nat.ble_eq]; omega]
    simp only [Bool.and_self]
    rw [List.take_of_length_le (by rw [rowsOf_length]; omega)]
  have hcond : (Nat.ble ((0 + es.length) * inf.bytes) 140737488355328 && Nat.ble (0 + es.length) 9223372036854775807 && Nat.beq z.length inf.size && Nat.ble 1 inf.size && Nat.ble 1 inf.bytes) = true := by
    simp only [Bool.and_eq_true, Nat.ble_eq, Nat.beq_eq]
    refine ⟨⟨⟨⟨?_, by omega⟩, hzl⟩, hs1⟩, hb1⟩
    have : (0 + es.length) * inf.bytes ≤ 1000000 * inf.bytes := Nat.mul_le_mul_right _ (by omega)
    omega
  have hnew : ((rowsOf e cs 0 es.length).flatten.all okCell && Nat.beq (rowsOf e cs 0 es.length).flatten.length (es.length * inf.size)) = true := by
    rw [hall, hflat, Nat.beq_refl]; rfl
  cases hn0 : es.length with
  | zero =>
    have hes : es = [] := List.length_eq_zero_iff.1 hn0
    have hop2 : builtinA P h .append ts ty [.fsl inf.size true [], .fsl cs.length false (rowsOf e cs 0 es.length)] = some (.fsl inf.size true [], h) := by
      simp only [builtinA, biAppend, hts0, hts1, ht, hu, hinf, hz, lenOf, List.length_nil, rowsOf_length, hcond, hrc, hnew, Nat.beq_refl]
      rw [hn0]
      rfl
    obtain ⟨v, w', m', k1, k2, k3, k4⟩ := append_sound (P := P) (consts := consts) hs' e3 hr hop2
    refine ⟨v, w', m', k1, k2, ?_, k4.skip⟩
    simp only [V, List.length_nil] at k3 ⊢
    obtain ⟨a, c, rfl, g1, g2, g3, g4⟩ := k3
    simp only [Rep]
    refine ⟨[], a, c, by rw [k2.R, e1, hes], rfl, by simp, by simp, g3, ?_⟩
    rcases g4 with g4 | ⟨b, o, g5, _⟩
    · exact .inl g4
    · exact .inr ⟨b, o, g5, by simp⟩
  | succ n0 =>
    have hop2 : builtinA P h .append ts ty [.fsl inf.size true [], .fsl cs.length false (rowsOf e cs 0 es.length)] =
        some (.sl h.next 0 es.length none, h.alloc (.blk { t := el, row := true, sz := inf.size, n := es.length * inf.size, z := [], c := Blk.putAll .nil 0 (rowsOf e cs 0 es.length).flatten })) := by
      simp only [builtinA, biAppend, hts0, hts1, ht, hu, hinf, hz, lenOf, List.length_nil, rowsOf_length, hcond, hrc, hnew, Nat.beq_refl]
      simp only [hn0, List.flatten_nil, List.nil_append, Nat.zero_add]
    obtain ⟨v, w', m', k1, k2, k3, k4⟩ := append_sound (P := P) (consts := consts) hs' e3 hr hop2
    obtain ⟨m2, q1, q2, q3⟩ := freeze (cs := cs) (e := e) (es := es) hr k2 k4 k3 e1 e2 hrow ⟨by rw [hcs], rfl⟩
    exact ⟨v, w', m2, k1, q1, q2, q3⟩

omit O in
/-- A block of known cells becomes data. -/
theorem freeze1 {t : Ty} {E : SX} {ds : List DV} {id off : Nat} {cap : Option Nat} {b : Blk} {v : Value} (hr : HR m h w) (hv : V m (.sl id off ds.length cap) v) (hb : h.t.get id = some (.blk b)) (hn : off + ds.length ≤ b.n)
    (he : den m.R E = .list (ds.map fun d => [d])) (hlen : ds.length ≤ maxLen) (hcell : ∀ (i : Nat) (d : DV), ds[i]? = some d → ∀ u, V m (b.cell (off + i)) u → Rep m t d u) :
    ∃ m2, m.le m2 ∧ V m2 (.sy (.slice [t]) E) v ∧ HR m2 { h with t := h.t.cut id } w := by
  simp only [V] at hv
  obtain ⟨hd, c, rfl, hc1, _, _⟩ := hv
  obtain ⟨_, ⟨hE, hF⟩, hB⟩ := hr.obj id (.blk b) hb
  obtain ⟨cells, g1, g2, g3, _⟩ := hB
  have hne : ∀ k o, m.E k = some o → k ≠ (m.mu id).1 := fun k o ho e => by rw [e, hE] at ho; cases ho
  have hw : m.wle { m with E := fun k => if k = (m.mu id).1 then some (.cells cells b.t (0, 0)) else m.E k } := ⟨fun _ h => h, fun _ _ => rfl, fun k o ho => by
    simp only [if_neg (hne k o ho)]; exact ho, rfl, rfl⟩
  have sub : ∀ i o, (h.t.cut id).get i = some o → h.t.get i = some o ∧ i ≠ id := by
    intro i o hi
    rw [Tr.get_cut] at hi
    split at hi
    · cases hi
    · rename_i hne; exact ⟨hi, fun e => hne e.symm⟩
  refine ⟨_, ⟨hw, fun _ _ h => h, fun _ h => h⟩, ?_, ⟨hr.next, hr.lim, hr.res, fun k x hk => ?_, fun k o hk => ?_, hr.F, fun i o ho => ?_, fun i j x y hi hj => hr.injL i j x y (sub i x hi).1 (sub j y hj).1, hr.io⟩⟩
  · simp only [V, Rep]
    refine ⟨ds.map fun d => [d], some ⟨(m.mu id).1, off, none⟩, c, he, by rw [List.length_map], by rw [List.length_map]; exact hc1, by rw [List.length_map]; exact hlen, (fun e => by cases e), .inr ⟨_, off, rfl, fun i row hi => ?_⟩⟩
    rw [List.getElem?_map] at hi
    cases hx : ds[i]? with
    | none => rw [hx] at hi; cases hi
    | some x =>
      rw [hx] at hi
      cases hi
      have hlt : i < ds.length := (List.getElem?_eq_some_iff.1 hx).1
      obtain ⟨u, h1, h2⟩ := g3 (off + i) (by omega)
      simp only [RepL, List.length_singleton, Nat.mul_one]
      refine ⟨x, [], u, rfl, ?_, Rep.wmono hw t x u (hcell i x hx u h2), rfl⟩
      simp only [Env.ecell, if_pos]
      exact h1
  · have h1 := hr.EF k x hk
    have : k ≠ (m.mu id).1 := fun e => by rw [e, hF] at hk; cases hk
    simp only [if_neg this]
    exact h1
  · by_cases e : k = (m.mu id).1
    · simp only [if_pos e, Option.some.injEq] at hk
      subst hk
      rw [e]
      exact g1
    · simp only [if_neg e] at hk
      exact hr.E k o hk
  · obtain ⟨l1, l2⟩ := sub i o ho
    obtain ⟨n1, n2, n3⟩ := hr.objL i o l1
    refine ⟨n1, fun lo => ⟨?_, (n2 lo).2⟩, n3.wmove hw fun _ => rfl⟩
    have : (m.mu i).1 ≠ (m.mu id).1 := fun e => l2 (hr.injL i id o (.blk b) l1 hb lo trivial e)
    simp only [if_neg this]
    exact (n2 lo).1

omit O in
theorem rowsSX_spec {t : Ty} : ∀ {as : List AV} {e : SX}, rowsSX t as = some e → ∃ ds : List DV, den m.R e = .list (ds.map fun d => [d]) ∧ ds.length = as.length ∧ ∀ (i : Nat) (d : DV) (a : AV), ds[i]? = some d → as[i]? = some a → ∀ u, V m a u → Rep m t d u
  | [], e, h => by
    simp only [rowsSX, Option.some.injEq] at h
    subst h
    exact ⟨[], rfl, rfl, fun i d a hi => by simp at hi⟩
  | a :: as, e, h => by
    simp only [rowsSX] at h
    split at h
    · rename_i x xs h1 h2
      cases h
      obtain ⟨ds, e1, e2, e3⟩ := rowsSX_spec h2
      refine ⟨den m.R x :: ds, ?_, by simp [e2], fun i d a' hi ha u hu => ?_⟩
      · simp only [den, e1, catD, den.denL, List.map_cons, List.singleton_append]
      · cases i with
        | zero =>
          simp only [List.getElem?_cons_zero, Option.some.injEq] at hi ha
          subst hi ha
          exact asTy_spec h1 hu
        | succ i => exact e3 i d a' (by simpa using hi) (by simpa using ha) u hu
    · cases h

omit O in
theorem tailSX_spec {x : AV} {t : Ty} {e : SX} {v : Value} (hx : tailSX x = some (t, e)) (ht : scalarT t = true) (hv : V m x v) : ∃ (ds : List DV) (x' : AV), den m.R e = .list (ds.map fun d => [d]) ∧ ds.length ≤ maxLen ∧ (∀ d ∈ ds, Rep m t d (valD d)) ∧
    V m x' v ∧ lenOf x' = some ds.length ∧ ∀ h : AHeap, rowCells h 1 ds.length x' = some (ds.map fun d => .sc (valD d)) := by
  unfold tailSX at hx
  split at hx
  · cases hx
    simp only [V] at hv
    obtain ⟨ds, e1, e2, e3, e4⟩ := sy_exact ht hv
    refine ⟨ds, _, e1, e2, e3, e4, by simp [lenOf], fun h => ?_⟩
    have : (Nat.beq 1 1 && Nat.ble ds.length (ds.map fun x => [AV.sc (valD x)]).length) = true := by
      rw [Bool.and_eq_true, Nat.ble_eq]; simp
    simp only [rowCells, this]
    rw [List.take_of_length_le (by simp), flat1 (fun x => AV.sc (valD x))]
  · cases hx
    simp only [V, Rep] at hv
    obtain ⟨s, h1, rfl, h3⟩ := hv
    refine ⟨s.data.toList.map fun b => DV.int .u8 b.toNat, .sc (.string s), by simp only [den, h1]; exact bytesD_ds s, by simpa using h3, fun d hd => ?_, by simp [V], by simp [lenOf], fun h => ?_⟩
    · obtain ⟨b, _, rfl⟩ := List.mem_map.1 hd
      simp only [valD, Rep]
      exact ⟨_, rfl, rfl, (u8_in b).1, (u8_in b).2⟩
    · simp only [rowCells, List.length_map]
      rw [List.take_of_length_le (by simp), List.map_map]
      rfl
  · cases hx

theorem symAppendB_sound (hF : FactsOK m.R) {ts : Array TypeId} {ty : TypeId} {consts : Array Bool} {as : List AV} {vs : Array Value} (hl : VL m as vs.toList) (hr : HR m h w) {av : AV} {h' : AHeap}
    (hop : symAppendB P h ts as = some (av, h')) : Good m ((builtin .append ts ty consts vs).run P w) av h' := by
  unfold symAppendB at hop
  split at hop <;> (try (cases hop; done))
  rename_i t u id off len c x hts0 hts1
  split at hop <;> (try (cases hop; done))
  rename_i el du tt e hnu ht hu htl
  split at hop <;> (try (cases hop; done))
  rename_i inf z b hinf hz hblk
  split at hop <;> (try (cases hop; done))
  rename_i hk
  simp only [Bool.and_eq_true, Nat.beq_eq, Nat.ble_eq] at hk
  obtain ⟨⟨⟨⟨⟨⟨⟨hk0, hk1⟩, hk2⟩, hk3⟩, hk4⟩, hk5⟩, hk6⟩, hk7⟩ := hk
  subst hk1
  split at hop <;> (try (cases hop; done))
  rename_i old hold hlen
  cases hop
  simp only [VL] at hl
  obtain ⟨sv, us, hvs, hs, xv, us', rfl, hx, rfl⟩ := hl
  obtain rfl : vs = #[sv, xv] := by apply Array.ext'; simpa using hvs
  obtain ⟨ds, x', e1, e2, e3, e4, e5, e6⟩ := tailSX_spec htl hk0 hx
  have hl2 := look_den hF hlen
  simp only [den, e1, lenD, binD, DV.bool.injEq, decide_eq_false_iff_not, List.length_map] at hl2
  have hn : ds.length ≤ 1000000 := by simp at hl2; omega
  have hall : (ds.map fun d => AV.sc (valD d)).all okCell = true := by
    rw [List.all_eq_true]
    intro y hy
    obtain ⟨d, hd, rfl⟩ := List.mem_map.1 hy
    exact valD_ok hk0 (e3 d hd)
  have hcond : (Nat.ble ((c + ds.length) * inf.bytes) 140737488355328 && Nat.ble (c + ds.length) 9223372036854775807 && Nat.beq z.length inf.size && Nat.ble 1 inf.size && Nat.ble 1 inf.bytes) = true := by
    simp only [Bool.and_eq_true, Nat.ble_eq, Nat.beq_eq]
    refine ⟨⟨⟨⟨?_, by omega⟩, by rw [hk3, hk2]⟩, by omega⟩, hk4⟩
    have : (c + ds.length) * inf.bytes ≤ 2000000 * inf.bytes := Nat.mul_le_mul_right _ (by omega)
    omega
  have hnew : ((ds.map fun d => AV.sc (valD d)).all okCell && Nat.beq (ds.map fun d => AV.sc (valD d)).length (ds.length * inf.size)) = true := by
    rw [hall, hk2, List.length_map, Nat.mul_one, Nat.beq_refl]; rfl
  -- what is frozen
  have fin : ∀ (m' : Env) (h1 : AHeap) (w' : World) (v : Value) (id1 off1 : Nat) (cap : Option Nat) (b1 : Blk), m.le m' → HR m' h1 w' → V m' (.sl id1 off1 (c + ds.length) cap) v → h1.t.get id1 = some (.blk b1) → off1 + (c + ds.length) ≤ b1.n →
      (∀ i, i < c → b1.cell (off1 + i) = b.cell (off + i)) → (∀ i d, ds[i]? = some d → b1.cell (off1 + (c + i)) = .sc (valD d)) → (∀ i o, (h.t.cut id).get i = some o → i ≠ id1 ∧ h1.t.get i = some o) → (h1.next = h.next ∧ h1.lim = h.lim ∨ h1.next = h.lim ∧ h1.lim = h.lim + 1) →
      ∃ m2, m.le m2 ∧ V m2 (.sy (.slice [tt]) (.cat old e)) v ∧ HR m2 { next := h.lim, lim := Nat.succ h.lim, t := h.t.cut id } w' := by
    intro m' h1 w' v id1 off1 cap b1 hm hr1 hv hb1 hn1 hc1 hc2 hget hnext
    obtain ⟨os, o1, o2, o3⟩ := rowsSX_spec (m := m') hold
    rw [length_cellsFrom] at o2
    have hlen2 : (os ++ ds).length = c + ds.length := by rw [List.length_append, o2]
    have hcat : den m'.R (.cat old e) = .list ((os ++ ds).map fun d => [d]) := by
      have e1' : den m'.R e = .list (ds.map fun d => [d]) := by rw [hm.R]; exact e1
      simp only [den, o1, e1', catD, List.map_append]
    obtain ⟨m2, q1, q2, q3⟩ := freeze1 (t := tt) (E := .cat old e) (ds := os ++ ds) hr1 (by rw [hlen2]; exact hv) hb1 (by rw [hlen2]; exact hn1) hcat (by rw [hlen2]; unfold maxLen; omega) (fun i d hi u hu => by
      rcases Nat.lt_or_ge i c with hlt | hge
      · rw [List.getElem?_append_left (by omega)] at hi
        rw [hc1 i hlt] at hu
        exact o3 i d (b.cell (off + i)) hi (getElem?_cellsFrom b c off i hlt) u hu
      · rw [List.getElem?_append_right (by omega), o2] at hi
        have := hc2 (i - c) d hi
        rw [show c + (i - c) = i by omega] at this
        rw [this] at hu
        simp only [V] at hu
        subst hu
        exact Rep_move hk0 (e3 d (List.mem_iff_getElem?.2 ⟨_, hi⟩)))
    refine ⟨m2, hm.trans q1, q2, ?_⟩
    have hsub : ∀ i o, (h.t.cut id).get i = some o → (h1.t.cut id1).get i = some o := by
      intro i o hi
      obtain ⟨k1, k2⟩ := hget i o hi
      rw [Tr.get_cut, if_neg (fun e => k1 e.symm)]
      exact k2
    rcases hnext with ⟨n1, n2⟩ | ⟨n1, n2⟩
    · exact (HR.sub (h2 := { next := h.next, lim := h.lim, t := h.t.cut id }) q3 n1.symm n2.symm hsub).skip
    · exact HR.sub q3 n1.symm n2.symm hsub
  have cutne : ∀ i o, (h.t.cut id).get i = some o → i ≠ id ∧ h.t.get i = some o := by
    intro i o hi
    rw [Tr.get_cut] at hi
    split at hi
    · cases hi
    · rename_i hne; exact ⟨fun e => hne e.symm, hi⟩
  have e5' : lenOf (AV.sl id off c (some c)) = some c := rfl
  have hrc := e6 h
  rw [← hk2] at hrc
  cases hn0 : ds.length with
  | zero =>
    have hble : Nat.ble (c + 0) c = true := by rw [Nat.ble_eq]; omega
    have hblk2 : Nat.ble (off + (c + 0) * inf.size) b.n = true := by rw [Nat.ble_eq, hk2]; omega
    have hds : ds = [] := List.length_eq_zero_iff.1 hn0
    subst hds
    have hop2 : builtinA P h .append ts ty [.sl id off c (some c), x'] = some (.sl id off (c + 0) (some c), h.put id (.blk b)) := by
      have hnew0 : (([] : List AV).all okCell && Nat.beq ([] : List AV).length (0 * inf.size)) = true := by rw [Nat.zero_mul]; rfl
      simp only [List.length_nil, List.map_nil] at e5 hrc hcond
      simp only [builtinA, biAppend, hts0, hts1, ht, hu, hinf, hz, e5', e5, hcond, hrc, hnew0, hble, hblk, hblk2]
      rfl
    obtain ⟨v, w', m', k1, k2, k3, k4⟩ := append_sound (P := P) (consts := consts) hs e4 hr hop2
    obtain ⟨m2, q1, q2, q3⟩ := fin m' _ w' v id off (some c) b k2 k4 k3 (by simp [AHeap.put, Tr.get_put]) (by simp; omega) (fun i _ => rfl) (fun i d hi => by simp at hi) (fun i o hi => by
      obtain ⟨g1, g2⟩ := cutne i o hi
      refine ⟨g1, ?_⟩
      simp only [AHeap.put, Tr.get_put]
      rw [if_neg (fun e => g1 e.symm)]
      exact g2) (.inl ⟨rfl, rfl⟩)
    exact ⟨v, w', m2, k1, q1, q2, q3⟩
  | succ n =>
    have hble : Nat.ble (c + ds.length) c = false := by
      rw [← Bool.not_eq_true, Nat.ble_eq]
      omega
    have hblk2 : Nat.ble (off + c * inf.size) b.n = true := by rw [Nat.ble_eq, hk2]; omega
    have hop2 : builtinA P h .append ts ty [.sl id off c (some c), x'] = some (.sl h.next 0 (c + ds.length) none, h.alloc (.blk { t := el, row := true, sz := inf.size, n := (c + ds.length) * inf.size, z := [], c := Blk.putAll .nil 0 (b.cellsFrom off (c * inf.size) ++ ds.map fun d => AV.sc (valD d)) })) := by
      simp only [builtinA, biAppend, hts0, hts1, ht, hu, hinf, hz, e5', e5, hcond, hrc, hnew, hble, hblk, hblk2]
    obtain ⟨v, w', m', k1, k2, k3, k4⟩ := append_sound (P := P) (consts := consts) hs e4 hr hop2
    have hcl : (b.cellsFrom off c).length = c := length_cellsFrom _ _ _
    obtain ⟨m2, q1, q2, q3⟩ := fin m' _ w' v h.next 0 none { t := el, row := true, sz := 1, n := c + ds.length, z := [], c := Blk.putAll .nil 0 (b.cellsFrom off c ++ ds.map fun d => AV.sc (valD d)) } k2 k4 k3 (by
      simp only [AHeap.alloc, Tr.get_put, if_true, hk2, Nat.mul_one]) (by simp) (fun i hi => by
      unfold Blk.cell
      rw [get_putAll, if_pos ⟨Nat.zero_le _, by rw [List.length_append, hcl]; omega⟩, Nat.sub_zero, Nat.zero_add, List.getElem?_append_left (by omega), getElem?_cellsFrom b c off i hi]
      rfl) (fun i d hi => by
      have hlt := (List.getElem?_eq_some_iff.1 hi).1
      unfold Blk.cell
      rw [get_putAll, if_pos ⟨Nat.zero_le _, by rw [List.length_append, hcl, List.length_map]; omega⟩, Nat.sub_zero, Nat.zero_add, List.getElem?_append_right (by omega), hcl, Nat.add_sub_cancel_left, List.getElem?_map, hi]
      rfl) (fun i o hi => by
      obtain ⟨g1, g2⟩ := cutne i o hi
      have hd := (hr.next i (hr.objL i o g2).1).1
      refine ⟨hd, ?_⟩
      simp only [AHeap.alloc, Tr.get_put]
      rw [if_neg (fun e => hd e.symm)]
      exact g2) (.inr ⟨rfl, rfl⟩)
    exact ⟨v, w', m2, k1, q1, q2, q3⟩

/-! ### Slices that grow -/
/-- What cells say of rows of data. -/
def Names (R : Rho) (ts : List Ty) (l : List (List DV)) (as : List AV) : Prop :=
  as.length = l.length * ts.length ∧ (∀ row ∈ l, row.length = ts.length) ∧
    ∀ (i j : Nat) (row : List DV) (t : Ty) (d : DV) (a : AV), l[i]? = some row → ts[j]? = some t → row[j]? = some d → as[i * ts.length + j]? = some a → ∀ m' : Env, m'.R = R → ∀ u, V m' a u → Rep m' t d u
omit O in
theorem rowsOf_ok (e : SX) (cs : List Ty) : ∀ n i, (rowsOf e cs i n).flatten.all okCell = true := by
  intro n i
  rw [List.all_eq_true]
  intro x hx
  obtain ⟨l, hl, hxl⟩ := List.mem_flatten.1 hx
  have h1 : ∀ n i, ∀ l ∈ rowsOf e cs i n, ∀ x ∈ l, okCell x = true := by
    intro n
    induction n with
    | zero => intro i l hl; simp [rowsOf] at hl
    | succ n ih =>
      intro i l hl x hx
      simp only [rowsOf, List.mem_cons] at hl
      rcases hl with rfl | hl
      · have h2 : ∀ (cs : List Ty) k, ∀ x ∈ elemCells e (.ki .i64 (.ofNat i)) k cs, okCell x = true := by
          intro cs
          induction cs with
          | nil => intro k x hx; simp [elemCells] at hx
          | cons t ts ih2 =>
            intro k x hx
            simp only [elemCells, List.mem_cons] at hx
            rcases hx with rfl | hx
            · rfl
            · exact ih2 _ x hx
        exact h2 _ _ x hx
      · exact ih _ l hl x hx
  exact h1 _ _ l hl x hxl
omit O in
theorem Names.ofRows {R : Rho} {e : SX} {ts : List Ty} {l : List (List DV)} (he : den R e = .list l) (hl : ∀ row ∈ l, row.length = ts.length) : Names R ts l (rowsOf e ts 0 l.length).flatten := by
  refine ⟨rowsOf_flat_length e ts _ _, hl, fun i j row t d a h1 h2 h3 h4 m' hR u hu => ?_⟩
  have hi : i < l.length := (List.getElem?_eq_some_iff.1 h1).1
  have hj : j < ts.length := (List.getElem?_eq_some_iff.1 h2).1
  rw [flat_get hj l.length 0 i hi, Nat.zero_add, elemCells_get h2, Option.some.injEq] at h4
  subst h4
  simp only [V, den, hR, he, atD] at hu
  simpa [List.getD_eq_getElem?_getD, h1, h3] using hu
omit O in
theorem Names.append {R : Rho} {ts : List Ty} {l1 l2 : List (List DV)} {a1 a2 : List AV} (h1 : Names R ts l1 a1) (h2 : Names R ts l2 a2) : Names R ts (l1 ++ l2) (a1 ++ a2) := by
  refine ⟨by rw [List.length_append, List.length_append, h1.1, h2.1, Nat.add_mul], fun row hr => (List.mem_append.1 hr).elim (h1.2.1 row) (h2.2.1 row), fun i j row t d a e1 e2 e3 e4 => ?_⟩
  have hj : j < ts.length := (List.getElem?_eq_some_iff.1 e2).1
  by_cases hi : i < l1.length
  · rw [List.getElem?_append_left hi] at e1
    have : i * ts.length + j < a1.length := by
      rw [h1.1]
      have : i * ts.length + ts.length ≤ l1.length * ts.length := by rw [← Nat.succ_mul]; exact Nat.mul_le_mul_right _ hi
      omega
    rw [List.getElem?_append_left this] at e4
    exact h1.2.2 i j row t d a e1 e2 e3 e4
  · rw [List.getElem?_append_right (by omega)] at e1
    have hsub : (i - l1.length) * ts.length = i * ts.length - l1.length * ts.length := Nat.sub_mul _ _ _
    have hle : l1.length * ts.length ≤ i * ts.length := Nat.mul_le_mul_right _ (by omega)
    rw [List.getElem?_append_right (by rw [h1.1]; omega), h1.1] at e4
    exact h2.2.2 (i - l1.length) j row t d a e1 e2 e3 (by rw [hsub, ← e4]; congr 1; omega)
omit O in
theorem asTy_okCell {t : Ty} {a : AV} {e : SX} (h : asTy t a = some e) : okCell a = true := by
  unfold asTy at h
  split at h
  · rfl
  · split at h <;> first | (cases h; done) | rfl
  · cases h
omit O in
theorem cellsSX0_spec : ∀ {ts : List Ty} {as r : List AV} {es : List SX}, cellsSX0 ts as = some (es, r) → ∃ cs, as = cs ++ r ∧ cs.length = ts.length ∧ es.length = ts.length ∧ cs.all okCell = true ∧ ∀ (j : Nat) (t : Ty) (e : SX) (a : AV), ts[j]? = some t → es[j]? = some e → cs[j]? = some a → asTy t a = some e
  | [], as, r, es, h => by
    simp only [cellsSX0, Option.some.injEq, Prod.mk.injEq] at h
    obtain ⟨rfl, rfl⟩ := h
    exact ⟨[], rfl, rfl, rfl, rfl, fun j t e a h => by simp at h⟩
  | t :: ts, [], r, es, h => by simp [cellsSX0] at h
  | t :: ts, a :: as, r, es, h => by
    simp only [cellsSX0] at h
    split at h
    · rename_i e es' r' h1 h2
      cases h
      obtain ⟨cs, rfl, k1, k2, k3, k4⟩ := cellsSX0_spec h2
      refine ⟨a :: cs, rfl, by simp [k1], by simp [k2], by simp [k3, asTy_okCell h1], fun j t' e' a' g1 g2 g3 => ?_⟩
      cases j with
      | zero =>
        simp only [List.getElem?_cons_zero, Option.some.injEq] at g1 g2 g3
        subst g1 g2 g3
        exact h1
      | succ j => exact k4 j t' e' a' (by simpa using g1) (by simpa using g2) (by simpa using g3)
    · cases h
omit O in
theorem Names.row {R : Rho} {ts : List Ty} {es : List SX} {cs : List AV} (h1 : cs.length = ts.length) (h2 : es.length = ts.length) (h3 : ∀ (j : Nat) (t : Ty) (e : SX) (a : AV), ts[j]? = some t → es[j]? = some e → cs[j]? = some a → asTy t a = some e) : Names R ts [es.map (den R)] cs := by
  refine ⟨by simp [h1], fun row hr => ?_, fun i j row t d a e1 e2 e3 e4 m' hR u hu => ?_⟩
  · simp only [List.mem_singleton] at hr
    subst hr
    simp [h2]
  · cases i with
    | zero =>
      simp only [List.getElem?_cons_zero, Option.some.injEq] at e1
      subst e1
      rw [List.getElem?_map] at e3
      rw [Nat.zero_mul, Nat.zero_add] at e4
      cases he : es[j]? with
      | none => rw [he] at e3; cases e3
      | some e =>
        rw [he] at e3
        simp only [Option.map_some, Option.some.injEq] at e3
        subst e3
        rw [← hR]
        exact asTy_spec (h3 j t e a e2 he e4) hu
    | succ i => simp at e1
omit O in
theorem denL_map (R : Rho) : ∀ es : List SX, den.denL R es = es.map (den R)
  | [] => rfl
  | e :: es => by simp only [den.denL, denL_map R es, List.map_cons]
omit O in
theorem rowsM_spec (R : Rho) {ts : List Ty} : ∀ {n : Nat} {as : List AV} {e : SX}, rowsM ts n as = some e → as.length = n * ts.length → ∃ l, den R e = .list l ∧ l.length = n ∧ Names R ts l as ∧ as.all okCell = true
  | 0, as, e, h, hl => by
    simp only [rowsM, Option.some.injEq] at h
    subst h
    have : as = [] := List.length_eq_zero_iff.1 (by simpa using hl)
    subst this
    exact ⟨[], rfl, rfl, ⟨by simp, by simp, fun i j row t d a h => by simp at h⟩, rfl⟩
  | 1, as, e, h, hl => by
    simp only [rowsM] at h
    split at h
    · rename_i es r hc
      cases h
      obtain ⟨cs, rfl, k1, k2, k3, k4⟩ := cellsSX0_spec hc
      have : r = [] := by
        rw [List.length_append, k1] at hl
        exact List.length_eq_zero_iff.1 (by omega)
      subst this
      rw [List.append_nil]
      exact ⟨[es.map (den R)], by simp only [den, denL_map], rfl, .row k1 k2 k4, k3⟩
    · cases h
  | n + 2, as, e, h, hl => by
    simp only [rowsM] at h
    split at h
    · rename_i es r hc
      split at h
      · rename_i x hx
        cases h
        obtain ⟨cs, rfl, k1, k2, k3, k4⟩ := cellsSX0_spec hc
        obtain ⟨l, e1, e2, e3, e4⟩ := rowsM_spec R (n := n + 1) hx (by
          rw [List.length_append, k1] at hl
          have : (n + 2) * ts.length = (n + 1) * ts.length + ts.length := Nat.succ_mul (n + 1) _
          omega)
        refine ⟨es.map (den R) :: l, by simp only [den, denL_map, e1, catD]; rfl, by simp [e2], ?_, by simp [k3, e4]⟩
        exact Names.append (l1 := [es.map (den R)]) (.row k1 k2 k4) e3
      · cases h
    · cases h
theorem fewS_spec (hF : FactsOK m.R) {e : SX} {l : List (List DV)} (h : fewS e = true) (he : den m.R e = .list l) : l.length ≤ 1000000 := by
  unfold fewS at h
  split at h
  · simp only [den, DV.list.injEq] at he
    subst he; simp
  · simp only [den, DV.list.injEq] at he
    subst he; simp
  · split at h
    · rename_i hl
      have := look_den hF hl
      simp only [den, he, lenD, binD, DV.bool.injEq, decide_eq_false_iff_not] at this
      simp at this
      omega
    · cases h

theorem moreSX_spec (hF : FactsOK m.R) {ts : List Ty} {x : AV} {x' : SX} {xv : Value} (hx : moreSX h ts x = some x') (hv : V m x xv) :
    ∃ (l : List (List DV)) (y : AV) (as : List AV), den m.R x' = .list l ∧ l.length ≤ 1000000 ∧ Names m.R ts l as ∧ as.all okCell = true ∧ V m y xv ∧ lenOf y = some l.length ∧
      ∀ h2 : AHeap, (∀ i b, h.blk? i = some b → h2.blk? i = some b) → rowCells h2 ts.length l.length y = some as := by
  have bytes : ∀ (e : SX) (l0 : List DV), ts = [.int .u8] → tailSX (.sy .str e) = some (.int .u8, .bytes e) → V m (.sy .str e) xv → (∀ l, den m.R (.bytes e) = .list l → l.length ≤ 1000000) → ∃ (l : List (List DV)) (y : AV) (as : List AV), den m.R (.bytes e) = .list l ∧ l.length ≤ 1000000 ∧ Names m.R ts l as ∧ as.all okCell = true ∧ V m y xv ∧ lenOf y = some l.length ∧
      ∀ h2 : AHeap, (∀ i b, h.blk? i = some b → h2.blk? i = some b) → rowCells h2 ts.length l.length y = some as := by
    rintro e _ rfl ht hv hle
    obtain ⟨ds, y, e1, e2, e3, e4, e5, e6⟩ := tailSX_spec ht rfl hv
    refine ⟨_, y, ds.map fun d => .sc (valD d), e1, hle _ e1, ⟨by simp, fun row hr => ?_, fun i j row t d a k1 k2 k3 k4 m' hR u hu => ?_⟩, ?_, e4, by rw [List.length_map]; exact e5, fun h2 _ => by rw [List.length_map]; exact e6 h2⟩
    · obtain ⟨d, _, rfl⟩ := List.mem_map.1 hr
      rfl
    · have hj : j = 0 := by
        have := (List.getElem?_eq_some_iff.1 k2).1
        simpa using this
      subst hj
      rw [List.getElem?_map] at k1
      cases hd : ds[i]? with
      | none => rw [hd] at k1; cases k1
      | some d0 =>
        rw [hd] at k1
        cases k1
        simp only [List.getElem?_cons_zero, Option.some.injEq] at k2 k3
        subst k2 k3
        simp only [List.length_cons, List.length_nil, Nat.zero_add, Nat.mul_one, Nat.add_zero, List.getElem?_map, hd, Option.map_some, Option.some.injEq] at k4
        subst k4
        simp only [V] at hu
        subst hu
        exact Rep_move rfl (e3 d0 (List.mem_iff_getElem?.2 ⟨i, hd⟩))
    · rw [List.all_eq_true]
      intro x hx
      obtain ⟨d, hd, rfl⟩ := List.mem_map.1 hx
      exact valD_ok rfl (e3 d hd)
  unfold moreSX at hx
  split at hx
  · rename_i us e
    split at hx <;> (try (cases hx; done))
    rename_i hk
    simp only [Bool.and_eq_true] at hk
    cases hx
    obtain rfl := eqTys_eq hk.1
    simp only [V] at hv
    obtain ⟨es, e1, e2, e3, e4⟩ := sy_fsl hv
    have hrow : ∀ row ∈ es, row.length = ts.length := by
      intro row hr
      obtain ⟨i, hi⟩ := List.mem_iff_getElem?.1 hr
      rcases e4 i row hi with q | q | q
      · exact q
      · have := (List.getElem?_eq_some_iff.1 hi).1
        omega
      · rw [q] at e3
        simp only [V] at e3
        obtain ⟨a, c, q2, _⟩ := e3
        rw [rowsOf_length] at q2
        simp only [Value.slice.injEq] at q2
        have := (List.getElem?_eq_some_iff.1 hi).1
        omega
    refine ⟨es, _, _, e1, fewS_spec hF hk.2 e1, .ofRows e1 hrow, rowsOf_ok _ _ _ _, e3, by simp [lenOf, rowsOf_length], fun h2 _ => ?_⟩
    simp only [rowCells, rowsOf_length, Nat.beq_refl]
    rw [show Nat.ble es.length es.length = true by rw [Nat.ble_eq]; omega]
    simp only [Bool.and_self]
    rw [List.take_of_length_le (by rw [rowsOf_length]; omega)]
  · rename_i e
    split at hx <;> (try (cases hx; done))
    rename_i hk
    simp only [Bool.and_eq_true] at hk
    cases hx
    exact bytes e [] (eqTys_eq hk.1) rfl hv fun l hl => fewS_spec hF hk.2 hl
  · rename_i s
    split at hx <;> (try (cases hx; done))
    rename_i hk
    simp only [Bool.and_eq_true, Nat.ble_eq] at hk
    cases hx
    simp only [V] at hv
    subst hv
    refine bytes (.ks s) [] (eqTys_eq hk.1) rfl (by simp only [V, den, Rep]; exact ⟨s, rfl, rfl, by unfold maxLen; omega⟩) fun l hl => ?_
    simp only [den, bytesD, DV.list.injEq] at hl
    subst hl
    simp only [List.length_map, Array.length_toList]
    have : s.data.size = s.size := rfl
    omega
  · cases hx
    simp only [V] at hv
    subst hv
    exact ⟨[], .sc (.slice none 0 0), [], rfl, by simp, ⟨by simp, by simp, fun i j row t d a h => by simp at h⟩, rfl, by simp [V], rfl, fun h2 _ => rfl⟩
  · cases hx
    exact ⟨[], _, [], rfl, by simp, ⟨by simp, by simp, fun i j row t d a h => by simp at h⟩, rfl, hv, rfl, fun h2 _ => rfl⟩
  · rename_i id off len cap
    split at hx <;> (try (cases hx; done))
    rename_i b hle hb
    split at hx <;> (try (cases hx; done))
    rename_i hn
    rw [Nat.ble_eq] at hle hn
    obtain ⟨l, e1, e2, e3, e4⟩ := rowsM_spec m.R hx (length_cellsFrom _ _ _)
    refine ⟨l, _, _, e1, by omega, e3, e4, hv, by simp [lenOf, e2], fun h2 hh => ?_⟩
    rw [e2]
    exact rowCells_sl (hh id b hb) hn
  · cases hx

omit O in
/-- A name for a row without room. -/
theorem HR.phantom {m : Env} {h : AHeap} {w : World} (hr : HR m h w) (t : TypeId) (ts : List Ty) (e : SX) : m.le (m.add h.next (0, 0)) ∧ HR (m.add h.next (0, 0)) (h.alloc (.grow t ts e)) w := by
  have hle := hr.le_add (0, 0)
  have hlim := hr.lim
  have get : ∀ i x, (h.alloc (.grow t ts e)).t.get i = some x → (i = h.next ∧ x = .grow t ts e) ∨ (i ≠ h.next ∧ h.t.get i = some x) := by
    intro i x hi
    simp only [AHeap.alloc, Tr.get_put] at hi
    by_cases e : h.next = i
    · subst e; simp only [if_true, Option.some.injEq] at hi; exact .inl ⟨rfl, hi.symm⟩
    · simp only [e, if_false] at hi; exact .inr ⟨Ne.symm e, hi⟩
  refine ⟨hle, fun i hd => ?_, by simp only [AHeap.alloc]; omega, fun i hd => ?_, hr.EF, hr.E, hr.F, fun i y hy => ?_, fun i j a b ha hb li lj e => ?_, hr.io⟩
  · simp only [AHeap.alloc]
    rcases hd with hd | rfl
    · have := hr.next i hd
      omega
    · omega
  · simp only [AHeap.alloc]
    obtain ⟨h1, h2, h3⟩ := hr.res i hd
    refine ⟨?_, by omega, by omega⟩
    rintro (h4 | h4)
    · exact h1 h4
    · exact h2 h4
  · rcases get i y hy with ⟨rfl, rfl⟩ | ⟨h1, h2⟩
    · exact ⟨by simp, fun hl => absurd (by simp) hl, .inl (by simp)⟩
    · obtain ⟨k1, k2, k3⟩ := hr.objL i y h2
      rw [hle.mu i k1]
      exact ⟨hle.dom i k1, k2, k3.move hle fun _ => rfl⟩
  · rcases get i a ha with ⟨rfl, rfl⟩ | ⟨h1, h2⟩
    · exact absurd (by simp) li
    · rcases get j b hb with ⟨rfl, rfl⟩ | ⟨k1, k2⟩
      · exact absurd (by simp) lj
      · rw [hle.mu i (hr.objL i a h2).1] at e li
        rw [hle.mu j (hr.objL j b k2).1] at e lj
        exact hr.injL i j a b h2 k2 li lj e

omit O in
/-- A row of known cells, as one that grows. -/
theorem regrow {m : Env} {H H2 : AHeap} {w : World} {id N : Nat} {B : Blk} {v : Value} {t : TypeId} {ts : List Ty} {E : SX} {L : List (List DV)} {as : List AV} (hr : HR m H w) (hg : H.t.get id = some (.blk B)) (hv : V m (.sl id 0 N none) v)
    (hE : den m.R E = .list L) (hN : L.length = N) (hts : 1 ≤ ts.length) (hnm : Names m.R ts L as) (hrow : B.row = true) (hsz : B.sz = ts.length) (ht : B.t = t) (hn : B.n = N * ts.length) (hc : ∀ k, k < N * ts.length → B.cell k = (as[k]?).getD .dead)
    (hnx : H2.next = H.next) (hlm : H2.lim = H.lim) (hget : ∀ i o, H2.t.get i = some o → (i = id ∧ o = .grow t ts E) ∨ (i ≠ id ∧ H.t.get i = some o)) :
    V m (.own id ts E) v ∧ HR m H2 w := by
  obtain ⟨g1, g2, g3⟩ := hr.obj id _ hg
  obtain ⟨c, b1, b2, b3, b4⟩ := (show BR m (m.mu id) B w from g3)
  obtain ⟨b5, b6, _⟩ := b4 hrow
  simp only [V] at hv
  obtain ⟨hd, cap, rfl, c1, _, c2⟩ := hv
  obtain rfl : cap = (m.mu id).2 := c2 trivial trivial
  refine ⟨?_, fun i hi => by rw [hnx, hlm]; exact hr.next i hi, by rw [hnx, hlm]; exact hr.lim, fun i hi => by rw [hnx, hlm]; exact hr.res i hi, hr.EF, hr.E, hr.F, fun i o ho => ?_, fun i j x y hx hy li lj e => ?_, hr.io⟩
  · simp only [V]
    exact ⟨hd, L, _, hE, by rw [hN], by rw [hN]; exact c1, b6, (fun e => by cases e), fun _ => rfl⟩
  · rcases hget i o ho with ⟨rfl, rfl⟩ | ⟨_, h1⟩
    · refine ⟨hd, fun _ => g2, .inr (.inl ⟨L, hE, hnm.2.1, by rw [hN]; exact c1, hts, c, by rw [b1, ht]; rfl, ?_, fun k hk => ?_, fun _ => ⟨by show _ * ts.length ≤ _; rw [← hsz]; exact b5, b6, by show L.length * ts.length ≤ _ * ts.length; rw [hN]; exact Nat.mul_le_mul_right _ c1⟩⟩)⟩
      · show L.length * ts.length ≤ c.size
        rw [hN, ← hn]; exact b2
      · have hk' : k < N * ts.length := by rw [← hN]; exact hk
        obtain ⟨u, u1, u2⟩ := b3 k (by rw [hn]; exact hk')
        refine ⟨u, u1, ?_⟩
        have hi : k / ts.length < N := (Nat.div_lt_iff_lt_mul hts).2 hk'
        have hj : k % ts.length < ts.length := Nat.mod_lt _ hts
        have hkk : k / ts.length * ts.length + k % ts.length = k := by rw [Nat.mul_comm]; exact Nat.div_add_mod k _
        have e1 : L[k / ts.length]? = some L[k / ts.length] := List.getElem?_eq_getElem (by omega)
        have e2 : ts[k % ts.length]? = some ts[k % ts.length] := List.getElem?_eq_getElem hj
        have e3 : L[k / ts.length][k % ts.length]? = some (L[k / ts.length][k % ts.length]'(by rw [hnm.2.1 _ (List.getElem_mem _)]; exact hj)) := List.getElem?_eq_getElem _
        have hka : k < as.length := by rw [hnm.1, hN]; exact hk'
        have e4 : as[k / ts.length * ts.length + k % ts.length]? = some as[k] := by rw [hkk]; exact List.getElem?_eq_getElem hka
        rw [hc k hk', List.getElem?_eq_getElem hka, Option.getD_some] at u2
        have hrep := hnm.2.2 _ _ _ _ _ _ e1 e2 e3 e4 m rfl u u2
        have hcell : (growB t ts E L.length).cell k = .sy ts[k % ts.length] (.at E (.ki .i64 (.ofNat (k / ts.length))) (k % ts.length)) := by
          unfold Blk.cell growB
          simp only [get_putAll]
          rw [if_pos ⟨Nat.zero_le _, by rw [rowsOf_flat_length, hN]; omega⟩, Nat.sub_zero]
          have := flat_get (e := E) hj L.length 0 (k / ts.length) (by omega)
          rw [hkk, Nat.zero_add, elemCells_get e2, Nat.zero_add] at this
          rw [this]
        rw [hcell]
        simp only [V, den, hE, atD, Int.ofNat_eq_natCast, Int.toNat_natCast, List.getD_eq_getElem?_getD, e1, Option.getD_some, e3]
        exact hrep
    · exact hr.objL i o h1
  · have lift : ∀ i x, H2.t.get i = some x → live x (m.mu i) → ∃ y, H.t.get i = some y ∧ live y (m.mu i) := by
      intro i x hx lx
      rcases hget i x hx with ⟨rfl, rfl⟩ | ⟨_, h1⟩
      · exact ⟨_, hg, trivial⟩
      · exact ⟨x, h1, lx⟩
    obtain ⟨x', hx', lx'⟩ := lift i x hx li
    obtain ⟨y', hy', ly'⟩ := lift j y hy lj
    exact hr.injL i j x' y' hx' hy' lx' ly' e

theorem own_name (hF : FactsOK m.R) {id : Nat} {tys : List Ty} {e e' : SX} {v : Value} (he : sameN e e' = true) (hv : V m (.own id tys e) v) : V m (.own id tys e') v := by
  unfold sameN at he
  split at he
  · rename_i h
    obtain rfl := eqSX_eq h
    exact hv
  split at he <;> (try (cases he; done))
  rename_i h
  obtain rfl := eqSX_eq h
  unfold listS at he
  split at he <;> (try (cases he; done))
  rename_i hl
  have hl := look_den hF hl
  simp only [V] at hv ⊢
  obtain ⟨hd, l, a, d1, d2, d3, d4, d5, d6⟩ := hv
  have : ∃ l', den m.R e' = .list l' ∧ l'.length = l.length := by
    simp only [den] at d1 hl
    cases hx : den m.R e' with
    | list l' =>
      rw [hx] at d1
      simp only [lenD, bytesD, DV.list.injEq] at d1
      exact ⟨l', rfl, by rw [← d1]; simp⟩
    | str s => rw [hx] at hl; simp [lenD, catD, binD] at hl
    | int k z => rw [hx] at d1; simp [lenD, bytesD] at d1
    | bool b => rw [hx] at d1; simp [lenD, bytesD] at d1
  obtain ⟨l', e1, e2⟩ := this
  exact ⟨hd, l', a, e1, by rw [e2]; exact d2, by rw [e2]; exact d3, d4, d5, d6⟩

theorem symGrow_sound (hF : FactsOK m.R) {ts : Array TypeId} {ty : TypeId} {consts : Array Bool} {as : List AV} {vs : Array Value} (hl : VL m as vs.toList) (hr : HR m h w) {av : AV} {h' : AHeap}
    (hop : symGrow P h ts as = some (av, h')) : Good m ((builtin .append ts ty consts vs).run P w) av h' := by
  unfold symGrow at hop
  split at hop <;> (try (cases hop; done))
  rename_i t u id tys e0 x hts0 hts1
  split at hop <;> (try (cases hop; done))
  rename_i el du hnu ht hu
  split at hop <;> (try (cases hop; done))
  rename_i inf z t' tys' e hinf hz hob
  split at hop <;> (try (cases hop; done))
  rename_i hk
  simp only [Bool.and_eq_true, Nat.beq_eq, Nat.ble_eq] at hk
  obtain ⟨⟨⟨⟨⟨⟨⟨⟨rfl, ht2⟩, he2⟩, hsz⟩, hzl⟩, hs1⟩, hb1⟩, hbound⟩, hfew⟩ := hk
  obtain rfl := eqTys_eq ht2
  split at hop <;> (try (cases hop; done))
  rename_i x' hx'
  cases hop
  simp only [VL] at hl
  obtain ⟨sv, us, hvs, hs, xv, us', rfl, hx, rfl⟩ := hl
  obtain rfl : vs = #[sv, xv] := by apply Array.ext'; simpa using hvs
  obtain ⟨l2, y, as, e1, e2, e3, e4, e5, e6, e7⟩ := moreSX_spec hF hx' hx
  have hs := own_name hF he2 hs
  simp only [V] at hs
  obtain ⟨hd, l, a, d1, rfl, d2, d3, d4, d5⟩ := hs
  have hl1 := fewS_spec hF hfew d1
  have hden : ∀ m' : Env, m.le m' → den m'.R (.cat e x') = .list (l ++ l2) := fun m' hm => by rw [hm.R]; simp only [den, d1, e1, catD]
  have hnew : (as.all okCell && Nat.beq as.length (l2.length * inf.size)) = true := by rw [e4, e3.1, hsz, Nat.beq_refl]; rfl
  have hcond : ∀ k, k ≤ 1000000 → (Nat.ble ((k + l2.length) * inf.bytes) 140737488355328 && Nat.ble (k + l2.length) 9223372036854775807 && Nat.beq z.length inf.size && Nat.ble 1 inf.size && Nat.ble 1 inf.bytes) = true := by
    intro k hk
    simp only [Bool.and_eq_true, Nat.ble_eq, Nat.beq_eq]
    refine ⟨⟨⟨⟨?_, by omega⟩, hzl⟩, hs1⟩, hb1⟩
    have : (k + l2.length) * inf.bytes ≤ 2000000 * inf.bytes := Nat.mul_le_mul_right _ (by omega)
    omega
  have hts : 1 ≤ tys.length := by omega
  by_cases hp : (m.mu id).2 = 0
  · have hl0 : l = [] := List.length_eq_zero_iff.1 (by omega)
    subst hl0
    have hs0 : V m (.emp 0) (.slice a ([] : List (List DV)).length (m.mu id).2) := by
      simp only [V]
      exact ⟨a, _, rfl, fun _ => hp, d4⟩
    have hr1 := hr.cut id
    have h7 := e7 { h with t := h.t.cut id } (fun i b hb => by
      unfold AHeap.blk? at hb ⊢
      simp only [Tr.get_cut]
      by_cases e : id = i
      · subst e; rw [hob] at hb; cases hb
      · rw [if_neg e]; exact hb)
    rw [← hsz] at h7
    cases hn0 : l2.length with
    | zero =>
      have hl2 : l2 = [] := List.length_eq_zero_iff.1 hn0
      have hop2 : builtinA P { h with t := h.t.cut id } .append ts ty [.emp 0, y] = some (.emp 0, { h with t := h.t.cut id }) := by
        have hc := hcond 0 (by omega)
        have hle : lenOf (.emp 0) = some 0 := rfl
        rw [hn0] at e6 hc h7 hnew
        cases du <;> first
          | exact (hnu _ rfl).elim
          | simp only [builtinA, biAppend, hts0, hts1, ht, hu, hinf, hz, hle, e6, hc, h7, hnew]
      obtain ⟨v, w', m', k1, k2, k3, k4⟩ := append_sound (P := P) (consts := consts) hs0 e5 hr1 hop2
      obtain ⟨q1, q2⟩ := k4.phantom t' tys (.cat e x')
      refine ⟨v, w', _, k1, k2.trans q1, ?_, q2⟩
      simp only [V] at k3 ⊢
      obtain ⟨a', c', rfl, c1, c2⟩ := k3
      have hc0 := c1 trivial
      subst hc0
      refine ⟨by simp [AHeap.alloc], [], a', ?_, ?_, ?_, ?_, ?_, ?_⟩
      · rw [hden _ (k2.trans q1), hl2]; rfl
      · simp
      · simp
      · simp
      · simp
      · simp
    | succ n0 =>
      have hop2 : builtinA P { h with t := h.t.cut id } .append ts ty [.emp 0, y] = some (.sl h.next 0 l2.length none, AHeap.alloc { h with t := h.t.cut id } (.blk { t := t', row := true, sz := inf.size, n := l2.length * inf.size, z := [], c := Blk.putAll .nil 0 as })) := by
        have hc := hcond 0 (by omega)
        have hle : lenOf (.emp 0) = some 0 := rfl
        rw [hn0] at e6 hc h7 hnew ⊢
        rw [Nat.zero_add] at hc
        cases du <;> first
          | exact (hnu _ rfl).elim
          | simp only [builtinA, biAppend, hts0, hts1, ht, hu, hinf, hz, hle, e6, hc, h7, hnew, List.nil_append, Nat.zero_add]
      obtain ⟨v, w', m', k1, k2, k3, k4⟩ := append_sound (P := P) (consts := consts) hs0 e5 hr1 hop2
      have hR : m'.R = m.R := k2.R
      obtain ⟨q1, q2⟩ := regrow (t := t') (ts := tys) (E := .cat e x') (L := [] ++ l2) (as := as) (H2 := AHeap.alloc { h with t := h.t.cut id } (.grow t' tys (.cat e x'))) k4 (id := h.next) (by simp [AHeap.alloc, Tr.get_put]; rfl) k3 (hden m' k2) (by simp) hts (by rw [hR]; simpa using e3) rfl hsz rfl (by rw [← hsz])
        (fun k hk => by
          unfold Blk.cell
          rw [get_putAll, if_pos ⟨Nat.zero_le _, by rw [e3.1]; omega⟩, Nat.sub_zero]
          rw [List.getElem?_eq_getElem (by rw [e3.1]; omega)]
          rfl) rfl rfl (fun i o ho => by
          simp only [AHeap.alloc, Tr.get_put] at ho ⊢
          by_cases e : h.next = i
          · subst e; simp only [if_true, Option.some.injEq] at ho; exact .inl ⟨rfl, ho.symm⟩
          · simp only [e, if_false] at ho ⊢; exact .inr ⟨Ne.symm e, ho⟩)
      exact ⟨v, w', m', k1, k2, q1, q2⟩
  · obtain ⟨o1, o2, o3⟩ := hr.obj id _ hob hp
    rcases GR.own (show GR m (m.mu id) t' tys e w from o3) (by assumption) with o3 | ⟨l', g1, g2, g3, g4, g5⟩
    · exact absurd o3 hp
    rw [d1] at g1
    cases g1
    have hr1 : HR m (h.put id (.blk (growB t' tys e l.length))) w := hr.put (o' := .blk (growB t' tys e l.length)) hob g5 (fun _ _ => rfl) rfl hp
    have hs0 : V m (.sl id 0 l.length none) (.slice a l.length (m.mu id).2) := by
      simp only [V]
      rw [d5 hp]
      exact ⟨hd, _, rfl, d2, (fun k e => by cases e), fun _ _ => rfl⟩
    have hbk : (h.put id (.blk (growB t' tys e l.length))).blk? id = some (growB t' tys e l.length) := by
      unfold AHeap.blk? AHeap.put
      simp [Tr.get_put]
    have h7 := e7 (h.put id (.blk (growB t' tys e l.length))) (fun i b hb => by
      unfold AHeap.blk? AHeap.put at *
      simp only [Tr.get_put]
      by_cases e : id = i
      · subst e; rw [hob] at hb; cases hb
      · rw [if_neg e]; exact hb)
    rw [← hsz] at h7
    have hrowc : ((growB t' tys e l.length).row && Nat.beq (growB t' tys e l.length).n (l.length * inf.size) && Nat.beq (growB t' tys e l.length).sz inf.size && Nat.beq (growB t' tys e l.length).t t') = true := by
      simp only [growB, hsz, Nat.beq_refl]
      rfl
    have hop2 : builtinA P (h.put id (.blk (growB t' tys e l.length))) .append ts ty [.sl id 0 l.length none, y] = some (.sl h.next 0 (l.length + l2.length) none,
        AHeap.alloc { (h.put id (.blk (growB t' tys e l.length))) with t := (h.put id (.blk (growB t' tys e l.length))).t.cut id } (.blk { growB t' tys e l.length with n := (l.length + l2.length) * inf.size, c := Blk.putAll (growB t' tys e l.length).c (l.length * inf.size) as })) := by
      have hc := hcond l.length hl1
      have hle : lenOf (.sl id 0 l.length none) = some l.length := rfl
      cases du <;> first
        | exact (hnu _ rfl).elim
        | (simp only [builtinA, biAppend, hts0, hts1, ht, hu, hinf, hz, hle, e6, hc, h7, hnew, hbk, hrowc]; rfl)
    obtain ⟨v, w', m', k1, k2, k3, k4⟩ := append_sound (P := P) (consts := consts) hs0 e5 hr1 hop2
    have hR : m'.R = m.R := k2.R
    have hnm := (Names.ofRows (ts := tys) d1 g2).append e3
    have hol : (rowsOf e tys 0 l.length).flatten.length = l.length * tys.length := rowsOf_flat_length _ _ _ _
    obtain ⟨q1, q2⟩ := regrow (t := t') (ts := tys) (E := .cat e x') (L := l ++ l2) (as := (rowsOf e tys 0 l.length).flatten ++ as) (H2 := AHeap.alloc { h with t := h.t.cut id } (.grow t' tys (.cat e x'))) k4 (id := h.next) (by simp [AHeap.alloc, AHeap.put, Tr.get_put]; rfl) k3 (hden m' k2) (by simp) hts (by rw [hR]; exact hnm) rfl rfl rfl (by rw [← hsz])
      (fun k hk => by
        have h1 : ({ growB t' tys e l.length with n := (l.length + l2.length) * inf.size, c := Blk.putAll (growB t' tys e l.length).c (l.length * inf.size) as } : Blk).cell k = if l.length * inf.size ≤ k ∧ k < l.length * inf.size + as.length then (as[k - l.length * inf.size]?).getD .dead else (growB t' tys e l.length).cell k := cell_putAll (growB t' tys e l.length) as (l.length * inf.size) k
        rw [Nat.add_mul] at hk
        have hal := e3.1
        rw [h1, hsz]
        by_cases hin : l.length * tys.length ≤ k
        · rw [if_pos ⟨hin, by omega⟩, List.getElem?_append_right (by omega), hol]
        · rw [if_neg (by omega), List.getElem?_append_left (by omega)]
          unfold Blk.cell growB
          simp only [get_putAll]
          rw [if_pos ⟨Nat.zero_le _, by omega⟩, Nat.sub_zero, List.getElem?_eq_getElem (by omega)]
          rfl) rfl rfl (fun i o ho => by
        simp only [AHeap.alloc, AHeap.put, Tr.get_put, Tr.get_cut] at ho ⊢
        by_cases e : h.next = i
        · subst e; simp only [if_true, Option.some.injEq] at ho; exact .inl ⟨rfl, ho.symm⟩
        · simp only [e, if_false] at ho ⊢
          refine .inr ⟨Ne.symm e, ?_⟩
          by_cases e2 : id = i
          · simp [e2] at ho
          · simpa [e2] using ho)
    exact ⟨v, w', m', k1, k2, q1, q2⟩

omit O in
/-- A slice of the run's own in a cell: data from here on. -/
theorem iceC_sound {id off : Nat} {h' : AHeap} (hr : HR m h w) (hi : iceC h id off = some h') : ∃ m', m.le m' ∧ HR m' h' w := by
  unfold iceC at hi
  split at hi <;> (try (cases hi; done))
  rename_i b hb
  split at hi <;> (try (cases hi; done))
  rename_i j us f hoff hc
  split at hi <;> (try (cases hi; done))
  rename_i t vs g hg
  split at hi <;> (try (cases hi; done))
  rename_i hk
  cases hi
  simp only [Bool.and_eq_true] at hk
  obtain rfl := eqTys_eq hk.1
  obtain rfl := eqSX_eq hk.2
  obtain ⟨g1, g2, g3⟩ := hr.obj id _ (blk?_some hb)
  obtain ⟨cs, b1, b2, b3, b4⟩ := (show BR m (m.mu id) b w from g3)
  obtain ⟨u, u1, u2⟩ := b3 off (blt_lt hoff)
  rw [hc] at u2
  obtain ⟨m2, l2, v2, r2⟩ := iceOwn hr u2 hg
  have hne : j ≠ id := by
    rintro rfl
    rw [blk?_some hb] at hg
    cases hg
  have hid : (h.t.cut j).get id = some (.blk b) := by
    rw [Tr.get_cut, if_neg hne]
    exact blk?_some hb
  have hmu : m2.mu id = m.mu id := l2.mu id g1
  refine ⟨m2, l2, r2.put (o' := .blk { b with c := b.c.put off (.sy (.slice us) f) }) hid ?_ (fun _ _ => rfl)⟩
  show BR m2 (m2.mu id) _ w
  rw [hmu]
  refine ⟨cs, b1, b2, fun k hk => ?_, b4⟩
  obtain ⟨z, z1, z2⟩ := b3 k hk
  refine ⟨z, z1, ?_⟩
  unfold Blk.cell
  simp only [Tr.get_put]
  by_cases e : off = k
  · subst e
    rw [u1] at z1
    cases z1
    rw [if_pos rfl]
    exact v2
  · rw [if_neg e]
    exact V.mono l2 _ _ z2
omit O in
/-- A slice of the run's own that is laid behind another one, or stands in what is: data from here on. -/
theorem iceX_sound {x x' : AV} {v : Value} {h' : AHeap} (hr : HR m h w) (hv : V m x v) (hi : iceX h x = some (x', h')) : ∃ m', m.le m' ∧ V m' x' v ∧ HR m' h' w := by
  unfold iceX at hi
  split at hi
  · rename_i j us f
    split at hi <;> (try (cases hi; done))
    rename_i t vs g hg
    split at hi <;> (try (cases hi; done))
    rename_i hk
    cases hi
    simp only [Bool.and_eq_true] at hk
    obtain rfl := eqTys_eq hk.1
    obtain rfl := eqSX_eq hk.2
    obtain ⟨m2, l2, v2, r2⟩ := iceOwn hr hv hg
    exact ⟨m2, l2, v2, r2⟩
  · rename_i id off len cap
    split at hi <;> (try (cases hi; done))
    rename_i h1 hc
    cases hi
    obtain ⟨m2, l2, r2⟩ := iceC_sound hr hc
    exact ⟨m2, l2, V.mono l2 _ _ hv, r2⟩
  · cases hi
theorem symGrowI_sound (hF : FactsOK m.R) {ts : Array TypeId} {ty : TypeId} {consts : Array Bool} {as : List AV} {vs : Array Value} (hl : VL m as vs.toList) (hr : HR m h w) {av : AV} {h' : AHeap}
    (hop : symGrowI P h ts as = some (av, h')) : Good m ((builtin .append ts ty consts vs).run P w) av h' := by
  unfold symGrowI at hop
  split at hop <;> (try (cases hop; done))
  rename_i s x
  split at hop <;> (try (cases hop; done))
  rename_i x' h1 hi
  simp only [VL] at hl
  obtain ⟨sv, us, hvs, hs, xv, us', rfl, hx, rfl⟩ := hl
  obtain ⟨m1, l1, v1, r1⟩ := iceX_sound hr hx hi
  have hl1 : VL m1 [s, x'] vs.toList := by
    rw [hvs]
    simp only [VL]
    exact ⟨sv, _, rfl, V.mono l1 _ _ hs, xv, _, rfl, v1, rfl⟩
  obtain ⟨v, w', m', k1, k2, k3, k4⟩ := symGrow_sound (ty := ty) (consts := consts) (by rw [l1.R]; exact hF) hl1 r1 hop
  exact ⟨v, w', m', k1, l1.trans k2, k3, k4⟩

theorem pickMax_sound (hF : FactsOK m.R) {a b c : AV} {u v : Value} (h : pickMax a b = some c) (ha : V m a u) (hb : V m b v) : ∃ z, (Builtin.max2 u v).run P w = .ok z w ∧ V m c z := by
  unfold pickMax at h
  split at h <;> (try (cases h; done))
  rename_i k x l y h1 h2
  split at h <;> (try (cases h; done))
  rename_i hk
  cases eqK_eq hk
  obtain ⟨p, d1, rfl⟩ := asSX_spec h1 ha
  obtain ⟨q, d2, rfl⟩ := asSX_spec h2 hb
  split at h
  · rename_i hle
    cases h
    have := leS_sound hF hle d1 d2
    refine ⟨_, ?_, hb⟩
    simp only [Builtin.max2]
    by_cases e : q > p
    · simp [e]
    · have : p = q := by omega
      simp [this]
  · split at h <;> (try (cases h; done))
    rename_i hle
    cases h
    have := leS_sound hF hle d2 d1
    refine ⟨_, ?_, ha⟩
    simp only [Builtin.max2]
    have e : ¬ q > p := by omega
    simp [e]
theorem foldMax_sound (hF : FactsOK m.R) : ∀ {l : List AV} {a c : AV} {u : Value} {vs : List Value}, foldMax a l = some c → V m a u → VL m l vs → ∃ z, (vs.foldlM Builtin.max2 u).run P w = .ok z w ∧ V m c z
  | [], a, c, u, vs, h, ha, hl => by
    simp only [foldMax, Option.some.injEq] at h
    subst h
    simp only [VL] at hl
    subst hl
    exact ⟨u, rfl, ha⟩
  | b :: l, a, c, u, vs, h, ha, hl => by
    simp only [VL] at hl
    obtain ⟨v, us, rfl, hb, hl⟩ := hl
    simp only [foldMax] at h
    split at h <;> (try (cases h; done))
    rename_i d hd
    obtain ⟨z, g1, g2⟩ := pickMax_sound (P := P) (w := w) hF hd ha hb
    obtain ⟨z', g3, g4⟩ := foldMax_sound hF h g2 hl
    refine ⟨z', ?_, g4⟩
    rw [List.foldlM_cons, Sem.run_bind, g1, Result.andThen_ok]
    exact g3
theorem knownLen_sound (hF : FactsOK m.R) {e : SX} {l : List (List DV)} (he : den m.R e = .list l) : ∀ {n j : Nat}, knownLen e n = some j → j = l.length
  | 0, j, h => by
    unfold knownLen at h
    split at h <;> (try (cases h; done))
    rename_i hk
    cases h
    have := look_den hF hk
    simp only [den, he, lenD, binD] at this
    simp at this
    simp [this]
  | n + 1, j, h => by
    unfold knownLen at h
    split at h
    · rename_i hk
      cases h
      have := look_den hF hk
      simp only [den, he, lenD, binD] at this
      simp at this
      omega
    · exact knownLen_sound hF he h
theorem symCopy_sound (hF : FactsOK m.R) {ts : Array TypeId} {ty : TypeId} {consts : Array Bool} {as : List AV} {vs : Array Value} (hl : VL m as vs.toList) (hr : HR m h w) {av : AV} {h' : AHeap}
    (hop : symCopy P h ts as = some (av, h')) : Good m ((builtin .copy ts ty consts vs).run P w) av h' := by
  unfold symCopy at hop
  split at hop <;> (try (cases hop; done))
  rename_i id off len cap cs e
  simp only [VL] at hl
  obtain ⟨dv, us, hvs, hd, xv, us', rfl, hx, rfl⟩ := hl
  obtain rfl : vs = #[dv, xv] := by apply Array.ext'; simpa using hvs
  have hx' := hx
  simp only [V] at hx'
  obtain ⟨es, e1, e2, e3, e4⟩ := sy_fsl hx'
  have hl2 : VL m [.sl id off len cap, .fsl cs.length false (rowsOf e cs 0 es.length)] (#[dv, xv] : Array Value).toList := by
    simp only [VL]
    exact ⟨dv, _, rfl, hd, xv, _, rfl, e3, rfl⟩
  split at hop
  · rename_i hle
    have hn := leS_sound hF hle (k := .i64) (l := .i64) (a := (len : Int)) (b := (es.length : Int)) (by simp [den]) (by simp only [den, e1, lenD])
    refine copy_sound (ty := ty) hl2 hr ?_
    show biCopy P h ts ty _ = _
    rw [copy_same (by omega)]
    exact hop
  · split at hop <;> (try (cases hop; done))
    rename_i j hj
    have := knownLen_sound hF (l := es) e1 hj
    subst this
    refine copy_sound (ty := ty) hl2 hr ?_
    exact hop

omit O in
/-- A row without room goes by another name. -/
theorem HR.renameDead {m : Env} {h : AHeap} {w : World} {id : Nat} {o o' : AObj} (hr : HR m h w) (hid : h.t.get id = some o) (h1 : ¬ live o' (m.mu id)) (ho : OR m (m.mu id) o' w) : HR m (h.put id o') w := by
  refine ⟨hr.next, hr.lim, hr.res, hr.EF, hr.E, hr.F, fun i y hy => ?_, fun i j a b ha hb li lj e => ?_, hr.io⟩
  · simp only [AHeap.put, Tr.get_put] at hy
    by_cases hi : id = i
    · subst hi
      simp only [if_true, Option.some.injEq] at hy
      subst hy
      exact ⟨(hr.objL id o hid).1, fun hl => absurd hl h1, ho⟩
    · simp only [hi, if_false] at hy
      exact hr.objL i y hy
  · simp only [AHeap.put, Tr.get_put] at ha hb
    by_cases hi : id = i
    · subst hi
      simp only [if_true, Option.some.injEq] at ha
      subst ha
      exact absurd li h1
    · by_cases hj : id = j
      · subst hj
        simp only [if_true, Option.some.injEq] at hb
        subst hb
        exact absurd lj h1
      · simp only [hi, if_false] at ha
        simp only [hj, if_false] at hb
        exact hr.injL i j a b ha hb li lj e

theorem symCopyO_sound (hF : FactsOK m.R) {ts : Array TypeId} {ty : TypeId} {consts : Array Bool} {as : List AV} {vs : Array Value} (hl : VL m as vs.toList) (hr : HR m h w) {av : AV} {h' : AHeap}
    (hop : symCopyO P h ts as = some (av, h')) : Good m ((builtin .copy ts ty consts vs).run P w) av h' := by
  unfold symCopyO at hop
  split at hop <;> (try (cases hop; done))
  rename_i t id tys e x hts0
  split at hop <;> (try (cases hop; done))
  rename_i el ht
  split at hop <;> (try (cases hop; done))
  rename_i size t' tys' e' x' hs hob hx'
  split at hop <;> (try (cases hop; done))
  rename_i hk
  simp only [Bool.and_eq_true, Nat.beq_eq, Nat.ble_eq] at hk
  obtain ⟨⟨⟨⟨ht2, he2⟩, he3⟩, rfl⟩, hs1⟩ := hk
  obtain rfl := eqTys_eq ht2
  obtain rfl := eqSX_eq he2
  obtain rfl := eqSX_eq he3
  simp only [Option.some.injEq, Prod.mk.injEq] at hop
  obtain ⟨rfl, rfl⟩ := hop
  simp only [VL] at hl
  obtain ⟨sv, us, hvs, hsv, xv, us', rfl, hx, rfl⟩ := hl
  obtain rfl : vs = #[sv, xv] := by apply Array.ext'; simpa using hvs
  obtain ⟨l2, y, as, e1, e2, e3, e4, e5, e6, e7⟩ := moreSX_spec hF hx' hx
  have hs' := hsv
  simp only [V] at hs'
  obtain ⟨hd, l, a, d1, rfl, d2, d3, d4, d5⟩ := hs'
  have hll : l.length = l2.length := by
    simp only [den, e1, lenD, bytesD, DV.list.injEq] at d1
    rw [← d1]
    simp
  have hlenv : ∀ m' : Env, m.le m' → V m' (.sy (.int .i64) (.len x')) (goInt l2.length) := fun m' hm => by
    simp only [V, Rep, den]
    rw [hm.R, e1]
    refine ⟨(l2.length : Int), rfl, rfl, ?_, ?_⟩
    · show (-9223372036854775808 : Int) ≤ _
      omega
    · show _ ≤ (9223372036854775807 : Int)
      omega
  have hmin : Nat.min l2.length l2.length = l2.length := Nat.min_self _
  by_cases hp : (m.mu id).2 = 0
  · have hl0 : l = [] := List.length_eq_zero_iff.1 (by omega)
    subst hl0
    have hn0 : l2.length = 0 := hll.symm
    have hs0 : V m (.emp 0) (.slice a ([] : List (List DV)).length (m.mu id).2) := by
      simp only [V]
      exact ⟨a, _, rfl, fun _ => hp, d4⟩
    have has : as = [] := List.length_eq_zero_iff.1 (by rw [e3.1, hn0, Nat.zero_mul])
    have h7 := e7 h (fun i b hb => hb)
    rw [hn0, has] at h7
    have hop2 : builtinA P h .copy ts ty [.emp 0, y] = some (vInt 0, h) := by
      have hle : lenOf (.emp 0) = some 0 := rfl
      rw [hn0] at e6
      simp only [builtinA, biCopy, hts0, ht, hs, hle, e6, Nat.min_self, h7]
    have hl3 : VL m [.emp 0, y] (#[.slice a ([] : List (List DV)).length (m.mu id).2, xv] : Array Value).toList := by
      simp only [VL]
      exact ⟨_, _, rfl, hs0, xv, _, rfl, e5, rfl⟩
    obtain ⟨v, w', m', k1, k2, k3, k4⟩ := copy_sound (P := P) (ty := ty) (consts := consts) hl3 hr hop2
    have hmu : m'.mu id = m.mu id := k2.mu id hd
    refine ⟨v, w', m', k1, k2, ?_, k4.renameDead hob ?_ (.inl (by rw [hmu]; exact hp))⟩
    · have : v = goInt 0 := by simpa [V, vInt, goInt] using k3
      rw [this]
      have := hlenv m' k2
      rw [hn0] at this
      exact this
    · show ¬ (m'.mu id).2 ≠ 0
      rw [hmu]
      exact fun h => h hp
  · obtain ⟨o1, o2, o3⟩ := hr.obj id _ hob hp
    rcases GR.own (show GR m (m.mu id) t' tys (.bytes (.len x')) w from o3) (by assumption) with o3 | ⟨l', g1, g2, g3, g4, g5⟩
    · exact absurd o3 hp
    rw [d1] at g1
    cases g1
    have hr1 : HR m (h.put id (.blk (growB t' tys (.bytes (.len x')) l.length))) w := hr.put (o' := .blk (growB t' tys (.bytes (.len x')) l.length)) hob g5 (fun _ _ => rfl) rfl hp
    have hs0 : V m (.sl id 0 l.length none) (.slice a l.length (m.mu id).2) := by
      simp only [V]
      rw [d5 hp]
      exact ⟨hd, _, rfl, d2, (fun k e => by cases e), fun _ _ => rfl⟩
    have hbk : (h.put id (.blk (growB t' tys (.bytes (.len x')) l.length))).blk? id = some (growB t' tys (.bytes (.len x')) l.length) := by
      unfold AHeap.blk? AHeap.put
      simp [Tr.get_put]
    have h7 := e7 (h.put id (.blk (growB t' tys (.bytes (.len x')) l.length))) (fun i b hb => by
      unfold AHeap.blk? AHeap.put at *
      simp only [Tr.get_put]
      by_cases e : id = i
      · subst e; rw [hob] at hb; cases hb
      · rw [if_neg e]; exact hb)
    have hchk : (Nat.ble (0 + l2.length * tys.length) (growB t' tys (.bytes (.len x')) l.length).n && as.all okCell && Nat.beq as.length (l2.length * tys.length)) = true := by
      rw [e4, e3.1, Nat.beq_refl]
      simp only [growB, hll, Nat.zero_add, Bool.and_true, Nat.ble_eq]
      exact Nat.le_refl _
    have hop2 : builtinA P (h.put id (.blk (growB t' tys (.bytes (.len x')) l.length))) .copy ts ty [.sl id 0 l.length none, y] = some (vInt l2.length,
        (h.put id (.blk (growB t' tys (.bytes (.len x')) l.length))).put id (.blk { growB t' tys (.bytes (.len x')) l.length with c := Blk.putAll (growB t' tys (.bytes (.len x')) l.length).c 0 as })) := by
      have hle : lenOf (.sl id 0 l.length none) = some l2.length := by rw [← hll]; rfl
      simp only [builtinA, biCopy, hts0, ht, hs, hle, e6, hmin, h7, hbk, hchk]
    have hl3 : VL m [.sl id 0 l.length none, y] (#[.slice a l.length (m.mu id).2, xv] : Array Value).toList := by
      simp only [VL]
      exact ⟨_, _, rfl, hs0, xv, _, rfl, e5, rfl⟩
    obtain ⟨v, w', m', k1, k2, k3, k4⟩ := copy_sound (P := P) (ty := ty) (consts := consts) hl3 hr1 hop2
    have hR : m'.R = m.R := k2.R
    have hv : v = goInt l2.length := by simpa [V, vInt, goInt] using k3
    obtain ⟨q1, q2⟩ := regrow (t := t') (ts := tys) (E := x') (L := l2) (as := as) (H2 := h.put id (.grow t' tys x')) k4 (id := id) (by simp [AHeap.put, Tr.get_put]; rfl) (V.mono k2 _ _ hs0) (by rw [hR]; exact e1) hll.symm g4 (by rw [hR]; exact e3) rfl rfl rfl rfl
      (fun k hk => by
        have h1 : ({ growB t' tys (.bytes (.len x')) l.length with c := Blk.putAll (growB t' tys (.bytes (.len x')) l.length).c 0 as } : Blk).cell k = if 0 ≤ k ∧ k < 0 + as.length then (as[k - 0]?).getD .dead else (growB t' tys (.bytes (.len x')) l.length).cell k := cell_putAll (growB t' tys (.bytes (.len x')) l.length) as 0 k
        rw [h1, if_pos ⟨Nat.zero_le _, by rw [e3.1, ← hll]; omega⟩, Nat.sub_zero]) rfl rfl (fun i o ho => by
        simp only [AHeap.put, Tr.get_put] at ho ⊢
        by_cases e : id = i
        · subst e; simp only [if_true, Option.some.injEq] at ho; exact .inl ⟨rfl, ho.symm⟩
        · simp only [e, if_false] at ho ⊢; exact .inr ⟨Ne.symm e, ho⟩)
    exact ⟨v, w', m', k1, k2, by rw [hv]; exact hlenv m' k2, q2⟩

theorem symCopyI_sound (hF : FactsOK m.R) {ts : Array TypeId} {ty : TypeId} {consts : Array Bool} {as : List AV} {vs : Array Value} (hl : VL m as vs.toList) (hr : HR m h w) {av : AV} {h' : AHeap}
    (hop : symCopyI P h ts as = some (av, h')) : Good m ((builtin .copy ts ty consts vs).run P w) av h' := by
  unfold symCopyI at hop
  split at hop <;> (try (cases hop; done))
  rename_i s x
  split at hop <;> (try (cases hop; done))
  rename_i x' h1 hi
  simp only [VL] at hl
  obtain ⟨sv, us, hvs, hs, xv, us', rfl, hx, rfl⟩ := hl
  obtain ⟨m1, l1, v1, r1⟩ := iceX_sound hr hx hi
  have hl1 : VL m1 [s, x'] vs.toList := by
    rw [hvs]
    simp only [VL]
    exact ⟨sv, _, rfl, V.mono l1 _ _ hs, xv, _, rfl, v1, rfl⟩
  obtain ⟨v, w', m', k1, k2, k3, k4⟩ := symCopyO_sound (ty := ty) (consts := consts) (by rw [l1.R]; exact hF) hl1 r1 hop
  exact ⟨v, w', m', k1, l1.trans k2, k3, k4⟩

theorem symAppend0_sound {ts : Array TypeId} {ty : TypeId} {consts : Array Bool} {as : List AV} {vs : Array Value} (hl : VL m as vs.toList) (hr : HR m h w) {av : AV} {h' : AHeap}
    (hop : symAppend0 P h ts as = some (av, h')) : Good m ((builtin .append ts ty consts vs).run P w) av h' := by
  unfold symAppend0 at hop
  split at hop <;> (try (cases hop; done))
  rename_i t u id off len cap k hts0 hts1
  split at hop <;> (try (cases hop; done))
  rename_i e e2 ht hu
  split at hop <;> (try (cases hop; done))
  rename_i inf hinf
  cases hop
  simp only [VL] at hl
  obtain ⟨sv, us, hvs, hs, xv, us', rfl, hx, rfl⟩ := hl
  obtain rfl : vs = #[sv, xv] := by apply Array.ext'; simpa using hvs
  have hs0 := hs
  simp only [V] at hs hx
  obtain ⟨_, c, rfl, h1, _⟩ := hs
  obtain ⟨a, d, rfl, _, _⟩ := hx
  refine Good.run (s := Builtin.append_ ts ty #[.slice (some ⟨(m.mu id).1, off, none⟩) len c, .slice a 0 d]) hr hs0 ?_
  have hfc : (Builtin.firstCells inf.size 0 (.slice a 0 d)).run P w = .ok #[] w := by
    cases a with
    | none => simp [Builtin.firstCells]
    | some a => simp [Builtin.firstCells, loadCells, loadCellsFrom]
  simp [Builtin.append_, hts0, hts1, run_underlying ht, run_underlying hu, sizeOf, typeInfo, hinf, Builtin.lenOf, h1, hfc, storeCells]
theorem symClear_sound {ts : Array TypeId} {ty : TypeId} {consts : Array Bool} {as : List AV} {vs : Array Value} (hl : VL m as vs.toList) (hr : HR m h w) {av : AV} {h' : AHeap}
    (hop : symClear P h ts as = some (av, h')) : Good m ((builtin .clear ts ty consts vs).run P w) av h' := by
  unfold symClear at hop
  split at hop <;> (try (cases hop; done))
  rename_i t id off len cap hts0
  split at hop <;> (try (cases hop; done))
  rename_i e ht
  split at hop <;> (try (cases hop; done))
  rename_i z b hz hb
  split at hop <;> (try (cases hop; done))
  rename_i hc
  cases hop
  simp only [Bool.and_eq_true, Nat.ble_eq] at hc
  obtain ⟨⟨⟨h1, h2⟩, h3⟩, h4⟩ := hc
  simp only [VL] at hl
  obtain ⟨sv, us, hvs, hs, rfl⟩ := hl
  obtain rfl : vs = #[sv] := by apply Array.ext'; simpa using hvs
  simp only [V] at hs
  obtain ⟨_, c, rfl, _⟩ := hs
  have hvl : VL m (List.replicate len (z.cells.toList.map AV.sc)).flatten (List.replicate len z.cells.toList).flatten := VL_replicate (VL_sc m z.cells.toList) len
  obtain ⟨w', hst, hr'⟩ := BR.write (P := P) hr (blk?_some hb) hvl h4 h3
  refine Good.new (s := Builtin.clear_ ts ty #[.slice (some ⟨(m.mu id).1, off, none⟩) len c]) (v := .tuple #[]) (.refl m) hr' (by simp [V]) ?_
  have hzv : (zeroValue e).run P w = .ok z w := by simp [run_zeroValue' hz]
  have hzc : (Builtin.zeroCells z.cells len).toList = (List.replicate len z.cells.toList).flatten := range_flatten z.cells (by omega) len
  cases len with
  | zero => omega
  | succ n => simp [Builtin.clear_, hts0, run_underlying ht, hzv, hzc, hst]
theorem symBuiltin_sound (hF : FactsOK m.R) {b : Builtin} {ts : Array TypeId} {ty : TypeId} {consts : Array Bool} {as : List AV} {vs : Array Value} (hl : VL m as vs.toList) (hr : HR m h w) {av : AV} {h' : AHeap}
    (hop : symBuiltin P h b ts as = some (av, h')) : Good m ((builtin b ts ty consts vs).run P w) av h' := by
  unfold symBuiltin at hop
  split at hop
  · unfold symLen at hop
    split at hop
    · rename_i t e hts
      simp only [VL] at hl
      obtain ⟨v, us, hvs, hx, rfl⟩ := hl
      obtain rfl : vs = #[v] := by apply Array.ext'; simpa using hvs
      split at hop <;> (try (cases hop; done))
      rename_i hu
      cases hop
      simp only [V, Rep] at hx
      obtain ⟨s, h1, rfl, h3⟩ := hx
      refine Good.run (s := Builtin.len_ ts ty #[.string s]) (v := goInt s.size) hr ?_ (by simp [Builtin.len_, hts, run_underlying hu])
      simp only [V, Rep, den, h1, lenD, goInt]
      refine ⟨_, rfl, rfl, ?_, ?_⟩
      · (simp [IntKind.min, IntKind.signed, IntKind.bits] <;> omega)
      · unfold maxLen at h3; simp [IntKind.max, IntKind.signed, IntKind.bits]; omega
    · rename_i t cs e hts
      simp only [VL] at hl
      obtain ⟨v, us, hvs, hx, rfl⟩ := hl
      obtain rfl : vs = #[v] := by apply Array.ext'; simpa using hvs
      split at hop <;> (try (cases hop; done))
      rename_i hu
      cases hop
      simp only [V, Rep] at hx
      obtain ⟨es, a, c, h1, rfl, h3, h4, _⟩ := hx
      refine Good.run (s := Builtin.len_ ts ty #[.slice a es.length c]) (v := goInt es.length) hr ?_ (by simp [Builtin.len_, hts, run_underlying hu])
      simp only [V, Rep, den, h1, lenD, goInt]
      refine ⟨_, rfl, rfl, ?_, ?_⟩
      · (simp [IntKind.min, IntKind.signed, IntKind.bits] <;> omega)
      · unfold maxLen at h4; simp [IntKind.max, IntKind.signed, IntKind.bits]; omega
    · rename_i t id cs e hts
      simp only [VL] at hl
      obtain ⟨v, us, hvs, hx, rfl⟩ := hl
      obtain rfl : vs = #[v] := by apply Array.ext'; simpa using hvs
      split at hop <;> (try (cases hop; done))
      rename_i hu
      cases hop
      simp only [V] at hx
      obtain ⟨_, es, a, h1, rfl, h3, h4, _⟩ := hx
      refine Good.run (s := Builtin.len_ ts ty #[.slice a es.length (m.mu id).2]) (v := goInt es.length) hr ?_ (by simp [Builtin.len_, hts, run_underlying hu])
      simp only [V, Rep, den, h1, lenD, goInt]
      refine ⟨_, rfl, rfl, ?_, ?_⟩
      · (simp [IntKind.min, IntKind.signed, IntKind.bits] <;> omega)
      · unfold maxLen at h4; simp [IntKind.max, IntKind.signed, IntKind.bits]; omega
    · cases hop
  · unfold symMin at hop
    split at hop <;> (try (cases hop; done))
    rename_i a b
    simp only [VL] at hl
    obtain ⟨u, us, hvs, hx, v, us', rfl, hy, rfl⟩ := hl
    obtain rfl : vs = #[u, v] := by apply Array.ext'; simpa using hvs
    split at hop <;> (try (cases hop; done))
    rename_i k x l y h1 h2
    split at hop <;> (try (cases hop; done))
    rename_i hk
    cases eqK_eq hk
    obtain ⟨p, d1, rfl⟩ := asSX_spec h1 hx
    obtain ⟨q, d2, rfl⟩ := asSX_spec h2 hy
    have run : ∀ z, (if q < p then q else p) = z → (Builtin.min_ ts ty #[.int k p, .int k q]).run P w = .ok (.int k z) w := by
      intro z hz
      simp [Builtin.min_, Builtin.min2, ← hz]
    split at hop
    · rename_i hle
      cases hop
      have := leS_sound hF hle d1 d2
      exact Good.run (s := Builtin.min_ ts ty #[.int k p, .int k q]) hr hx (run p (by rw [if_neg (by omega)]))
    · split at hop <;> (try (cases hop; done))
      rename_i hle
      cases hop
      have := leS_sound hF hle d2 d1
      refine Good.run (s := Builtin.min_ ts ty #[.int k p, .int k q]) hr hy (run q ?_)
      by_cases e : q < p
      · rw [if_pos e]
      · rw [if_neg e]; omega
  · split at hop
    · rename_i r hr'
      cases hop
      exact symAppend_sound hF hl hr hr'
    · split at hop
      · rename_i r hr'
        cases hop
        exact symAppendB_sound hF hl hr hr'
      · split at hop
        · rename_i r hr'
          cases hop
          exact symGrow_sound hF hl hr hr'
        · split at hop
          · rename_i r hr'
            cases hop
            exact symGrowI_sound hF hl hr hr'
          · exact symAppend0_sound hl hr hop
  · split at hop
    · rename_i r hr'
      cases hop
      exact symCopy_sound hF hl hr hr'
    · split at hop
      · rename_i r hr'
        cases hop
        exact symCopyO_sound hF hl hr hr'
      · exact symCopyI_sound hF hl hr hop
  · unfold symMax at hop
    split at hop <;> (try (cases hop; done))
    rename_i a l
    split at hop <;> (try (cases hop; done))
    rename_i c hc
    cases hop
    simp only [VL] at hl
    obtain ⟨u, us, hvs, hx, hl⟩ := hl
    obtain ⟨z, g1, g2⟩ := foldMax_sound (P := P) (w := w) hF hc hx hl
    refine Good.run (s := Builtin.max_ ts ty vs) (v := z) hr g2 ?_
    unfold Builtin.max_
    rw [hvs]
    exact g1
  · exact symClear_sound hl hr hop
  · cases hop

theorem knownI_sound (hF : FactsOK m.R) {k : IntKind} {e : SX} : ∀ {n c : Nat}, knownI k e n = some c → den m.R e = .int k (c : Int) ∨ ∃ d, den m.R (.bin .eql e (.ki k (.ofNat d))) = .bool true ∧ d = c
  | 0, c, h => by
    unfold knownI at h
    split at h
    · rename_i hl
      cases h
      exact .inr ⟨0, look_den hF hl, rfl⟩
    · cases h
  | n + 1, c, h => by
    unfold knownI at h
    split at h
    · rename_i hl
      cases h
      exact .inr ⟨_, look_den hF hl, rfl⟩
    · exact knownI_sound hF h
theorem conc_sound (hF : FactsOK m.R) {a : AV} {x : Value} (hx : V m a x) : V m (conc a) x := by
  unfold conc
  split
  · rename_i k e
    split
    · rename_i c hc
      have hx' := hx
      simp only [V, Rep] at hx'
      obtain ⟨z, d1, rfl, g1, g2⟩ := hx'
      simp only [V]
      rcases knownI_sound hF hc with h | ⟨d, h, rfl⟩
      · rw [d1] at h
        cases h
        rfl
      · simp only [den, d1, binD, DV.bool.injEq, Bool.and_eq_true, decide_eq_true_eq] at h
        rw [h.2]
    · exact hx
  · exact hx
theorem tmod_in2 {k : IntKind} {x y : Int} (h1 : k.min ≤ x) (h2 : x ≤ k.max) : k.min ≤ x.tmod y ∧ x.tmod y ≤ k.max := by
  rcases Int.lt_or_le y 0 with h | h
  · have e : y = -((-y).toNat : Int) := by omega
    rw [e, Int.tmod_neg]
    exact tmod_in h1 h2
  · have e : y = (y.toNat : Int) := by omega
    rw [e]
    exact tmod_in h1 h2
theorem uns_min {l : IntKind} (h : l.signed = false) : l.min = 0 := by
  cases l <;> first | rfl | (simp [IntKind.signed] at h)
theorem divS_sound (hF : FactsOK m.R) {op : BinOp} {t : TypeId} {p q : Operand} {a b r : AV} {x y : Value} (hs : divS op a b = some r) (hx : V m a x) (hy : V m b y) :
    ∃ z, ((do eqGuard op t p q x y; binOp op t x y) : Sem Value).run P w = .ok z w ∧ V m r z := by
  unfold divS at hs
  split at hs <;> (try (cases hs; done))
  rename_i k e l f
  simp only [V, Rep] at hx hy
  obtain ⟨u, d1, rfl, g1, g2⟩ := hx
  obtain ⟨v, d2, rfl, g3, g4⟩ := hy
  have nz : (match look (.bin .eql f (.ki l (.ofNat 0))) with | some false => true | _ => false) = true → v ≠ 0 := by
    intro h hv
    split at h
    · rename_i hl
      have := look_den hF hl
      simp only [den, d2, binD, DV.bool.injEq] at this
      rw [hv] at this
      simp at this
    · cases h
  split at hs <;> (try (cases hs; done))
  · split at hs
    · rename_i hk
      cases hs
      simp only [Bool.and_eq_true] at hk
      cases eqK_eq hk.1
      have hv := nz hk.2
      refine ⟨.int k (k.wrap (u.tdiv v)), run_bin_int ?_ rfl, ?_⟩
      · simp only [binOp, Op.intDiv, if_neg hv, ne_eq, not_true_eq_false, if_false]
        try rfl
      · simp only [V, Rep, den, d1, d2, binD]
        exact ⟨_, rfl, rfl, (wrap_in k _).1, (wrap_in k _).2⟩
    · cases hs
  · split at hs
    · rename_i hk
      cases hs
      simp only [Bool.and_eq_true] at hk
      cases eqK_eq hk.1
      have hv := nz hk.2
      refine ⟨.int k (u.tmod v), run_bin_int ?_ rfl, ?_⟩
      · simp only [binOp, Op.intDiv, if_neg hv, ne_eq, not_true_eq_false, if_false]
        try rfl
      · simp only [V, Rep, den, d1, d2, binD]
        exact ⟨_, rfl, rfl, tmod_in2 g1 g2⟩
    · cases hs
  · split at hs
    · rename_i hsg
      cases hs
      rw [uns_min hsg] at g3
      obtain ⟨c, rfl⟩ := Int.eq_ofNat_of_zero_le g3
      refine ⟨.int k (u.fdiv (2 ^ min c k.bits)), ?_, ?_⟩
      · have hg : (eqGuard .shr t p q (.int k u) (.int l (.ofNat c))).run P w = .ok () w := by
          unfold eqGuard; simp
        show (do eqGuard .shr t p q (.int k u) (.int l (.ofNat c)); binOp .shr t (.int k u) (.int l (.ofNat c)) : Sem Value).run P w = _
        rw [Sem.run_bind, hg]
        have hc : ¬ ((Int.ofNat c) < 0) := by simp
        simp only [Result.andThen_ok, binOp, Op.shift, if_neg hc]
        rfl
      · simp only [V, Rep, den, d1, d2, binD]
        exact ⟨_, rfl, rfl, fdiv_in g1 g2⟩
    · cases hs
  · split at hs
    · rename_i hsg
      cases hs
      rw [uns_min hsg] at g3
      obtain ⟨c, rfl⟩ := Int.eq_ofNat_of_zero_le g3
      refine ⟨.int k (k.wrap (u * 2 ^ min c k.bits)), ?_, ?_⟩
      · have hg : (eqGuard .shl t p q (.int k u) (.int l (.ofNat c))).run P w = .ok () w := by
          unfold eqGuard; simp
        show (do eqGuard .shl t p q (.int k u) (.int l (.ofNat c)); binOp .shl t (.int k u) (.int l (.ofNat c)) : Sem Value).run P w = _
        rw [Sem.run_bind, hg]
        have hc : ¬ ((Int.ofNat c) < 0) := by simp
        simp only [Result.andThen_ok, binOp, Op.shift, if_neg hc]
        rfl
      · simp only [V, Rep, den, d1, d2, binD]
        exact ⟨_, rfl, rfl, (wrap_in k _).1, (wrap_in k _).2⟩
    · cases hs
theorem ownAddr_sound (hF : FactsOK m.R) {t : TypeId} {a b r : AV} {x y : Value} (hs : ownAddr P t a b = some r) (hx : V m a x) (hy : V m b y) : ∃ z, (Instr.indexAt t x y).run P w = .ok z w ∧ V m r z := by
  unfold ownAddr at hs
  split at hs <;> (try (cases hs; done))
  rename_i el id ts e hu
  split at hs <;> (try (cases hs; done))
  rename_i size i hz hi
  split at hs <;> (try (cases hs; done))
  rename_i hc
  cases hs
  simp only [Bool.and_eq_true, Nat.beq_eq] at hc
  obtain ⟨⟨h0, h1⟩, h2⟩ := hc
  subst h1
  split at h2 <;> (try (cases h2; done))
  rename_i hl
  obtain ⟨k, z, d1, rfl⟩ := intSX_spec hi hy
  simp only [V] at hx
  obtain ⟨g1, l, a, d2, rfl, g2, g3, g4, g5⟩ := hx
  have hz0 : 0 ≤ z := leS_sound hF h0 (k := .i64) (a := 0) rfl d1
  have hlt := look_den hF hl
  simp only [den, d1, d2, lenD, binD, DV.bool.injEq, decide_eq_true_eq] at hlt
  have hzl : z.toNat < l.length := by omega
  have ha : a = some ⟨(m.mu id).1, 0, none⟩ := g5 (by omega)
  subst ha
  refine ⟨.pointer (some ⟨(m.mu id).1, z.toNat * ts.length, none⟩), ?_, ?_⟩
  · obtain ⟨n, rfl⟩ := Int.eq_ofNat_of_zero_le hz0
    have hadd := add_plain (m.mu id).1 0 (n * ts.length)
    rw [Nat.zero_add] at hadd
    have hnl : n < l.length := by simpa using hzl
    simp [Instr.indexAt, asIntOf, run_underlying hu, run_sizeOf' hz, hnl, hadd]
  · simp only [V]
    exact ⟨_, _, rfl, g1, g3, rfl, l, k, z, d2, d1, hz0, hzl, g2, by simp⟩
theorem ownLoad_sound {t : TypeId} {a r : AV} {x : Value} (hr : HR m h w) (hs : ownLoad P h t a = some r) (hx : V m a x) : Good m ((do pure (Next.value (← Instr.loadAt t x)) : Sem Next).run P w) r h := by
  unfold ownLoad at hs
  split at hs <;> (try (cases hs; done))
  rename_i id ts e i c
  split at hs <;> (try (cases hs; done))
  rename_i el us f k hg hk
  split at hs <;> (try (cases hs; done))
  rename_i hc
  simp only [Bool.and_eq_true, Nat.ble_eq] at hc
  obtain ⟨⟨⟨h1, h2⟩, h3⟩, h4⟩ := hc
  obtain rfl := eqTys_eq h1
  obtain rfl := eqSX_eq h2
  simp only [V] at hx
  obtain ⟨_, _, rfl, q1, q2, rfl, l, kk, z, d1, d2, z0, z1, z2, rfl⟩ := hx
  have hgr : GR m (m.mu id) el ts e w := (hr.obj id _ hg (by show (m.mu id).2 ≠ 0; omega)).2.2
  rcases hgr.own q2 with h0 | ⟨l', d3, hrow, hl', _, hbr⟩
  · omega
  rw [d1] at d3
  cases d3
  have hlen : z.toNat * ts.length + (c + k) ≤ l.length * ts.length := by
    have : (z.toNat + 1) * ts.length ≤ l.length * ts.length := Nat.mul_le_mul_right _ z1
    rw [Nat.add_mul] at this
    omega
  obtain ⟨cv, b1, b2, b3, _⟩ := hbr
  have hn : (growB el ts e l.length).n = l.length * ts.length := rfl
  rw [hn] at b2 b3
  refine op_load hr hk ?_ hs rfl ⟨(cv.toList.drop (z.toNat * ts.length + c)).take k, VL_of ?_ ?_, ?_⟩
  · rw [List.length_take, List.length_drop, elemCells_length]
    omega
  · simp only [List.length_take, List.length_drop, elemCells_length, Array.length_toList]
    omega
  · intro j a hj
    rw [List.getElem?_take] at hj
    split at hj
    · rename_i hjk
      rw [List.getElem?_drop] at hj
      have hcj : c + j < ts.length := by omega
      rw [elemCells_get (List.getElem?_eq_getElem hcj), Nat.zero_add] at hj
      cases hj
      obtain ⟨v, hv1, hv2⟩ := b3 (z.toNat * ts.length + c + j) (by omega)
      refine ⟨v, ?_, ?_⟩
      · rw [List.getElem?_take, if_pos hjk, List.getElem?_drop]
        simpa using hv1
      · rw [growB_cell h4 (by omega)] at hv2
        have e1 : (z.toNat * ts.length + c + j) % ts.length = c + j := by
          rw [Nat.add_assoc, Nat.mul_comm, Nat.mul_add_mod, Nat.mod_eq_of_lt hcj]
        have e2 : (z.toNat * ts.length + c + j) / ts.length = z.toNat := by
          rw [Nat.add_assoc, Nat.mul_comm, Nat.mul_add_div (by omega), Nat.div_eq_of_lt hcj, Nat.add_zero]
        rw [e1, e2, List.getD_eq_getElem?_getD, List.getElem?_eq_getElem hcj, Option.getD_some] at hv2
        simp only [V, den, d1, d2, atD] at hv2 ⊢
        exact hv2
    · cases hj
  · intro j v hj
    rw [List.getElem?_take] at hj
    split at hj
    · rw [List.getElem?_drop] at hj
      rw [add_plain]
      simp only [World.cell?, b1]
      simpa using hj
    · cases hj
theorem ownField_sound {s : TypeId} {a r : AV} {f : Nat} {x : Value} (hs : ownField P s a f = some r) (hx : V m a x) : ∃ z, (Instr.fieldAt s x f).run P w = .ok z w ∧ V m r z := by
  unfold ownField at hs
  split at hs <;> (try (cases hs; done))
  rename_i id ts e i c fs hu
  split at hs <;> (try (cases hs; done))
  rename_i fl hf
  split at hs <;> (try (cases hs; done))
  rename_i n hz
  cases hs
  simp only [V] at hx
  obtain ⟨_, _, rfl, q1, q2, rfl, l, kk, z, d1, d2, z0, z1, z2, rfl⟩ := hx
  refine ⟨.pointer (some ⟨(m.mu id).1, z.toNat * ts.length + (c + fl.offset), none⟩), ?_, ?_⟩
  · rw [op_fieldAddr hu hf hz, add_plain, Nat.add_assoc]
  · simp only [V]
    exact ⟨_, _, rfl, q1, q2, rfl, l, kk, z, d1, d2, z0, z1, z2, rfl⟩
theorem symOp_sound (hF : FactsOK m.R) (o : Oper) {ev : Operand → AV} {ρ : Operand → Value} (hev : ∀ x, V m (ev x) (ρ x)) (hr : HR m h w) {av : AV} {h' : AHeap} (hop : symOp P ev h o = some (av, h')) :
    Good m ((execOp ρ o).run P w) av h' := by
  unfold symOp at hop
  split at hop
  · rename_i r h0
    cases hop
    exact symOp0_sound hF o hev hr h0
  · rename_i hno
    clear hno
    obtain ⟨dst, op, type, pos, after, guard⟩ := o
    dsimp only at hop
    split at hop
    · rename_i t x ix
      split at hop
      · rename_i r h1
        cases hop
        obtain ⟨z, g1, g2⟩ := ownAddr_sound (P := P) (w := w) hF h1 (hev x) (hev ix)
        exact Good.run (s := Instr.indexAt t (ρ x) (ρ ix)) hr g2 g1
      · exact opA_sound _ (fun x => conc_sound hF (hev x)) hr hop
    · exact opA_sound _ (fun x => conc_sound hF (hev x)) hr hop
    · rename_i t a
      simp only [Option.map_eq_some_iff, Prod.mk.injEq] at hop
      obtain ⟨r, h1, rfl, rfl⟩ := hop
      exact ownLoad_sound hr h1 (hev a)
    · rename_i s x f
      simp only [Option.map_eq_some_iff, Prod.mk.injEq] at hop
      obtain ⟨r, h1, rfl, rfl⟩ := hop
      obtain ⟨z, g1, g2⟩ := ownField_sound (P := P) (w := w) h1 (hev x)
      exact Good.run (s := Instr.fieldAt s (ρ x) f) hr g2 g1
    · rename_i bop t x y _
      simp only [Option.map_eq_some_iff, Prod.mk.injEq] at hop
      obtain ⟨r, h1, rfl, rfl⟩ := hop
      obtain ⟨z, g1, g2⟩ := divS_sound (P := P) (p := x) (q := y) (w := w) hF h1 (hev x) (hev y)
      exact Good.run (s := do eqGuard bop t x y (ρ x) (ρ y); binOp bop t (ρ x) (ρ y)) hr g2 g1
    · rename_i t x
      simp only [Option.map_eq_some_iff, Prod.mk.injEq] at hop
      obtain ⟨r, h1, rfl, rfl⟩ := hop
      have hx := hev x
      unfold negS at h1
      split at h1 <;> (try (cases h1; done))
      rename_i k e hk
      cases h1
      rw [hk] at hx
      simp only [V, Rep] at hx
      obtain ⟨u, d1, hu, _, _⟩ := hx
      refine Good.run (s := Op.unary .neg (ρ x)) (v := .int k (k.wrap (0 - u))) hr ?_ (by rw [hu]; rfl)
      simp only [V, Rep, den, d1, binD]
      exact ⟨_, rfl, rfl, (wrap_in k _).1, (wrap_in k _).2⟩
    · cases hop
end
end Go.AM
