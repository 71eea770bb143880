/-
  A part of the proof of QueryValues (the machine on named data, and the contracts of the functions that the law reaches): AmOps AmOps2 AmOps3 AmOps4 AmOps5 AmOps6 AmOps7 AmOps8.
-/
import Derived.Laws.BytesString
import Derived.Lib.ConvBytes
import Derived.Test.YtholilpmihngaaaGreatDoorAmA
set_option linter.all false
set_option linter.unusedVariables false
set_option linter.unusedSimpArgs false
set_option linter.unusedSectionVars false
namespace Go.AM
open Go

/-! ## Runs of the model's small parts -/
section
variable {P : Program} {w : World}
theorem run_typeInfo' {t : TypeId} {i : TypeInfo} (h : P.info? t = some i) : (typeInfo t).run P w = .ok i w := by
  simp [typeInfo, h]
theorem run_sizeOf' {t : TypeId} {k : Nat} (h : sizeT P t = some k) : (sizeOf t).run P w = .ok k w := by
  unfold sizeT at h
  cases hi : P.info? t with
  | none => simp [hi] at h
  | some i => simp [hi] at h; simp [sizeOf, run_typeInfo' hi, h]
theorem run_zeroValue' {t : TypeId} {z : Value} (h : zeroOf P t = some z) : (zeroValue t).run P w = .ok z w := by
  unfold zeroOf at h
  cases hi : P.info? t with
  | none => simp [hi] at h
  | some i => simp [hi] at h; simp [zeroValue, run_typeInfo' hi, h]
theorem run_isAgg' {t : TypeId} {b : Bool} (h : isAggT P t = some b) : (isAgg t).run P w = .ok b w := by
  unfold isAggT at h
  cases hu : P.underlying t with
  | none => simp [hu] at h
  | some d =>
    simp only [hu] at h
    have hr := run_underlying hu w
    unfold isAgg
    rw [Sem.run_bind, hr, Result.andThen_ok]
    cases d <;> simp_all
theorem pureEval_run {α : Type} : ∀ (s : Sem α) (a : α), pureEval P s = some a → s.run P w = .ok a w := by
  intro s
  induction s with
  | pure a => intro b h; simp [pureEval] at h; simp [Sem.run, h]
  | program k ih => intro b h; simp only [pureEval] at h; simp only [Sem.run]; exact ih _ b h
  | mark m k ih => intro b h; simp only [pureEval] at h; simp only [Sem.run]; exact ih b h
  | _ => intro b h; simp [pureEval] at h
end

/-! ## Small facts on V -/
mutual
theorem V_toV' {m : Env} : ∀ (a : AV) (u v : Value), toV a = some u → V m a v → v = u
  | .sc x, u, v, h, hv => by simp [toV] at h; simp [V] at hv; rw [hv, h]
  | .agg cs, u, v, h, hv => by
    simp only [toV, Option.map_eq_some_iff] at h
    obtain ⟨us, h1, rfl⟩ := h
    simp only [V] at hv
    obtain ⟨vs, rfl, hl⟩ := hv
    rw [← VL_toVs' cs us _ h1 hl]
  | .tup cs, u, v, h, hv => by
    simp only [toV, Option.map_eq_some_iff] at h
    obtain ⟨us, h1, rfl⟩ := h
    simp only [V] at hv
    obtain ⟨vs, rfl, hl⟩ := hv
    rw [← VL_toVs' cs us _ h1 hl]
  | .ifc t y, u, v, h, hv => by
    simp only [toV, Option.map_eq_some_iff] at h
    obtain ⟨us, h1, rfl⟩ := h
    simp only [V] at hv
    obtain ⟨x, rfl, hl⟩ := hv
    rw [V_toV' y us _ h1 hl]
  | .clo .., u, v, h, _ => by simp [toV] at h
  | .ptr .., u, v, h, _ => by simp [toV] at h
  | .sl .., u, v, h, _ => by simp [toV] at h
  | .emp .., u, v, h, _ => by simp [toV] at h
  | .fp .., u, v, h, _ => by simp [toV] at h
  | .fsl .., u, v, h, _ => by simp [toV] at h
  | .dead, u, v, h, _ => by simp [toV] at h
theorem VL_toVs' {m : Env} : ∀ (as : List AV) (us vs : List Value), toV.toVs as = some us → VL m as vs → vs = us
  | [], us, vs, h, hv => by simp [toV.toVs] at h; simp [VL] at hv; rw [hv, ← h]
  | c :: cs, us, vs, h, hv => by
    simp only [toV.toVs] at h
    cases h1 : toV c with
    | none => simp [h1] at h
    | some x =>
      cases h2 : toV.toVs cs with
      | none => simp [h1, h2] at h
      | some xs =>
        simp [h1, h2] at h
        simp only [VL] at hv
        obtain ⟨v, us', rfl, hv1, hv2⟩ := hv
        rw [← h, V_toV' c x v h1 hv1, VL_toVs' cs xs us' h2 hv2]
end
theorem V_toV {m : Env} {a : AV} {u v : Value} (h : toV a = some u) (hv : V m a v) : v = u := V_toV' a u v h hv
theorem VL_toVs {m : Env} {as : List AV} {us vs : List Value} (h : toV.toVs as = some us) (hv : VL m as vs) : vs = us := VL_toVs' as us vs h hv

theorem VL_sc (m : Env) : ∀ (vs : List Value), VL m (vs.map .sc) vs
  | [] => by simp [VL]
  | v :: vs => by simp only [List.map_cons, VL]; exact ⟨v, vs, rfl, by simp [V], VL_sc m vs⟩

theorem VL_append {m : Env} : ∀ {as : List AV} {vs : List Value} {bs : List AV} {us : List Value}, VL m as vs → VL m bs us → VL m (as ++ bs) (vs ++ us)
  | [], vs, bs, us, h, k => by simp [VL] at h; subst h; simpa using k
  | a :: as, vs, bs, us, h, k => by
    simp only [VL] at h
    obtain ⟨v, xs, rfl, h1, h2⟩ := h
    simp only [List.cons_append, VL]
    exact ⟨v, _, rfl, h1, VL_append h2 k⟩

theorem VL_length {m : Env} : ∀ {as : List AV} {vs : List Value}, VL m as vs → vs.length = as.length
  | [], vs, h => by simp [VL] at h; simp [h]
  | a :: as, vs, h => by
    simp only [VL] at h
    obtain ⟨v, xs, rfl, h1, h2⟩ := h
    simp [VL_length h2]

theorem VL_get {m : Env} : ∀ {as : List AV} {vs : List Value}, VL m as vs → ∀ (i : Nat) (a : AV), as[i]? = some a → ∃ v, vs[i]? = some v ∧ V m a v
  | [], vs, h, i, a, hi => by simp at hi
  | x :: as, vs, h, i, a, hi => by
    simp only [VL] at h
    obtain ⟨v, xs, rfl, h1, h2⟩ := h
    cases i with
    | zero => simp at hi; subst hi; exact ⟨v, by simp, h1⟩
    | succ i => simpa using VL_get h2 i a (by simpa using hi)

theorem VL_of {m : Env} : ∀ {as : List AV} {vs : List Value}, vs.length = as.length → (∀ (i : Nat) (a : AV), as[i]? = some a → ∃ v, vs[i]? = some v ∧ V m a v) → VL m as vs
  | [], vs, hl, _ => by simp at hl; simp [VL, hl]
  | a :: as, [], hl, _ => by simp at hl
  | a :: as, v :: vs, hl, h => by
    simp only [VL]
    obtain ⟨u, hu, hv⟩ := h 0 a (by simp)
    simp at hu
    subst hu
    exact ⟨v, vs, rfl, hv, VL_of (by simpa using hl) fun i b hb => by simpa using h (i + 1) b (by simpa using hb)⟩

theorem VL_map {m : Env} {α : Type} (f : α → AV) (g : α → Value) (h : ∀ x, V m (f x) (g x)) : ∀ (l : List α), VL m (l.map f) (l.map g)
  | [] => by simp [VL]
  | x :: l => by simp only [List.map_cons, VL]; exact ⟨_, _, rfl, h x, VL_map f g h l⟩

theorem VL_drop {m : Env} {as : List AV} {vs : List Value} (h : VL m as vs) (n : Nat) : VL m (as.drop n) (vs.drop n) :=
  VL_of (by simp [VL_length h]) fun i a hi => by
    rw [List.getElem?_drop] at hi ⊢
    exact VL_get h _ a hi
theorem VL_take {m : Env} {as : List AV} {vs : List Value} (h : VL m as vs) (n : Nat) : VL m (as.take n) (vs.take n) :=
  VL_of (by simp [VL_length h]) fun i a hi => by
    rw [List.getElem?_take] at hi ⊢
    split at hi
    · rename_i hlt; simp only [hlt, if_true]; exact VL_get h _ a hi
    · cases hi

/-- The cells of a value. -/
theorem V_cells {m : Env} {a : AV} {cs : List AV} {v : Value} (h : cellsOf a = some cs) (hv : V m a v) : VL m cs v.cells.toList := by
  cases a with
  | sc u =>
    simp only [V] at hv
    subst hv
    cases v <;> simp only [cellsOf, Option.some.injEq] at h <;> first
      | (cases h; done)
      | (subst h; simp only [Value.cells]; exact VL_sc m _)
      | (subst h; simp [Value.cells, VL, V])
  | agg xs =>
    simp only [cellsOf, Option.some.injEq] at h
    simp only [V] at hv
    obtain ⟨vs, rfl, hl⟩ := hv
    subst h
    simpa [Value.cells] using hl
  | tup xs => simp [cellsOf] at h
  | dead => simp [cellsOf] at h
  | _ =>
    simp only [cellsOf, Option.some.injEq] at h
    subst h
    have : v.cells = #[v] := by
      simp only [V] at hv
      first
        | (rcases Rep.kind hv with ⟨_, _, rfl⟩ | ⟨_, rfl⟩ | ⟨_, rfl⟩ | ⟨_, _, _, rfl⟩ <;> rfl)
        | (obtain ⟨_, rfl, _⟩ := hv; rfl)
        | (obtain ⟨_, rfl⟩ := hv; rfl)
        | (obtain ⟨_, _, rfl, _⟩ := hv; rfl)
        | (obtain ⟨_, rfl⟩ := hv; unfold hndV; split <;> rfl)
        | (obtain ⟨_, _, _, _, rfl, _⟩ := hv; rfl)
    rw [this]
    simp only [VL]
    exact ⟨v, [], by simp, hv, rfl⟩

theorem V_one {m : Env} {a : AV} {v : Value} (h : okCell a = true) (hv : V m a v) : v.oneCell' = true := by
  cases a with
  | sc u =>
    simp only [V] at hv
    subst hv
    cases v <;> simp_all [okCell, isBad, Value.oneCell']
  | agg xs => simp [okCell] at h
  | tup xs => simp [okCell] at h
  | dead => simp [okCell] at h
  | _ =>
    simp only [V] at hv
    first
      | (rcases Rep.kind hv with ⟨_, _, rfl⟩ | ⟨_, rfl⟩ | ⟨_, rfl⟩ | ⟨_, _, _, rfl⟩ <;> rfl)
      | (obtain ⟨_, rfl, _⟩ := hv; rfl)
      | (obtain ⟨_, rfl⟩ := hv; rfl)
      | (obtain ⟨_, _, rfl, _⟩ := hv; rfl)
      | (obtain ⟨_, rfl⟩ := hv; unfold hndV; split <;> rfl)
      | (obtain ⟨_, _, _, _, rfl, _⟩ := hv; rfl)

theorem VL_one {m : Env} {as : List AV} {vs : List Value} (h : as.all okCell = true) (hv : VL m as vs) : ∀ u ∈ vs, u.oneCell' = true := by
  intro u hu
  obtain ⟨i, hi⟩ := List.mem_iff_getElem?.1 hu
  have hlt : i < as.length := by rw [← VL_length hv]; exact (List.getElem?_eq_some_iff.1 hi).1
  obtain ⟨v, h1, h2⟩ := VL_get hv i as[i] (by simp [hlt])
  rw [hi] at h1
  cases h1
  exact V_one (List.all_eq_true.1 h _ (List.getElem_mem hlt)) h2
end Go.AM
namespace Go.AM
open Go

/-- From address a on the cells read as cs. -/
def CellsAt (m : Env) (w : World) (a : Addr) (cs : List AV) : Prop := ∃ vs, VL m cs vs ∧ ∀ j v, vs[j]? = some v → w.cell? (a.add j) = some v

theorem add_plain (b o j : Nat) : (⟨b, o, none⟩ : Addr).add j = ⟨b, o + j, none⟩ := by unfold Addr.add; split <;> simp_all

theorem CellsAt.of_BR {m : Env} {p : Nat × Nat} {b : Blk} {w : World} (h : BR m p b w) {off n : Nat} (hn : off + n ≤ b.n) : CellsAt m w ⟨p.1, off, none⟩ (b.cellsFrom off n) := by
  obtain ⟨c, h1, h2, h3, h4⟩ := h
  refine ⟨(c.toList.drop off).take n, VL_of ?_ ?_, ?_⟩
  · simp [length_cellsFrom]; omega
  · intro i a hi
    have hlt : i < n := by rw [← length_cellsFrom b n off]; exact (List.getElem?_eq_some_iff.1 hi).1
    rw [getElem?_cellsFrom b n off i hlt] at hi
    cases hi
    obtain ⟨v, hv1, hv2⟩ := h3 (off + i) (by omega)
    refine ⟨v, ?_, hv2⟩
    rw [List.getElem?_take, if_pos hlt, List.getElem?_drop]
    simpa using hv1
  · intro j v hj
    rw [List.getElem?_take] at hj
    split at hj
    · rw [List.getElem?_drop] at hj
      rw [add_plain]
      simp only [World.cell?, h1]
      simpa using hj
    · cases hj

theorem ecell_cell {m : Env} {h : AHeap} {w : World} (hr : HR m h w) {b o : Nat} {v : Value} (he : m.ecell b o = some v) : w.cell? ⟨b, o, none⟩ = some v := by
  unfold Env.ecell at he
  split at he
  · rename_i c t f hE
    simp only [World.cell?, hr.E _ _ hE]
    simpa using he
  · cases he

theorem CellsAt.of_VC {m : Env} {h : AHeap} {w : World} (hr : HR m h w) {b : Nat} : ∀ {cs : List AV} {o : Nat}, VC m b o cs → CellsAt m w ⟨b, o, none⟩ cs
  | [], o, _ => ⟨[], by simp [VL], fun j v hj => by simp at hj⟩
  | c :: cs, o, hv => by
    simp only [VC] at hv
    obtain ⟨⟨v, h1, h2⟩, h3⟩ := hv
    obtain ⟨vs, g1, g2⟩ := CellsAt.of_VC hr h3
    refine ⟨v :: vs, by simp only [VL]; exact ⟨v, vs, rfl, h2, g1⟩, fun j u hj => ?_⟩
    cases j with
    | zero => simp at hj; subst hj; rw [add_plain]; exact ecell_cell hr h1
    | succ j =>
      have := g2 j u (by simpa using hj)
      rw [add_plain] at this ⊢
      rw [show o + (j + 1) = o + 1 + j by omega]
      exact this

theorem CellsAt.take {m : Env} {w : World} {a : Addr} {cs : List AV} (h : CellsAt m w a cs) (k : Nat) : CellsAt m w a (cs.take k) := by
  obtain ⟨vs, h1, h2⟩ := h
  exact ⟨vs.take k, VL_take h1 k, fun j v hj => h2 j v (by rw [List.getElem?_take] at hj; split at hj <;> simp_all)⟩

theorem CellsAt.loadCells {P : Program} {m : Env} {w : World} {a : Addr} {cs : List AV} (h : CellsAt m w a cs) : ∃ vs : List Value, VL m cs vs ∧ (Go.loadCells a cs.length).run P w = .ok vs.toArray w := by
  obtain ⟨vs, h1, h2⟩ := h
  refine ⟨vs, h1, ?_⟩
  have := run_loadCells_list (P := P) (w := w) a vs h2
  rw [VL_length h1] at this
  exact this

theorem CellsAt.loadVar {P : Program} {m : Env} {w : World} {a : Addr} {cs : List AV} (h : CellsAt m w a cs) {t : TypeId} (hk : sizeT P t = some cs.length) {av : AV} (ho : ofCells P t cs = some av) :
    ∃ v, (Go.loadVar t a).run P w = .ok v w ∧ V m av v := by
  unfold ofCells at ho
  split at ho
  · rename_i hb
    cases ho
    obtain ⟨vs, h1, h2⟩ := h.loadCells (P := P)
    refine ⟨.agg vs.toArray, ?_, by simp only [V]; exact ⟨vs.toArray, rfl, h1⟩⟩
    simp [Go.loadVar, run_isAgg' hb, run_sizeOf' hk, h2]
  · rename_i hb
    split at ho
    · rename_i c
      cases ho
      obtain ⟨vs, h1, h2⟩ := h
      simp only [VL] at h1
      obtain ⟨v, us, rfl, hv, rfl⟩ := h1
      have hc := h2 0 v (by simp)
      have ha : a.add 0 = a := by simp [Addr.add]
      rw [ha] at hc
      exact ⟨v, by simp [Go.loadVar, run_isAgg' hb, hc], hv⟩
    · cases ho
  · cases ho

/-- Writing cells into a block. -/
theorem BR.write {P : Program} {m : Env} {h : AHeap} {w : World} (hr : HR m h w) {id : Nat} {b : Blk} (hb : h.t.get id = some (.blk b)) {off : Nat} {cs : List AV} {vs : List Value}
    (hl : VL m cs vs) (hn : off + cs.length ≤ b.n) (hk : cs.all okCell = true) :
    ∃ w', (storeCells ⟨(m.mu id).1, off, none⟩ vs).run P w = .ok () w' ∧ HR m (h.put id (.blk { b with c := Blk.putAll b.c off cs })) w' := by
  obtain ⟨g1, g2, g3⟩ := hr.obj id _ hb
  obtain ⟨c, h1, h2, h3, h4⟩ := (show BR m (m.mu id) b w from g3)
  have hlen := VL_length hl
  have hst := run_storeCells_at P (m.mu id).1 off b.t vs 0 c w h1 (by omega) (VL_one hk hl)
  simp only [Nat.add_zero] at hst
  refine ⟨_, hst, ?_⟩
  refine hr.put hb ?_ (fun k hne => setRow_other w _ k _ hne)
  show BR m (m.mu id) _ _
  refine ⟨_, setRow_heap w _ c _ b.t (0, 0) h1, ?_, ?_, ?_⟩
  · simp; omega
  · intro i hi
    rw [cell_putAll]
    have hi' : i < b.n := hi
    by_cases hin : off ≤ i ∧ i < off + cs.length
    · rw [if_pos hin]
      obtain ⟨v, hv1, hv2⟩ := VL_get hl (i - off) (cs[i - off]'(by omega)) (by simp)
      refine ⟨v, ?_, ?_⟩
      · simp only [List.getElem?_toArray]
        rw [List.append_assoc, List.getElem?_append_right (by simp; omega)]
        rw [List.getElem?_append_left (by simp; omega)]
        simp only [List.length_take, Array.length_toList]
        rw [show min off c.size = off by omega]
        exact hv1
      · have : i - off < cs.length := by omega
        simpa [this] using hv2
    · rw [if_neg hin]
      obtain ⟨v, hv1, hv2⟩ := h3 i hi'
      refine ⟨v, ?_, hv2⟩
      simp only [List.getElem?_toArray]
      by_cases hlt : i < off
      · rw [List.append_assoc, List.getElem?_append_left (by simp; omega), List.getElem?_take, if_pos hlt]
        simpa using hv1
      · rw [List.getElem?_append_right (by simp; omega), List.getElem?_drop]
        have e : off + vs.length + (i - (List.take off c.toList ++ vs).length) = i := by simp; omega
        rw [e]
        simpa using hv1
  · intro hrow
    have := h4 hrow
    refine ⟨?_, this.2⟩
    simp only [List.size_toArray, List.length_append, List.length_take, List.length_drop, Array.length_toList]
    have e := this.1
    refine Nat.le_trans e ?_
    omega

theorem zeroCells_len {P : Program} {t : TypeId} {cs : List AV} (h : zeroCells P t = some cs) : ∃ z, zeroOf P t = some z ∧ cs = z.cells.toList.map .sc := by
  unfold zeroCells at h
  cases hz : zeroOf P t with
  | none => simp [hz] at h
  | some z => simp [hz] at h; exact ⟨z, rfl, h.symm⟩

/-- A new block of cells. -/
theorem BR.fresh {m m' : Env} {w : World} {t : TypeId} {cs : List AV} {vs : Array Value} (b : Blk) (k : Nat) (hl : VL m cs vs.toList) (ht : b.t = t) (hn : b.n = cs.length) (hrow : b.row = false)
    (hc : ∀ i, i < cs.length → b.cell i = (cs[i]?).getD .dead) (hle : m.le m') : BR m' (w.heap.size, k) b (w.alloc (.cells vs t)) := by
  have hlen := VL_length hl
  simp only [Array.length_toList] at hlen
  refine ⟨vs, ht ▸ heap_alloc_new w _, by omega, fun i hi => ?_, fun h => by rw [hrow] at h; cases h⟩
  have hi' : i < cs.length := by omega
  obtain ⟨v, h1, h2⟩ := VL_get hl i cs[i] (by simp)
  refine ⟨v, by simpa using h1, ?_⟩
  rw [hc i hi', List.getElem?_eq_getElem hi', Option.getD_some]
  exact V.mono hle _ _ h2

theorem newBlk_cell (t : TypeId) (cs : List AV) (i : Nat) (hi : i < cs.length) : (newBlk t cs).cell i = (cs[i]?).getD .dead := by
  unfold newBlk Blk.cell
  simp only [get_putAll]
  rw [if_pos ⟨Nat.zero_le _, by omega⟩]
  simp [hi]
end Go.AM
namespace Go.AM
open Go

/-- What an operation comes to. -/
def Good (m : Env) (r : Result Next) (av : AV) (h' : AHeap) : Prop :=
  ∃ v w' m', (r = .ok (.value v) w' ∨ (r = .ok .skip w' ∧ v = undef)) ∧ m.le m' ∧ V m' av v ∧ HR m' h' w'

section
variable {P : Program} {m : Env} {h : AHeap} {w : World} {av : AV}
theorem Good.val {r : Result Next} {v : Value} (hr : HR m h w) (hv : V m av v) (e : r = .ok (.value v) w) : Good m r av h :=
  ⟨v, w, m, .inl e, .refl m, hv, hr⟩
theorem run_value (s : Sem Value) : (do pure (Next.value (← s)) : Sem Next).run P w = (s.run P w).andThen fun a w' => .ok (.value a) w' := by
  rw [Sem.run_bind]; rfl
theorem run_skip (s : Sem Unit) : (do s; pure Next.skip : Sem Next).run P w = (s.run P w).andThen fun _ w' => .ok .skip w' := by
  rw [Sem.run_bind]; rfl
theorem Good.run {s : Sem Value} {v : Value} (hr : HR m h w) (hv : V m av v) (e : s.run P w = .ok v w) : Good m ((do pure (Next.value (← s)) : Sem Next).run P w) av h :=
  .val hr hv (by rw [run_value, e]; rfl)
theorem Good.new {s : Sem Value} {v : Value} {w' : World} {m' : Env} {h' : AHeap} (hm : m.le m') (hr : HR m' h' w') (hv : V m' av v) (e : s.run P w = .ok v w') :
    Good m ((do pure (Next.value (← s)) : Sem Next).run P w) av h' :=
  ⟨v, w', m', .inl (by rw [run_value, e]; rfl), hm, hv, hr⟩
theorem Good.done {s : Sem Unit} {w' : World} {m' : Env} {h' : AHeap} (hm : m.le m') (hr : HR m' h' w') (e : s.run P w = .ok () w') :
    Good m ((do s; pure Next.skip : Sem Next).run P w) (.sc undef) h' :=
  ⟨undef, w', m', .inr ⟨by rw [run_skip, e]; rfl, rfl⟩, hm, by simp [V], hr⟩

theorem blk?_some {id : Nat} {b : Blk} (hb : h.blk? id = some b) : h.t.get id = some (.blk b) := by
  unfold AHeap.blk? at hb
  split at hb
  · rename_i b' e; simp at hb; rw [e, hb]
  · cases hb

theorem natOf_spec {a : AV} {n : Nat} (ha : natOf a = some n) {v : Value} (hv : V m a v) : ∃ k, v = .int k (n : Int) := by
  unfold natOf at ha
  split at ha
  · rename_i k j
    simp at ha
    subst ha
    simp only [V] at hv
    exact ⟨k, hv⟩
  · cases ha

/-- A new block of given cells. -/
theorem good_box {t : TypeId} {cs : List AV} {v : Value} (hr : HR m h w) (hl : VL m cs v.cells.toList) :
    ∃ p w' m', (newVar t v).run P w = .ok p w' ∧ m.le m' ∧ V m' (.ptr h.next 0) (.pointer (some p)) ∧ HR m' (h.alloc (.blk (newBlk t cs))) w' := by
  refine ⟨⟨w.heap.size, 0, none⟩, w.alloc (.cells v.cells t), m.add h.next (w.heap.size, 0), ?_, hr.le_add _, ?_, ?_⟩
  · simp [newVar, newRow]
  · simp [V]
  · exact hr.alloc _ _ _ (BR.fresh (newBlk t cs) 0 hl rfl rfl rfl (newBlk_cell t cs) (hr.le_add _))

theorem op_alloc {t : TypeId} {cs : List AV} (hr : HR m h w) (hz : zeroCells P t = some cs) :
    Good m ((do pure (Next.value (← Instr.alloc t true (.tuple #[]))) : Sem Next).run P w) (.ptr h.next 0) (h.alloc (.blk { t, row := false, sz := 1, n := cs.length, z := cs, c := .nil })) := by
  obtain ⟨z, h1, rfl⟩ := zeroCells_len hz
  refine Good.new (m' := m.add h.next (w.heap.size, 0)) (w' := w.alloc (.cells z.cells t)) (v := .pointer (some ⟨w.heap.size, 0, none⟩)) (hr.le_add _) ?_ (by simp [V]) ?_
  · refine hr.alloc _ _ _ (BR.fresh _ 0 (VL_sc m _) rfl rfl rfl ?_ (hr.le_add _))
    intro i hi
    have hz' : 0 < (z.cells.toList.map AV.sc).length := by omega
    simp only [Blk.cell, Tr.get_nil, List.getD]
    rw [Nat.mod_eq_of_lt hi]
  · simp [Instr.alloc, run_zeroValue' h1, newVar, newRow]

theorem op_load {t : TypeId} {x : Value} {av : AV} {k : Nat} {cs : List AV} (hr : HR m h w) (hk : sizeT P t = some k) (hlen : cs.length = k) (ho : ofCells P t cs = some av)
    {ad : Addr} (hx : x = .pointer (some ad)) (hc : CellsAt m w ad cs) : Good m ((do pure (Next.value (← Instr.loadAt t x)) : Sem Next).run P w) av h := by
  subst hlen
  obtain ⟨v, h1, h2⟩ := hc.loadVar hk ho
  refine Good.run hr h2 ?_
  subst hx
  simp [Instr.loadAt, Instr.sureAddr, h1]

theorem op_store {t : TypeId} {x u : Value} {k : Nat} {a : AV} {cs : List AV} {id off : Nat} {b : Blk} (hr : HR m h w) (hk : sizeT P t = some k) (hcs : cellsOf a = some cs) (hu : V m a u)
    (hx : V m (.ptr id off) x) (hb : h.blk? id = some b) (h1 : cs.length = k) (h2 : off + k ≤ b.n) (h3 : cs.all okCell = true) :
    Good m ((do Instr.storeAt t x u; pure Next.skip : Sem Next).run P w) (.sc undef) (h.put id (.blk { b with c := Blk.putAll b.c off cs })) := by
  subst h1
  have hl := V_cells hcs hu
  obtain ⟨w', g1, g2⟩ := BR.write (P := P) hr (blk?_some hb) hl h2 h3
  refine Good.done (.refl m) g2 ?_
  simp only [V] at hx
  obtain ⟨_, rfl⟩ := hx
  have hsz := VL_length hl
  simp at hsz
  simp [Instr.storeAt, Instr.sureAddr, storeVar, run_sizeOf' hk, hsz, g1]

theorem op_fieldAddr {s : TypeId} {fs : Array Field} {f : Nat} {fl : Field} {n : Nat} {ad : Addr} (hs : P.underlying s = some (.struct fs)) (hf : fs[f]? = some fl) (hz : sizeT P fl.type = some (n + 1)) :
    (Instr.fieldAt s (.pointer (some ad)) f).run P w = .ok (.pointer (some (ad.add fl.offset))) w := by
  simp [Instr.fieldAt, run_underlying hs, hf, Instr.sureAddr, fieldPlace, run_sizeOf' hz]

theorem VC_drop : ∀ {cs : List AV} {b o : Nat} (n : Nat), VC m b o cs → VC m b (o + n) (cs.drop n)
  | cs, b, o, 0, hv => by simpa using hv
  | [], b, o, n + 1, hv => by simp [VC]
  | c :: cs, b, o, n + 1, hv => by
    simp only [VC] at hv
    have := VC_drop n hv.2
    rw [show o + 1 + n = o + (n + 1) by omega] at this
    simpa using this

theorem fill_sound (place : Nat → Option (Nat × Nat)) : ∀ (parts : List (Nat × AV)) (vals : List (Nat × Value)) (cells : List AV) (vs : Array Value) (out : List AV),
    parts.length = vals.length → (∀ (i : Nat) (p : Nat × AV) (q : Nat × Value), parts[i]? = some p → vals[i]? = some q → p.1 = q.1 ∧ V m p.2 q.2) → VL m cells vs.toList → fillA place cells parts = some out →
    ∃ us, Instr.fill place vs vals = some us ∧ VL m out us.toList
  | [], [], cells, vs, out, _, _, hl, ho => by simp [fillA] at ho; subst ho; exact ⟨vs, by simp [Instr.fill], hl⟩
  | (i, a) :: parts, (j, v) :: vals, cells, vs, out, hlen, hp, hl, ho => by
    obtain ⟨rfl, hv⟩ := hp 0 (i, a) (j, v) (by simp) (by simp)
    simp only [fillA] at ho
    split at ho
    · cases ho
    · rename_i off size hpl
      split at ho
      · cases ho
      · rename_i cs hcs
        split at ho
        · cases ho
        · rename_i hb
          simp only [Bool.and_eq_true, Nat.beq_eq, Nat.ble_eq] at hb
          have hc := V_cells hcs hv
          have hcl := VL_length hc
          simp only [Array.length_toList] at hcl
          have hvl := VL_length hl
          simp only [Array.length_toList] at hvl
          have hfold : ∀ (l : List Value) (k : Nat) (arr : Array Value), off + k + l.length ≤ arr.size →
              ((l.zipIdx k).foldl (fun (cs : Array Value) (x : Value × Nat) => cs.setIfInBounds (off + x.2) x.1) arr).toList = arr.toList.take (off + k) ++ l ++ arr.toList.drop (off + k + l.length) := by
            intro l
            induction l with
            | nil => intro k arr _; simp
            | cons y l ih =>
              intro k arr hle
              simp only [List.length_cons] at hle
              rw [List.zipIdx_cons, List.foldl_cons, ih (k + 1) _ (by simp; omega)]
              have hlt : off + k < arr.size := by omega
              have e : (arr.setIfInBounds (off + k) y).toList = arr.toList.set (off + k) y := by simp
              rw [e]
              apply List.ext_getElem?
              intro n
              simp only [List.getElem?_append, List.length_append, List.length_take, List.length_set, Array.length_toList, List.getElem?_take, List.getElem?_set, List.getElem?_drop, List.length_cons]
              rcases Nat.lt_trichotomy n (off + k) with hn | hn | hn
              · have a1 : n < min (off + (k + 1)) arr.size + l.length := by omega
                have a2 : n < min (off + (k + 1)) arr.size := by omega
                have a3 : n < off + (k + 1) := by omega
                have a4 : ¬ off + k = n := by omega
                have a5 : n < min (off + k) arr.size + (l.length + 1) := by omega
                have a6 : n < min (off + k) arr.size := by omega
                simp [a1, a2, a3, a4, a5, a6, hn]
              · subst hn
                have a1 : off + k < min (off + (k + 1)) arr.size + l.length := by omega
                have a2 : off + k < min (off + (k + 1)) arr.size := by omega
                have a5 : off + k < min (off + k) arr.size + (l.length + 1) := by omega
                have a6 : ¬ off + k < min (off + k) arr.size := by omega
                have a7 : off + k - min (off + k) arr.size = 0 := by omega
                have a8 : off + k < off + (k + 1) := by omega
                simp [a1, a2, a5, a6, a7, a8, hlt]
              · have a2 : ¬ n < min (off + (k + 1)) arr.size := by omega
                have a6 : ¬ n < min (off + k) arr.size := by omega
                have e2 : n - min (off + k) arr.size = (n - min (off + (k + 1)) arr.size) + 1 := by omega
                by_cases hin : n < min (off + (k + 1)) arr.size + l.length
                · have a5 : n < min (off + k) arr.size + (l.length + 1) := by omega
                  simp [hin, a2, a5, a6, e2]
                · have a5 : ¬ n < min (off + k) arr.size + (l.length + 1) := by omega
                  have a9 : ¬ (off + k = off + (k + 1) + l.length + (n - (min (off + (k + 1)) arr.size + l.length))) := by omega
                  rw [if_neg hin, if_neg a5, if_neg a9]
                  congr 1
                  omega
          have hsz : v.cells.size = size := by omega
          have := fill_sound place parts vals (cells.take off ++ cs ++ cells.drop (off + size)) (v.cells.zipIdx.foldl (fun cs (x : Value × Nat) => cs.setIfInBounds (off + x.2) x.1) vs) out (by simpa using hlen)
            (fun k p q h1 h2 => hp (k + 1) p q (by simpa using h1) (by simpa using h2)) ?_ ho
          · obtain ⟨us, g1, g2⟩ := this
            refine ⟨us, ?_, g2⟩
            rw [Instr.fill, hpl]
            simp only [hsz]
            rw [if_neg (by simp; omega)]
            exact g1
          · rw [← Array.foldl_toList, Array.toList_zipIdx]
            have := hfold v.cells.toList 0 vs (by simp; omega)
            simp only [Nat.add_zero] at this
            rw [this]
            have e : v.cells.toList.length = size := by simpa using hsz
            rw [e]
            exact VL_append (VL_append (VL_take hl off) hc) (VL_drop hl _)
  | [], _ :: _, _, _, _, hlen, _, _, _ => by simp at hlen
  | _ :: _, [], _, _, _, hlen, _, _, _ => by simp at hlen
end
end Go.AM
namespace Go.AM
open Go
section
variable {P : Program} {m : Env} {h : AHeap} {w : World} {av : AV}

theorem VR_get {b sz : Nat} : ∀ {es : List (List AV)} {o i : Nat} {cs : List AV}, VR m b sz o es → es[i]? = some cs → cs.length = sz ∧ VC m b (o + i * sz) cs
  | [], o, i, cs, _, hi => by simp at hi
  | e :: es, o, i, cs, hv, hi => by
    simp only [VR] at hv
    cases i with
    | zero => simp at hi; subst hi; exact ⟨hv.1, by simpa using hv.2.1⟩
    | succ i =>
      have := VR_get hv.2.2 (show es[i]? = some cs by simpa using hi)
      refine ⟨this.1, ?_⟩
      rw [show o + (i + 1) * sz = o + sz + i * sz by rw [Nat.add_mul]; omega]
      exact this.2
theorem VR_take {b sz : Nat} : ∀ {es : List (List AV)} {o : Nat} (n : Nat), VR m b sz o es → VR m b sz o (es.take n)
  | [], o, n, _ => by simp [VR]
  | e :: es, o, 0, _ => by simp [VR]
  | e :: es, o, n + 1, hv => by simp only [VR, List.take_succ_cons] at *; exact ⟨hv.1, hv.2.1, VR_take n hv.2.2⟩
theorem VR_drop {b sz : Nat} : ∀ {es : List (List AV)} {o : Nat} (n : Nat), VR m b sz o es → VR m b sz (o + n * sz) (es.drop n)
  | es, o, 0, hv => by simpa using hv
  | [], o, n + 1, _ => by simp [VR]
  | e :: es, o, n + 1, hv => by
    simp only [VR] at hv
    have := VR_drop n hv.2.2
    rw [show o + sz + n * sz = o + (n + 1) * sz by rw [Nat.add_mul]; omega] at this
    simpa using this
theorem VR_single {b : Nat} : ∀ {cs : List AV} {o : Nat}, VC m b o cs → VR m b 1 o (cs.map fun c => [c])
  | [], o, _ => by simp [VR]
  | c :: cs, o, hv => by
    simp only [VC] at hv
    simp only [List.map_cons, VR, VC]
    exact ⟨rfl, ⟨hv.1, trivial⟩, VR_single hv.2⟩
theorem VC_append {b : Nat} : ∀ {cs ds : List AV} {o : Nat}, VC m b o cs → VC m b (o + cs.length) ds → VC m b o (cs ++ ds)
  | [], ds, o, _, h2 => by simpa using h2
  | c :: cs, ds, o, h1, h2 => by
    simp only [VC, List.cons_append] at *
    refine ⟨h1.1, VC_append h1.2 ?_⟩
    rw [show o + 1 + cs.length = o + (c :: cs).length by simp; omega]
    exact h2
theorem VR_flatten {b sz : Nat} : ∀ {es : List (List AV)} {o : Nat}, VR m b sz o es → VC m b o es.flatten
  | [], o, _ => by simp [VC]
  | e :: es, o, hv => by
    simp only [VR] at hv
    rw [List.flatten_cons]
    exact VC_append hv.2.1 (by rw [hv.1]; exact VR_flatten hv.2.2)
theorem VC_take {b : Nat} : ∀ {cs : List AV} {o : Nat} (n : Nat), VC m b o cs → VC m b o (cs.take n)
  | [], o, n, _ => by simp [VC]
  | c :: cs, o, 0, _ => by simp [VC]
  | c :: cs, o, n + 1, hv => by simp only [VC, List.take_succ_cons] at *; exact ⟨hv.1, VC_take n hv.2⟩
theorem VR_len {b sz : Nat} : ∀ {es : List (List AV)} {o : Nat}, VR m b sz o es → es.flatten.length = es.length * sz
  | [], o, _ => by simp
  | e :: es, o, hv => by
    simp only [VR] at hv
    rw [List.flatten_cons, List.length_append, VR_len hv.2.2, hv.1, List.length_cons, Nat.add_mul]
    omega

/-- The cells of a slice's first elements, in memory. -/
theorem rowCells_sound {size n : Nat} {s : AV} {x : Value} {cs : List AV} (hr : HR m h w) (hx : V m s x) (hc : rowCells h size n s = some cs) :
    ∃ vs : List Value, VL m cs vs ∧ (Builtin.firstCells size n x).run P w = .ok vs.toArray w ∧
      (∀ a l c, x = .slice (some a) l c → 0 < n → ∀ j v, vs[j]? = some v → w.cell? (a.add j) = some v) ∧ (x = .slice none 0 0 → n = 0) := by
  unfold rowCells at hc
  split at hc
  · -- nil
    split at hc
    · cases hc
      simp only [V] at hx
      subst hx
      exact ⟨[], by simp [VL], by simp [Builtin.firstCells], (fun a l c e => by cases e), fun _ => rfl⟩
    · cases hc
  · -- a string
    rename_i s
    cases hc
    simp only [V] at hx
    subst hx
    refine ⟨(s.data.toList.take n).map fun b => .int .u8 b.toNat, ?_, ?_, (fun a l c e => by cases e), fun e => by cases e⟩
    · exact VL_map _ _ (fun _ => by simp [V]) _
    · simp only [Builtin.firstCells, Sem.run_pure]
      congr 1
      apply Array.ext'
      simp [ByteArray.data_extract, List.map_take]
  · -- empty
    split at hc
    · cases hc
      simp only [V] at hx
      obtain ⟨a, c, rfl, _, _⟩ := hx
      refine ⟨[], by simp [VL], ?_, fun _ _ _ _ hn => absurd hn (by omega), fun _ => rfl⟩
      cases a <;> simp [Builtin.firstCells, loadCells, loadCellsFrom]
    · cases hc
  · -- of a block
    rename_i id off len cap
    split at hc
    · rename_i b hb
      split at hc
      · rename_i hn
        simp only [Bool.and_eq_true, Nat.ble_eq] at hn
        cases hc
        simp only [V] at hx
        obtain ⟨_, c, rfl, _⟩ := hx
        have hbr : BR m (m.mu id) b w := (hr.obj id _ (blk?_some hb)).2.2
        obtain ⟨vs, h1, h2⟩ := CellsAt.of_BR hbr (off := off) (n := n * size) hn.2
        refine ⟨vs, h1, ?_, fun a l c e hp => ?_, fun e => by cases e⟩
        · have := run_loadCells_list (P := P) (w := w) _ vs h2
          rw [VL_length h1, length_cellsFrom] at this
          simpa [Builtin.firstCells] using this
        · cases e; exact h2
      · cases hc
    · cases hc
  · -- frozen
    rename_i sz ex es
    split at hc
    · rename_i hn
      simp only [Bool.and_eq_true, Nat.ble_eq, Nat.beq_eq] at hn
      cases hc
      obtain ⟨rfl, hn⟩ := hn
      simp only [V] at hx
      obtain ⟨a, c, rfl, h1, h2, h3, h4⟩ := hx
      rcases h4 with hc0 | ⟨b, o, rfl, hv⟩
      · have : es = [] := List.eq_nil_of_length_eq_zero (by omega)
        subst this
        have hn0 : n = 0 := by simpa using hn
        subst hn0
        refine ⟨[], by simp [VL], ?_, fun _ _ _ _ hn => absurd hn (by omega), fun _ => rfl⟩
        cases a <;> simp [Builtin.firstCells, loadCells, loadCellsFrom]
      · have hv' := VR_take n hv
        obtain ⟨vs, g1, g2⟩ := CellsAt.of_VC hr (VR_flatten hv')
        refine ⟨vs, g1, ?_, fun a l c e hp => by cases e; exact g2, fun e => by cases e⟩
        have := run_loadCells_list (P := P) (w := w) _ vs g2
        rw [VL_length g1, VR_len hv', List.length_take, Nat.min_eq_left hn] at this
        simpa [Builtin.firstCells] using this
    · cases hc
  · cases hc

theorem lenOf_spec {s : AV} {x : Value} {n : Nat} (hx : V m s x) (hn : lenOf s = some n) : (∃ a c, x = .slice a n c) ∨ (∃ b : ByteArray, x = .string b ∧ n = b.size) := by
  unfold lenOf at hn
  split at hn
  · cases hn; simp only [V] at hx; exact .inl ⟨_, _, hx⟩
  · cases hn; simp only [V] at hx; exact .inr ⟨_, hx, rfl⟩
  · cases hn; simp only [V] at hx; obtain ⟨a, c, rfl, _⟩ := hx; exact .inl ⟨_, _, rfl⟩
  · cases hn; simp only [V] at hx; obtain ⟨_, c, rfl, _⟩ := hx; exact .inl ⟨_, _, rfl⟩
  · cases hn; simp only [V] at hx; obtain ⟨a, c, rfl, _⟩ := hx; exact .inl ⟨_, _, rfl⟩
  · cases hn
theorem run_lenOf {s : AV} {x : Value} {n : Nat} (hx : V m s x) (hn : lenOf s = some n) : (Builtin.lenOf x).run P w = .ok n w := by
  rcases lenOf_spec hx hn with ⟨a, c, rfl⟩ | ⟨b, rfl, rfl⟩ <;> simp [Builtin.lenOf]

/-! ## Slicing -/
/-- What an optional bound says: it is that number, or is not there. -/
def Bd (o : Option Value) (n : Nat) (d : Nat) : Prop := match o with
  | none => n = d
  | some v => ∃ k, v = .int k (n : Int)

theorem run_sliceBound {k : IntKind} {n y : Nat} {code : BoundsCode} (hn : n ≤ y) : (Instr.sliceBound (.int k n) y code).run P w = .ok n w := by
  have : (0 : Int) ≤ n ∧ (n : Int) ≤ y := by omega
  simp [Instr.sliceBound, asIntOf, this]

theorem run_sliceBounds {isS : Bool} {len cap l u mm : Nat} {lo hi mx : Option Value} (h1 : Bd lo l 0) (h2 : Bd hi u len) (h3 : Bd mx mm cap) (h4 : mx.isSome = true → hi.isSome = true)
    (g1 : l ≤ u) (g2 : u ≤ mm) (g3 : mm ≤ cap) : (Instr.sliceBounds isS len cap lo hi mx).run P w = .ok (l, u, mm) w := by
  unfold Instr.sliceBounds
  cases mx with
  | none =>
    simp only [Bd] at h3
    subst h3
    cases hi with
    | none =>
      simp only [Bd] at h2
      subst h2
      cases lo with
      | none => simp only [Bd] at h1; subst h1; simp
      | some x => obtain ⟨k, rfl⟩ := h1; simp [run_sliceBound g1]
    | some y =>
      obtain ⟨k2, rfl⟩ := h2
      cases lo with
      | none => simp only [Bd] at h1; subst h1; simp [run_sliceBound g2]
      | some x => obtain ⟨k, rfl⟩ := h1; simp [run_sliceBound g2, run_sliceBound g1]
  | some z =>
    obtain ⟨k3, rfl⟩ := h3
    cases hi with
    | none => simp at h4
    | some y =>
      obtain ⟨k2, rfl⟩ := h2
      cases lo with
      | none => simp only [Bd] at h1; subst h1; simp [run_sliceBound g3, run_sliceBound g2]
      | some x => obtain ⟨k, rfl⟩ := h1; simp [run_sliceBound g3, run_sliceBound g2, run_sliceBound g1]

theorem bound_Bd {ev : Operand → AV} {ρ : Operand → Value} (hev : ∀ x, V m (ev x) (ρ x)) {d n : Nat} {o : Option Operand} (hb : bound ev d o = some n) : Bd (o.map ρ) n d := by
  cases o with
  | none => simp only [bound, Option.some.injEq] at hb; simpa [Bd] using hb.symm
  | some x =>
    simp only [bound] at hb
    exact natOf_spec hb (hev x)

theorem run_slice {t e : TypeId} {size : Nat} (ht : P.underlying t = some (.slice e)) (hs : sizeT P e = some size) {a : Option Addr} {len cap l u mm : Nat} {lo hi mx : Option Value}
    (h1 : Bd lo l 0) (h2 : Bd hi u len) (h3 : Bd mx mm cap) (h4 : mx.isSome = true → hi.isSome = true) (g1 : l ≤ u) (g2 : u ≤ mm) (g3 : mm ≤ cap) :
    (Instr.sliceAt t (.slice a len cap) lo hi mx).run P w = .ok (.slice (if mm = l then a else a.map (·.add (l * size))) (u - l) (mm - l)) w := by
  have hb := run_sliceBounds (P := P) (w := w) (isS := true) h1 h2 h3 h4 g1 g2 g3
  simp [Instr.sliceAt, Instr.slice, run_underlying ht, hb, run_sizeOf' hs]
theorem run_sliceArr {t e : TypeId} {n size : Nat} (ht : P.underlying t = some (.array n e)) (hs : sizeT P e = some size) {a : Addr} {l u : Nat} {lo hi : Option Value}
    (h1 : Bd lo l 0) (h2 : Bd hi u n) (g1 : l ≤ u) (g2 : u ≤ n) :
    (Instr.sliceAt t (.pointer (some a)) lo hi none).run P w = .ok (.slice (some (if n = l then a else a.add (l * size))) (u - l) (n - l)) w := by
  have hb := run_sliceBounds (P := P) (w := w) (isS := false) (mx := none) (cap := n) h1 h2 rfl (fun e => by cases e) g1 g2 (Nat.le_refl n)
  simp [Instr.sliceAt, Instr.sureAddr, run_underlying ht, hb, run_sizeOf' hs]
theorem run_sliceStr {t : TypeId} (ht : P.underlying t = some .string) {s : ByteArray} {l u : Nat} {lo hi : Option Value} (h1 : Bd lo l 0) (h2 : Bd hi u s.size) (g1 : l ≤ u) (g2 : u ≤ s.size) :
    (Instr.sliceAt t (.string s) lo hi none).run P w = .ok (.string (s.extract l u)) w := by
  have hb := run_sliceBounds (P := P) (w := w) (isS := false) (mx := none) (cap := s.size) h1 h2 rfl (fun e => by cases e) g1 g2 (Nat.le_refl _)
  simp [Instr.sliceAt, Instr.slice, run_underlying ht, hb]
end
end Go.AM
namespace Go.AM
open Go
section
variable {P : Program} {m : Env} {h : AHeap} {w : World}

theorem VL_evals {ev : Operand → AV} {ρ : Operand → Value} (hev : ∀ x, V m (ev x) (ρ x)) (xs : Array Operand) : VL m (xs.toList.map ev) (xs.map ρ).toList := by
  rw [Array.toList_map]
  induction xs.toList with
  | nil => simp [VL]
  | cons x l ih => simp only [List.map_cons, VL]; exact ⟨_, _, rfl, hev x, ih⟩

theorem equal_at (t : TypeId) (x y : Value) : ∃ d, Op.equal t x y = Op.equalIn (d + 1) t x y := ⟨9999, rfl⟩

/-- The shape of what is not nil. -/
theorem kindOf_spec {a : AV} {x : Value} (hx : V m a x) : (kindOf a = 1 → ∃ p, x = .pointer (some p)) ∧ (kindOf a = 2 → ∃ p n c, x = .slice (some p) n c) ∧ (kindOf a = 3 → ∃ f u v, x = .func f u v) ∧ (kindOf a = 4 → ∃ t v, x = .iface t v) ∧ kindOf a ≠ 6 := by
  cases a <;> simp only [V] at hx <;> simp [kindOf]
  · obtain ⟨u, rfl, _⟩ := hx; exact ⟨_, _, rfl⟩
  · obtain ⟨u, v, rfl, _⟩ := hx; exact ⟨_, _, _, rfl⟩
  · exact ⟨_, hx.2⟩
  · obtain ⟨_, c, rfl, _⟩ := hx; exact ⟨_, _, _, rfl⟩
  · obtain ⟨b, o, rfl, _⟩ := hx; exact ⟨_, rfl⟩
theorem nilOf_spec {a : AV} {x : Value} (hx : V m a x) : (nilOf a = 1 → x = .pointer none) ∧ (nilOf a = 2 → ∃ n c, x = .slice none n c) ∧ (nilOf a = 3 → x = .nilFunc) ∧ (nilOf a = 4 → x = .nilIface) ∧ nilOf a ≠ 6 := by
  unfold nilOf
  split
  · simp only [V] at hx; simp_all
  · simp only [V] at hx; simp_all
  · simp only [V] at hx; simp_all
  · simp only [V] at hx; simp_all
  · simp
theorem kindT_spec (t : TypeId) : (kindT P t = 1 → ∃ e, P.underlying t = some (.pointer e)) ∧ (kindT P t = 2 → ∃ e, P.underlying t = some (.slice e)) ∧ (kindT P t = 3 → ∃ a b c, P.underlying t = some (.func a b c)) ∧ (kindT P t = 4 → ∃ e, P.underlying t = some (.interface e)) ∧ (kindT P t = 1 ∨ kindT P t = 2 ∨ kindT P t = 3 ∨ kindT P t = 4 ∨ kindT P t = 6) := by
  unfold kindT
  split <;> simp_all

theorem eqNil_run {t : TypeId} {a b : AV} {x y : Value} (hx : V m a x) (hy : V m b y) (h1 : kindOf a = kindT P t) (h2 : nilOf b = kindT P t) :
    ((Op.equal t x y).run P w = .ok false w ∧ (Op.equal t y x).run P w = .ok false w) ∧ (∀ op p q, op = BinOp.eql ∨ op = .neq → eqGuard op t p q x y = pure () ∧ eqGuard op t p q y x = pure ()) ∧
    binOp .eql t x y = (do pure (.bool (← Op.equal t x y))) ∧ binOp .eql t y x = (do pure (.bool (← Op.equal t y x))) ∧ binOp .neq t x y = (do pure (.bool (!(← Op.equal t x y)))) ∧ binOp .neq t y x = (do pure (.bool (!(← Op.equal t y x)))) := by
  obtain ⟨k1, k2, k3, k4, k6⟩ := kindOf_spec hx
  obtain ⟨n1, n2, n3, n4, n6⟩ := nilOf_spec hy
  obtain ⟨t1, t2, t3, t4, t5⟩ := kindT_spec (P := P) t
  rcases t5 with e | e | e | e | e <;> rw [e] at h1 h2
  · obtain ⟨p, rfl⟩ := k1 h1
    obtain rfl := n1 h2
    obtain ⟨el, hu⟩ := t1 e
    refine ⟨⟨?_, ?_⟩, ?_, rfl, rfl, rfl, rfl⟩
    · obtain ⟨d, hd⟩ := equal_at t _ _; rw [hd]; simp [Op.equalIn, run_underlying hu]
    · obtain ⟨d, hd⟩ := equal_at t _ _; rw [hd]; simp [Op.equalIn, run_underlying hu]
    · intro op p q ho; rcases ho with rfl | rfl <;> exact ⟨rfl, rfl⟩
  · obtain ⟨p, n, c, rfl⟩ := k2 h1
    obtain ⟨n', c', rfl⟩ := n2 h2
    obtain ⟨el, hu⟩ := t2 e
    refine ⟨⟨?_, ?_⟩, ?_, rfl, rfl, rfl, rfl⟩
    · obtain ⟨d, hd⟩ := equal_at t _ _; rw [hd]; simp [Op.equalIn, run_underlying hu]
    · obtain ⟨d, hd⟩ := equal_at t _ _; rw [hd]; simp [Op.equalIn, run_underlying hu]
    · intro op p q ho; rcases ho with rfl | rfl <;> exact ⟨rfl, rfl⟩
  · obtain ⟨p, n, c, rfl⟩ := k3 h1
    obtain rfl := n3 h2
    obtain ⟨_, _, _, hu⟩ := t3 e
    refine ⟨⟨?_, ?_⟩, ?_, rfl, rfl, rfl, rfl⟩
    · obtain ⟨d, hd⟩ := equal_at t _ _; rw [hd]; simp [Op.equalIn, run_underlying hu]
    · obtain ⟨d, hd⟩ := equal_at t _ _; rw [hd]; simp [Op.equalIn, run_underlying hu]
    · intro op p q ho; rcases ho with rfl | rfl <;> exact ⟨rfl, rfl⟩
  · obtain ⟨p, n, rfl⟩ := k4 h1
    obtain rfl := n4 h2
    obtain ⟨_, hu⟩ := t4 e
    refine ⟨⟨?_, ?_⟩, ?_, rfl, rfl, rfl, rfl⟩
    · obtain ⟨d, hd⟩ := equal_at t _ _; rw [hd]; simp [Op.equalIn, run_underlying hu]
    · obtain ⟨d, hd⟩ := equal_at t _ _; rw [hd]; simp [Op.equalIn, run_underlying hu]
    · intro op p q ho; rcases ho with rfl | rfl <;> exact ⟨rfl, rfl⟩
  · exact absurd h1 k6

theorem bin_sound {op : BinOp} {t : TypeId} {p q : Operand} {a b r : AV} {x y : Value} (hx : V m a x) (hy : V m b y) (he : cmpNil P op t a b = some r) :
    ∃ z, ((do eqGuard op t p q x y; binOp op t x y) : Sem Value).run P w = .ok z w ∧ V m r z := by
  unfold cmpNil at he
  split at he
  · rename_i hc
    simp only [Bool.or_eq_true, Bool.and_eq_true, Nat.beq_eq] at hc
    rcases hc with ⟨h1, h2⟩ | ⟨h1, h2⟩
    · obtain ⟨⟨e1, _⟩, g, b1, _, b2, _⟩ := eqNil_run (w := w) hx hy h1 h2
      split at he
      · cases he; refine ⟨.bool false, ?_, by simp [V]⟩; rw [(g _ p q (.inl rfl)).1, b1]; simp [e1]
      · cases he; refine ⟨.bool true, ?_, by simp [V]⟩; rw [(g _ p q (.inr rfl)).1, b2]; simp [e1]
      · cases he
    · obtain ⟨⟨_, e1⟩, g, _, b1, _, b2⟩ := eqNil_run (w := w) hy hx h2 h1
      split at he
      · cases he; refine ⟨.bool false, ?_, by simp [V]⟩; rw [(g _ p q (.inl rfl)).2, b1]; simp [e1]
      · cases he; refine ⟨.bool true, ?_, by simp [V]⟩; rw [(g _ p q (.inr rfl)).2, b2]; simp [e1]
      · cases he
  · cases he

theorem bytesList_spec : ∀ {cs : List AV} {vs : List Value} {bs : List UInt8}, bytesList cs = some bs → VL m cs vs → ∃ ns : List Int, vs = ns.map (Value.int .u8) ∧ bs = ns.map fun n => UInt8.ofNat n.toNat
  | [], vs, bs, h1, h2 => by simp [bytesList] at h1; simp [VL] at h2; exact ⟨[], by simp [h2], by simp [h1]⟩
  | c :: cs, vs, bs, h1, h2 => by
    unfold bytesList at h1
    split at h1
    · rename_i heq; cases heq
    · rename_i n cs' heq
      cases heq
      simp only [Option.map_eq_some_iff] at h1
      obtain ⟨bs', e1, rfl⟩ := h1
      simp only [VL, V] at h2
      obtain ⟨v, us, rfl, rfl, h3⟩ := h2
      obtain ⟨ns, rfl, rfl⟩ := bytesList_spec e1 h3
      exact ⟨n :: ns, by simp, by simp⟩
    · cases h1

theorem foldl_push (l : List UInt8) : ∀ (s : ByteArray), (l.foldl (fun r b => r.push b) s) = ⟨s.data ++ l.toArray⟩ := by
  induction l with
  | nil => intro s; simp
  | cons b l ih =>
    intro s
    rw [List.foldl_cons, ih]
    simp [ByteArray.push]
theorem foldl_bytes (ns : List Int) : ns.foldl (fun (r : ByteArray) n => r.push (UInt8.ofNat n.toNat)) ByteArray.empty = ⟨(ns.map fun n => UInt8.ofNat n.toNat).toArray⟩ := by
  have := foldl_push (ns.map fun n => UInt8.ofNat n.toNat) ByteArray.empty
  rw [List.foldl_map] at this
  rw [this]
  congr 1
  show (#[] : Array UInt8) ++ _ = _
  simp

/-- A string's bytes, as a new slice. -/
theorem bytes_sound {src dst e : TypeId} {s : ByteArray} (hr : HR m h w) {u : TypeDesc} (hs : P.underlying src = some u) (hd : P.underlying dst = some (.slice e)) (he : P.underlying e = some (.int .u8)) :
    ∃ v w' m', (convert src dst (.string s)).run P w = .ok v w' ∧ m.le m' ∧ V m' (.fsl 1 false (s.data.toList.map fun b => [.sc (.int .u8 b.toNat)])) v ∧ HR m' h w' := by
  obtain ⟨g1, g2⟩ := hr.ice (w' := Lib.bytesWorld w e s) _ (Lib.bytesWorld_at_old w e s) (Lib.bytesWorld_at_new w e s)
  refine ⟨_, _, _, Lib.run_convert_string_bytes w src dst e s hs hd he, g1, ?_, g2⟩
  have hlen : (s.data.toList.map fun b => [AV.sc (.int .u8 b.toNat)]).length = s.size := by simp
  simp only [V]
  refine ⟨_, _, by rw [hlen], ?_, fun e => (by cases e), fun e => (by cases e), .inr ⟨_, _, rfl, ?_⟩⟩
  · rw [hlen]; exact grownCap_ge w s.size 0 e
  · have key : ∀ (l : List UInt8) (o : Nat), (∀ j, j < l.length → (Lib.bytesCells w e s)[o + j]? = some (.int .u8 (l.getD j 0).toNat)) →
        VR (m.ice w.heap.size (.cells (Lib.bytesCells w e s) e ((Lib.bytesCells w e s).size, (Lib.bytesCells w e s).size + 1))) w.heap.size 1 o (l.map fun b => [AV.sc (.int .u8 b.toNat)]) := by
      intro l
      induction l with
      | nil => intro o _; simp [VR]
      | cons b l ih =>
        intro o ho
        simp only [List.map_cons, VR, VC, V, and_true, List.length_cons, List.length_nil, true_and]
        refine ⟨⟨_, ?_, rfl⟩, ih (o + 1) fun j hj => ?_⟩
        · have := ho 0 (by simp)
          simpa [Env.ecell, Env.ice] using this
        · have := ho (j + 1) (by simpa using hj)
          rw [show o + 1 + j = o + (j + 1) by omega]
          simpa using this
    refine key s.data.toList 0 fun j hj => ?_
    have hj' : j < s.size := by simpa using hj
    simp [Lib.bytesCells, Array.getElem?_append, List.getD, hj']
end
end Go.AM
namespace Go.AM
open Go
section
variable {P : Program} {m : Env} {h : AHeap} {w : World}

theorem ble_and {a b : Bool} (h : (a && b) = true) : a = true ∧ b = true := by simpa using h

theorem V_agg {cs : List AV} {us : Array Value} (h : VL m cs us.toList) : V m (.agg cs) (.agg us) := by
  simp only [V]; exact ⟨us, rfl, h⟩

theorem ptr_at {a : AV} {x : Value} {id off : Nat} (e : a = .ptr id off) (hx : V m a x) : m.dom id ∧ x = .pointer (some ⟨(m.mu id).1, off, none⟩) := by
  subst e; simpa only [V] using hx

theorem ofCells_sub {t : TypeId} {cs : List AV} {av : AV} {vs : Array Value} {off k : Nat} (hk : sizeT P t = some k) (hl : VL m cs vs.toList)
    (ho : ofCells P t ((cs.drop off).take k) = some av) : ∃ v, (part t vs off).run P w = .ok v w ∧ V m av v := by
  have hlen := VL_length hl
  simp only [Array.length_toList] at hlen
  unfold ofCells at ho
  split at ho
  · rename_i hb
    cases ho
    refine ⟨.agg (vs.extract off (off + k)), by simp [part, run_isAgg' hb, run_sizeOf' hk], ?_⟩
    simp only [V]
    refine ⟨_, rfl, ?_⟩
    have := VL_take (VL_drop hl off) k
    simpa [List.extract_eq_take_drop] using this
  · rename_i hb
    split at ho
    · rename_i c hc
      cases ho
      have h0 : ((cs.drop off).take k)[0]? = some av := by rw [hc]; rfl
      obtain ⟨v, h1, h2⟩ := VL_get (VL_take (VL_drop hl off) k) 0 av h0
      rw [List.getElem?_take] at h1
      split at h1
      · rw [List.getElem?_drop] at h1
        simp at h1
        exact ⟨v, by simp [part, run_isAgg' hb, h1], h2⟩
      · cases h1
    · cases ho
  · cases ho

abbrev OpOK (P : Program) (m : Env) (h : AHeap) (w : World) (op : Op) : Prop :=
  ∀ (dst : Option Tmp) (type : TypeId) (pos : String) (after : Array Edge) (guard : Option (Nat × Bool)) (ev : Operand → AV) (ρ : Operand → Value), (∀ x, V m (ev x) (ρ x)) → HR m h w →
    ∀ av h', opA P ev h ⟨dst, op, type, pos, after, guard⟩ = some (av, h') → Good m ((execOp ρ ⟨dst, op, type, pos, after, guard⟩).run P w) av h'

theorem ok_move (x : Operand) : OpOK P m h w (.move x) := by
  intro dst type pos after guard ev ρ hev hr av h' hop
  simp only [opA, Option.some.injEq, Prod.mk.injEq] at hop; obtain ⟨rfl, rfl⟩ := hop; exact .val hr (hev x) rfl

theorem ok_assign (x : Operand) : OpOK P m h w (.assign x) := by
  intro dst type pos after guard ev ρ hev hr av h' hop
  simp only [opA, Option.some.injEq, Prod.mk.injEq] at hop; obtain ⟨rfl, rfl⟩ := hop; exact .val hr (hev x) rfl

theorem ok_pick (c a b : Operand) : OpOK P m h w (.pick c a b) := by
  intro dst type pos after guard ev ρ hev hr av h' hop
  simp only [opA, opPick] at hop
  split at hop
  · rename_i t hc
    have hb : ρ c = .bool t := by have := hev c; rw [hc] at this; simpa only [V] using this
    cases t
    · simp only [Option.some.injEq, Prod.mk.injEq] at hop; obtain ⟨rfl, rfl⟩ := hop
      exact .val hr (hev b) (by simp [execOp, hb, asBool])
    · simp only [Option.some.injEq, Prod.mk.injEq] at hop; obtain ⟨rfl, rfl⟩ := hop
      exact .val hr (hev a) (by simp [execOp, hb, asBool])
  · cases hop

theorem ok_alloc (t : TypeId) : OpOK P m h w (.alloc t) := by
  intro dst type pos after guard ev ρ hev hr av h' hop
  simp only [opA, opAlloc] at hop
  split at hop
  · rename_i cs hz
    simp only [Option.some.injEq, Prod.mk.injEq] at hop; obtain ⟨rfl, rfl⟩ := hop
    exact op_alloc hr hz
  · cases hop

theorem ok_box (t : TypeId) (x : Operand) : OpOK P m h w (.box t x) := by
  intro dst type pos after guard ev ρ hev hr av h' hop
  simp only [opA, opBox] at hop
  split at hop
  · rename_i cs hz
    simp only [Option.some.injEq, Prod.mk.injEq] at hop; obtain ⟨rfl, rfl⟩ := hop
    obtain ⟨p, w', m', h1, h2, h3, h4⟩ := good_box (P := P) (t := t) hr (V_cells hz (hev x))
    exact Good.new (s := Instr.box t (ρ x)) h2 h4 h3 (by simp [Instr.box, h1])
  · cases hop

theorem ok_build (t : TypeId) (parts : Array (Nat × Operand)) : OpOK P m h w (.build t parts) := by
  intro dst type pos after guard ev ρ hev hr av h' hop
  have hp : ∀ (i : Nat) (p : Nat × AV) (q : Nat × Value), (parts.toList.map fun (i, x) => (i, ev x))[i]? = some p → (parts.toList.map fun (i, x) => (i, ρ x))[i]? = some q → p.1 = q.1 ∧ V m p.2 q.2 := by
    intro i p q hpp hqq
    simp only [List.getElem?_map, Option.map_eq_some_iff] at hpp hqq
    obtain ⟨a, ha, rfl⟩ := hpp
    obtain ⟨b, hb, rfl⟩ := hqq
    rw [ha] at hb
    cases hb
    exact ⟨rfl, hev _⟩
  have hlen : (parts.toList.map fun (i, x) => (i, ev x)).length = (parts.toList.map fun (i, x) => (i, ρ x)).length := by simp
  simp only [opA, opBuild] at hop
  have e : (parts.map fun (i, x) => (i, ρ x)).toList = parts.toList.map fun (i, x) => (i, ρ x) := by simp
  split at hop
  · cases hop
  · rename_i zero hz
    obtain ⟨z, hz1, rfl⟩ := zeroCells_len hz
    have hz2 := hz1
    unfold zeroOf at hz2
    cases hi : P.info? t with
    | none => simp [hi] at hz2
    | some it =>
    simp only [hi, Option.bind_some] at hz2
    split at hop
    · rename_i fs hu
      split at hop
      · rename_i places hpl
        simp only [Option.map_eq_some_iff, Prod.mk.injEq] at hop
        obtain ⟨cs, hf, rfl, rfl⟩ := hop
        obtain ⟨us, g1, g2⟩ := fill_sound (m := m) (fun i => places.toArray[i]?) _ _ _ z.cells cs hlen hp (VL_sc m _) hf
        have hrun : (Instr.build t (parts.map fun (i, x) => (i, ρ x))).run P w = .ok (.agg us) w := by
          refine run_build w t _ us ?_
          simp only [Program.built, hi, hu, hz2, hpl, e]
          exact g1
        refine ⟨.agg us, w, m, .inl ?_, .refl m, V_agg g2, hr⟩
        simp only [execOp]
        rw [run_value, hrun]
        rfl
      · cases hop
    · rename_i len el hu
      split at hop
      · rename_i size hs
        simp only [Option.map_eq_some_iff, Prod.mk.injEq] at hop
        obtain ⟨cs, hf, rfl, rfl⟩ := hop
        obtain ⟨us, g1, g2⟩ := fill_sound (m := m) (fun i => some (i * size, size)) _ _ _ z.cells cs hlen hp (VL_sc m _) hf
        have hrun : (Instr.build t (parts.map fun (i, x) => (i, ρ x))).run P w = .ok (.agg us) w := by
          refine run_build w t _ us ?_
          unfold sizeT at hs
          cases hie : P.info? el with
          | none => simp [hie] at hs
          | some ie =>
            simp only [hie, Option.map_some, Option.some.injEq] at hs
            subst hs
            simp only [Program.built, hi, hu, hz2, hie, e]
            exact g1
        refine ⟨.agg us, w, m, .inl ?_, .refl m, V_agg g2, hr⟩
        simp only [execOp]
        rw [run_value, hrun]
        rfl
      · cases hop
    · cases hop

theorem ok_nilCheck (x : Operand) : OpOK P m h w (.nilCheck x) := by
  intro dst type pos after guard ev ρ hev hr av h' hop
  simp only [opA, opNilCheck] at hop
  have hx := hev x
  split at hop
  · rename_i id off e
    simp only [Option.some.injEq, Prod.mk.injEq] at hop; obtain ⟨rfl, rfl⟩ := hop
    rw [e] at hx
    obtain ⟨h1, h2⟩ := ptr_at rfl hx
    exact .val hr hx (by simp [execOp, h2])
  · rename_i cs e
    simp only [Option.some.injEq, Prod.mk.injEq] at hop; obtain ⟨rfl, rfl⟩ := hop
    rw [e] at hx
    have hx' := hx
    simp only [V] at hx'
    obtain ⟨b, o, h2, _⟩ := hx'
    exact .val hr hx (by simp [execOp, h2])
  · rename_i f u v e
    simp only [Option.some.injEq, Prod.mk.injEq] at hop; obtain ⟨rfl, rfl⟩ := hop
    rw [e] at hx
    have hx' := hx
    simp only [V] at hx'
    obtain ⟨b, o, h2, _⟩ := hx'
    exact .val hr hx (by simp [execOp, h2])
  · rename_i f u v e
    simp only [Option.some.injEq, Prod.mk.injEq] at hop; obtain ⟨rfl, rfl⟩ := hop
    rw [e] at hx
    have hx' := hx
    simp only [V] at hx'
    exact .val hr hx (by simp [execOp, hx'])
  · rename_i f u e
    simp only [Option.some.injEq, Prod.mk.injEq] at hop; obtain ⟨rfl, rfl⟩ := hop
    rw [e] at hx
    have hx' := hx
    simp only [V] at hx'
    obtain ⟨b, h2, _⟩ := hx'
    exact .val hr hx (by simp [execOp, h2])
  · rename_i f u e
    simp only [Option.some.injEq, Prod.mk.injEq] at hop; obtain ⟨rfl, rfl⟩ := hop
    rw [e] at hx
    have hx' := hx
    simp only [V] at hx'
    exact .val hr hx (by simp [execOp, hx'])
  · cases hop

theorem wrap_small (k : IntKind) (n : Nat) (h : n < lim k) : k.wrap (n : Int) = n := by
  cases k <;> simp only [lim] at h <;> simp only [IntKind.wrap, IntKind.bits, IntKind.signed] <;> simp <;> omega
theorem wrap_mod (k : IntKind) (n : Nat) (h : k.signed = false) : k.wrap (n : Int) = ((n % lim k : Nat) : Int) := by
  cases k <;> simp [IntKind.signed] at h <;> simp [IntKind.wrap, IntKind.bits, IntKind.signed, lim]
theorem fastWrap_spec {k : IntKind} {n : Nat} {r : AV} (h : fastWrap k n = some r) : r = .sc (.int k (k.wrap n)) := by
  unfold fastWrap at h
  cases hb : Nat.blt n (lim k) with
  | true =>
    rw [hb] at h
    simp only [cond_true, Option.some.injEq] at h
    have : n < lim k := by simp [Nat.blt] at hb; omega
    rw [← h, wrap_small k n this]
    rfl
  | false =>
    rw [hb] at h
    simp only [cond_false] at h
    cases hs : k.signed with
    | true => rw [hs] at h; cases h
    | false =>
      rw [hs] at h
      simp only [cond_false, Option.some.injEq] at h
      rw [← h, wrap_mod k n hs]
      rfl
theorem bits_lt {k : IntKind} {a : Nat} (h : a < lim k) : a < 2 ^ k.bits := by
  cases k <;> simp only [lim] at h <;> simp only [IntKind.bits] <;> omega
theorem ofInt_toNat {k : IntKind} {a : Nat} (h : a < lim k) : (BitVec.ofInt k.bits (a : Int)).toNat = a := by
  have := bits_lt h
  rw [BitVec.ofInt_natCast, BitVec.toNat_ofNat, Nat.mod_eq_of_lt this]
theorem lim_pow (k : IntKind) : ∃ e, lim k = 2 ^ e := by
  cases k
  · exact ⟨7, rfl⟩
  · exact ⟨15, rfl⟩
  · exact ⟨31, rfl⟩
  · exact ⟨63, rfl⟩
  · exact ⟨8, rfl⟩
  · exact ⟨16, rfl⟩
  · exact ⟨32, rfl⟩
  · exact ⟨64, rfl⟩
theorem bit_ok {k : IntKind} {a b c : Nat} (ha : a < lim k) (hb : b < lim k) (hc : c = Nat.land a b ∨ c = Nat.lor a b ∨ c = Nat.xor a b) : c < lim k := by
  obtain ⟨e, he⟩ := lim_pow k
  rw [he] at ha hb ⊢
  rcases hc with rfl | rfl | rfl
  · exact Nat.and_lt_two_pow a hb
  · exact Nat.or_lt_two_pow ha hb
  · exact Nat.xor_lt_two_pow ha hb

theorem run_bin_pure {op : BinOp} {t : TypeId} {p q : Operand} {x y z : Value} (h1 : eqGuard op t p q x y = pure ()) (h2 : binOp op t x y = pure z) :
    ((do eqGuard op t p q x y; binOp op t x y) : Sem Value).run P w = .ok z w := by
  rw [h1, h2]; rfl

theorem fastInt_spec {op : BinOp} {k : IntKind} {a b : Nat} {r : AV} (h : fastInt op k a b = some r) (t : TypeId) (p q : Operand) :
    ∃ z, ((do eqGuard op t p q (.int k a) (.int k b); binOp op t (.int k a) (.int k b)) : Sem Value).run P w = .ok z w ∧ r = .sc z := by
  have bit : ∀ c : Nat, (c = Nat.land a b ∨ c = Nat.lor a b ∨ c = Nat.xor a b) → (Nat.blt a (lim k) && Nat.blt b (lim k)) = true → a < lim k ∧ b < lim k ∧ k.wrap (c : Int) = c := by
    intro c hc hb
    simp [Nat.blt] at hb
    have h1 : a < lim k := by omega
    have h2 : b < lim k := by omega
    exact ⟨h1, h2, wrap_small k c (bit_ok h1 h2 hc)⟩
  have cmp : ∀ z : Value, some (AV.sc z) = some r → eqGuard op t p q (.int k a) (.int k b) = pure () → binOp op t (.int k a) (.int k b) = pure z → ∃ z, ((do eqGuard op t p q (.int k a) (.int k b); binOp op t (.int k a) (.int k b)) : Sem Value).run P w = .ok z w ∧ r = .sc z :=
    fun z hz h1 h2 => ⟨z, run_bin_pure h1 h2, by cases hz; rfl⟩
  have gd : eqGuard op t p q (.int k a) (.int k b) = pure () := by cases op <;> rfl
  have eqb : Nat.beq a b = ((a : Int) == (b : Int)) := by
    rw [nbeq, Bool.eq_iff_iff]; simp; omega
  have blt : ∀ x y : Nat, Nat.blt x y = decide ((x : Int) < (y : Int)) := by
    intro x y; rw [Bool.eq_iff_iff]; simp [Nat.blt]; omega
  have ble : ∀ x y : Nat, Nat.ble x y = decide ((x : Int) ≤ (y : Int)) := by
    intro x y; rw [Bool.eq_iff_iff, Nat.ble_eq]; simp
  cases op
  case add => exact ⟨_, run_bin_pure gd (by simp [binOp, Op.intArith]), fastWrap_spec h⟩
  case mul => exact ⟨_, run_bin_pure gd (by simp [binOp, Op.intArith]), fastWrap_spec h⟩
  case sub =>
    simp only [fastInt] at h
    cases hb : Nat.ble b a with
    | false => rw [hb] at h; cases h
    | true =>
      rw [hb] at h
      rw [Nat.ble_eq] at hb
      refine ⟨_, run_bin_pure gd ?_, fastWrap_spec h⟩
      have : ((Nat.sub a b : Nat) : Int) = (a : Int) - b := by
        show ((a - b : Nat) : Int) = _
        omega
      rw [this]
      simp [binOp, Op.intArith]
  case and =>
    simp only [fastInt] at h
    cases hb : (Nat.blt a (lim k) && Nat.blt b (lim k)) with
    | false => rw [hb] at h; cases h
    | true =>
      rw [hb] at h
      simp only [cond_true] at h
      obtain ⟨h1, h2, h3⟩ := bit (Nat.land a b) (.inl rfl) hb
      refine cmp _ h gd ?_
      have e : ((BitVec.ofInt k.bits (a : Int)) &&& (BitVec.ofInt k.bits (b : Int))).toNat = Nat.land a b := by
        rw [BitVec.toNat_and, ofInt_toNat h1, ofInt_toNat h2]; rfl
      have : binOp .and t (.int k a) (.int k b) = pure (.int k (k.wrap (((BitVec.ofInt k.bits (a : Int)) &&& (BitVec.ofInt k.bits (b : Int))).toNat : Int))) := by simp [binOp, Op.intBits]
      rw [this, e, h3]; rfl
  case or =>
    simp only [fastInt] at h
    cases hb : (Nat.blt a (lim k) && Nat.blt b (lim k)) with
    | false => rw [hb] at h; cases h
    | true =>
      rw [hb] at h
      simp only [cond_true] at h
      obtain ⟨h1, h2, h3⟩ := bit (Nat.lor a b) (.inr (.inl rfl)) hb
      refine cmp _ h gd ?_
      have e : ((BitVec.ofInt k.bits (a : Int)) ||| (BitVec.ofInt k.bits (b : Int))).toNat = Nat.lor a b := by
        rw [BitVec.toNat_or, ofInt_toNat h1, ofInt_toNat h2]; rfl
      have : binOp .or t (.int k a) (.int k b) = pure (.int k (k.wrap (((BitVec.ofInt k.bits (a : Int)) ||| (BitVec.ofInt k.bits (b : Int))).toNat : Int))) := by simp [binOp, Op.intBits]
      rw [this, e, h3]; rfl
  case xor =>
    simp only [fastInt] at h
    cases hb : (Nat.blt a (lim k) && Nat.blt b (lim k)) with
    | false => rw [hb] at h; cases h
    | true =>
      rw [hb] at h
      simp only [cond_true] at h
      obtain ⟨h1, h2, h3⟩ := bit (Nat.xor a b) (.inr (.inr rfl)) hb
      refine cmp _ h gd ?_
      have e : ((BitVec.ofInt k.bits (a : Int)) ^^^ (BitVec.ofInt k.bits (b : Int))).toNat = Nat.xor a b := by
        rw [BitVec.toNat_xor, ofInt_toNat h1, ofInt_toNat h2]; rfl
      have : binOp .xor t (.int k a) (.int k b) = pure (.int k (k.wrap (((BitVec.ofInt k.bits (a : Int)) ^^^ (BitVec.ofInt k.bits (b : Int))).toNat : Int))) := by simp [binOp, Op.intBits]
      rw [this, e, h3]; rfl
  case eql => exact cmp _ h gd (by simp [binOp, Op.intCmp, eqb])
  case neq => exact cmp _ h gd (by simp [binOp, Op.intCmp, eqb, bne])
  case lss => exact cmp _ h gd (by simp [binOp, Op.intCmp, blt])
  case leq => exact cmp _ h gd (by simp [binOp, Op.intCmp, ble])
  case gtr => exact cmp _ h gd (by simp [binOp, Op.intCmp, blt])
  case geq => exact cmp _ h gd (by simp [binOp, Op.intCmp, ble])
  all_goals (simp only [fastInt] at h; cases h)

theorem fastShift_spec {op : BinOp} {k k2 : IntKind} {a b : Nat} {r : AV} (h : fastShift op k a b = some r) (t : TypeId) (p q : Operand) :
    ∃ z, ((do eqGuard op t p q (.int k a) (.int k2 b); binOp op t (.int k a) (.int k2 b)) : Sem Value).run P w = .ok z w ∧ r = .sc z := by
  unfold fastShift at h
  cases hb : (Nat.blt b 8 || (Nat.blt b 32 && Nat.blt 2147483647 (lim k))) with
  | false => rw [hb] at h; cases h
  | true =>
    rw [hb] at h
    simp only [cond_true] at h
    have hk : b ≤ k.bits := by
      simp [Nat.blt] at hb
      cases k <;> simp [lim] at hb <;> simp [IntKind.bits] <;> omega
    have hm : min b k.bits = b := by omega
    have hn : ¬ ((b : Int) < 0) := by omega
    cases op
    case shl =>
      refine ⟨_, run_bin_pure rfl ?_, fastWrap_spec h⟩
      have : ((Nat.mul a (Nat.pow 2 b) : Nat) : Int) = (a : Int) * 2 ^ b := by
        show ((a * 2 ^ b : Nat) : Int) = _
        push_cast; rfl
      rw [this]
      simp [binOp, Op.shift, hn, hm]
    case shr =>
      simp only [Option.some.injEq] at h
      refine ⟨_, run_bin_pure rfl ?_, h.symm⟩
      have : (Int.ofNat (Nat.div a (Nat.pow 2 b))) = (a : Int).fdiv (2 ^ b) := by
        show ((a / 2 ^ b : Nat) : Int) = _
        rw [Int.fdiv_eq_ediv_of_nonneg _ (by exact_mod_cast Nat.zero_le _)]
        push_cast; rfl
      rw [this]
      simp [binOp, Op.shift, hn, hm]
    all_goals cases h

theorem fastBin_spec {op : BinOp} {a b r : AV} {x y : Value} (h : fastBin op a b = some r) (hx : V m a x) (hy : V m b y) (t : TypeId) (p q : Operand) :
    ∃ z, ((do eqGuard op t p q x y; binOp op t x y) : Sem Value).run P w = .ok z w ∧ V m r z := by
  unfold fastBin at h
  split at h
  · rename_i k n k2 n2
    simp only [V] at hx hy
    subst hx hy
    split at h
    · obtain ⟨z, h1, rfl⟩ := fastShift_spec (w := w) (P := P) (k2 := k2) h t p q
      exact ⟨z, h1, by simp [V]⟩
    · obtain ⟨z, h1, rfl⟩ := fastShift_spec (w := w) (P := P) (k2 := k2) h t p q
      exact ⟨z, h1, by simp [V]⟩
    · split at h
      · rename_i hk
        have hk' : k = k2 := by simpa using hk
        subst hk'
        obtain ⟨z, h1, rfl⟩ := fastInt_spec (w := w) (P := P) h t p q
        exact ⟨z, h1, by simp [V]⟩
      · cases h
  · cases h

theorem ok_binOp (bop : BinOp) (t : TypeId) (x y : Operand) (ty : TypeId) : OpOK P m h w (.binOp bop t x y ty) := by
  intro dst type pos after guard ev ρ hev hr av h' hop
  simp only [opA, opBinOp] at hop
  split at hop
  · rename_i v hb
    simp only [Option.some.injEq, Prod.mk.injEq] at hop; obtain ⟨rfl, rfl⟩ := hop
    obtain ⟨z, g1, g2⟩ := fastBin_spec (P := P) (w := w) hb (hev x) (hev y) t x y
    exact Good.run (s := do eqGuard bop t x y (ρ x) (ρ y); binOp bop t (ρ x) (ρ y)) hr g2 g1
  · split at hop
    · rename_i v hb
      simp only [Option.some.injEq, Prod.mk.injEq] at hop; obtain ⟨rfl, rfl⟩ := hop
      unfold binA at hb
      split at hb
      · rename_i u u' e1 e2
        simp only [Option.map_eq_some_iff] at hb
        obtain ⟨z, hz, rfl⟩ := hb
        have h1 := V_toV e1 (hev x)
        have h2 := V_toV e2 (hev y)
        exact Good.run (s := do eqGuard bop t x y (ρ x) (ρ y); binOp bop t (ρ x) (ρ y)) hr (v := z) (by simp [V]) (by rw [h1, h2]; exact pureEval_run _ _ hz)
      · cases hb
    · simp only [Option.map_eq_some_iff, Prod.mk.injEq] at hop
      obtain ⟨r, h1, rfl, rfl⟩ := hop
      obtain ⟨z, g1, g2⟩ := bin_sound (p := x) (q := y) (w := w) (hev x) (hev y) h1
      exact Good.run (s := do eqGuard bop t x y (ρ x) (ρ y); binOp bop t (ρ x) (ρ y)) hr g2 g1

theorem ok_unOp (uop : UnOp) (t : TypeId) (x : Operand) : OpOK P m h w (.unOp uop t x) := by
  intro dst type pos after guard ev ρ hev hr av h' hop
  simp only [opA, opUnOp] at hop
  split at hop
  · rename_i v hb
    simp only [Option.some.injEq, Prod.mk.injEq] at hop; obtain ⟨rfl, rfl⟩ := hop
    unfold notA at hb
    split at hb
    · rename_i b e
      have hx := hev x
      simp only [Option.some.injEq] at hb
      rw [e] at hx
      simp only [V] at hx
      subst hb
      exact Good.run (s := Op.unary .not (ρ x)) hr (v := .bool (!b)) (by simp [V]) (by rw [hx]; simp [Op.unary])
    · cases hb
  · split at hop
    · rename_i u e
      simp only [Option.map_eq_some_iff, Prod.mk.injEq] at hop
      obtain ⟨z, h1, rfl, rfl⟩ := hop
      have h2 := V_toV e (hev x)
      exact Good.run (s := Op.unary uop (ρ x)) hr (v := z) (by simp [V]) (by rw [h2]; exact pureEval_run _ _ h1)
    · cases hop

theorem ok_load (t : TypeId) (a : Operand) : OpOK P m h w (.load t a) := by
  intro dst type pos after guard ev ρ hev hr av h' hop
  simp only [opA, opLoad] at hop
  split at hop
  · cases hop
  · rename_i k hk
    split at hop
    · rename_i id off e
      split at hop
      · rename_i b hb
        split at hop
        · rename_i hn
          simp only [Nat.ble_eq] at hn
          simp only [Option.map_eq_some_iff, Prod.mk.injEq] at hop
          obtain ⟨v, ho, rfl, rfl⟩ := hop
          obtain ⟨_, hx⟩ := ptr_at e (hev a)
          have hbr : BR m (m.mu id) b w := (hr.obj id _ (blk?_some hb)).2.2
          exact op_load hr hk (length_cellsFrom b k off) ho hx (CellsAt.of_BR hbr hn)
        · cases hop
      · cases hop
    · rename_i cs e
      split at hop
      · rename_i hn
        simp only [Nat.ble_eq] at hn
        simp only [Option.map_eq_some_iff, Prod.mk.injEq] at hop
        obtain ⟨v, ho, rfl, rfl⟩ := hop
        have hx := hev a
        rw [e] at hx
        simp only [V] at hx
        obtain ⟨b, o, h2, hv⟩ := hx
        exact op_load hr hk (by simp; omega) ho h2 ((CellsAt.of_VC hr hv).take k)
      · cases hop
    · cases hop

theorem ok_store (t : TypeId) (a x : Operand) : OpOK P m h w (.store t a x) := by
  intro dst type pos after guard ev ρ hev hr av h' hop
  simp only [opA, opStore] at hop
  split at hop
  · rename_i k cs id off hk hcs e
    split at hop
    · rename_i b hb
      split at hop
      · rename_i hn
        simp only [Bool.and_eq_true, Nat.beq_eq, Nat.ble_eq] at hn
        simp only [Option.some.injEq, Prod.mk.injEq] at hop; obtain ⟨rfl, rfl⟩ := hop
        exact op_store hr hk hcs (hev x) (by have := hev a; rwa [e] at this) hb hn.1.1 hn.1.2 hn.2
      · cases hop
    · cases hop
  · cases hop
end
end Go.AM
namespace Go.AM
open Go
section
variable {P : Program} {m : Env} {h : AHeap} {w : World}

theorem blt_lt {a b : Nat} (h : Nat.blt a b = true) : a < b := by
  simp [Nat.blt] at h; omega
theorem V_aggOf {a : AV} {x : Value} {cs : List AV} (h : aggOf a = some cs) (hx : V m a x) : ∃ us, x = .agg us ∧ VL m cs us.toList := by
  unfold aggOf at h
  split at h
  · cases h; simp only [V] at hx; exact ⟨_, hx, VL_sc m _⟩
  · cases h; simp only [V] at hx; exact hx
  · cases h
theorem V_ptr {id off : Nat} (h : m.dom id) : V m (.ptr id off) (.pointer (some ⟨(m.mu id).1, off, none⟩)) := by
  simp [V, h]
theorem V_fp {b o : Nat} {cs : List AV} (h : VC m b o cs) : V m (.fp cs) (.pointer (some ⟨b, o, none⟩)) := by
  simp only [V]; exact ⟨b, o, rfl, h⟩

theorem ok_makeInterface (t : TypeId) (x : Operand) : OpOK P m h w (.makeInterface t x) := by
  intro dst type pos after guard ev ρ hev hr av h' hop
  simp only [opA, opMakeInterface] at hop
  have run : ∀ d, P.underlying t = some d → (∀ ms, d ≠ .interface ms) → (Instr.makeInterface t (ρ x)).run P w = .ok (.iface t (ρ x)) w := by
    intro d hd hn
    unfold Instr.makeInterface
    rw [Sem.run_bind, run_underlying hd, Result.andThen_ok]
    cases d <;> first | rfl | exact absurd rfl (hn _)
  split at hop
  · cases hop
  · rename_i d hn hd
    have hr1 := run d hd hn
    split at hop
    · rename_i v hv
      simp only [Option.some.injEq, Prod.mk.injEq] at hop; obtain ⟨rfl, rfl⟩ := hop
      have := V_toV hv (hev x)
      exact Good.run (s := Instr.makeInterface t (ρ x)) hr (by simp [V, this]) hr1
    · simp only [Option.some.injEq, Prod.mk.injEq] at hop; obtain ⟨rfl, rfl⟩ := hop
      exact Good.run (s := Instr.makeInterface t (ρ x)) hr (by simp only [V]; exact ⟨_, rfl, hev x⟩) hr1
  · cases hop

theorem ok_makeFunc (fn : Fn) (first captured : Array Operand) : OpOK P m h w (.makeFunc fn first captured) := by
  intro dst type pos after guard ev ρ hev hr av h' hop
  simp only [opA, Option.some.injEq, Prod.mk.injEq] at hop
  obtain ⟨rfl, rfl⟩ := hop
  exact Good.run (s := Instr.makeFunc fn (first.map ρ) (captured.map ρ)) hr (by simp only [V]; exact ⟨_, _, rfl, VL_evals hev first, VL_evals hev captured⟩) (by simp [Instr.makeFunc])

theorem ok_extract (x : Operand) (i : Nat) : OpOK P m h w (.extract x i) := by
  intro dst type pos after guard ev ρ hev hr av h' hop
  have hx := hev x
  simp only [opA, opExtract] at hop
  split at hop
  · rename_i vs e
    rw [e] at hx
    split at hop
    · rename_i v hv
      simp only [Option.some.injEq, Prod.mk.injEq] at hop; obtain ⟨rfl, rfl⟩ := hop
      simp only [V] at hx
      obtain ⟨us, hu, hl⟩ := hx
      obtain ⟨u, g1, g2⟩ := VL_get hl i v hv
      exact Good.run (s := Instr.extract (ρ x) i) hr g2 (by rw [hu]; simp at g1; simp [Instr.extract, g1])
    · cases hop
  · rename_i vs e
    rw [e] at hx
    split at hop
    · rename_i v hv
      simp only [Option.some.injEq, Prod.mk.injEq] at hop; obtain ⟨rfl, rfl⟩ := hop
      simp only [V] at hx
      exact Good.run (s := Instr.extract (ρ x) i) (v := v) hr (by simp [V]) (by rw [hx]; simp [Instr.extract, hv])
    · cases hop
  · cases hop

theorem ok_typeAssert (x : Operand) (xt t : TypeId) (ok : Bool) : OpOK P m h w (.typeAssert x xt t ok) := by
  intro dst type pos after guard ev ρ hev hr av h' hop
  have hx := hev x
  simp only [opA, opTypeAssert] at hop
  have run : ∀ d u, P.underlying t = some d → (∀ ms, d ≠ .interface ms) → (Instr.typeAssert (.iface t u) xt t ok).run P w = .ok (if ok then .tuple #[u, .bool true] else u) w := by
    intro d u hd hn
    unfold Instr.typeAssert
    rw [Sem.run_bind, run_underlying hd, Result.andThen_ok]
    cases d <;> first | (simp; done) | exact absurd rfl (hn _)
  split at hop
  · cases hop
  · rename_i d u v hn hd e
    split at hop
    · rename_i hb
      rw [Nat.beq_eq] at hb
      subst hb
      rw [e] at hx
      simp only [V] at hx
      have hr1 := run d v hd hn
      simp only [Option.some.injEq, Prod.mk.injEq] at hop; obtain ⟨rfl, rfl⟩ := hop
      refine Good.run (s := Instr.typeAssert (ρ x) xt u ok) hr ?_ (by rw [hx]; exact hr1)
      cases ok <;> simp [V]
    · cases hop
  · rename_i d u v hn hd e
    split at hop
    · rename_i hb
      rw [Nat.beq_eq] at hb
      subst hb
      rw [e] at hx
      simp only [V] at hx
      obtain ⟨y, hy, hv⟩ := hx
      have hr1 := run d y hd hn
      simp only [Option.some.injEq, Prod.mk.injEq] at hop; obtain ⟨rfl, rfl⟩ := hop
      refine Good.run (s := Instr.typeAssert (ρ x) xt u ok) hr ?_ (by rw [hy]; exact hr1)
      cases ok
      · simpa using hv
      · simp only [V, VL]; exact ⟨_, rfl, _, _, rfl, hv, _, _, rfl, rfl, rfl⟩
    · cases hop
  · cases hop

theorem ok_fieldAddr (s : TypeId) (x : Operand) (f : Nat) : OpOK P m h w (.fieldAddr s x f) := by
  intro dst type pos after guard ev ρ hev hr av h' hop
  have hx := hev x
  simp only [opA, opFieldAddr] at hop
  split at hop
  · rename_i fs hs
    split at hop
    · rename_i fl hf
      split at hop
      · rename_i n hz
        split at hop
        · rename_i id off e
          simp only [Option.some.injEq, Prod.mk.injEq] at hop; obtain ⟨rfl, rfl⟩ := hop
          obtain ⟨h1, h2⟩ := ptr_at e hx
          refine Good.run (s := Instr.fieldAt s (ρ x) f) (v := .pointer (some ⟨(m.mu id).1, off + fl.offset, none⟩)) hr (V_ptr h1) ?_
          rw [h2, op_fieldAddr hs hf hz, add_plain]
        · rename_i cs e
          simp only [Option.some.injEq, Prod.mk.injEq] at hop; obtain ⟨rfl, rfl⟩ := hop
          rw [e] at hx
          simp only [V] at hx
          obtain ⟨b, o, h2, hv⟩ := hx
          refine Good.run (s := Instr.fieldAt s (ρ x) f) (v := .pointer (some ⟨b, o + fl.offset, none⟩)) hr (V_fp (VC_drop _ hv)) ?_
          rw [h2, op_fieldAddr hs hf hz, add_plain]
        · cases hop
      · cases hop
    · cases hop
  · cases hop

theorem ok_field (t : TypeId) (x : Operand) (f : Nat) : OpOK P m h w (.field t x f) := by
  intro dst type pos after guard ev ρ hev hr av h' hop
  have hx := hev x
  simp only [opA, opField] at hop
  split at hop
  · rename_i fs hs
    split at hop
    · rename_i fl cs hf hc
      split at hop
      · rename_i k hk
        split at hop
        · rename_i hn
          simp only [Option.map_eq_some_iff, Prod.mk.injEq] at hop
          obtain ⟨v, ho, rfl, rfl⟩ := hop
          obtain ⟨us, hus, hl⟩ := V_aggOf hc hx
          obtain ⟨u, g1, g2⟩ := ofCells_sub (w := w) hk hl ho
          refine Good.run (s := Instr.field t (ρ x) f) hr g2 ?_
          rw [hus]
          simp [Instr.field, run_underlying hs, hf, asAgg, g1]
        · cases hop
      · cases hop
    · cases hop
  · cases hop

theorem ok_indexAddr (t : TypeId) (x ix : Operand) : OpOK P m h w (.indexAddr t x ix) := by
  intro dst type pos after guard ev ρ hev hr av h' hop
  have hx := hev x
  simp only [opA, opIndexAddr] at hop
  split at hop
  · rename_i i len e hi hu
    obtain ⟨k, hk⟩ := natOf_spec hi (hev ix)
    split at hop
    · rename_i size hs
      have run : ∀ a : Addr, i < len → (Instr.indexAt t (.pointer (some a)) (ρ ix)).run P w = .ok (.pointer (some (a.add (i * size)))) w := by
        intro a hlt
        have h0 : (0 : Int) ≤ i ∧ (i : Int) < len := by omega
        rw [hk]
        simp [Instr.indexAt, asIntOf, run_underlying hu, Instr.sureAddr, run_sizeOf' hs, hlt]
      split at hop
      · rename_i id off hlt e
        simp only [Option.some.injEq, Prod.mk.injEq] at hop; obtain ⟨rfl, rfl⟩ := hop
        have hlt' : i < len := blt_lt hlt
        obtain ⟨h1, h2⟩ := ptr_at e hx
        exact Good.run (s := Instr.indexAt t (ρ x) (ρ ix)) hr (V_ptr h1) (by rw [h2, run _ hlt', add_plain])
      · rename_i cs hlt e
        simp only [Option.some.injEq, Prod.mk.injEq] at hop; obtain ⟨rfl, rfl⟩ := hop
        have hlt' : i < len := blt_lt hlt
        rw [e] at hx
        simp only [V] at hx
        obtain ⟨b, o, h2, hv⟩ := hx
        exact Good.run (s := Instr.indexAt t (ρ x) (ρ ix)) (v := .pointer (some ⟨b, o + i * size, none⟩)) hr (V_fp (VC_drop _ hv)) (by rw [h2, run _ hlt', add_plain])
      · cases hop
    · cases hop
  · rename_i i e hi hu
    obtain ⟨k, hk⟩ := natOf_spec hi (hev ix)
    split at hop
    · rename_i size hs
      have run : ∀ (a : Addr) (len c : Nat), i < len → (Instr.indexAt t (.slice (some a) len c) (ρ ix)).run P w = .ok (.pointer (some (a.add (i * size)))) w := by
        intro a len c hlt
        rw [hk]
        simp [Instr.indexAt, asIntOf, run_underlying hu, run_sizeOf' hs, hlt]
      split at hop
      · rename_i id off len cap e
        split at hop
        · rename_i hlt
          simp only [Option.some.injEq, Prod.mk.injEq] at hop; obtain ⟨rfl, rfl⟩ := hop
          have hlt' : i < len := blt_lt hlt
          rw [e] at hx
          simp only [V] at hx
          obtain ⟨h1, c, h2, _⟩ := hx
          exact Good.run (s := Instr.indexAt t (ρ x) (ρ ix)) hr (V_ptr h1) (by rw [h2, run _ _ _ hlt', add_plain])
        · cases hop
      · rename_i sz ex es e
        split at hop
        · rename_i hsz
          rw [Nat.beq_eq] at hsz
          subst hsz
          split at hop
          · rename_i cs hcs
            simp only [Option.some.injEq, Prod.mk.injEq] at hop; obtain ⟨rfl, rfl⟩ := hop
            have hlt' : i < es.length := (List.getElem?_eq_some_iff.1 hcs).1
            rw [e] at hx
            simp only [V] at hx
            obtain ⟨a, c, h2, g1, _, g3, g4⟩ := hx
            rcases g4 with g4 | ⟨b, o, rfl, hv⟩
            · omega
            · exact Good.run (s := Instr.indexAt t (ρ x) (ρ ix)) (v := .pointer (some ⟨b, o + i * sz, none⟩)) hr (V_fp (VR_get hv hcs).2) (by rw [h2, run _ _ _ hlt', add_plain])
          · cases hop
        · cases hop
      · cases hop
    · cases hop
  · cases hop

theorem ok_index (t : TypeId) (x ix : Operand) : OpOK P m h w (.index t x ix) := by
  intro dst type pos after guard ev ρ hev hr av h' hop
  have hx := hev x
  simp only [opA, opIndex] at hop
  split at hop
  · rename_i hu
    split at hop
    · rename_i s i e hi
      obtain ⟨k, hk⟩ := natOf_spec hi (hev ix)
      rw [e] at hx
      simp only [V] at hx
      split at hop
      · rename_i b hb
        simp only [Option.some.injEq, Prod.mk.injEq] at hop; obtain ⟨rfl, rfl⟩ := hop
        refine Good.run (s := Instr.index t (ρ x) (ρ ix)) (v := .int .u8 b.toNat) hr (by simp [V]) ?_
        rw [hx, hk]
        have h0 : (0 : Int) ≤ i := by omega
        simp [Instr.index, asIntOf, run_underlying hu, hb]
      · cases hop
    · cases hop
  · rename_i len e hu
    split at hop
    · rename_i size i cs hs hi hc
      obtain ⟨k, hk⟩ := natOf_spec hi (hev ix)
      split at hop
      · rename_i hb
        simp only [Option.map_eq_some_iff, Prod.mk.injEq] at hop
        obtain ⟨v, ho, rfl, rfl⟩ := hop
        have hlt := blt_lt (ble_and hb).1
        obtain ⟨us, hus, hl⟩ := V_aggOf hc hx
        obtain ⟨u, g1, g2⟩ := ofCells_sub (w := w) hs hl ho
        refine Good.run (s := Instr.index t (ρ x) (ρ ix)) hr g2 ?_
        rw [hus, hk]
        simp [Instr.index, asIntOf, run_underlying hu, hlt, run_sizeOf' hs, g1]
      · cases hop
    · cases hop
  · cases hop

theorem ok_range (t : TypeId) (x : Operand) : OpOK P m h w (.range t x) := by
  intro dst type pos after guard ev ρ hev hr av h' hop
  have hx := hev x
  simp only [opA, opRange] at hop
  split at hop
  · rename_i s hu e
    simp only [Option.some.injEq, Prod.mk.injEq] at hop; obtain ⟨rfl, rfl⟩ := hop
    rw [e] at hx
    simp only [V] at hx
    refine Good.new (s := Instr.range t (ρ x)) (m' := m.add h.next (w.heap.size, 0)) (w' := w.alloc (.stringIter s 0)) (v := .pointer (some ⟨w.heap.size, 0, none⟩)) (hr.le_add _) ?_ (by simp [V]) ?_
    · exact hr.alloc _ _ _ (heap_alloc_new w _)
    · rw [hx]; simp [Instr.range, run_underlying hu]
  · cases hop

theorem ok_next (it : Operand) (b : Bool) : OpOK P m h w (.next it b) := by
  intro dst type pos after guard ev ρ hev hr av h' hop
  have hx := hev it
  simp only [opA, opNext] at hop
  split at hop
  · rename_i id e
    obtain ⟨h1, h2⟩ := ptr_at e hx
    split at hop
    · rename_i s pos' hid
      have ho : w.heap[(m.mu id).1]? = some (.stringIter s pos') := (hr.obj id _ hid).2.2
      have hget : (getObj (m.mu id).1).run P w = .ok (.stringIter s pos') w := by simp [getObj, Sem.run, ho]
      split at hop
      · rename_i hb
        have hlt := blt_lt hb
        simp only [Option.some.injEq, Prod.mk.injEq] at hop; obtain ⟨rfl, rfl⟩ := hop
        let w' : World := { w with heap := w.heap.setIfInBounds (m.mu id).1 (.stringIter s (pos' + (Utf8.decode s pos').2)) }
        have hlt2 : (m.mu id).1 < w.heap.size := (Array.getElem?_eq_some_iff.1 ho).1
        refine Good.new (s := Instr.next (ρ it) true type) (m' := m) (w' := w') (v := .tuple #[.bool true, goInt pos', .int .i32 (Utf8.decode s pos').1]) (.refl m) ?_ (by simp [V]) ?_
        · refine hr.put hid ?_ ?_
          · show w'.heap[(m.mu id).1]? = _
            simp [w', hlt2]
          · intro k hk
            simp [w', Ne.symm hk]
        · rw [h2]
          simp only [Instr.next, Sem.run_bind, hget, Result.andThen_ok, if_pos hlt]
          simp [setObj, Sem.run, ho, w']
      · simp only [Option.some.injEq, Prod.mk.injEq] at hop; obtain ⟨rfl, rfl⟩ := hop
        rename_i hb
        have hge : ¬ pos' < s.size := by
          intro hlt
          have : Nat.blt pos' s.size = true := by simp [Nat.blt]; omega
          rw [this] at hb
          cases hb
        refine Good.run (s := Instr.next (ρ it) true type) (v := .tuple #[.bool false]) hr (by simp [V]) ?_
        rw [h2]
        simp only [Instr.next, Sem.run_bind, hget, Result.andThen_ok, if_neg hge, Sem.run_pure]
    · cases hop
  · cases hop
end
end Go.AM
namespace Go.AM
open Go
section
variable {P : Program} {m : Env} {h : AHeap} {w : World}

theorem run_append_grow2 {ts : Array TypeId} {t u ty e : TypeId} {i : TypeInfo} {z : Value} {du : TypeDesc} (hts0 : ts[0]? = some t) (hts1 : ts[1]? = some u) (ht : P.underlying t = some (.slice e)) (hu : P.underlying u = some du) (hnu : ∀ k, du ≠ .int k)
    (hi : P.info? e = some i) (hz : i.zero = some z) {base : Option Addr} {sLen sCap n : Nat} {x : Value} {olds news : List Value} (hn : (Builtin.lenOf x).run P w = .ok n w)
    (ho : (Builtin.firstCells i.size sLen (.slice base sLen sCap)).run P w.drew = .ok olds.toArray w.drew) (hnw : (Builtin.firstCells i.size n x).run P w.drew = .ok news.toArray w.drew)
    (hg : sCap < sLen + n) (hfit : (sLen + n) * i.bytes ≤ 140737488355328) (hb1 : 1 ≤ i.bytes) :
    (Builtin.append_ ts ty #[.slice base sLen sCap, x]).run P w = .ok (.slice (some ⟨w.heap.size, 0, none⟩) (sLen + n) (grownCap w (sLen + n) sCap e))
        (w.drew.alloc (.cells (olds.toArray ++ news.toArray ++ Builtin.zeroCells z.cells (grownCap w (sLen + n) sCap e - (sLen + n))) e)) := by
  have hnn : ¬ (sLen + n ≤ sCap) := by omega
  have hf := growslice_fits hg hfit
  have h48' : ¬ (281474976710656 < Builtin.nextslicecap (sLen + n) sCap * i.bytes) := by omega
  have hzz : (match du with | .int _ => true | _ => false) = false := by cases du <;> first | rfl | exact absurd rfl (hnu _)
  have hb0 : ¬ (i.bytes = 0) := by omega
  unfold Builtin.append_
  simp only [hts0, hts1, List.getElem?_toArray, List.getElem?_cons_zero, List.getElem?_cons_succ]
  simp only [Sem.run_bind, run_underlying ht, Result.andThen_ok, sizeOf, typeInfo, run_program, hi, Sem.run_pure, run_underlying hu]
  cases du <;> first
    | (exact absurd rfl (hnu _))
    | (simp [hnn, h48', Question.forced, hn, ho, hnw, newRow, grownCap, zeroValue, typeInfo, hi, hz, hb0]; congr 2; apply Array.ext'; simp [List.append_assoc])

theorem run_append_room2 {ts : Array TypeId} {t u ty e : TypeId} {i : TypeInfo} {du : TypeDesc} (hts0 : ts[0]? = some t) (hts1 : ts[1]? = some u) (ht : P.underlying t = some (.slice e)) (hu : P.underlying u = some du) (hnu : ∀ k, du ≠ .int k)
    (hi : P.info? e = some i) {a : Addr} {sLen sCap n : Nat} {x : Value} {news : List Value} {w' : World} (hn : (Builtin.lenOf x).run P w = .ok n w)
    (hnw : (Builtin.firstCells i.size n x).run P w = .ok news.toArray w) (hg : sLen + n ≤ sCap) (hst : (storeCells (a.add (sLen * i.size)) news).run P w = .ok () w') :
    (Builtin.append_ ts ty #[.slice (some a) sLen sCap, x]).run P w = .ok (.slice (some a) (sLen + n) sCap) w' := by
  unfold Builtin.append_
  simp only [hts0, hts1, List.getElem?_toArray, List.getElem?_cons_zero, List.getElem?_cons_succ]
  simp only [Sem.run_bind, run_underlying ht, Result.andThen_ok, sizeOf, typeInfo, run_program, hi, Sem.run_pure, run_underlying hu]
  cases du <;> first
    | (exact absurd rfl (hnu _))
    | (simp [hg, hn, hnw, hst])

theorem run_append_zero {ts : Array TypeId} {t u ty e : TypeId} {i : TypeInfo} {du : TypeDesc} (hts0 : ts[0]? = some t) (hts1 : ts[1]? = some u) (ht : P.underlying t = some (.slice e)) (hu : P.underlying u = some du) (hnu : ∀ k, du ≠ .int k)
    (hi : P.info? e = some i) {base : Option Addr} {sLen sCap : Nat} {x : Value} (hn : (Builtin.lenOf x).run P w = .ok 0 w)
    (hnw : (Builtin.firstCells i.size 0 x).run P w = .ok #[] w) (hg : sLen ≤ sCap) :
    (Builtin.append_ ts ty #[.slice base sLen sCap, x]).run P w = .ok (.slice base sLen sCap) w := by
  unfold Builtin.append_
  simp only [hts0, hts1, List.getElem?_toArray, List.getElem?_cons_zero, List.getElem?_cons_succ]
  simp only [Sem.run_bind, run_underlying ht, Result.andThen_ok, sizeOf, typeInfo, run_program, hi, Sem.run_pure, run_underlying hu]
  cases du <;> first
    | (exact absurd rfl (hnu _))
    | (cases base <;> simp [hg, hn, hnw, storeCells])

theorem row_cell (t : TypeId) (size k : Nat) (cs : List AV) (z : List AV) (i : Nat) (hi : i < cs.length) :
    ({ t, row := true, sz := size, n := k, z, c := Blk.putAll .nil 0 cs } : Blk).cell i = (cs[i]?).getD .dead := by
  unfold Blk.cell
  simp only [get_putAll]
  rw [if_pos ⟨Nat.zero_le _, by omega⟩]
  simp [hi]

/-- What was grown: a row of its own. -/
theorem grown_good {e : TypeId} {i : TypeInfo} {z : Value} {sLen sCap n : Nat} {os ns : List AV} {olds news : List Value} (hr : HR m h w) (hol : VL m os olds) (hnl : VL m ns news)
    (ho : os.length = sLen * i.size) (hn : ns.length = n * i.size) (h63 : sLen + n ≤ 9223372036854775807) (hzl : z.cells.size = i.size) :
    let cap := grownCap w (sLen + n) sCap e
    let m' := m.add h.next (w.heap.size, cap)
    let w' := w.drew.alloc (.cells (olds.toArray ++ news.toArray ++ Builtin.zeroCells z.cells (cap - (sLen + n))) e)
    m.le m' ∧ V m' (.sl h.next 0 (sLen + n) none) (.slice (some ⟨w.heap.size, 0, none⟩) (sLen + n) cap) ∧
      HR m' (h.alloc (.blk { t := e, row := true, sz := i.size, n := (sLen + n) * i.size, z := [], c := Blk.putAll .nil 0 (os ++ ns) })) w' := by
  intro cap m' w'
  have hge : sLen + n ≤ cap := grownCap_ge w (sLen + n) sCap e
  have hcm : cap ≤ maxLen := grownCap_le_maxLen w (sLen + n) sCap e (by unfold maxLen; omega)
  have hl := VL_append hol hnl
  have hlen := VL_length hl
  have hd : HR m h w.drew := hr.same rfl
  refine ⟨hr.le_add _, ?_, ?_⟩
  · simp only [V]
    refine ⟨by simp [m'], cap, by simp [m'], hge, fun k e => (by cases e), fun _ _ => by simp [m']⟩
  · refine hd.alloc _ _ _ ?_
    refine ⟨_, heap_alloc_new w.drew _, ?_, ?_, ?_⟩
    · simp [size_zeroCells, Nat.add_mul]; rw [← VL_length hol, ← VL_length hnl] at *; omega
    · intro k hk
      have hk' : k < (os ++ ns).length := by simp only [List.length_append, ho, hn, ← Nat.add_mul]; exact hk
      rw [row_cell _ _ _ _ _ _ hk']
      obtain ⟨v, h1, h2⟩ := VL_get hl k (os ++ ns)[k] (by simp)
      refine ⟨v, ?_, ?_⟩
      · have hk2 : k < (olds ++ news).length := by rw [hlen]; exact hk'
        rw [Array.getElem?_append_left (by simpa using hk2)]
        simpa using h1
      · rw [List.getElem?_eq_getElem hk', Option.getD_some]
        exact V.mono (hr.le_add _) _ _ h2
    · intro _
      refine ⟨?_, hcm, Nat.mul_le_mul_right _ hge⟩
      have e1 := VL_length hol
      have e2 := VL_length hnl
      simp only [Array.size_append, List.size_toArray, size_zeroCells, hzl, e1, e2, ho, hn, ← Nat.add_mul]
      refine Nat.le_of_eq ?_
      congr 1
      omega
end
end Go.AM
