/-
  A part of the proof of QueryValues (the machine on named data, and the contracts of the functions that the law reaches): AmDraw5 AmDraw6 AmDraw7 AmDraw8 AmIso AmIso2 AmIso3 AmEq.
-/
import Derived.Test.YtholilpmihngaaaGreatDoorAmE
set_option linter.all false
set_option linter.unusedVariables false
set_option linter.unusedSimpArgs false
set_option linter.unusedSectionVars false
namespace Go.AM
open Go
variable [O : Orc]

/-! ## Equal answers -/
theorem eqV_sound {u v : Value} (h : eqV u v = true) : u = v := by
  unfold eqV at h
  split at h
  · rename_i a b
    cases a <;> cases b <;> simp_all
  · simp only [Bool.and_eq_true, decide_eq_true_eq, Nat.beq_eq] at h
    rw [h.1, h.2]
  · simp only [Bool.and_eq_true, decide_eq_true_eq, Nat.beq_eq] at h
    rw [h.1, h.2]
  · rfl
  · simp only [Bool.and_eq_true, Nat.beq_eq] at h
    rw [h.1, h.2]
  · rfl
  · rfl
  · rfl
  · rename_i a b
    simp only [decide_eq_true_eq] at h
    have e : a.data.toList = b.data.toList := (List.map_inj_right (f := UInt8.toNat) (fun x y hxy => UInt8.toNat_inj.1 hxy)).1 h
    have e2 : a.data = b.data := Array.toList_inj.1 e
    have e3 : a = b := by cases a; cases b; simp_all
    rw [e3]
  · cases h

mutual
theorem eqA_sound {m : Env} : ∀ (a b : AV) (x : Value), eqA a b = true → V m b x → V m a x := by
  intro a b x h hv
  unfold eqA at h
  split at h <;> (try (cases h; done))
  · simp [V]
  · rw [eqV_sound h]; exact hv
  · simp only [Bool.and_eq_true, Nat.beq_eq] at h
    rw [h.1, h.2]; exact hv
  · simp only [Bool.and_eq_true, Nat.beq_eq] at h
    obtain ⟨⟨⟨rfl, rfl⟩, rfl⟩, h4⟩ := h
    split at h4
    · exact hv
    · simp only [Nat.beq_eq] at h4
      subst h4
      exact hv
    · cases h4
  · rw [Nat.beq_eq] at h
    rw [h]; exact hv
  · simp only [V] at hv ⊢
    obtain ⟨vs, e, hl⟩ := hv
    exact ⟨vs, e, eqAs_sound _ _ _ h hl⟩
  · simp only [Bool.and_eq_true, Nat.beq_eq] at h
    simp only [V] at hv ⊢
    obtain ⟨v, e, hl⟩ := hv
    exact ⟨v, by rw [h.1]; exact e, eqA_sound _ _ v h.2 hl⟩
  · simp only [Bool.and_eq_true] at h
    rw [eqTy_eq h.1, eqSX_eq h.2]; exact hv
  · simp only [V] at hv ⊢
    obtain ⟨b, o, e, hc⟩ := hv
    exact ⟨b, o, e, eqAs_cells _ _ b o h hc⟩
  · simp only [Bool.and_eq_true, Nat.beq_eq] at h
    simp only [V] at hv ⊢
    obtain ⟨⟨rfl, h2⟩, h3⟩ := h
    cases eq_of_beq h2
    obtain ⟨a, c, e, g1, g2, g3, g4⟩ := hv
    have hlen := eqRs_length _ _ h3
    refine ⟨a, c, by rw [hlen]; exact e, by rw [hlen]; exact g1, by rw [hlen]; exact g2, g3, ?_⟩
    rcases g4 with g4 | ⟨b, o, e2, g5⟩
    · exact .inl g4
    · exact .inr ⟨b, o, e2, eqRs_cells _ _ b _ o h3 g5⟩
  · simp only [Bool.and_eq_true, Nat.beq_eq] at h
    rw [h.1.1, eqTys_eq h.1.2, eqSX_eq h.2]; exact hv
theorem eqAs_sound {m : Env} : ∀ (as bs : List AV) (xs : List Value), eqA.eqAs as bs = true → VL m bs xs → VL m as xs
  | [], [], xs, _, hv => hv
  | a :: as, b :: bs, xs, h, hv => by
    simp only [eqA.eqAs, Bool.and_eq_true] at h
    simp only [VL] at hv ⊢
    obtain ⟨v, us, e, h1, h2⟩ := hv
    exact ⟨v, us, e, eqA_sound a b v h.1 h1, eqAs_sound as bs us h.2 h2⟩
  | [], _ :: _, _, h, _ => by simp [eqA.eqAs] at h
  | _ :: _, [], _, h, _ => by simp [eqA.eqAs] at h
theorem eqAs_cells {m : Env} : ∀ (as bs : List AV) (b o : Nat), eqA.eqAs as bs = true → VC m b o bs → VC m b o as
  | [], [], _, _, _, hv => hv
  | x :: as, y :: bs, b, o, h, hv => by
    simp only [eqA.eqAs, Bool.and_eq_true] at h
    simp only [VC] at hv ⊢
    obtain ⟨⟨v, h1, h2⟩, h3⟩ := hv
    exact ⟨⟨v, h1, eqA_sound x y v h.1 h2⟩, eqAs_cells as bs b (o + 1) h.2 h3⟩
  | [], _ :: _, _, _, h, _ => by simp [eqA.eqAs] at h
  | _ :: _, [], _, _, h, _ => by simp [eqA.eqAs] at h
theorem eqAs_length : ∀ (as bs : List AV), eqA.eqAs as bs = true → as.length = bs.length
  | [], [], _ => rfl
  | x :: as, y :: bs, h => by
    simp only [eqA.eqAs, Bool.and_eq_true] at h
    simp [eqAs_length as bs h.2]
  | [], _ :: _, h => by simp [eqA.eqAs] at h
  | _ :: _, [], h => by simp [eqA.eqAs] at h
theorem eqRs_length : ∀ (as bs : List (List AV)), eqA.eqRs as bs = true → as.length = bs.length
  | [], [], _ => rfl
  | x :: as, y :: bs, h => by
    simp only [eqA.eqRs, Bool.and_eq_true] at h
    simp [eqRs_length as bs h.2]
  | [], _ :: _, h => by simp [eqA.eqRs] at h
  | _ :: _, [], h => by simp [eqA.eqRs] at h
theorem eqRs_cells {m : Env} : ∀ (as bs : List (List AV)) (b sz o : Nat), eqA.eqRs as bs = true → VR m b sz o bs → VR m b sz o as
  | [], [], _, _, _, _, hv => hv
  | x :: as, y :: bs, b, sz, o, h, hv => by
    simp only [eqA.eqRs, Bool.and_eq_true] at h
    simp only [VR] at hv ⊢
    exact ⟨by rw [eqAs_length _ _ h.1]; exact hv.1, eqAs_cells _ _ b o h.1 hv.2.1, eqRs_cells as bs b sz (o + sz) h.2 hv.2.2⟩
  | [], _ :: _, _, _, _, h, _ => by simp [eqA.eqRs] at h
  | _ :: _, [], _, _, _, h, _ => by simp [eqA.eqRs] at h
end

theorem cnt_below {g : Nat → Bool} {j : Nat} : ∀ {n : Nat}, j ≤ n → cnt (fun i => g i && decide (i < j)) n = cnt g j
  | 0, h => by rw [Nat.le_zero.1 h]; rfl
  | n + 1, h => by
    rcases Nat.eq_or_lt_of_le h with e | e
    · subst e
      exact cnt_congr fun i hi => by simp [hi]
    · simp only [cnt]
      have : ¬ n < j := by omega
      have e2 := cnt_below (g := g) (j := j) (n := n) (by omega)
      simp [this, e2]

section
variable {P : Program} {G : Nat → Option (List AV)} {call : CallF} {ops : Array Oper} {b nt : Nat} {f0 : Nat → AV} {p : Plan} {j : Nat} {o : Oper}

noncomputable def loN (ops : Array Oper) (j : Nat) : Nat := cnt (fun i => actN ops i && hasBit (ancA ops j) i) ops.size
noncomputable def hiN (ops : Array Oper) (j : Nat) : Nat := cnt (fun i => actN ops i && Bool.not (hasBit (ancA ops i) j)) ops.size

theorem loA_eq : loA (rowsA ops) (rowOf ops j o) = loN ops j := by
  unfold loA loN
  rw [count_rows]
  refine cnt_congr fun i hi => ?_
  unfold actN
  cases ops[i]? <;> rfl
theorem hiA_eq : hiA (rowsA ops) (rowOf ops j o) = hiN ops j := by
  unfold hiA hiN
  rw [count_rows]
  refine cnt_congr fun i hi => ?_
  unfold actN
  cases ops[i]? <;> rfl

/-- A read, wherever it may stand. -/
def RDall (P : Program) (G : Nat → Option (List AV)) (call : CallF) (ops : Array Oper) (b : Nat) (f0 : Nat → AV) (p : Plan) (j : Nat) (o : Oper) : Prop :=
  ∀ k, loN ops j ≤ k → k ≤ hiN ops j → k ≤ kU ops ops.size → ∃ (S h' : AHeap) (v : AV), S.next = b + j ∧ S.lim = farA b ∧ (∀ id, S.t.get id = mixG b p.nw (hasBit (ancA ops j)) (p.ch k) id) ∧
    stepA P call (evF G (tvN f0 ops p.val (fun _ => true) j)) S o = some (v, h') ∧ ∀ m x, V m v x → V m (p.val j) x

theorem RD_all (hok : pairsOK (rowsA ops) = true) {d : DS} (hat : At ops f0 ops.size d p) (ho : ops[j]? = some o) (hrd : d.reads.all (readOK P G call b (rowsA ops) d.news d.past) = true) (h : RD P G call ops b f0 d p j o) :
    RDall P G call ops b f0 p j o := by
  have hj : j < ops.size := (Array.getElem?_eq_some_iff.1 ho).1
  obtain ⟨⟨tm, h1, h2⟩, S, h3, h4, h5, h', h6⟩ := h
  intro k hlo hhi hK
  have hr := List.all_eq_true.1 hrd _ h1
  unfold readOK at hr
  simp only [loA_eq, hiA_eq, Bool.or_eq_true, Nat.ble_eq] at hr
  rcases hr with hr | hr
  · have e1 : loN ops j ≤ kU ops j := by
      unfold loN kU
      rw [← cnt_below (g := actN ops) (Nat.le_of_lt hj)]
      refine cnt_mono fun i hi e => ?_
      simp only [Bool.and_eq_true] at e
      simp [e.1, anc_lt hok hj e.2]
    have e2 : kU ops j ≤ hiN ops j := by
      unfold hiN kU
      rw [← cnt_below (g := actN ops) (Nat.le_of_lt hj)]
      refine cnt_mono fun i hi e => ?_
      simp only [Bool.and_eq_true, decide_eq_true_eq] at e
      have : hasBit (ancA ops i) j = false := by
        cases hb : hasBit (ancA ops i) j with
        | false => rfl
        | true => have := anc_lt hok hi hb; omega
      simp [e.1, this]
    have : k = kU ops j := by omega
    subst this
    exact ⟨S, h', p.val j, h3, h4, h5, h6, fun _ _ hv => hv⟩
  · have hp : d.past[k]? = some (p.ch k) := hat.past k hK
    have hmem : p.ch k ∈ (d.past.take (Nat.succ (hiN ops j))).drop (loN ops j) := by
      refine List.mem_of_getElem? (i := k - loN ops j) ?_
      rw [List.getElem?_drop, List.getElem?_take, show loN ops j + (k - loN ops j) = k by omega, if_pos (by omega), hp]
    have := List.all_eq_true.1 hr _ hmem
    unfold readAt at this
    simp only at this
    split at this
    · rename_i v hh hs
      refine ⟨viewA b (rowOf ops j o) (farA b) d.news (p.ch k).1 (p.ch k).2, hh, v, rfl, rfl, fun id => ?_, ?_, fun m x hv => eqA_sound _ _ _ this hv⟩
      · exact addNews_mix (h := (p.ch k).1) (n := ops.size) hat.news (fun i h3 _ => Nat.lt_trans (anc_lt hok hj h3) hj) id
      · have hev : St.ev G tm = evF G (tvN f0 ops p.val (fun _ => true) j) := by unfold St.ev; rw [h2]
        rw [← hev]
        exact hs
    · cases this
end
end Go.AM
namespace Go.AM
open Go
variable [O : Orc]

theorem wantedA_congr {ops : Array Oper} {tv tv' : Nat → AV} {o : Oper} (h : ∀ t ∈ seesA ops o, tv t = tv' t) : wantedA ops tv o = wantedA ops tv' o := by
  unfold wantedA
  cases hg : o.guard with
  | none => rfl
  | some gw =>
    obtain ⟨g, want⟩ := gw
    simp only
    cases hd : (ops[g]?).bind (·.dst) with
    | none => rfl
    | some d =>
      have : tv d = tv' d := h d (by unfold seesA; rw [hg]; simp [hd])
      simp only [this]
theorem evF_congr {G : Nat → Option (List AV)} {ops : Array Oper} {tv tv' : Nat → AV} {o : Oper} (h : ∀ t ∈ seesA ops o, tv t = tv' t) : ∀ x ∈ o.op.operands, evF G tv x = evF G tv' x := by
  intro x hx
  cases x with
  | tmp t => exact h t (List.mem_append_right _ (mem_tmpsOf.2 (by simpa using hx)))
  | _ => rfl

section
variable (df : List Deferred) (G : Nat → Option (List AV)) (ops : Array Oper) (b nt : Nat) (f0 : Nat → AV) (p : Plan) (m0 : Env)

noncomputable def Plan.at (p : Plan) (ops : Array Oper) (R : Nat → Bool) : AHeap × Nat := p.ch (kR ops R)

/-- Where the operations in R are done. -/
structure Inv (R : Nat → Bool) (m : Env) (a : Act) (w : World) : Prop where
  size : a.tmps.size = nt
  tm : ∀ t, V m (tvN f0 ops p.val R ops.size t) (a.tmps.getD t undef)
  defers : a.defers = df
  hg : HG m (mixG b p.nw R (p.at ops R)) w
  dom : ∀ id, m.dom id → id < (p.at ops R).1.lim
  free : ∀ i, i < ops.size → (R i = false ∨ (actN ops i = false ∧ p.nw i = none)) → ¬ m.dom (b + i)
  clean : ∀ i, i < ops.size → hasBit (p.at ops R).2 i = false → (p.at ops R).1.t.get (b + i) = none
  acts : ∀ i, i < ops.size → actN ops i = true → R i = true → hasBit (p.at ops R).2 i = true
  res : ∀ id, m0.res id → ¬ m.dom id ∧ id < b
  resEq : m.res = m0.res
  le : m0.le m
  g : GOK m G
  lim : b + ops.size ≤ (p.at ops R).1.lim ∧ (p.at ops R).1.lim ≤ farA b
end

def setR (R : Nat → Bool) (j : Nat) (i : Nat) : Bool := if i = j then true else R i

section
variable {df : List Deferred} {P : Program} {G : Nat → Option (List AV)} {call : CallF} {ops : Array Oper} {b nt : Nat} {f0 : Nat → AV} {p : Plan} {j : Nat} {o : Oper} {m0 m m' : Env} {R : Nat → Bool} {a : Act} {w w' : World}

theorem kR_set (ho : ops[j]? = some o) (hR : R j = false) : kR ops (setR R j) = kR ops R + (if isAct o = true then 1 else 0) := by
  have hj : j < ops.size := (Array.getElem?_eq_some_iff.1 ho).1
  have ha : actN ops j = isAct o := by simp [actN, ho]
  unfold kR
  by_cases h : isAct o = true
  · rw [if_pos h]
    refine cnt_insert (j := j) (by simp [hR]) (by simp [ha, h, setR]) (fun i hi => by simp [setR, hi]) hj
  · rw [if_neg h, Nat.add_zero]
    refine cnt_congr fun i hi => ?_
    by_cases e : i = j
    · subst e
      simp [ha, h]
    · simp [setR, e]

theorem mixG_sub {nw : Nat → Option AObj} {c : AHeap × Nat} {X Y : Nat → Bool} (h : ∀ i, X i = true → Y i = true) (hY : ∀ i, Y i = true → i < ops.size) (hclean : ∀ i, i < ops.size → hasBit c.2 i = false → c.1.t.get (b + i) = none)
    (id : Nat) (ob : AObj) (e : mixG b nw X c id = some ob) : mixG b nw Y c id = some ob := by
  unfold mixG at *
  by_cases hx : b ≤ id ∧ X (id - b) = true ∧ hasBit c.2 (id - b) = false ∧ (nw (id - b)).isSome = true
  · rw [if_pos hx] at e
    rw [if_pos ⟨hx.1, h _ hx.2.1, hx.2.2⟩]
    exact e
  · rw [if_neg hx] at e
    rw [if_neg]
    · exact e
    · rintro ⟨h1, h2, h3, h4⟩
      have := hclean (id - b) (hY _ h2) h3
      rw [show b + (id - b) = id by omega, e] at this
      cases this

/-- What temporaries hold, with one operation more. -/
theorem tv_set (hok : pairsOK (rowsA ops) = true) (hc : Closed ops R) (ho : ops[j]? = some o) (hR : R j = false) (t : Nat) :
    tvN f0 ops p.val (setR R j) ops.size t = if o.dst = some t then p.val j else tvN f0 ops p.val R ops.size t := by
  have hj : j < ops.size := (Array.getElem?_eq_some_iff.1 ho).1
  by_cases e : o.dst = some t
  · rw [if_pos e, tvN_stop (j := j + 1) (by omega)]
    · simp [tvN, setR, ho, e]
    · intro i h1 h2 h3
      have hi := Array.getElem?_eq_getElem h2
      rw [hi] at h3
      have := pair_anc hok ho hi (by omega) (.inr (.inr (.inr ⟨t, e, h3⟩)))
      have hne : i ≠ j := by omega
      simp only [setR, if_neg hne]
      cases hri : R i with
      | false => rfl
      | true => have := anc_closed hc hi hri this; rw [hR] at this; cases this
  · rw [if_neg e]
    refine tvN_congr (fun i hi h3 => ?_) fun _ _ => rfl
    have hne : i ≠ j := by rintro rfl; rw [ho] at h3; exact e h3
    simp [setR, hne]

/-- What j sees stands. -/
theorem tv_sees (hok : pairsOK (rowsA ops) = true) (hc : Closed ops R) (ho : ops[j]? = some o) (hR : R j = false) (hanc : ∀ i, hasBit (ancA ops j) i = true → R i = true) {t : Nat} (ht : t ∈ seesA ops o) :
    tvN f0 ops p.val R ops.size t = tvN f0 ops p.val (fun _ => true) j t := by
  have hj : j < ops.size := (Array.getElem?_eq_some_iff.1 ho).1
  rw [tvN_stop (j := j) (by omega)]
  · refine tvN_congr (fun i hi h3 => ?_) fun _ _ => rfl
    have hi' := Array.getElem?_eq_getElem (show i < ops.size by omega)
    rw [hi'] at h3
    exact hanc i (pair_anc hok hi' ho hi (.inr (.inl ⟨t, h3, ht⟩)))
  · intro i h1 h2 h3
    by_cases e : i = j
    · rw [e]; exact hR
    · have hi' := Array.getElem?_eq_getElem h2
      rw [hi'] at h3
      have := pair_anc hok ho hi' (by omega) (.inr (.inr (.inl ⟨t, h3, ht⟩)))
      cases hri : R i with
      | false => rfl
      | true => have := anc_closed hc hi' hri this; rw [hR] at this; cases this

theorem tmps_put {t : Nat} {x : Value} (hlt : ∀ d, o.dst = some d → d < a.tmps.size) : (a.put o.dst x).tmps.getD t undef = if o.dst = some t then x else a.tmps.getD t undef := by
  cases hd : o.dst with
  | none => simp [Act.put]
  | some d =>
    have := hlt d hd
    simp only [Act.put, Option.some.injEq]
    by_cases e : d = t
    · subst e
      simp [Array.getD, this]
    · rw [if_neg e]
      simp only [Array.getD_eq_getD_getElem?]
      rw [Array.getElem?_setIfInBounds_ne e]

/-- An operation that is passed over. -/
theorem Inv.pass (hi : Inv df G ops b nt f0 p m0 R m a w) (hok : pairsOK (rowsA ops) = true) (hc : Closed ops R) (ho : ops[j]? = some o) (hR : R j = false) (hlt : ∀ d, o.dst = some d → d < nt) (hv : p.val j = .sc undef) (hnw : p.nw j = none)
    (hch : (isAct o = false) ∨ (isAct o = true ∧ p.ch (kR ops R + 1) = ((p.at ops R).1, Nat.lor (p.at ops R).2 (bit j)))) : Inv df G ops b nt f0 p m0 (setR R j) m (a.put o.dst undef) w := by
  have hj : j < ops.size := (Array.getElem?_eq_some_iff.1 ho).1
  have hat : actN ops j = isAct o := by simp [actN, ho]
  have hc1 : (p.at ops (setR R j)).1 = (p.at ops R).1 := by
    unfold Plan.at
    rw [kR_set ho hR]
    rcases hch with h | ⟨h, e⟩
    · simp [h]
    · rw [if_pos h, e]; rfl
  have hb : ∀ i, i ≠ j → hasBit (p.at ops (setR R j)).2 i = hasBit (p.at ops R).2 i := by
    intro i hne
    unfold Plan.at
    rw [kR_set ho hR]
    rcases hch with h | ⟨h, e⟩
    · simp [h]
    · rw [if_pos h, e]
      simp only [hasBit_lor, hasBit_bit, Ne.symm hne, decide_false, Bool.or_false]
      rfl
  have hmono : ∀ i, hasBit (p.at ops (setR R j)).2 i = false → hasBit (p.at ops R).2 i = false := by
    intro i h
    by_cases e : i = j
    · subst e
      revert h
      unfold Plan.at
      rw [kR_set ho hR]
      rcases hch with h | ⟨h, e⟩
      · simp [h]
      · rw [if_pos h, e]
        simp only [hasBit_lor, hasBit_bit]
        simp
    · rw [← hb i e]; exact h
  have hmix : ∀ id, mixG b p.nw (setR R j) (p.at ops (setR R j)) id = mixG b p.nw R (p.at ops R) id := by
    intro id
    unfold mixG
    rw [hc1]
    by_cases e : id - b = j
    · rw [e, hnw]
      simp
    · simp only [setR, if_neg e, hb _ e]
  refine ⟨by simp [Act.put]; split <;> simp [hi.size], fun t => ?_, ?_, ?_, ?_, fun i h1 h2 => ?_, fun i h1 h2 => ?_, fun i h1 h2 h3 => ?_, hi.res, hi.resEq, hi.le, hi.g, ?_⟩
  · rw [tv_set hok hc ho hR, tmps_put (by rw [hi.size]; exact hlt)]
    split
    · rw [hv]; simp [V]
    · exact hi.tm t
  · simp [Act.put]; split <;> exact hi.defers
  · exact hi.hg.sub fun id ob e => by rw [← hmix id]; exact e
  · rw [hc1]; exact hi.dom
  · by_cases e : i = j
    · subst e; exact hi.free i h1 (.inl hR)
    · simp only [setR, if_neg e] at h2
      exact hi.free i h1 h2
  · rw [hc1]; exact hi.clean i h1 (hmono i h2)
  · by_cases e : i = j
    · subst e
      rcases hch with h | ⟨h, e⟩
      · rw [hat, h] at h2; cases h2
      · unfold Plan.at
        rw [kR_set ho hR, if_pos h, e]
        simp only [hasBit_lor, hasBit_bit]
        simp
    · simp only [setR, if_neg e] at h3
      rw [hb i e]
      exact hi.acts i h1 h2 h3
  · rw [hc1]; exact hi.lim

/-- An operation that is done. -/
theorem Inv.did (hi : Inv df G ops b nt f0 p m0 R m a w) (hok : pairsOK (rowsA ops) = true) (hc : Closed ops R) (ho : ops[j]? = some o) (hR : R j = false) (hlt : ∀ d, o.dst = some d → d < nt) {S h' : AHeap} {res : Nat → Prop} {x : Value}
    (hle : (m.hide (mixG b p.nw R (p.at ops R)) S.t.get w res).le m') (hr : HR m' h' w') (hv : V m' (p.val j) x)
    (hA : ∀ id ob, mixG b p.nw (setR R j) (p.at ops (setR R j)) id = some ob → afterG S h' (mixG b p.nw R (p.at ops R)) id = some ob)
    (hB : ∀ id, m'.dom id → id < (p.at ops (setR R j)).1.lim)
    (hC : ∀ i, i < ops.size → (setR R j i = false ∨ (actN ops i = false ∧ p.nw i = none)) → ¬ m'.dom (b + i))
    (hD : ∀ i, i < ops.size → hasBit (p.at ops (setR R j)).2 i = false → (p.at ops (setR R j)).1.t.get (b + i) = none)
    (hE : ∀ i, i < ops.size → actN ops i = true → setR R j i = true → hasBit (p.at ops (setR R j)).2 i = true)
    (hres : ∀ id, m0.res id → res id)
    (hF : b + ops.size ≤ (p.at ops (setR R j)).1.lim ∧ (p.at ops (setR R j)).1.lim ≤ farA b) :
    Inv df G ops b nt f0 p m0 (setR R j) { m' with F := m.F, res := m.res } (a.put o.dst x) w' := by
  have hw : m.wle { m' with F := m.F, res := m.res } := ⟨hle.dom, hle.mu, hle.E, hle.R, hle.io⟩
  have hw' : m'.wle { m' with F := m.F, res := m.res } := ⟨fun _ h => h, fun _ _ => rfl, fun _ _ h => h, rfl, rfl⟩
  refine ⟨by simp [Act.put]; split <;> simp [hi.size], fun t => ?_, ?_, (hi.hg.outof hle hr m.res).sub hA, hB, hC, hD, hE, fun id hd => ⟨?_, (hi.res id hd).2⟩, hi.resEq, ?_, hi.g.wmono hw, hF⟩
  · rw [tv_set hok hc ho hR, tmps_put (by rw [hi.size]; exact hlt)]
    split
    · exact V.wmono hw' _ _ hv
    · exact V.wmono hw _ _ (hi.tm t)
  · simp [Act.put]; split <;> exact hi.defers
  · exact (hr.res id (hle.res id (hres id hd))).1
  · exact ⟨hi.le.towle.trans hw, hi.le.F, fun id hd => by rw [hi.resEq]; exact hd⟩
end
end Go.AM
namespace Go.AM
open Go
variable [O : Orc]

section
variable {df : List Deferred} {P : Program} {G : Nat → Option (List AV)} {call : CallF} {ops : Array Oper} {b nt : Nat} {f0 : Nat → AV} {p : Plan} {j : Nat} {o : Oper} {m0 m m' : Env} {R : Nat → Bool} {a : Act} {w w' : World}

theorem kR_act (hok : pairsOK (rowsA ops) = true) (hc : Closed ops R) (ho : ops[j]? = some o) (hR : R j = false) (hanc : ∀ i, hasBit (ancA ops j) i = true → R i = true) (hact : isAct o = true) : kR ops R = kU ops j := by
  have hj : j < ops.size := (Array.getElem?_eq_some_iff.1 ho).1
  unfold kR kU
  rw [← cnt_below (g := actN ops) (Nat.le_of_lt hj)]
  refine cnt_congr fun i hi => ?_
  have hi' := Array.getElem?_eq_getElem hi
  cases hai : actN ops i with
  | false => rfl
  | true =>
    have hai' : isAct ops[i] = true := by simpa [actN, hi] using hai
    simp only [Bool.true_and]
    rcases Nat.lt_trichotomy i j with h | h | h
    · rw [hanc i (pair_anc hok hi' ho h (.inl ⟨hai', hact⟩))]
      simp [h]
    · subst h
      simp [hR]
    · have := pair_anc hok ho hi' h (.inl ⟨hact, hai'⟩)
      have hn : ¬ i < j := by omega
      simp only [hn, decide_false]
      cases hri : R i with
      | false => rfl
      | true => have := anc_closed hc hi' hri this; rw [hR] at this; cases this

theorem kR_lo (hanc : ∀ i, hasBit (ancA ops j) i = true → R i = true) : loN ops j ≤ kR ops R :=
  cnt_mono fun i _ e => by
    simp only [Bool.and_eq_true] at e ⊢
    exact ⟨e.1, hanc i e.2⟩
theorem kR_hi (hc : Closed ops R) (hR : R j = false) : kR ops R ≤ hiN ops j :=
  cnt_mono fun i hi e => by
    simp only [Bool.and_eq_true, Bool.not_eq_true'] at e ⊢
    refine ⟨e.1, ?_⟩
    cases hb : hasBit (ancA ops i) j with
    | false => rfl
    | true => have := anc_closed hc (Array.getElem?_eq_getElem hi) e.2 hb; rw [hR] at this; cases this
theorem kR_top : kR ops R ≤ kU ops ops.size :=
  cnt_mono fun i _ e => by
    simp only [Bool.and_eq_true] at e
    exact e.1

/-- The names that an operation may not take. -/
def keep (ops : Array Oper) (p : Plan) (b : Nat) (m0 : Env) (R : Nat → Bool) (j lim L : Nat) (id : Nat) : Prop :=
  m0.res id ∨ (∃ i, i < ops.size ∧ i ≠ j ∧ (R i = false ∨ (actN ops i = false ∧ p.nw i = none)) ∧ id = b + i) ∨ (lim ≤ id ∧ id < L)

theorem Inv.view (hi : Inv df G ops b nt f0 p m0 R m a w) (ho : ops[j]? = some o) (hR : R j = false) {S : AHeap} (h1 : S.next = b + j) (h2 : (p.at ops R).1.lim ≤ S.lim)
    (hsub : ∀ id ob, S.t.get id = some ob → mixG b p.nw R (p.at ops R) id = some ob) :
    HR (m.hide (mixG b p.nw R (p.at ops R)) S.t.get w (keep ops p b m0 R j (p.at ops R).1.lim S.lim)) S w := by
  have hj : j < ops.size := (Array.getElem?_eq_some_iff.1 ho).1
  have hl := hi.lim.1
  refine hi.hg.into hsub (fun id hd => ⟨?_, ?_⟩) (by omega) fun id hd => ?_
  · rintro rfl
    rw [h1] at hd
    exact hi.free j hj (.inl hR) hd
  · have := hi.dom id hd
    omega
  · rcases hd with hd | ⟨i, k1, k2, k3, rfl⟩ | ⟨k1, k2⟩
    · obtain ⟨a1, a2⟩ := hi.res id hd
      exact ⟨a1, by omega, by omega⟩
    · exact ⟨hi.free i k1 k3, by omega, by omega⟩
    · refine ⟨fun hd => ?_, by omega, k2⟩
      have := hi.dom id hd
      omega

theorem Inv.evs (hi : Inv df G ops b nt f0 p m0 R m a w) {g : Nat → Option AObj} {s : Nat → Option AObj} {res : Nat → Prop} : ∀ x, V (m.hide g s w res) (evF G (tvN f0 ops p.val R ops.size) x) (a.eval x) :=
  evF_ok (hi.g.wmono (m.hide_wle _ _ _ _)) fun t => V.wmono (m.hide_wle _ _ _ _) _ _ (hi.tm t)

omit O in
theorem kU_le {i n : Nat} (h : i < n) : kU ops (i + 1) ≤ kU ops n := by
  have : ∀ n, i + 1 ≤ n → cnt (actN ops) (i + 1) ≤ cnt (actN ops) n := by
    intro n
    induction n with
    | zero => intro h; omega
    | succ n ih =>
      intro h
      rcases Nat.eq_or_lt_of_le h with e | e
      · rw [e]; exact Nat.le_refl _
      · have := ih (by omega)
        simp only [cnt] at this ⊢
        omega
  exact this n h
/-- ONE OPERATION OF AN OPEN ROW. -/
theorem Inv.step [Rd : Rnd] (hcall : CallRK P G call) (hok : pairsOK (rowsA ops) = true) (hi : Inv df G ops b nt f0 p m0 R m a w) (hc : Closed ops R) (hRn : ∀ i, R i = true → i < ops.size) (ho : ops[j]? = some o) (hR : R j = false)
    (hanc : ∀ i, hasBit (ancA ops j) i = true → R i = true) (hsol : Solid ops b p) (hrow : RowOK P G call ops b nt f0 (RDall P G call ops b f0 p j o) p j o) {K : Act → World → Prop} {Q : Exit → Act → World → Prop}
    (hK : ∀ m' a' w', Inv df G ops b nt f0 p m0 (setR R j) m' a' w' → K a' w') : wpOpIn (fen Rd.ro) 0 P ops Q j K a w := by
  have hj : j < ops.size := (Array.getElem?_eq_some_iff.1 ho).1
  have haj : actN ops j = isAct o := by simp [actN, ho]
  obtain ⟨hlt, bw, hw, hcs⟩ := hrow
  have hsees : ∀ t ∈ seesA ops o, tvN f0 ops p.val R ops.size t = tvN f0 ops p.val (fun _ => true) j t := fun t ht => tv_sees hok hc ho hR hanc ht
  rw [← wantedA_congr hsees] at hw
  have hwant := wanted_sound hi.g.f hi.tm hw
  have hst : ∀ S, stepA P call (evF G (tvN f0 ops p.val R ops.size)) S o = stepA P call (evF G (tvN f0 ops p.val (fun _ => true) j)) S o := fun S => stepA_congr o (evF_congr hsees)
  have hgm : ∀ {g s : Nat → Option AObj} {res : Nat → Prop}, GOK (m.hide g s w res) G := hi.g.wmono (m.hide_wle _ _ _ _)
  unfold wpOpIn
  simp only [ho, hwant]
  rcases hcs with ⟨rfl, hact, hv, hnw⟩ | ⟨rfl, hact, hv, hnw, hch⟩ | ⟨rfl, hact, hnw, ⟨S, s1, s2, s3, s4⟩, c2, c3, c4⟩ | ⟨rfl, hact, h', s4, hnw, c1, c2⟩ | ⟨rfl, hact, hrd, hnw, hall⟩
  · simp only [Bool.false_eq_true, if_false]
    refine ⟨fun _ _ => trivial, ?_⟩
    exact hK _ _ _ (hi.pass hok hc ho hR hlt hv hnw (.inl hact))
  · simp only [Bool.false_eq_true, if_false]
    refine ⟨fun _ _ => trivial, ?_⟩
    refine hK _ _ _ (hi.pass hok hc ho hR hlt hv hnw (.inr ⟨hact, ?_⟩))
    unfold Plan.at
    rw [kR_act hok hc ho hR hanc hact]
    exact hch
  · -- an act
    simp only [if_true]
    have hk := kR_act hok hc ho hR hanc hact
    have hkU : kU ops j + 1 ≤ kU ops ops.size := by
      have h1 := kU_succ ho
      rw [if_pos hact] at h1
      rw [← h1]
      exact kU_le hj
    have hcR : p.at ops R = p.ch (kU ops j) := by unfold Plan.at; rw [hk]
    have hcR' : p.at ops (setR R j) = p.ch (kU ops j + 1) := by unfold Plan.at; rw [kR_set ho hR, if_pos hact, hk]
    have hsub : ∀ id ob, S.t.get id = some ob → mixG b p.nw R (p.at ops R) id = some ob := by
      intro id ob e
      rw [s3, ← hcR] at e
      exact mixG_sub hanc hRn hi.clean id ob e
    have hr := hi.view ho hR s1 (by rw [s2, hcR]; omega) hsub
    refine (step_sound hcall hi.evs hr hgm (by rw [hst]; exact s4) fun m' x w' h1 h2 h3 => hK _ _ _ (hi.did hok hc ho hR hlt h1 h3 h2 ?_ ?_ ?_ ?_ ?_ (fun id h => .inl h) ?_))
    · intro id ob e
      rw [hcR'] at e
      unfold mixG at e
      split at e
      · rename_i hcond
        obtain ⟨k1, k2, k3, k4⟩ := hcond
        simp only [c2, hasBit_lor, Bool.or_eq_false_iff, hasBit_bit, decide_eq_false_iff_not] at k3
        obtain ⟨⟨k5, k6⟩, k7⟩ := k3
        have hRi : R (id - b) = true := by simpa [setR, Ne.symm k7] using k2
        refine afterG_hid ?_ ?_
        · unfold mixG
          rw [if_pos ⟨k1, hRi, by rw [hcR]; exact k5, k4⟩]
          exact e
        · rw [s3]
          unfold mixG
          rw [if_neg (by rw [k6]; simp)]
          have := hi.clean (id - b) (hRn _ hRi) (by rw [hcR]; exact k5)
          rw [hcR, show b + (id - b) = id by omega] at this
          exact this
      · rcases afterG_cases (S := S) (h' := (p.ch (kU ops j + 1)).1) (g := mixG b p.nw R (p.at ops R)) id with ⟨ob', k1, k2, k3⟩ | k
        · have hx : b ≤ id ∧ id - b < ops.size ∧ p.nw (id - b) = some ob' := by
            unfold mixG at k1
            split at k1
            · rename_i hcd
              exact ⟨hcd.1, hRn _ hcd.2.1, k1⟩
            · rename_i hcd
              rw [s3] at k2
              unfold mixG at k2
              split at k2
              · rename_i hcd2
                rw [k2] at hcd2
                simp at hcd2
              · rw [hcR] at k1
                rw [k1] at k2
                cases k2
          have hng := hsol.ch _ _ _ hkU hx.2.1 hx.2.2
          rw [show b + (id - b) = id by omega] at hng
          rw [hi.hg.apart h1 h3 k1 k2 (live_of (hsol.nw _ _ hx.2.1 hx.2.2)) (live_at hng)] at e
          cases e
        · rw [k]; exact e
    · intro id hd
      rw [hcR']
      exact (h3.next id hd).2
    · intro i k1 k2
      by_cases e : i = j
      · subst e
        rcases k2 with k2 | k2
        · simp [setR] at k2
        · rw [haj, hact] at k2; cases k2.1
      · simp only [setR, if_neg e] at k2
        exact (h3.res _ (h1.res _ (.inr (.inl ⟨i, k1, e, k2, rfl⟩)))).1
    · intro i k1 k2
      rw [hcR'] at k2 ⊢
      simp only [c2, hasBit_lor, Bool.or_eq_false_iff, hasBit_bit, decide_eq_false_iff_not] at k2
      obtain ⟨⟨k5, k6⟩, k7⟩ := k2
      have free : (R i = false ∨ (actN ops i = false ∧ p.nw i = none)) → (p.ch (kU ops j + 1)).1.t.get (b + i) = none := by
        intro hf
        have hnd := (h3.res _ (h1.res _ (.inr (.inl ⟨i, k1, Ne.symm k7, hf, rfl⟩)))).1
        cases hg : (p.ch (kU ops j + 1)).1.t.get (b + i) with
        | none => rfl
        | some y => exact absurd (h3.objL _ _ hg).1 hnd
      cases hRi : R i with
      | false => exact free (.inl hRi)
      | true =>
        cases hai : actN ops i with
        | true =>
          have := hi.acts i k1 hai hRi
          rw [hcR, k5] at this
          cases this
        | false =>
          cases hni : p.nw i with
          | none => exact free (.inr ⟨hai, hni⟩)
          | some ob =>
            refine hi.hg.apart (id := b + i) (o := ob) h1 h3 ?_ ?_ (live_of (hsol.nw _ _ k1 hni)) (live_at (hsol.ch _ _ _ hkU k1 hni))
            · unfold mixG
              rw [show b + i - b = i by omega, if_pos ⟨by omega, hRi, by rw [hcR]; exact k5, by rw [hni]; rfl⟩, hni]
            · rw [s3]
              unfold mixG
              rw [show b + i - b = i by omega, if_neg (by rw [k6]; simp)]
              have := hi.clean i k1 (by rw [hcR]; exact k5)
              rw [hcR] at this
              exact this
    · intro i k1 k2 k3
      rw [hcR']
      simp only [c2, hasBit_lor, Bool.or_eq_true, hasBit_bit, decide_eq_true_eq]
      by_cases e : i = j
      · exact .inr e.symm
      · simp only [setR, if_neg e] at k3
        have := hi.acts i k1 k2 k3
        rw [hcR] at this
        exact .inl (.inl this)
    · rw [hcR']
      have := hi.lim.1
      rw [hcR] at this
      exact ⟨by omega, c4⟩
  · -- no heap is asked
    simp only [if_true]
    have hcR' : p.at ops (setR R j) = p.at ops R := by unfold Plan.at; rw [kR_set ho hR]; simp [hact]
    have hr := hi.view (S := { next := b + j, lim := farA b, t := .nil }) ho hR rfl hi.lim.2 (fun id ob e => by simp at e)
    refine (step_sound hcall hi.evs hr hgm (by rw [hst]; exact s4) fun m' x w' h1 h2 h3 => hK _ _ _ (hi.did hok hc ho hR hlt h1 h3 h2 ?_ ?_ ?_ ?_ ?_ (fun id h => .inl h) ?_))
    · intro id ob e
      rw [hcR'] at e
      unfold mixG at e
      split at e
      · rename_i hcond
        obtain ⟨k1, k2, k3, k4⟩ := hcond
        by_cases hne : id - b = j
        · rw [hne] at e k3
          have hid : b + j = id := by omega
          rw [hnw, hid] at e
          rw [afterG_none, e]
          unfold mixG
          rw [if_neg (by rw [hne, hR]; simp)]
          have := hi.clean j hj k3
          rw [hid] at this
          exact this
        · have hRi : R (id - b) = true := by simpa [setR, hne] using k2
          refine afterG_hid ?_ (by simp)
          unfold mixG
          rw [if_pos ⟨k1, hRi, k3, k4⟩]
          exact e
      · rename_i hcond
        refine afterG_hid ?_ (by simp)
        unfold mixG
        rw [if_neg]
        · exact e
        · rintro ⟨k1, k2, k3⟩
          refine hcond ⟨k1, ?_, k3⟩
          unfold setR
          split
          · rfl
          · exact k2
    · intro id hd
      rw [hcR']
      rcases Nat.lt_or_ge id (p.at ops R).1.lim with h | h
      · exact h
      · rcases Nat.lt_or_ge id (farA b) with h5 | h5
        · exact absurd hd (h3.res _ (h1.res _ (.inr (.inr ⟨h, h5⟩)))).1
        · have h6 := h3.next id hd
          cases hn : p.nw j with
          | none => have := c1 hn; omega
          | some ob => have := c2 (by rw [hn]; simp); omega
    · intro i k1 k2
      by_cases e : i = j
      · subst e
        rcases k2 with k2 | k2
        · simp [setR] at k2
        · intro hd
          exact (h3.next _ hd).1 (c1 k2.2).1.symm
      · simp only [setR, if_neg e] at k2
        exact (h3.res _ (h1.res _ (.inr (.inl ⟨i, k1, e, k2, rfl⟩)))).1
    · rw [hcR']; exact hi.clean
    · intro i k1 k2 k3
      by_cases e : i = j
      · subst e; rw [haj, hact] at k2; cases k2
      · simp only [setR, if_neg e] at k3
        rw [hcR']
        exact hi.acts i k1 k2 k3
    · rw [hcR']; exact hi.lim
  · -- a read
    simp only [if_true]
    have hcR' : p.at ops (setR R j) = p.at ops R := by unfold Plan.at; rw [kR_set ho hR]; simp [hact]
    obtain ⟨S, h', v, s1, s2, s3, s4, s5⟩ := hall (kR ops R) (kR_lo hanc) (kR_hi hc hR) kR_top
    have hS : h' = S := read_heap (G := G) hrd s4
    subst hS
    have hsub : ∀ id ob, h'.t.get id = some ob → mixG b p.nw R (p.at ops R) id = some ob := by
      intro id ob e
      rw [s3] at e
      exact mixG_sub hanc hRn hi.clean id ob e
    have hr := hi.view ho hR s1 (by rw [s2]; exact hi.lim.2) hsub
    refine (step_sound hcall hi.evs hr hgm (by rw [hst]; exact s4) fun m' x w' h1 h2 h3 => hK _ _ _ (hi.did hok hc ho hR hlt h1 h3 (s5 _ _ h2) ?_ ?_ ?_ ?_ ?_ (fun id h => .inl h) ?_))
    · intro id ob e
      rw [hcR'] at e
      have hmix : mixG b p.nw (setR R j) (p.at ops R) id = mixG b p.nw R (p.at ops R) id := by
        unfold mixG
        by_cases e : id - b = j
        · rw [e, hnw]; simp
        · simp only [setR, if_neg e]
      rw [hmix] at e
      cases hg : h'.t.get id with
      | none => exact afterG_hid e hg
      | some ob' =>
        rw [afterG_in hg, hg, ← hsub id ob' hg, e]
    · intro id hd
      rw [hcR']
      rcases Nat.lt_or_ge id (p.at ops R).1.lim with h | h
      · exact h
      · rcases Nat.lt_or_ge id h'.lim with h5 | h5
        · exact absurd hd (h3.res _ (h1.res _ (.inr (.inr ⟨h, h5⟩)))).1
        · have h6 := h3.next id hd
          omega
    · intro i k1 k2
      by_cases e : i = j
      · subst e
        rcases k2 with k2 | k2
        · simp [setR] at k2
        · intro hd
          exact (h3.next _ hd).1 s1.symm
      · simp only [setR, if_neg e] at k2
        exact (h3.res _ (h1.res _ (.inr (.inl ⟨i, k1, e, k2, rfl⟩)))).1
    · rw [hcR']; exact hi.clean
    · intro i k1 k2 k3
      by_cases e : i = j
      · subst e; rw [haj, hact] at k2; cases k2
      · simp only [setR, if_neg e] at k3
        rw [hcR']
        exact hi.acts i k1 k2 k3
    · rw [hcR']; exact hi.lim
end
end Go.AM
namespace Go.AM
open Go
variable [O : Orc]

theorem cnt_zero {g : Nat → Bool} {n : Nat} (h : ∀ i, i < n → g i = false) : cnt g n = 0 := by
  induction n with
  | zero => rfl
  | succ n ih =>
    simp only [cnt]
    rw [ih fun i hi => h i (by omega), h n (by omega)]
    simp
theorem cnt_pos {g : Nat → Bool} {n : Nat} (h : cnt g n ≠ 0) : ∃ i, i < n ∧ g i = true ∧ ∀ k, k < i → g k = false := by
  induction n with
  | zero => exact absurd rfl h
  | succ n ih =>
    by_cases h0 : cnt g n = 0
    · simp only [cnt, h0, Nat.zero_add] at h
      refine ⟨n, by omega, by by_cases hg : g n = true <;> simp_all, fun k hk => ?_⟩
      cases hg : g k with
      | false => rfl
      | true =>
        exfalso
        clear ih h
        induction n with
        | zero => omega
        | succ n ih2 =>
          simp only [cnt] at h0
          by_cases e : k = n
          · subst e; rw [hg] at h0; simp at h0
          · exact ih2 (by omega) (by omega)
    · obtain ⟨i, h1, h2, h3⟩ := ih h0
      exact ⟨i, by omega, h2, h3⟩

section
variable {df : List Deferred} {P : Program} {G : Nat → Option (List AV)} {call : CallF} {ops : Array Oper} {b nt : Nat} {f0 : Nat → AV} {p : Plan} {m0 : Env}

theorem listed_set {listed : Array Bool} {j : Nat} (hj : j < listed.size) : (fun i => (listed.setIfInBounds j true).getD i false) = setR (fun i => listed.getD i false) j := by
  funext i
  simp only [setR, Array.getD_eq_getD_getElem?]
  by_cases e : i = j
  · subst e
    simp [hj]
  · rw [if_neg e, Array.getElem?_setIfInBounds_ne (Ne.symm e)]

theorem any_sound [Rd : Rnd] (hcall : CallRK P G call) (hok : pairsOK (rowsA ops) = true) (hsol : Solid ops b p) (hrows : ∀ i o, ops[i]? = some o → RowOK P G call ops b nt f0 (RDall P G call ops b f0 p i o) p i o) {Q : Exit → Act → World → Prop}
    (hQ : ∀ R m a w, (∀ i, i < ops.size → R i = true) → (∀ i, R i = true → i < ops.size) → Inv df G ops b nt f0 p m0 R m a w → Q .normal a w) :
    ∀ (fuel : Nat) (listed : Array Bool) (m : Env) (a : Act) (w : World), listed.size = ops.size → Closed ops (fun i => listed.getD i false) → cnt (fun i => Bool.not (listed.getD i false)) ops.size = fuel →
      Inv df G ops b nt f0 p m0 (fun i => listed.getD i false) m a w → wpAnyIn (fen Rd.ro) 0 P .any ops Q fuel listed a w := by
  intro fuel
  induction fuel with
  | zero =>
    intro listed m a w hsz hcl hct hinv
    have hall : ∀ i, i < ops.size → listed.getD i false = true := by
      intro i hi
      cases hg : listed.getD i false with
      | true => rfl
      | false =>
        have h1 := cnt_insert (g := fun i => Bool.not (listed.getD i false) && Bool.not (decide (i = i))) (g' := fun k => Bool.not (listed.getD k false)) (j := i) (n := ops.size)
        have h2 := cnt_insert (g := fun k => Bool.not (listed.getD k false) && Bool.not (decide (k = i))) (g' := fun k => Bool.not (listed.getD k false)) (j := i) (by simp) (by simpa using hg) (fun k hk => by simp [hk]) hi
        omega
    have hlt : ∀ i, listed.getD i false = true → i < ops.size := by
      intro i hi
      rcases Nat.lt_or_ge i ops.size with h | h
      · exact h
      · simp [Array.getElem?_eq_none (by omega : listed.size ≤ i)] at hi
    refine ⟨?_, hQ _ m a w hall hlt hinv⟩
    cases hr : Region.ready .any ops listed with
    | nil => rfl
    | cons j js =>
      have hj : j ∈ Region.ready .any ops listed := by rw [hr]; simp
      rw [mem_ready] at hj
      obtain ⟨h1, o, h2, _⟩ := hj
      have h3 := hall j (Array.getElem?_eq_some_iff.1 h2).1
      have hjl : j < listed.size := by rw [hsz]; exact (Array.getElem?_eq_some_iff.1 h2).1
      simp [hjl] at h1 h3
      rw [h1] at h3
      cases h3
  | succ fuel ih =>
    intro listed m a w hsz hcl hct hinv
    have hlt : ∀ i, listed.getD i false = true → i < ops.size := by
      intro i hi
      rcases Nat.lt_or_ge i ops.size with h | h
      · exact h
      · simp [Array.getElem?_eq_none (by omega : listed.size ≤ i)] at hi
    refine ⟨fun hnil => ?_, fun j hj => ?_⟩
    · obtain ⟨i, h1, h2, h3⟩ := cnt_pos (g := fun i => Bool.not (listed.getD i false)) (n := ops.size) (by omega)
      have : i ∈ Region.ready .any ops listed := by
        rw [mem_ready]
        have hil : i < listed.size := by omega
        refine ⟨?_, ops[i], Array.getElem?_eq_getElem h1, fun e he hb => ?_⟩
        · simp [hil] at h2 ⊢
          exact h2
        · have := anc_lt hok h1 (anc_pre (Array.getElem?_eq_getElem h1) he hb)
          have := h3 _ this
          simpa using this
      rw [hnil] at this
      cases this
    · rw [mem_ready] at hj
      obtain ⟨h1, o, h2, h3⟩ := hj
      have hjn := (Array.getElem?_eq_some_iff.1 h2).1
      have hjl : j < listed.size := by omega
      have hRj : listed.getD j false = false := by
        simp [hjl] at h1 ⊢
        exact h1
      refine hinv.step hcall hok hcl hlt h2 hRj (anc_in hcl j o h2 h3) hsol (hrows j o h2) fun m' a' w' hinv' => ?_
      have hset := listed_set hjl
      refine ih (listed.setIfInBounds j true) m' a' w' (by simpa using hsz) ?_ ?_ ?_
      · rw [hset]
        intro i oi hi hRi e he hb
        simp only [setR] at hRi ⊢
        split
        · rfl
        · split at hRi
          · rename_i e1
            subst e1
            rw [h2] at hi
            cases hi
            exact h3 e he hb
          · exact hcl i oi hi hRi e he hb
      · have := cnt_insert (g := fun i => Bool.not ((listed.setIfInBounds j true).getD i false)) (g' := fun i => Bool.not (listed.getD i false)) (j := j) (n := ops.size) (by
          have := congrFun hset j
          simp only [setR] at this
          rw [this]; simp) (by rw [hRj]; rfl) (fun i hi => by
          have := congrFun hset i
          simp only [setR, if_neg hi] at this
          rw [this]) hjn
        omega
      · rw [hset]
        exact hinv'

/-- ROWS OF OPEN ORDER. -/
theorem draw_sound [Rd : Rnd] (hm : P.follows .mixedOrders = true) (hcall : CallRK P G call) : RegionOK P G call := by
  intro id ops m0 s s' a w Q hr hs hQ
  unfold drawA listOr at hs
  split at hs
  · cases hs
  · rename_i hpre
    simp only [Bool.and_eq_true, Nat.ble_eq] at hpre
    obtain ⟨hok, hfar⟩ := hpre
    split at hs
    · cases hs
    · rename_i d hrun
      split at hs
      · cases hs
      · rename_i hrd
        cases hs
        simp only [Bool.and_eq_true] at hrd
        obtain ⟨hrd, hsn, hsc⟩ := hrd
        have hfar' : s.h.lim + ops.size ≤ farA s.h.lim := hfar
        have hlen : (rowsA ops).length = ops.size := by
          have h1 := rowsA_get ops ops.size
          simp at h1
          rcases Nat.lt_or_ge (rowsA ops).length ops.size with h | h
          · have h2 := rowsA_get ops (rowsA ops).length
            simp [h] at h2
          · omega
        obtain ⟨p, g1, g2, g3, g4⟩ := rowsRun_plan (f0 := tmV s.tm) (p0 := { val := fun _ => .dead, nw := fun _ => none, ch := fun _ => ({ next := 0, lim := Nat.add s.h.lim ops.size, t := s.h.t }, 0) }) hok (rowsA ops) 0 _ _ (by simp)
          ⟨rfl, by simp, rfl, fun i hi => by have : i = 0 := Nat.le_zero.1 hi; subst this; rfl, rfl⟩ hrun
        rw [Nat.zero_add, hlen] at g2
        have hch0 : p.ch 0 = ({ next := 0, lim := Nat.add s.h.lim ops.size, t := s.h.t }, 0) := g1.2 0 (Nat.zero_le _)
        have hrows : ∀ i o, ops[i]? = some o → RowOK P G call ops s.h.lim s.n (tmV s.tm) (RDall P G call ops s.h.lim (tmV s.tm) p i o) p i o := by
          intro i o ho
          obtain ⟨r1, bw, r2, r3⟩ := g4 i o (Nat.zero_le _) ho
          refine ⟨r1, bw, r2, ?_⟩
          rcases r3 with r3 | r3 | r3 | r3 | ⟨e1, e2, e3, e4, e5⟩
          · exact .inl r3
          · exact .inr (.inl r3)
          · exact .inr (.inr (.inl r3))
          · exact .inr (.inr (.inr (.inl r3)))
          · exact .inr (.inr (.inr (.inr ⟨e1, e2, e3, e4, RD_all hok g2 ho hrd e5⟩)))
        have hsol : Solid ops s.h.lim p := ⟨fun i ob hi hn => List.all_eq_true.1 hsn (i, ob) ((g2.news i ob).2 ⟨hi, hn⟩), fun k i ob hk hi hn => by
          have h1 := List.all_eq_true.1 hsc (p.ch k) (List.mem_iff_getElem?.2 ⟨k, g2.past k hk⟩)
          exact List.all_eq_true.1 h1 (i, ob) ((g2.news i ob).2 ⟨hi, hn⟩)⟩
        refine wpIn_region_any hm ?_
        refine any_sound (df := a.defers) (b := s.h.lim) (nt := s.n) (f0 := tmV s.tm) (p := p) (m0 := m0) hcall hok hsol hrows (fun R m a w h1 h2 hi => ?_) ops.size (Array.replicate ops.size false) m0 a { w with drawn := w.drawn + 1 } (by simp) ?_ ?_ ?_
        · -- all done
          have hk : kR ops R = kU ops ops.size := cnt_congr fun i hi => by simp [h1 i hi]
          have hat : p.at ops R = (d.h, d.got) := by unfold Plan.at; rw [hk, ← g2.c]
          refine hQ m a w hi.le ⟨hi.size, fun t => ?_, by rw [hi.defers]; exact DRo.wmono hi.le.towle _ _ hr.defers, hr.rnd, ?_, hi.g⟩
          · have := hi.tm t
            have e : tvN (tmV s.tm) ops p.val R ops.size t = tmV d.tm t := by
              rw [g2.tm]
              exact tvN_congr (fun i hi _ => by simp [h1 i hi]) fun _ _ => rfl
            rw [e] at this
            exact this
          · have hd := hi.dom
            have hl := hi.lim
            rw [hat] at hd hl
            simp only at hd hl
            refine HG.hr (hi.hg.sub fun id ob e => ?_) (fun id hid => ?_) (Nat.lt_succ_self _) fun id hid => ?_
            · simp only at e
              rw [addNews_mix (n := ops.size) g2.news (fun i hb _ => hasBit_lt (by
                have : 0 < bit ops.size := by rw [bit_eq]; exact Nat.two_pow_pos _
                show Nat.sub (bit ops.size) 1 < bit ops.size
                exact Nat.sub_lt this (by decide)) hb)] at e
              rw [hat]
              have hcl := hi.clean
              rw [hat] at hcl
              refine mixG_sub (ops := ops) (fun i hb => h1 i (hasBit_lt (by
                have : 0 < bit ops.size := by rw [bit_eq]; exact Nat.two_pow_pos _
                show Nat.sub (bit ops.size) 1 < bit ops.size
                exact Nat.sub_lt this (by decide)) hb)) h2 hcl id ob e
            · have := hd id hid
              exact ⟨by simp only; omega, by simp only; omega⟩
            · rw [hi.resEq] at hid
              obtain ⟨k1, k2⟩ := hi.res id hid
              exact ⟨k1, by simp only; omega, by simp only; omega⟩
        · intro i o _ hR
          simp [Array.getElem?_replicate] at hR
          split at hR <;> simp at hR
        · have : ∀ i, i < ops.size → Bool.not ((Array.replicate ops.size false).getD i false) = true := by
            intro i hi
            simp [Array.getElem?_replicate, hi]
          have h2 : cnt (fun i => Bool.not ((Array.replicate ops.size false).getD i false)) ops.size = cnt (fun _ => true) ops.size := cnt_congr this
          rw [h2]
          have h3 : ∀ n, cnt (fun _ => true) n = n := by
            intro n
            induction n with
            | zero => rfl
            | succ n ih => simp [cnt, ih]
          exact h3 _
        · have hR : (fun i => (Array.replicate ops.size false).getD i false) = fun _ => false := by
            funext i
            simp only [Array.getD_eq_getD_getElem?, Array.getElem?_replicate]
            split <;> rfl
          rw [hR]
          have hk0 : kR ops (fun _ => false) = 0 := cnt_zero fun i _ => by simp
          have hat : p.at ops (fun _ => false) = ({ next := 0, lim := Nat.add s.h.lim ops.size, t := s.h.t }, 0) := by unfold Plan.at; rw [hk0, hch0]
          have hh := hr.h
          have hh' : HR m0 s.h { w with drawn := w.drawn + 1 } := hh.same rfl
          refine ⟨hr.size, fun t => ?_, rfl, ?_, fun id hd => ?_, fun i hi _ hd => ?_, fun i hi _ => ?_, (fun i hi _ h => by cases h), fun id hd => ?_, rfl, Env.le.refl _, hr.g, ?_⟩
          · have e : tvN (tmV s.tm) ops p.val (fun _ => false) ops.size t = tmV s.tm t := by
              rw [tvN_stop (j := 0) (Nat.zero_le _) fun _ _ _ _ => rfl]
              rfl
            rw [e]
            exact hr.tm t
          · rw [hat]
            exact hh'.hg.sub fun id ob e => by
              unfold mixG at e
              rw [if_neg (by simp)] at e
              exact e
          · rw [hat]
            have := hh.next id hd
            show id < s.h.lim + ops.size
            omega
          · have := hh.next _ hd
            omega
          · rw [hat]
            show s.h.t.get (s.h.lim + i) = none
            cases hg : s.h.t.get (s.h.lim + i) with
            | none => rfl
            | some y =>
              have := hh.next _ (hh.objL _ _ hg).1
              omega
          · obtain ⟨k1, k2, k3⟩ := hh.res id hd
            exact ⟨k1, k3⟩
          · rw [hat]
            exact ⟨Nat.le_refl _, hfar⟩

/-- A CALL, BY THE MACHINE. -/
theorem callA_ok (hm : P.follows .mixedOrders = true) (hN : ∀ (f : FuncId) (fn : Func), P.funcs[f]? = some fn → (fn.name == "runtime.NumGoroutine") = false) {spec : FuncId → Option (List AV → AHeap → Out)} (hsp : SpecOK P G spec) (n : Nat) :
    CallOK P G (callA P G spec n) := callA_sound hN hsp (fun _ _ h => draw_sound hm h) n
end
end Go.AM
namespace Go.AM
open Go

/-- Everything is frozen, and no name is taken. -/
def frozen (R : Rho) (w : World) : Env := { R, mu := fun _ => (0, 0), dom := fun _ => False, res := fun _ => False, E := fun b => w.heap[b]?, F := fun _ => none, io := ioOf w }
noncomputable def heap0 : AHeap := { next := 0, lim := 1, t := .nil }

theorem HR.frozen (R : Rho) (w : World) : HR (Go.AM.frozen R w) heap0 w :=
  ⟨fun _ h => h.elim, by decide, fun _ h => h.elim, fun _ _ h => by simp [Go.AM.frozen] at h, fun _ _ h => h, fun _ _ h => by simp [Go.AM.frozen] at h, fun id o h => by simp [heap0] at h, fun i j x y h => by simp [heap0] at h, rfl⟩

theorem HR.grow {m : Env} {h : AHeap} {w w' : World} (hr : HR m h w) (hw : ∀ b, b < w.heap.size → w'.heap[b]? = w.heap[b]?) (hio : ioOf w' = ioOf w) : HR m h w' :=
  ⟨hr.next, hr.lim, hr.res, hr.EF, fun b o e => by have := hr.E b o e; rw [hw b (Array.getElem?_eq_some_iff.1 this).1]; exact this,
    fun b o e => by have := hr.F b o e; rw [hw b (Array.getElem?_eq_some_iff.1 this).1]; exact this,
    fun id o e => let ⟨a, b, c⟩ := hr.objL id o e; ⟨a, b, c.move (Env.le.refl m) fun l => hw _ (c.lt l)⟩, hr.injL, hio.trans hr.io⟩

/-- Listed variables that hold no names. -/
def PlainG (G : Nat → Option (List AV)) : Prop := ∀ g cs, G g = some cs → ∀ c ∈ cs, ∃ u, c = .sc u

theorem ecell_frozen {R : Rho} {m : Env} {h : AHeap} {w : World} (hr : HR m h w) {b o : Nat} {v : Value} (he : m.ecell b o = some v) : (frozen R w).ecell b o = some v := by
  unfold Env.ecell at *
  cases hb : m.E b with
  | none => rw [hb] at he; simp at he
  | some x => rw [hb] at he; simp only [frozen, hr.E b x hb]; exact he

theorem VC_plain {R : Rho} {m : Env} {h : AHeap} {w : World} (hr : HR m h w) {b : Nat} : ∀ {cs : List AV} {o : Nat}, (∀ c ∈ cs, ∃ u, c = AV.sc u) → VC m b o cs → VC (frozen R w) b o cs
  | [], _, _, _ => by simp [VC]
  | c :: cs, o, hp, hv => by
    simp only [VC] at hv ⊢
    obtain ⟨⟨v, h1, h2⟩, h3⟩ := hv
    obtain ⟨u, rfl⟩ := hp c (by simp)
    exact ⟨⟨v, ecell_frozen hr h1, by simpa [V] using h2⟩, VC_plain hr (fun c hc => hp c (List.mem_cons_of_mem _ hc)) h3⟩

/-- A CALL THAT WAS RUN ALONE. -/
theorem iso_core [O : Orc] {P : Program} {G : Nat → Option (List AV)} {call : CallF} (hcall : CallOK P G call) (hG : PlainG G) {f : FuncId} {ys : List AV} {av av' : AV} {u : Value} {hx : AHeap} (hrun : call f ys heap0 = some (av, hx))
    (hu : ∀ m v, V m av v → v = u) (hu' : ∀ m, V m av' u) {m : Env} {h : AHeap} {w : World} {vs : Array Value} (hr : HR m h w) (hg : GOK m G) (hv : VL (frozen m.R w) ys vs.toList) : Calls P f vs w (Ret m av' h) := by
  obtain ⟨_, hc⟩ := hcall f ys heap0 av hx hrun
  refine (hc (frozen m.R w) vs w hv (HR.frozen m.R w) ⟨fun g cs e => VC_plain hr (hG g cs e) (hg.g g cs e), hg.f⟩).mono ?_
  rintro e w' ⟨v, m', rfl, k1, k2, k3⟩
  have := hu m' v k2
  subst this
  refine ⟨v, m, rfl, .refl m, hu' m, hr.grow (fun b hb => ?_) (k3.io.trans k1.io)⟩
  have e1 : (frozen m.R w).E b = some w.heap[b] := Array.getElem?_eq_getElem hb
  rw [k3.E b _ (k1.E b _ e1), Array.getElem?_eq_getElem hb]
end Go.AM
namespace Go.AM
open Go

/-- Bytes, as numbers. -/
noncomputable def numsOf : List AV → Option (List Nat)
  | [] => some []
  | .sc (.int .u8 (.ofNat k)) :: cs => match numsOf cs with
    | some ks => some (k :: ks)
    | none => none
  | _ => none
noncomputable def bytesAV (ks : List Nat) : AV := .fsl 1 false (ks.map fun k => [.sc (.int .u8 (.ofNat k))])

theorem numsOf_spec : ∀ {cs : List AV} {ks : List Nat}, numsOf cs = some ks → cs = ks.map fun k => .sc (.int .u8 (.ofNat k))
  | [], ks, h => by simp [numsOf] at h; subst h; rfl
  | c :: cs, ks, h => by
    unfold numsOf at h
    split at h
    · rename_i heq; cases heq
    · rename_i k cs' heq
      cases heq
      split at h
      · rename_i ks' hk
        cases h
        rw [numsOf_spec hk]
        rfl
      · cases h
    · cases h

/-- The bytes of an argument. -/
noncomputable def numsIn (h : AHeap) (x : AV) : Option (List Nat) :=
  match x with
  | .sc (.slice none 0 0) => some []
  | .emp _ => some []
  | .sl id off len cap => match rowCells h 1 len (.sl id off len cap) with
    | some cs => numsOf cs
    | none => none
  | .fsl sz ex es => match rowCells h 1 es.length (.fsl sz ex es) with
    | some cs => numsOf cs
    | none => none
  | _ => none

/-- An argument of these bytes, where all is frozen. -/
noncomputable def keyAV : List Nat → AV
  | [] => .emp 1
  | k :: ks => bytesAV (k :: ks)

theorem VR_bytes {R : Rho} {w : World} {b : Nat} : ∀ {ks : List Nat} {o : Nat}, (∀ j k, ks[j]? = some k → (frozen R w).ecell b (o + j) = some (.int .u8 (.ofNat k))) → VR (frozen R w) b 1 o (ks.map fun k => [.sc (.int .u8 (.ofNat k))])
  | [], o, _ => by simp [VR]
  | k :: ks, o, h => by
    simp only [List.map_cons, VR, List.length_cons, List.length_nil, VC, V, true_and, and_true]
    refine ⟨⟨_, by simpa using h 0 k rfl, rfl⟩, VR_bytes fun j k' hj => ?_⟩
    have := h (j + 1) k' (by simpa using hj)
    rw [show o + 1 + j = o + (j + 1) by omega]
    exact this

theorem VL_nums {m : Env} : ∀ {ks : List Nat} {vs : List Value}, VL m (ks.map fun k => .sc (.int .u8 (.ofNat k))) vs → vs = ks.map fun k => .int .u8 (.ofNat k)
  | [], vs, h => by simpa [VL] using h
  | k :: ks, vs, h => by
    simp only [List.map_cons, VL] at h
    obtain ⟨v, us, rfl, h1, h2⟩ := h
    rw [VL_nums h2]
    simp only [V] at h1
    rw [h1]
    rfl

theorem key_of {m : Env} {h : AHeap} {w : World} {x : AV} {v : Value} {cs : List AV} {ks : List Nat} {b o n c : Nat} (hr : HR m h w) (hx : V m x v) (hv : v = .slice (some ⟨b, o, none⟩) n c) (hn : n ≤ c) (hc : rowCells h 1 n x = some cs) (hl : cs.length = n) (hk : numsOf cs = some ks) :
    V (frozen m.R w) (keyAV ks) v := by
  have hcs := numsOf_spec hk
  obtain ⟨vs, h1, _, h3, _⟩ := rowCells_sound (P := default) hr hx hc
  rw [hcs] at h1 hl
  have hvs := VL_nums h1
  simp only [List.length_map] at hl
  cases ks with
  | nil =>
    simp only [List.length_nil] at hl
    subst hl
    subst hv
    simp only [keyAV, V]
    exact ⟨_, _, rfl, (fun e => by cases e), fun e => by cases e⟩
  | cons k ks =>
    simp only [keyAV, bytesAV, V]
    refine ⟨some ⟨b, o, none⟩, c, by rw [hv]; simp at hl ⊢; omega, by simp at hl ⊢; omega, (fun e => by cases e), (fun e => by cases e), .inr ⟨b, o, rfl, VR_bytes fun j k' hj => ?_⟩⟩
    have := h3 _ _ _ hv (by simp at hl; omega) j (.int .u8 (.ofNat k')) (by rw [hvs]; simp only [List.getElem?_map, hj]; rfl)
    rw [add_plain] at this
    unfold World.cell? at this
    unfold Env.ecell frozen
    simp only at this ⊢
    split at this
    · rename_i c' t p e
      rw [e]
      simpa using this
    · cases this

theorem numsIn_sound {m : Env} {h : AHeap} {w : World} {x : AV} {v : Value} {ks : List Nat} (hr : HR m h w) (hx : V m x v) (hk : numsIn h x = some ks) : V (frozen m.R w) (keyAV ks) v := by
  unfold numsIn at hk
  split at hk
  · cases hk
    simp only [V] at hx
    subst hx
    simp only [keyAV, V]
    exact ⟨_, _, rfl, (fun e => by cases e), fun _ => rfl⟩
  · cases hk
    simp only [V] at hx
    obtain ⟨a, c, rfl, h1, h2⟩ := hx
    simp only [keyAV, V]
    exact ⟨a, c, rfl, (fun e => by cases e), h2⟩
  · rename_i id off len cap
    split at hk
    · rename_i cs hc
      have hx' := hx
      simp only [V] at hx
      obtain ⟨_, c, e, h2, _⟩ := hx
      refine key_of hr hx' e h2 hc ?_ hk
      unfold rowCells at hc
      simp only at hc
      split at hc
      · split at hc
        · cases hc
          simp [length_cellsFrom]
        · cases hc
      · cases hc
    · cases hk
  · rename_i sz ex es
    split at hk
    · rename_i cs hc
      have hx' := hx
      simp only [V] at hx
      obtain ⟨a, c, e, h2, h3, h4, h5⟩ := hx
      rcases h5 with h5 | ⟨b, o, rfl, h6⟩
      · have hc0 := h5
        have : es = [] := List.length_eq_zero_iff.1 (by omega)
        subst this
        unfold rowCells at hc
        simp only [List.length_nil, List.take_nil, List.flatten_nil] at hc
        have hcs : cs = [] := by
          split at hc
          · cases hc; rfl
          · cases hc
        subst hcs
        simp [numsOf] at hk
        subst hk
        subst e
        simp only [keyAV, V]
        exact ⟨a, c, rfl, (fun e => by cases e), h4⟩
      · refine key_of hr hx' e h2 hc ?_ hk
        unfold rowCells at hc
        simp only at hc
        split at hc
        · rename_i hb
          simp only [Bool.and_eq_true, Nat.beq_eq] at hb
          obtain ⟨rfl, _⟩ := hb
          cases hc
          rw [List.take_length, VR_len h6, Nat.mul_one]
        · cases hc
    · cases hk
  · cases hk
end Go.AM
namespace Go.AM
open Go

noncomputable def eqNums : List Nat → List Nat → Bool
  | [], [] => true
  | a :: as, b :: bs => Nat.beq a b && eqNums as bs
  | _, _ => false
theorem eqNums_eq : ∀ {a b : List Nat}, eqNums a b = true → a = b
  | [], [], _ => rfl
  | a :: as, b :: bs, h => by
    simp only [eqNums, Bool.and_eq_true, Nat.beq_eq] at h
    rw [h.1, eqNums_eq h.2]
  | [], _ :: _, h => by simp [eqNums] at h
  | _ :: _, [], h => by simp [eqNums] at h

noncomputable def lookNums (ks : List Nat) : List (List Nat × AV) → Option AV
  | [] => none
  | (k, v) :: l => match eqNums ks k with
    | true => some v
    | false => lookNums ks l

/-- A function of bytes, by a table. -/
noncomputable def tabSp (tab : List (List Nat × AV)) (args : List AV) (h : AHeap) : Out :=
  match args with
  | [x] => match numsIn h x with
    | some ks => match lookNums ks tab with
      | some v => some (v, h)
      | none => none
    | none => none
  | _ => none

theorem lookNums_mem {ks : List Nat} {v : AV} : ∀ {l : List (List Nat × AV)}, lookNums ks l = some v → (ks, v) ∈ l
  | [], h => by simp [lookNums] at h
  | (k, u) :: l, h => by
    rw [lookNums] at h
    split at h
    · rename_i e
      cases h
      rw [eqNums_eq e]
      simp
    · exact List.mem_cons_of_mem _ (lookNums_mem h)

/-- A row of the table was run. -/
def TabRun (call : CallF) (f : FuncId) (r : List Nat × AV) : Prop := ∃ av hx, call f [keyAV r.1] heap0 = some (av, hx) ∧ ∃ u, (∀ m v, V m av v → v = u) ∧ ∀ m, V m r.2 u

theorem tab_ok [O : Orc] {P : Program} {G : Nat → Option (List AV)} {call : CallF} (hcall : CallOK P G call) (hG : PlainG G) {f : FuncId} {tab : List (List Nat × AV)} (ht : ∀ r ∈ tab, TabRun call f r) :
    CallOK P G (fun g args h => if g = f then tabSp tab args h else none) := by
  intro g args h av h' hs
  simp only at hs
  split at hs
  · rename_i e
    subst e
    unfold tabSp at hs
    split at hs
    · rename_i x
      split at hs
      · rename_i ks hk
        split at hs
        · rename_i v hl
          cases hs
          obtain ⟨av0, hx, hrun, u, hu, hu'⟩ := ht _ (lookNums_mem hl)
          refine ⟨(hcall g _ _ _ _ hrun).1, fun m vs w hv hr hg => iso_core hcall hG hrun hu hu' hr hg ?_⟩
          simp only [VL] at hv
          obtain ⟨y, us, e1, hy, rfl⟩ := hv
          rw [e1]
          simp only [VL]
          exact ⟨y, [], rfl, numsIn_sound hr hy hk, rfl⟩
        · cases hs
      · cases hs
    · cases hs
  · cases hs

noncomputable def eqDig : List AV → List AV → Bool
  | [], [] => true
  | .sc (.int .u8 (.ofNat a)) :: xs, .sc (.int .u8 (.ofNat b)) :: ys => Nat.beq a b && eqDig xs ys
  | _, _ => false
noncomputable def isDig (o : Out) (d : List AV) : Bool := match o with
  | some (.agg xs, _) => eqDig xs d
  | some (.sc (.agg xs), _) => eqDig (xs.toList.map .sc) d
  | _ => false
theorem eqDig_eq : ∀ {xs ys : List AV}, eqDig xs ys = true → xs = ys ∧ ∃ us : List Value, xs = us.map .sc
  | [], [], _ => ⟨rfl, [], rfl⟩
  | x :: xs, y :: ys, h => by
    unfold eqDig at h
    split at h
    · rename_i heq _; cases heq
    · rename_i a as b bs heq1 heq2
      cases heq1
      cases heq2
      simp only [Bool.and_eq_true, Nat.beq_eq] at h
      obtain ⟨e, us, e2⟩ := eqDig_eq h.2
      rw [h.1, ← e]
      exact ⟨rfl, .int .u8 (.ofNat b) :: us, by rw [e2]; rfl⟩
    · cases h
  | [], _ :: _, h => by simp [eqDig] at h
  | _ :: _, [], h => by simp [eqDig] at h

theorem VL_scs {m : Env} : ∀ {us vs : List Value}, VL m (us.map .sc) vs ↔ vs = us
  | [], vs => by simp [VL]
  | u :: us, vs => by
    simp only [List.map_cons, VL, V]
    constructor
    · rintro ⟨v, ws, rfl, rfl, h⟩
      rw [VL_scs.1 h]
    · rintro rfl
      exact ⟨u, us, rfl, rfl, VL_scs.2 rfl⟩

theorem TabRun.of_dig {call : CallF} {f : FuncId} {ks : List Nat} {d : List AV} (h : isDig (call f [keyAV ks] heap0) d = true) : TabRun call f (ks, .agg d) := by
  unfold isDig at h
  split at h
  · rename_i xs hx e
    obtain ⟨rfl, us, rfl⟩ := eqDig_eq h
    refine ⟨_, hx, e, .agg us.toArray, fun m v hv => ?_, fun m => ?_⟩
    · simp only [V] at hv
      obtain ⟨vs, rfl, h2⟩ := hv
      have := VL_scs.1 h2
      rw [← this]
    · simp only [V]
      exact ⟨us.toArray, rfl, VL_scs.2 (by simp)⟩
  · rename_i xs hx e
    obtain ⟨rfl, us, h2⟩ := eqDig_eq h
    have h3 : xs.toList = us := (List.map_inj_right (fun a b e => by cases e; rfl)).1 h2
    refine ⟨_, hx, e, .agg xs, fun m v hv => by simpa [V] using hv, fun m => ?_⟩
    simp only [V]
    exact ⟨xs, rfl, VL_scs.2 rfl⟩
  · cases h
end Go.AM
namespace Go.AM
open Go

/-! ## Codes that are one -/
noncomputable def eqVc : Value → Value → Bool
  | .func (.func f) a b, .func (.func g) c d => Nat.beq f g && Nat.beq a.size 0 && Nat.beq b.size 0 && Nat.beq c.size 0 && Nat.beq d.size 0
  | u, v => eqV u v
theorem eqVc_eq {u v : Value} (h : eqVc u v = true) : u = v := by
  unfold eqVc at h
  split at h
  · rename_i f a b g c d
    simp only [Bool.and_eq_true, Nat.beq_eq] at h
    obtain ⟨⟨⟨⟨rfl, h1⟩, h2⟩, h3⟩, h4⟩ := h
    rw [Array.eq_empty_of_size_eq_zero h1, Array.eq_empty_of_size_eq_zero h2, Array.eq_empty_of_size_eq_zero h3, Array.eq_empty_of_size_eq_zero h4]
  · exact eqV_sound (O := ⟨fun _ => none, fun _ _ => .bool false⟩) h
noncomputable def eqOd : Operand → Operand → Bool
  | .tmp a, .tmp b => Nat.beq a b
  | .const u, .const v => eqVc u v
  | .global a, .global b => Nat.beq a b
  | .func a, .func b => Nat.beq a b
  | _, _ => false
theorem eqOd_eq {a b : Operand} (h : eqOd a b = true) : a = b := by
  unfold eqOd at h
  split at h <;> (try (cases h; done)) <;> (try rw [Nat.beq_eq] at h)
  · rw [h]
  · rw [eqVc_eq h]
  · rw [h]
  · rw [h]
noncomputable def eqList {α : Type} (f : α → α → Bool) : List α → List α → Bool
  | [], [] => true
  | a :: as, b :: bs => f a b && eqList f as bs
  | _, _ => false
theorem eqList_eq {α : Type} {f : α → α → Bool} (hf : ∀ a b, f a b = true → a = b) : ∀ {as bs : List α}, eqList f as bs = true → as = bs
  | [], [], _ => rfl
  | a :: as, b :: bs, h => by
    simp only [eqList, Bool.and_eq_true] at h
    rw [hf a b h.1, eqList_eq hf h.2]
  | [], _ :: _, h => by simp [eqList] at h
  | _ :: _, [], h => by simp [eqList] at h
noncomputable def eqArr {α : Type} (f : α → α → Bool) (a b : Array α) : Bool := eqList f a.toList b.toList
theorem eqArr_eq {α : Type} {f : α → α → Bool} (hf : ∀ a b, f a b = true → a = b) {a b : Array α} (h : eqArr f a b = true) : a = b := Array.ext' (eqList_eq hf h)
noncomputable def eqOpt {α : Type} (f : α → α → Bool) : Option α → Option α → Bool
  | none, none => true
  | some a, some b => f a b
  | _, _ => false
theorem eqOpt_eq {α : Type} {f : α → α → Bool} (hf : ∀ a b, f a b = true → a = b) {a b : Option α} (h : eqOpt f a b = true) : a = b := by
  unfold eqOpt at h
  split at h
  · rfl
  · rw [hf _ _ h]
  · cases h
theorem natBeq_eq (a b : Nat) (h : Nat.beq a b = true) : a = b := Nat.eq_of_beq_eq_true h
noncomputable def eqPart (a b : Nat × Operand) : Bool := Nat.beq a.1 b.1 && eqOd a.2 b.2
theorem eqPart_eq (a b : Nat × Operand) (h : eqPart a b = true) : a = b := by
  simp only [eqPart, Bool.and_eq_true, Nat.beq_eq] at h
  exact Prod.ext h.1 (eqOd_eq h.2)
noncomputable def eqCallee : Callee → Callee → Bool
  | .value a, .value b => eqOd a b
  | .builtin a, .builtin b => decide (a = b)
  | _, _ => false
theorem eqCallee_eq {a b : Callee} (h : eqCallee a b = true) : a = b := by
  unfold eqCallee at h
  split at h
  · rw [eqOd_eq h]
  · rw [of_decide_eq_true h]
  · cases h
noncomputable def eqUn (a b : UnOp) : Bool := decide (a = b)
noncomputable def eqBin (a b : BinOp) : Bool := decide (a = b)
noncomputable def eqFn : Fn → Fn → Bool
  | .func a, .func b => Nat.beq a b
  | _, _ => false
noncomputable def eqOp : Op → Op → Bool
  | .move a, .move b => eqOd a b
  | .assign a, .assign b => eqOd a b
  | .pick a b c, .pick d e f => eqOd a d && (eqOd b e && eqOd c f)
  | .alloc t, .alloc u => Nat.beq t u
  | .box t x, .box u y => Nat.beq t u && eqOd x y
  | .build t x, .build u y => Nat.beq t u && eqArr eqPart x y
  | .buildSlice t n x, .buildSlice u k y => Nat.beq t u && (Nat.beq n k && eqArr eqPart x y)
  | .load t x, .load u y => Nat.beq t u && eqOd x y
  | .store t x v, .store u y z => Nat.beq t u && (eqOd x y && eqOd v z)
  | .nilCheck x, .nilCheck y => eqOd x y
  | .binOp o t x y s, .binOp p u z v r => eqBin o p && (Nat.beq t u && (eqOd x z && (eqOd y v && Nat.beq s r)))
  | .unOp o t x, .unOp p u y => eqUn o p && (Nat.beq t u && eqOd x y)
  | .convert s d x, .convert t e y => Nat.beq s t && (Nat.beq d e && eqOd x y)
  | .makeInterface t x, .makeInterface u y => Nat.beq t u && eqOd x y
  | .makeFunc f a c, .makeFunc g b d => eqFn f g && (eqArr eqOd a b && eqArr eqOd c d)
  | .slice t x l k m, .slice u y n o p => Nat.beq t u && (eqOd x y && (eqOpt eqOd l n && (eqOpt eqOd k o && eqOpt eqOd m p)))
  | .fieldAddr t x f, .fieldAddr u y g => Nat.beq t u && (eqOd x y && Nat.beq f g)
  | .field t x f, .field u y g => Nat.beq t u && (eqOd x y && Nat.beq f g)
  | .indexAddr t x i, .indexAddr u y j => Nat.beq t u && (eqOd x y && eqOd i j)
  | .index t x i, .index u y j => Nat.beq t u && (eqOd x y && eqOd i j)
  | .lookup t x i c, .lookup u y j d => Nat.beq t u && (eqOd x y && (eqOd i j && (c == d)))
  | .mapUpdate t x i v, .mapUpdate u y j z => Nat.beq t u && (eqOd x y && (eqOd i j && eqOd v z))
  | .extract x i, .extract y j => eqOd x y && Nat.beq i j
  | .call ⟨f, a, t⟩, .call ⟨g, b, u⟩ => eqCallee f g && (eqArr eqOd a b && eqArr Nat.beq t u)
  | _, _ => false
theorem eqOp_eq {a b : Op} (h : eqOp a b = true) : a = b := by
  have hN := fun a b => natBeq_eq a b
  have hO := fun a b => @eqOd_eq a b
  unfold eqOp at h
  split at h <;> (try (cases h; done)) <;> (try simp only [Bool.and_eq_true, Nat.beq_eq] at h)
  · rw [eqOd_eq h]
  · rw [eqOd_eq h]
  · rw [eqOd_eq h.1, eqOd_eq h.2.1, eqOd_eq h.2.2]
  · rw [h]
  · rw [h.1, eqOd_eq h.2]
  · rw [h.1, eqArr_eq eqPart_eq h.2]
  · rw [h.1, h.2.1, eqArr_eq eqPart_eq h.2.2]
  · rw [h.1, eqOd_eq h.2]
  · rw [h.1, eqOd_eq h.2.1, eqOd_eq h.2.2]
  · rw [eqOd_eq h]
  · rw [of_decide_eq_true h.1, h.2.1, eqOd_eq h.2.2.1, eqOd_eq h.2.2.2.1, h.2.2.2.2]
  · rw [of_decide_eq_true h.1, h.2.1, eqOd_eq h.2.2]
  · rw [h.1, h.2.1, eqOd_eq h.2.2]
  · rw [h.1, eqOd_eq h.2]
  · rename_i f a c g b d
    obtain ⟨h1, h2, h3⟩ := h
    rw [eqArr_eq hO h2, eqArr_eq hO h3]
    cases f <;> cases g <;> simp only [eqFn, Bool.false_eq_true, Nat.beq_eq] at h1
    rw [h1]
  · rw [h.1, eqOd_eq h.2.1, eqOpt_eq hO h.2.2.1, eqOpt_eq hO h.2.2.2.1, eqOpt_eq hO h.2.2.2.2]
  · rw [h.1, eqOd_eq h.2.1, h.2.2]
  · rw [h.1, eqOd_eq h.2.1, h.2.2]
  · rw [h.1, eqOd_eq h.2.1, eqOd_eq h.2.2]
  · rw [h.1, eqOd_eq h.2.1, eqOd_eq h.2.2]
  · rw [h.1, eqOd_eq h.2.1, eqOd_eq h.2.2.1, eq_of_beq h.2.2.2]
  · rw [h.1, eqOd_eq h.2.1, eqOd_eq h.2.2.1, eqOd_eq h.2.2.2]
  · rw [eqOd_eq h.1, h.2]
  · rw [eqCallee_eq h.1, eqArr_eq hO h.2.1, eqArr_eq hN h.2.2]
noncomputable def eqGround : Ground → Ground → Bool
  | .data, .data => true
  | .chain, .chain => true
  | .guard, .guard => true
  | .phase, .phase => true
  | .textOnly a, .textOnly b => decide (a = b)
  | .gcOnly a, .gcOnly b => decide (a = b)
  | _, _ => false
noncomputable def eqEdge (a b : Edge) : Bool := Nat.beq a.on b.on && eqGround a.ground b.ground
theorem eqEdge_eq (a b : Edge) (h : eqEdge a b = true) : a = b := by
  obtain ⟨i, g⟩ := a
  obtain ⟨j, k⟩ := b
  simp only [eqEdge, Bool.and_eq_true, Nat.beq_eq] at h
  obtain ⟨rfl, h⟩ := h
  congr 1
  cases g <;> cases k <;> simp_all [eqGround]
noncomputable def eqGuard (a b : Nat × Bool) : Bool := Nat.beq a.1 b.1 && (a.2 == b.2)
theorem eqGuard_eq (a b : Nat × Bool) (h : eqGuard a b = true) : a = b := by
  simp only [eqGuard, Bool.and_eq_true, Nat.beq_eq] at h
  exact Prod.ext h.1 (eq_of_beq h.2)
noncomputable def eqStr (a b : String) : Bool := decide (a = b)
noncomputable def eqOper (a b : Oper) : Bool :=
  eqOpt Nat.beq a.dst b.dst && (eqOp a.op b.op && (Nat.beq a.type b.type && (eqStr a.pos b.pos && (eqArr eqEdge a.after b.after && eqOpt eqGuard a.guard b.guard))))
theorem eqOper_eq (a b : Oper) (h : eqOper a b = true) : a = b := by
  obtain ⟨a1, a2, a3, a4, a5, a6⟩ := a
  obtain ⟨b1, b2, b3, b4, b5, b6⟩ := b
  simp only [eqOper, Bool.and_eq_true, Nat.beq_eq] at h
  obtain ⟨h1, h2, h3, h4, h5, h6⟩ := h
  rw [eqOpt_eq natBeq_eq h1, eqOp_eq h2, h3, of_decide_eq_true h4, eqArr_eq eqEdge_eq h5, eqOpt_eq eqGuard_eq h6]
noncomputable def eqCode : Code → Code → Bool
  | .skip, .skip => true
  | .region i o d, .region j p e => Nat.beq i j && (eqArr eqOper o p && (d == e))
  | .seq a b, .seq c d => eqCode a c && eqCode b d
  | .cond x a b, .cond y c d => eqOd x y && (eqCode a c && eqCode b d)
  | .block i a, .block j b => Nat.beq i j && eqCode a b
  | .loop a, .loop b => eqCode a b
  | .exit i, .exit j => Nat.beq i j
  | .scope a, .scope b => eqCode a b
  | .label i, .label j => Nat.beq i j
  | .goto i, .goto j => Nat.beq i j
  | .ret, .ret => true
  | _, _ => false
theorem eqCode_eq : ∀ {a b : Code}, eqCode a b = true → a = b := by
  intro a
  induction a with
  | seq x y ihx ihy => intro b h; cases b <;> simp only [eqCode, Bool.false_eq_true, Bool.and_eq_true] at h; rw [ihx h.1, ihy h.2]
  | cond c x y ihx ihy => intro b h; cases b <;> simp only [eqCode, Bool.false_eq_true, Bool.and_eq_true] at h; rw [eqOd_eq h.1, ihx h.2.1, ihy h.2.2]
  | block i x ih => intro b h; cases b <;> simp only [eqCode, Bool.false_eq_true, Bool.and_eq_true, Nat.beq_eq] at h; rw [h.1, ih h.2]
  | loop x ih => intro b h; cases b <;> simp only [eqCode, Bool.false_eq_true] at h; rw [ih h]
  | scope x ih => intro b h; cases b <;> simp only [eqCode, Bool.false_eq_true] at h; rw [ih h]
  | region i o d => intro b h; cases b <;> simp only [eqCode, Bool.false_eq_true, Bool.and_eq_true, Nat.beq_eq] at h; rw [h.1, eqArr_eq eqOper_eq h.2.1, eq_of_beq h.2.2]
  | exit i => intro b h; cases b <;> simp only [eqCode, Bool.false_eq_true, Nat.beq_eq] at h; rw [h]
  | label i => intro b h; cases b <;> simp only [eqCode, Bool.false_eq_true, Nat.beq_eq] at h; rw [h]
  | goto i => intro b h; cases b <;> simp only [eqCode, Bool.false_eq_true, Nat.beq_eq] at h; rw [h]
  | skip => intro b h; cases b <;> simp only [eqCode, Bool.false_eq_true] at h; rfl
  | ret => intro b h; cases b <;> simp only [eqCode, Bool.false_eq_true] at h; rfl
  | _ => intro b h; cases b <;> simp [eqCode] at h
noncomputable def eqExO : Ex → Ex → Bool
  | .normal, .normal => true
  | .exit i, .exit j => Nat.beq i j
  | .ret, .ret => true
  | .goto i, .goto j => Nat.beq i j
  | _, _ => false
theorem eqExO_eq {a b : Ex} (h : eqExO a b = true) : a = b := by
  cases a <;> cases b <;> simp only [eqExO, Bool.false_eq_true, Nat.beq_eq] at h <;> first | rfl | rw [h]

/-! ## What a template's blocks are -/
/-- The temporaries of a range over a function. -/
noncomputable def Blk.tms (b : Blk) : Tr AV := Blk.putAll .nil 0 (b.cellsFrom 0 b.n)
noncomputable def Blk.obj (b : Blk) : AObj :=
  match b.lp with
  | none => .blk b
  | some x => .loop x.st x.pend b.tms b.n x.ps x.asg x.body
theorem Blk.live_obj (b : Blk) (p : Nat × Nat) : live b.obj p := by
  unfold Blk.obj
  split <;> exact True.intro
theorem Blk.obj_nogrow (b : Blk) {el : TypeId} {ts : List Ty} {e : SX} : b.obj ≠ .grow el ts e := by
  unfold Blk.obj
  split <;> intro h <;> cases h
theorem Blk.tms_get (b : Blk) (i : Nat) : b.tms.get i = if i < b.n then some (b.cell i) else none := by
  unfold Blk.tms
  rw [get_putAll]
  by_cases h : i < b.n
  · rw [if_pos ⟨Nat.zero_le _, by simp [length_cellsFrom]; exact h⟩, if_pos h]
    simp only [Nat.sub_zero]
    rw [getElem?_cellsFrom b b.n 0 i h, Nat.zero_add]
  · rw [if_neg (by simp [length_cellsFrom]; omega), if_neg h]
    simp
/-- What a block of a template says, cell by cell. -/
theorem OR.obj_map {m m' : Env} {p : Nat × Nat} {b c : Blk} {w : World} (h : OR m p b.obj w) (hl : c.lp = b.lp) (ht : c.t = b.t) (hn : c.n = b.n) (hrow : c.row = b.row) (hsz : c.sz = b.sz)
    (hf : ∀ i v, i < b.n → V m (b.cell i) v → V m' (c.cell i) v) : OR m' p c.obj w := by
  unfold Blk.obj at h ⊢
  rw [hl]
  cases hb : b.lp with
  | none =>
    simp only [hb] at h ⊢
    obtain ⟨cs, g1, g2, g3, g4⟩ := (show BR m p b w from h)
    exact ⟨cs, by rw [ht]; exact g1, by rw [hn]; exact g2, fun i hi => let ⟨v, k1, k2⟩ := g3 i (by rw [← hn]; exact hi); ⟨v, k1, hf i v (by rw [← hn]; exact hi) k2⟩, by rw [hrow, hsz, hn]; exact g4⟩
  | some x =>
    simp only [hb] at h ⊢
    obtain ⟨fn, d, tmps, k1, k2, k3⟩ := h
    refine ⟨fn, d, tmps, k1, by rw [hn]; exact k2, fun t => ?_⟩
    have := k3 t
    rw [Blk.tms_get] at this ⊢
    rw [hn]
    by_cases hi : t < b.n
    · rw [if_pos hi] at this ⊢
      exact hf t _ hi this
    · rw [if_neg hi] at this ⊢
      simpa only [Option.getD_none, V] using this
end Go.AM
