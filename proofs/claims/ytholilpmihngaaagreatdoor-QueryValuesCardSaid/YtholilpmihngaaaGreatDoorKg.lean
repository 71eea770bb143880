/-
  A part of the proof of QueryValues (the machine on named data, and the contracts of the functions that the law reaches): Q16 Q17 Q18.
-/
import Derived.Test.YtholilpmihngaaaGreatDoorKf
import Derived.Test.YtholilpmihngaaaGreatDoorKe
import Derived.Test.YtholilpmihngaaaGreatDoorKa
set_option linter.all false
set_option linter.unusedVariables false
set_option linter.unusedSimpArgs false
set_option linter.unusedSectionVars false
namespace Go.Proofs.YtholilpmihngaaaGreatDoor
open Go Go.AM
/-! ### the value of a node: plans of either kind -/
noncomputable abbrev rowE : SX := .at (.v 3) (nD 2) 0
noncomputable abbrev celE (j : Nat) : SX := .at rowE (nD 3) j
noncomputable abbrev hA (j : Nat) : SX := .at (.v 1) (nD 2) j
noncomputable abbrev hB (j : Nat) : SX := .at (.v 1) (nD 3) j
noncomputable abbrev nulX : List SX := [k64 1, k64 0, noStr]
noncomputable abbrev booX (n : Nat) : List SX := [k64 2, k64 n, noStr]
section
variable {P : Type} (ask : SX → P → P → P) (kn : List (SX × Bool) → P → P) (nx : List SX → P) (er : SX → P) (nev : P)
/-- A value as a truth: q: the program's, else the document's. -/
noncomputable def trP (q : Bool) (a : Nat → SX) (p : SX → P) : P := match q with
  | true => ask (eql (a 0) (k64 2)) (p (a 1)) (p (k64 2))
  | false => ask (eql (a 0) (k64 2)) (ask (eql (a 1) (k64 1)) (p (k64 1)) (p (k64 0))) (p (k64 2))
/-- A truth as a value. -/
noncomputable def saP (q : Bool) (t : SX) : P := match q with
  | true => ask (eql t (k64 2)) (nx nulX) (ask (eql t (k64 1)) (nx (booX 1)) (nx (booX 0)))
  | false => ask (eql t (k64 1)) (nx (booX 1)) (ask (eql t (k64 0)) (nx (booX 0)) (nx nulX))
noncomputable def knA (p : P) : P := kn [(lss (nD 2) (k64 0), false), (lss (nD 2) (.len (.v 1)), true)] p
noncomputable def knB (p : P) : P := kn [(lss (nD 3) (k64 0), false), (lss (nD 3) (.len (.v 1)), true)] p
noncomputable def knC (p : P) : P := kn [(lss (nD 2) (k64 0), false), (lss (nD 2) (.len (.v 3)), true), (lss (nD 3) (k64 0), false), (lss (nD 3) (.len rowE), true)] p
noncomputable abbrev ap (f : Nat) (es : List SX) (i j : Nat) : SX := .at (.app f es) (k64 i) j
noncomputable def rkQ (es : List SX) : P := ask (eql (ap 15 es 1 0) (k64 0)) (nx [ap 15 es 0 0, ap 15 es 0 1, ap 15 es 0 2]) (er (ap 15 es 1 0))
noncomputable def tsQ (q : Bool) (es : List SX) : P := ask (eql (ap 14 es 1 0) (k64 0)) (saP ask nx q (ap 14 es 0 0)) (er (ap 14 es 1 0))
noncomputable def byN (n : Nat) (t f : P) : P := ask (eql (nD 0) (k64 n)) (kn (kindK (nD 0) n 12) t) f
noncomputable abbrev abX : List SX := [nD 1, hA 0, hA 1, hA 2, hB 0, hB 1, hB 2]
noncomputable def evP (q : Bool) : P :=
  byN ask kn 1 (nx [nD 6, nD 7, nD 8]) (byN ask kn 2 (knC kn (nx [celE 0, celE 1, celE 2])) (byN ask kn 3 (knA kn (trP ask q hA fun a => saP ask nx q (ap 18 [a] 0 0)))
    (byN ask kn 4 (knA kn (rkQ ask nx er [k64 2, k64 3, k64 0, noStr, hA 0, hA 1, hA 2]))
    (byN ask kn 5 (knA kn (knB kn (trP ask q hA fun a => trP ask q hB fun b => saP ask nx q (ap 16 [a, b] 0 0))))
    (byN ask kn 6 (knA kn (knB kn (trP ask q hA fun a => trP ask q hB fun b => saP ask nx q (ap 17 [a, b] 0 0))))
    (byN ask kn 7 (knA kn (knB kn (tsQ ask nx er q abX))) (byN ask kn 8 (knA kn (knB kn (rkQ ask nx er abX)))
    (byN ask kn 9 (knA kn (ask (eql (hA 0) (k64 1)) (nx (booX 1)) (nx (booX 0)))) (byN ask kn 10 (knA kn (ask (eql (hA 0) (k64 1)) (nx (booX 0)) (nx (booX 1)))) nev)))))))))
end
theorem not3 (a : Int) : notZ a = 0 ∨ notZ a = 1 ∨ notZ a = 2 := by
  unfold notZ fairZ
  by_cases h : a = 0 ∨ a = 1
  · rw [if_pos h, if_neg (by omega)]
    omega
  · rw [if_neg h, if_pos rfl]
    omega
theorem and3 (a b : Int) : andZ a b = 0 ∨ andZ a b = 1 ∨ andZ a b = 2 := by
  unfold andZ
  split
  · exact .inl rfl
  · split
    · exact .inr (.inr rfl)
    · exact .inr (.inl rfl)
theorem or3 (a b : Int) : orZ a b = 0 ∨ orZ a b = 1 ∨ orZ a b = 2 := by
  unfold orZ
  split
  · exact .inr (.inl rfl)
  · split
    · exact .inr (.inr rfl)
    · exact .inl rfl
theorem test3 (op k n : Int) (s : ByteArray) (k' n' : Int) (s' : ByteArray) : (testV op k n s k' n' s').1 = 0 ∨ (testV op k n s k' n' s').1 = 1 ∨ (testV op k n s k' n' s').1 = 2 := by
  unfold testV
  split
  · exact .inl rfl
  · split
    · exact .inr (.inr rfl)
    · split
      · exact .inl rfl
      · split
        · exact .inr (.inl rfl)
        · exact .inl rfl
theorem reck_shape (op k n : Int) (s : ByteArray) (k' n' : Int) (s' : ByteArray) : ∃ a b c, (reckV op k n s k' n' s').1 = [.int .i64 a, .int .i64 b, .str c] := by
  unfold reckV
  split
  · exact ⟨_, _, _, rfl⟩
  · split
    · exact ⟨_, _, _, rfl⟩
    · split
      · exact ⟨_, _, _, rfl⟩
      · split
        · exact ⟨_, _, _, rfl⟩
        · exact ⟨_, _, _, rfl⟩
section
variable {P : Type} {ask : SX → P → P → P} {kn : List (SX × Bool) → P → P} {nx : List SX → P} {er : SX → P} {nev : P} {R : Rho} {Good : P → Prop} {q : Bool}
theorem trP_goal (hask : ∀ e b t f, den R e = .bool b → (b = true → Good t) → (b = false → Good f) → Good (ask e t f)) {a : Nat → SX} {p : SX → P} {k n : Int} {s : ByteArray} (a0 : den R (a 0) = .int .i64 k) (a1 : den R (a 1) = .int .i64 n) (hv : valOK k n s.size = true)
    (hp : ∀ e, den R e = .int .i64 (truthZ k n) → Good (p e)) : Good (trP ask q a p) := by
  have h2 : k = 2 → n = 0 ∨ n = 1 := by
    rintro rfl
    unfold valOK at hv
    simp at hv
    omega
  cases q
  · refine hask _ _ _ _ (d_eql a0 (d_k .i64 2)) (fun h => hask _ _ _ _ (d_eql a1 (d_k .i64 1)) (fun h1 => hp _ ?_) fun h1 => hp _ ?_) fun h => hp _ ?_
    all_goals simp only [decide_eq_true_eq, decide_eq_false_iff_not, Int.ofNat_eq_natCast] at *
    · have h : k = 2 := h
      have h1 : n = 1 := h1
      rw [h, h1]; rfl
    · have h : k = 2 := h
      have h1 : ¬ n = 1 := h1
      unfold truthZ
      rw [if_pos h, if_neg h1]
      rfl
    · have h : ¬ k = 2 := h
      unfold truthZ
      rw [if_neg h]
      rfl
  · refine hask _ _ _ _ (d_eql a0 (d_k .i64 2)) (fun h => hp _ ?_) fun h => hp _ ?_
    all_goals simp only [decide_eq_true_eq, decide_eq_false_iff_not, Int.ofNat_eq_natCast] at *
    · have h : k = 2 := h
      rw [a1]
      unfold truthZ
      rw [if_pos h]
      rcases h2 h with e | e <;> rw [e] <;> rfl
    · have h : ¬ k = 2 := h
      unfold truthZ
      rw [if_neg h]
      rfl
theorem saP_goal (hask : ∀ e b t f, den R e = .bool b → (b = true → Good t) → (b = false → Good f) → Good (ask e t f)) {t : SX} {z : Int} (ht : den R t = .int .i64 z) (h3 : z = 0 ∨ z = 1 ∨ z = 2) (hnx : ∀ row, row.map (den R) = saidV z → Good (nx row)) : Good (saP ask nx q t) := by
  have r2 : z = 2 → Good (nx nulX) := fun h => hnx _ (by rw [h]; rfl)
  have r1 : z = 1 → Good (nx (booX 1)) := fun h => hnx _ (by rw [h]; rfl)
  have r0 : z = 0 → Good (nx (booX 0)) := fun h => hnx _ (by rw [h]; rfl)
  cases q
  · refine hask _ _ _ _ (d_eql ht (d_k .i64 1)) (fun h => r1 ?_) fun h => hask _ _ _ _ (d_eql ht (d_k .i64 0)) (fun h1 => r0 ?_) fun h1 => r2 ?_
    all_goals simp only [decide_eq_true_eq, decide_eq_false_iff_not, Int.ofNat_eq_natCast] at *
    all_goals omega
  · refine hask _ _ _ _ (d_eql ht (d_k .i64 2)) (fun h => r2 ?_) fun h => hask _ _ _ _ (d_eql ht (d_k .i64 1)) (fun h1 => r1 ?_) fun h1 => r0 ?_
    all_goals simp only [decide_eq_true_eq, decide_eq_false_iff_not, Int.ofNat_eq_natCast] at *
    all_goals omega
theorem rkQ_goal (hI : R.I = theI) (hask : ∀ e b t f, den R e = .bool b → (b = true → Good t) → (b = false → Good f) → Good (ask e t f)) {es : List SX} {o k n k' n' : Int} {s s' : ByteArray} (hes : es.map (den R) = [.int .i64 o, .int .i64 k, .int .i64 n, .str s, .int .i64 k', .int .i64 n', .str s'])
    (hnx : ∀ row, row.map (den R) = (reckV o k n s k' n' s').1 → (reckV o k n s k' n' s').2 = 0 → Good (nx row)) (her : ∀ e, den R e = .int .i64 (reckV o k n s k' n' s').2 → (reckV o k n s k' n' s').2 ≠ 0 → Good (er e)) : Good (rkQ ask nx er es) := by
  have d1 : den R (ap 15 es 1 0) = .int .i64 (reckV o k n s k' n' s').2 := d_res (j := 1) (F := Freck) (by rw [hI]; rfl) (by rw [hes]; rfl)
  have d0 : ∀ j, den R (ap 15 es 0 j) = (reckV o k n s k' n' s').1.getD j (.bool false) := fun j => d_res (F := Freck) (by rw [hI]; rfl) (by rw [hes]; rfl)
  refine hask _ _ _ _ (d_eql d1 (d_k .i64 0)) (fun h => hnx _ ?_ ?_) fun h => her _ d1 ?_
  · obtain ⟨a, b, c, hs⟩ := reck_shape o k n s k' n' s'
    simp only [List.map_cons, List.map_nil, d0]
    rw [hs]
    rfl
  · simpa using h
  · simpa using h
theorem tsQ_goal (hI : R.I = theI) (hask : ∀ e b t f, den R e = .bool b → (b = true → Good t) → (b = false → Good f) → Good (ask e t f)) {es : List SX} {o k n k' n' : Int} {s s' : ByteArray} (hes : es.map (den R) = [.int .i64 o, .int .i64 k, .int .i64 n, .str s, .int .i64 k', .int .i64 n', .str s'])
    (hnx : ∀ row, row.map (den R) = saidV (testV o k n s k' n' s').1 → (testV o k n s k' n' s').2 = 0 → Good (nx row)) (her : ∀ e, den R e = .int .i64 (testV o k n s k' n' s').2 → (testV o k n s k' n' s').2 ≠ 0 → Good (er e)) : Good (tsQ ask nx er q es) := by
  have d1 : den R (ap 14 es 1 0) = .int .i64 (testV o k n s k' n' s').2 := d_res (j := 1) (F := Ftest) (by rw [hI]; rfl) (by rw [hes]; rfl)
  have d0 : den R (ap 14 es 0 0) = .int .i64 (testV o k n s k' n' s').1 := d_res (F := Ftest) (by rw [hI]; rfl) (by rw [hes]; rfl)
  refine hask _ _ _ _ (d_eql d1 (d_k .i64 0)) (fun h => ?_) fun h => her _ d1 ?_
  · have h : (testV o k n s k' n' s').2 = 0 := by simpa using h
    exact saP_goal hask d0 (test3 _ _ _ _ _ _ _) fun row hr => hnx row hr h
  · simpa using h
/-- THE VALUE OF A NODE. -/
theorem evP_goal (hI : R.I = theI) (hask : ∀ e b t f, den R e = .bool b → (b = true → Good t) → (b = false → Good f) → Good (ask e t f)) (hkn : ∀ l p, (∀ x ∈ l, den R x.1 = .bool x.2) → Good p → Good (kn l p))
    {l had rows : List (List DV)} {i : Int} (e0 : den R (.v 0) = .list l) (e1 : den R (.v 1) = .list had) (e2 : den R (.v 2) = .int .i64 i) (e3 : den R (.v 3) = .list rows) (hi0 : 0 ≤ i) (hil : i.toNat < l.length) (hc : NodeC l[i.toNat])
    (hn : nodeR (l.getD i.toNat []) i.toNat = true) (hp : placedR (l.getD i.toNat []) rows = true) (hlen : had.length = i.toNat) (hv : ∀ v ∈ had, ValV v) (hrw : ∀ q ∈ rows, IsR q)
    (hnx : ∀ row, row.map (den R) = (nodeV (l.getD i.toNat []) had rows).1 → (nodeV (l.getD i.toNat []) had rows).2 = 0 → Good (nx row)) (her : ∀ e, den R e = .int .i64 (nodeV (l.getD i.toNat []) had rows).2 → (nodeV (l.getD i.toNat []) had rows).2 ≠ 0 → Good (er e)) : Good (evP ask kn nx er nev q) := by
  obtain ⟨k, o, a, b, t, nm, vk, vn, vs, hrow⟩ := hc
  have hget : l.getD i.toNat [] = [.int .i64 k, .int .i64 o, .int .i64 a, .int .i64 b, .str t, .str nm, .int .i64 vk, .int .i64 vn, .str vs] := by rw [getD_lt hil]; exact hrow
  have dc : ∀ c, den R (nD c) = ([.int .i64 k, .int .i64 o, .int .i64 a, .int .i64 b, .str t, .str nm, .int .i64 vk, .int .i64 vn, .str vs] : List DV).getD c (.bool false) := by
    intro c
    rw [d_at c e0 e2, hget]
  rw [hget] at hn hp hnx her
  have c0 : den R (nD 0) = .int .i64 k := dc 0
  have c1 : den R (nD 1) = .int .i64 o := dc 1
  have c2 : den R (nD 2) = .int .i64 a := dc 2
  have c3 : den R (nD 3) = .int .i64 b := dc 3
  have hn' : nodeOK k o a b vk vn vs.size i = true := by
    have : nodeOK k o a b vk vn vs.size ((i.toNat : Nat) : Int) = true := hn
    rwa [show ((i.toNat : Nat) : Int) = i by omega] at this
  simp only [nodeOK, decide_eq_true_eq] at hn'
  obtain ⟨hkid, h7, h8, h1⟩ := hn'
  have hlenI : (had.length : Int) = i := by omega
  have inA : kidsZ k = 1 ∨ kidsZ k = 2 → 0 ≤ a ∧ a < had.length := by intro h; omega
  have inB : kidsZ k = 2 → 0 ≤ b ∧ b < had.length := by intro h; omega
  have goA : kidsZ k = 1 ∨ kidsZ k = 2 → ∀ {p : P}, (∀ k1 n1 s1, had.getD a.toNat [] = [.int .i64 k1, .int .i64 n1, .str s1] → valOK k1 n1 s1.size = true → den R (hA 0) = .int .i64 k1 → den R (hA 1) = .int .i64 n1 → den R (hA 2) = .str s1 → Good p) → Good (knA kn p) := by
    intro h p hg
    have hb := inA h
    have hal : a.toNat < had.length := by omega
    obtain ⟨k1, n1, s1, hv1, hok⟩ := getD_all hv hal
    have dj : ∀ j, den R (hA j) = ([.int .i64 k1, .int .i64 n1, .str s1] : List DV).getD j (.bool false) := fun j => by rw [d_at j e1 c2, hv1]
    refine hkn _ _ (fun x hx => ?_) (hg k1 n1 s1 hv1 hok (dj 0) (dj 1) (dj 2))
    simp only [List.mem_cons, List.not_mem_nil, or_false] at hx
    rcases hx with rfl | rfl
    · rw [d_lss c2 (d_k .i64 0), decide_eq_false (show ¬ a < ((0 : Nat) : Int) by omega)]
    · rw [d_lss c2 (d_lenL e1), decide_eq_true hb.2]
  have goB : kidsZ k = 2 → ∀ {p : P}, (∀ k1 n1 s1, had.getD b.toNat [] = [.int .i64 k1, .int .i64 n1, .str s1] → valOK k1 n1 s1.size = true → den R (hB 0) = .int .i64 k1 → den R (hB 1) = .int .i64 n1 → den R (hB 2) = .str s1 → Good p) → Good (knB kn p) := by
    intro h p hg
    have hb := inB h
    have hal : b.toNat < had.length := by omega
    obtain ⟨k1, n1, s1, hv1, hok⟩ := getD_all hv hal
    have dj : ∀ j, den R (hB j) = ([.int .i64 k1, .int .i64 n1, .str s1] : List DV).getD j (.bool false) := fun j => by rw [d_at j e1 c3, hv1]
    refine hkn _ _ (fun x hx => ?_) (hg k1 n1 s1 hv1 hok (dj 0) (dj 1) (dj 2))
    simp only [List.mem_cons, List.not_mem_nil, or_false] at hx
    rcases hx with rfl | rfl
    · rw [d_lss c3 (d_k .i64 0), decide_eq_false (show ¬ b < ((0 : Nat) : Int) by omega)]
    · rw [d_lss c3 (d_lenL e1), decide_eq_true hb.2]
  have byn : ∀ {n : Nat} {t f : P}, (k = n → Good t) → (k ≠ n → Good f) → Good (byN ask kn n t f) := by
    intro n t f ht hf
    refine hask _ _ _ _ (d_eql c0 (d_k .i64 n)) (fun q => ?_) (fun q => hf (by simpa using q))
    simp only [decide_eq_true_eq] at q
    exact hkn _ _ (kindK_ok (by rw [c0, q]) 12) (ht q)
  have rk : ∀ r : List DV, iD r 0 = k → True := fun _ _ => trivial
  unfold evP
  refine byn (fun q => ?_) fun q1 => byn (fun q => ?_) fun q2 => byn (fun q => ?_) fun q3 => byn (fun q => ?_) fun q4 => byn (fun q => ?_) fun q5 => byn (fun q => ?_) fun q6 => byn (fun q => ?_) fun q7 => byn (fun q => ?_) fun q8 => byn (fun q => ?_) fun q9 => byn (fun q => ?_) fun q10 => ?_
  · have q : k = 1 := q
    subst q
    refine hnx _ ?_ rfl
    simp only [List.map_cons, List.map_nil, dc]
    rfl
  · have q : k = 2 := q
    subst q
    simp only [placedR, Bool.or_eq_true, Bool.and_eq_true, decide_eq_true_eq] at hp
    obtain ⟨ha, hb, hval⟩ := hp.resolve_left (by show ¬ ((2 : Int) ≠ 2); decide)
    have ha : 0 ≤ a ∧ a < rows.length := ha
    have ha2 : a.toNat < rows.length := by omega
    obtain ⟨lv, hq, _, hlv⟩ := hrw _ (List.getElem_mem ha2)
    have hq' : rows.getD a.toNat [] = [.list lv] := by rw [getD_lt ha2]; exact hq
    have dr : den R rowE = .list lv := by
      rw [d_at 0 e3 c2, hq']
      rfl
    have hb : 0 ≤ b ∧ b < lv.length := by
      have h4 : (0 ≤ b ∧ b < ((lD (rows.getD a.toNat []) 0).length : Int)) := hb
      rw [hq'] at h4
      exact h4
    have hb2 : b.toNat < lv.length := by omega
    obtain ⟨x, y, z, hz, _⟩ := hlv _ (List.getElem_mem hb2)
    have hz' : lv.getD b.toNat [] = [.int .i64 x, .int .i64 y, .str z] := by rw [getD_lt hb2]; exact hz
    have dcel : ∀ j, den R (celE j) = ([.int .i64 x, .int .i64 y, .str z] : List DV).getD j (.bool false) := by
      intro j
      rw [d_at j dr c3, hz']
    refine hkn _ _ (fun x hx => ?_) (hnx _ ?_ rfl)
    · simp only [List.mem_cons, List.not_mem_nil, or_false] at hx
      rcases hx with rfl | rfl | rfl | rfl
      · rw [d_lss c2 (d_k .i64 0), decide_eq_false (show ¬ a < ((0 : Nat) : Int) by omega)]
      · rw [d_lss c2 (d_lenL e3), decide_eq_true ha.2]
      · rw [d_lss c3 (d_k .i64 0), decide_eq_false (show ¬ b < ((0 : Nat) : Int) by omega)]
      · rw [d_lss c3 (d_lenL dr), decide_eq_true hb.2]
    · simp only [List.map_cons, List.map_nil, dcel]
      show _ = (lD (rows.getD a.toNat []) 0).getD b.toNat []
      rw [hq']
      show _ = lv.getD b.toNat []
      rw [hz']
      rfl
  · have q : k = 3 := q
    subst q
    refine goA (.inl rfl) fun k1 n1 s1 hg hok a0 a1 a2 => trP_goal hask a0 a1 hok fun e he => saP_goal (z := notZ (truthZ k1 n1)) hask (d_res (F := Fnot) (by rw [hI]; rfl) (by simp only [List.map_cons, List.map_nil, he]; rfl)) (not3 _) fun row hr => hnx row (hr.trans ?_) rfl
    show saidV (notZ (truthZ k1 n1)) = saidV (notZ (trV (had.getD a.toNat [])))
    rw [hg]
    rfl
  · have q : k = 4 := q
    subst q
    refine goA (.inl rfl) fun k1 n1 s1 hg hok a0 a1 a2 => ?_
    have hN : ∀ (r : List DV), nodeV [.int .i64 4, .int .i64 o, .int .i64 a, .int .i64 b, .str t, .str nm, .int .i64 vk, .int .i64 vn, .str vs] had rows = reckV 2 3 0 ⟨#[]⟩ k1 n1 s1 := by
      intro _
      show reckN 2 [.int .i64 3, .int .i64 0, .str ⟨#[]⟩] (had.getD a.toNat []) = _
      rw [hg]
      rfl
    rw [hN []] at hnx her
    exact rkQ_goal hI hask (by simp only [List.map_cons, List.map_nil, a0, a1, a2]; rfl) hnx her
  · have q : k = 5 := q
    subst q
    refine goA (.inr rfl) fun k1 n1 s1 hg hok a0 a1 a2 => goB rfl fun k2 n2 s2 hg2 hok2 b0 b1 b2 => trP_goal hask a0 a1 hok fun e he => trP_goal hask b0 b1 hok2 fun e' he' => saP_goal (z := andZ (truthZ k1 n1) (truthZ k2 n2)) hask (d_res (F := Fand) (by rw [hI]; rfl) (by simp only [List.map_cons, List.map_nil, he, he']; rfl)) (and3 _ _) fun row hr => hnx row (hr.trans ?_) rfl
    show saidV _ = saidV (andZ (trV (had.getD a.toNat [])) (trV (had.getD b.toNat [])))
    rw [hg, hg2]
    rfl
  · have q : k = 6 := q
    subst q
    refine goA (.inr rfl) fun k1 n1 s1 hg hok a0 a1 a2 => goB rfl fun k2 n2 s2 hg2 hok2 b0 b1 b2 => trP_goal hask a0 a1 hok fun e he => trP_goal hask b0 b1 hok2 fun e' he' => saP_goal (z := orZ (truthZ k1 n1) (truthZ k2 n2)) hask (d_res (F := For) (by rw [hI]; rfl) (by simp only [List.map_cons, List.map_nil, he, he']; rfl)) (or3 _ _) fun row hr => hnx row (hr.trans ?_) rfl
    show saidV _ = saidV (orZ (trV (had.getD a.toNat [])) (trV (had.getD b.toNat [])))
    rw [hg, hg2]
    rfl
  · have q : k = 7 := q
    subst q
    refine goA (.inr rfl) fun k1 n1 s1 hg hok a0 a1 a2 => goB rfl fun k2 n2 s2 hg2 hok2 b0 b1 b2 => ?_
    have hN : nodeV [.int .i64 7, .int .i64 o, .int .i64 a, .int .i64 b, .str t, .str nm, .int .i64 vk, .int .i64 vn, .str vs] had rows = if (testV o k1 n1 s1 k2 n2 s2).2 ≠ 0 then (zeroV, (testV o k1 n1 s1 k2 n2 s2).2) else (saidV (testV o k1 n1 s1 k2 n2 s2).1, 0) := by
      show testN o (had.getD a.toNat []) (had.getD b.toNat []) = _
      rw [hg, hg2]
      rfl
    rw [hN] at hnx her
    refine tsQ_goal (o := o) (k := k1) (n := n1) (s := s1) (k' := k2) (n' := n2) (s' := s2) hI hask (by simp only [List.map_cons, List.map_nil, c1, a0, a1, a2, b0, b1, b2]) (fun row hr hz => hnx row ?_ ?_) fun e he hz => her e ?_ ?_
    · rw [if_neg (fun h => h hz)]; exact hr
    · rw [if_neg (fun h => h hz)]
    · rw [if_pos hz]; exact he
    · rw [if_pos hz]; exact hz
  · have q : k = 8 := q
    subst q
    refine goA (.inr rfl) fun k1 n1 s1 hg hok a0 a1 a2 => goB rfl fun k2 n2 s2 hg2 hok2 b0 b1 b2 => ?_
    have hN : nodeV [.int .i64 8, .int .i64 o, .int .i64 a, .int .i64 b, .str t, .str nm, .int .i64 vk, .int .i64 vn, .str vs] had rows = reckV o k1 n1 s1 k2 n2 s2 := by
      show reckN o (had.getD a.toNat []) (had.getD b.toNat []) = _
      rw [hg, hg2]
      rfl
    rw [hN] at hnx her
    exact rkQ_goal hI hask (by simp only [List.map_cons, List.map_nil, c1, a0, a1, a2, b0, b1, b2]) hnx her
  · have q : k = 9 := q
    subst q
    refine goA (.inl rfl) fun k1 n1 s1 hg hok a0 a1 a2 => hask _ _ _ _ (d_eql a0 (d_k .i64 1)) (fun h => hnx _ ?_ rfl) fun h => hnx _ ?_ rfl
    all_goals show _ = isV (decide (iD (had.getD a.toNat []) 0 = 1)); rw [hg]; show _ = isV (decide (k1 = 1))
    · have h : decide (k1 = 1) = true := h
      rw [h]
      rfl
    · have h : decide (k1 = 1) = false := h
      rw [h]
      rfl
  · have q : k = 10 := q
    subst q
    refine goA (.inl rfl) fun k1 n1 s1 hg hok a0 a1 a2 => hask _ _ _ _ (d_eql a0 (d_k .i64 1)) (fun h => hnx _ ?_ rfl) fun h => hnx _ ?_ rfl
    all_goals show _ = isV (decide (iD (had.getD a.toNat []) 0 ≠ 1)); rw [hg]; show _ = isV (decide (k1 ≠ 1)); rw [decide_not]
    · have h : decide (k1 = 1) = true := h
      rw [h]
      rfl
    · have h : decide (k1 = 1) = false := h
      rw [h]
      rfl
  · exfalso
    have hno : k < 1 ∨ 10 < k := by
      simp only [Int.ofNat_eq_natCast, ne_eq] at *
      omega
    have := kids_no hno
    omega
end
end Go.Proofs.YtholilpmihngaaaGreatDoor
namespace Go.Proofs.YtholilpmihngaaaGreatDoor
open Go Go.AM
/-! ### expressions: the loops over nodes -/
noncomputable abbrev fnX (r : Nat) (f : FuncId) : AV := .clo (.func f) [.ptr r 0] []
noncomputable abbrev bDoes (r : Nat) : Blk := newBlk 158 [.sc .nilFunc, fnX r 81, fnX r 82, fnX r 83, fnX r 83, fnX r 84, fnX r 84, fnX r 84, fnX r 84, fnX r 83, fnX r 83]
noncomputable abbrev bRun (l : List AV) : Blk := newBlk 115 l
noncomputable abbrev dead3 : List AV := [.dead, .dead, .dead]
noncomputable abbrev dead11 : List AV := [.dead, .dead, .dead, .dead, .dead, .dead, .dead, .dead, .dead, .dead, .dead]
noncomputable def TRv (r o d : Nat) : Tmpl := { tm := [(0, .ptr r 0), (4, .ptr o 0), (5, .ptr d 0), (30, .sy tE (.v 0)), (31, .sy tI (.len (.v 0))), (32, .sy tI (.v 2))], ob := [(r, bRun [.sy tRows (.v 3), .own 77 tV (.v 1)]), (o, bVal dead3), (d, bDoes r)], ow := [⟨77, 31, tV, .v 1⟩], src := [.tm 30 tE, .own 0, .tm 32 tI, .cell r 0 tRows], osrc := [.cell r 1 31 tV] }
noncomputable def YRv (r o d : Nat) : Tmpl := { tm := [(0, .ptr r 0), (4, .ptr o 0)], ob := [(r, bRun [.dead, .own 77 tV (.v 0)]), (o, bVal dead3), (d, newBlk 158 dead11)], ow := [⟨77, 31, tV, .v 0⟩], src := [.own 0], osrc := [.cell r 1 31 tV] }
noncomputable abbrev preRv : List (SX × Bool) := [(eql (.v 2) (k64 0), true), (lss (k64 0) (.len (.v 1)), false), (.app 172 [.v 0, .v 3], true)]
noncomputable def SRv (r o d : Nat) : StdL := { n := 64, T := TRv r o d, tys := [tE, .slice tV, tI, tRows], pre := preRv ++ [(eql (.app 171 [.v 0, .v 1, .v 2, .v 3]) (k64 0), true)], f := 115, yes := (.exit 0, YRv r o d, 1) }
noncomputable def eQs : List Ent := [eFn 131 [.one tI] [.one tI] [] 18, eFn 137 [.one tI, .one tI] [.one tI] [] 16, eFn 138 [.one tI, .one tI] [.one tI] [] 17, eFn 140 [.one tI, .agg tV, .agg tV] [.one tI, .one tI] [] 14, eFn 134 [.one tI, .agg tV, .agg tV] [.agg tV, .one tI] [] 15]
theorem eQs_ok : EntsOK Tryz.prog G theI eQs := ⟨eFn_ok plainG (pre_true fnNot) (fun _ => rfl) [] (by kernel_rfl), eFn_ok plainG (pre_true fnAnd) (fun _ => rfl) [] (by kernel_rfl), eFn_ok plainG (pre_true fnOr) (fun _ => rfl) [] (by kernel_rfl), eFn_ok plainG (pre_true fnTest) (fun _ => rfl) [] (by kernel_rfl), eFn_ok plainG (pre_true fnReck) (fun _ => rfl) [] (by kernel_rfl), trivial⟩
noncomputable def eRs : List Ent := [eFn 43 [.one tI] [.one tI] [] 18, eFn 46 [.one tI, .one tI] [.one tI] [] 16, eFn 47 [.one tI, .one tI] [.one tI] [] 17, eFn 48 [.one tI, .agg tV, .agg tV] [.one tI, .one tI] [] 14, eFn 45 [.one tI, .agg tV, .agg tV] [.agg tV, .one tI] [] 15]
theorem eRs_ok : EntsOK Tryz.prog G theI eRs := ⟨eFn_ok plainG (pre_true fnRnot) (fun _ => rfl) [] (by kernel_rfl), eFn_ok plainG (pre_true fnRand) (fun _ => rfl) [] (by kernel_rfl), eFn_ok plainG (pre_true fnRor) (fun _ => rfl) [] (by kernel_rfl), eFn_ok plainG (pre_true fnRtest) (fun _ => rfl) [] (by kernel_rfl), eFn_ok plainG (pre_true fnReckon) (fun _ => rfl) [] (by kernel_rfl), trivial⟩
noncomputable abbrev errX : SX := .app 171 [.v 0, .v 1, .v 2, .v 3]
noncomputable abbrev codeRv : Code := loopAt 41 0
noncomputable abbrev sRv : StdL := SRv 10 12 13
noncomputable def LPv : PanSp := { n := 64, T := TRv 10 12 13, pre := preRv ++ [(eql errX (k64 0), false)], Z := { tm := [], ob := [(10, bRun [.dead, .dead]), (12, bVal dead3), (13, newBlk 158 dead11)] }, nm := [], t := 112, k := .i64, e := errX }
noncomputable abbrev nxE (row : List SX) : List SX := [.v 0, .cat (.v 1) (.row row), add (.v 2) (k64 1), .v 3]
noncomputable abbrev kE : List (SX × Bool) := [(lss (.v 2) (k64 0), false), (lss (k64 1000000) (.len (.v 1)), false)]
noncomputable def rRv : RPln := .ask (lss (.v 2) (.len (.v 0))) (knowR kE (evP RPln.ask knowR (fun row => .next (nxE row)) (fun _ => .never) .never true)) (.exit true [.v 1])
noncomputable def qRv : PPln := .ask (lss (.v 2) (.len (.v 0))) (knowP kE (evP PPln.ask knowP (fun row => .next (nxE row)) (fun e => .pan [] e) .never true)) .never
theorem okRv : (sRv.ok && (planOK sRv rRv && checkRound sRv.L (roundS theI (entS eQs) [] [] codeRv) [] rRv)) = true := by kernel_rfl
theorem okPv : (LPv.Z.ok LPv.T LPv.n && checkRoundP LPv (roundS theI (entS eQs) [] [] codeRv) (fun facts s => @codePL (mkO facts theI) Tryz.prog G ((entS eQs) (mkO facts theI)) 100 (@enterPL (mkO facts theI) Tryz.prog G ((entS eQs) (mkO facts theI)) 100 (pansOf []) 9) (fun _ => []) codeRv s) [] qRv) = true := by kernel_rfl
noncomputable def TV2 : Tmpl := { tm := [(1, .sy tRows (.v 3)), (4, .ptr 1 0), (8, .own 77 tV (.v 1)), (71, .sy tE (.v 0)), (72, .sy tI (.len (.v 0))), (73, .sy tI (.v 2))], ob := [(1, bVal dead3)], ow := [⟨77, 31, tV, .v 1⟩], src := [.tm 71 tE, .own 0, .tm 73 tI, .tm 1 tRows], osrc := [.tm 8 31 tV] }
noncomputable def YV2 : Tmpl := { tm := [(4, .ptr 1 0), (8, .own 77 tV (.v 0))], ob := [(1, bVal dead3)], ow := [⟨77, 31, tV, .v 0⟩], src := [.own 0], osrc := [.tm 8 31 tV] }
noncomputable def NV2 : Tmpl := { tm := [(4, .ptr 1 0), (5, .sy tI (.v 0))], ob := [(1, bVal zero3)], src := [.tm 5 tI] }
noncomputable def SV2 : StdL := { n := 99, T := TV2, tys := [tE, .slice tV, tI, tRows], pre := preRv, f := 116, two := true, yes := (.exit 2, YV2, 1), no := (.ret, NV2, 1) }
noncomputable abbrev codeV2 : Code := loopAt 8 1
noncomputable def rV2 : RPln := .ask (lss (.v 2) (.len (.v 0))) (knowR kE (evP RPln.ask knowR (fun row => .next (nxE row)) (fun e => .exit false [e]) .never false)) (.exit true [.v 1])
theorem okV2 : (SV2.ok && (planOK SV2 rV2 && checkRound SV2.L (roundS theI (entS eRs) [] [] codeV2) [] rV2)) = true := by kernel_rfl
end Go.Proofs.YtholilpmihngaaaGreatDoor
namespace Go.Proofs.YtholilpmihngaaaGreatDoor
open Go Go.AM
/-! ### expressions: what the loops do -/
def InvEv (ds : List DV) : Prop := ∃ l had i rows, ds = [.list l, .list had, .int .i64 i, .list rows] ∧ 0 ≤ i ∧ i.toNat ≤ l.length ∧ had.length = i.toNat ∧ okFrom l 0 = true ∧ placedFrom l rows 0 = true ∧ (∀ r ∈ l, IsL tN r) ∧ (∀ q ∈ rows, IsR q) ∧ ∀ v ∈ had, ValV v
theorem InvEv_init {R : Rho} (hI : R.I = theI) (h : IsL [tE, .slice tV, tI, tRows] (rhoL R.ρ 0 4)) (hp : ∀ p ∈ preRv, den R p.1 = .bool p.2) : InvEv (rhoL R.ρ 0 4) := by
  simp only [IsL, rhoL, List.cons.injEq] at h
  obtain ⟨d0, _, ⟨rfl, rfl⟩, h0, d1, _, ⟨rfl, rfl⟩, h1, d2, _, ⟨rfl, rfl⟩, h2, d3, _, ⟨rfl, rfl⟩, h3, _⟩ := h
  obtain ⟨l, f0, hl, hr⟩ := Is.lst h0
  obtain ⟨had, f1, _⟩ := Is.lst h1
  obtain ⟨i, f2, _⟩ := h2.i64
  obtain ⟨rows, f3, _, hrw⟩ := h3.rows
  have p1 := hp (eql (.v 2) (k64 0), true) (by simp)
  have p2 := hp (lss (k64 0) (.len (.v 1)), false) (by simp)
  have p3 := hp (.app 172 [.v 0, .v 3], true) (by simp)
  have e0 : den R (.v 0) = .list l := f0
  have e1 : den R (.v 1) = .list had := f1
  have e2 : den R (.v 2) = .int .i64 i := f2
  have e3 : den R (.v 3) = .list rows := f3
  rw [d_eql e2 (d_k .i64 0)] at p1
  rw [d_lss (d_k .i64 0) (d_lenL e1)] at p2
  rw [d_app, hI] at p3
  simp only [List.map_cons, List.map_nil, e0, e3] at p3
  have p3 : DV.bool (okFrom l 0 && placedFrom l rows 0) = .bool true := p3
  simp only [DV.bool.injEq, decide_eq_true_eq, decide_eq_false_iff_not, Bool.and_eq_true] at p1 p2 p3
  have p1 : i = 0 := p1
  subst p1
  have hh : had = [] := List.length_eq_zero_iff.1 (by omega)
  subst hh
  refine ⟨l, [], 0, rows, ?_, by omega, by simp, rfl, p3.1, p3.2, hr, hrw, by simp⟩
  show [R.ρ 0, R.ρ 1, R.ρ 2, R.ρ 3] = _
  rw [show R.ρ 0 = _ from f0, show R.ρ 1 = _ from f1, show R.ρ 2 = _ from f2, show R.ρ 3 = _ from f3]
theorem IsL4 {ds : List DV} (h : IsL [tE, .slice tV, tI, tRows] ds) : ∃ a b c d, ds = [a, b, c, d] := by
  simp only [IsL] at h
  obtain ⟨d0, _, rfl, _, d1, _, rfl, _, d2, _, rfl, _, d3, _, rfl, _, rfl⟩ := h
  exact ⟨d0, d1, d2, d3, rfl⟩
section
variable {R : Rho} {l had rows : List (List DV)} {i : Int}
theorem nxE_den (e0 : den R (.v 0) = .list l) (e1 : den R (.v 1) = .list had) (e2 : den R (.v 2) = .int .i64 i) (e3 : den R (.v 3) = .list rows) (h1 : -9223372036854775808 ≤ i + 1) (h2 : i + 1 ≤ 9223372036854775807) {row : List SX} {v : List DV} (hv : row.map (den R) = v) : (nxE row).map (den R) = [.list l, .list (had ++ [v]), .int .i64 (i + 1), .list rows] := by
  have hcat : den R (.cat (.v 1) (.row row)) = .list (had ++ [v]) := by
    show catD (den R (.v 1)) (den R (.row row)) = _
    rw [e1, show den R (.row row) = .list [row.map (den R)] by simp only [den, denL_map], hv]
    rfl
  have hadd := d_add (R := R) e2 (d_k .i64 1) h1 h2
  rw [List.map_cons, List.map_cons, List.map_cons, List.map_cons, List.map_nil, e0, hcat, hadd, e3]
  rfl
theorem InvEv_next (hi0 : 0 ≤ i) (hil : i.toNat < l.length) (hlen : had.length = i.toNat) (hok : okFrom l 0 = true) (hpl : placedFrom l rows 0 = true) (hr : ∀ r ∈ l, IsL tN r) (hrw : ∀ q ∈ rows, IsR q) (hv : ∀ v ∈ had, ValV v) (h0 : (nodeV (l.getD i.toNat []) had rows).2 = 0) :
    InvEv [.list l, .list (had ++ [(nodeV (l.getD i.toNat []) had rows).1]), .int .i64 (i + 1), .list rows] := by
  refine ⟨l, _, i + 1, rows, rfl, by omega, by omega, by simp; omega, hok, hpl, hr, hrw, fun v hvm => ?_⟩
  rcases List.mem_append.1 hvm with h | h
  · exact hv v h
  · rw [List.mem_singleton] at h
    rw [h]
    exact val_node (i := i.toNat) (by rw [getD_lt hil]; exact nodeC_of (hr _ (List.getElem_mem hil))) (ok_get hok hil).2 (placed_get hpl hil) hlen hv hrw h0
end
theorem kE_den {R : Rho} {had : List (List DV)} {i : Int} (e1 : den R (.v 1) = .list had) (e2 : den R (.v 2) = .int .i64 i) (hi0 : 0 ≤ i) (hh : had.length ≤ 1000000) : ∀ q ∈ kE, den R q.1 = .bool q.2 := by
  intro q hq
  simp only [List.mem_cons, List.not_mem_nil, or_false] at hq
  rcases hq with rfl | rfl
  · rw [d_lss e2 (d_k .i64 0), decide_eq_false (show ¬ i < ((0 : Nat) : Int) by omega)]
  · exact len_leL e1 hh
theorem evalF_next {l had rows : List (List DV)} {i : Int} (hi0 : 0 ≤ i) (hil : i.toNat < l.length) (h : (nodeV (l.getD i.toNat []) had rows).2 = 0) : evalF [.list l, .list (had ++ [(nodeV (l.getD i.toNat []) had rows).1]), .int .i64 (i + 1), .list rows] = evalF [.list l, .list had, .int .i64 i, .list rows] := by
  rw [eval_step hi0 hil, if_neg (fun h2 => h2 h)]
theorem evalF_err {l had rows : List (List DV)} {i : Int} (hi0 : 0 ≤ i) (hil : i.toNat < l.length) (h : (nodeV (l.getD i.toNat []) had rows).2 ≠ 0) : evalF [.list l, .list had, .int .i64 i, .list rows] = (had, (nodeV (l.getD i.toNat []) had rows).2) := by
  rw [eval_step hi0 hil, if_pos h]
theorem askR_goal {kn : Nat} {F : List DV → Bool × List DV} {Inv : List DV → Prop} {μ : List DV → Nat} {R : Rho} {ds : List DV} : ∀ (e : SX) (b : Bool) (t f : RPln), den R e = .bool b → (b = true → goalR kn F Inv μ R ds t) → (b = false → goalR kn F Inv μ R ds f) → goalR kn F Inv μ R ds (RPln.ask e t f) := fun _ _ _ _ h ht hf => r_ask h ht hf
/-- The document's loop. -/
theorem loopV2 : LoopOK Tryz.prog G theI codeV2 SV2.L := by
  refine loop_std (F := Fev2L) (Inv := InvEv) (μ := muXp) (entS_ok eRs_ok) (sub := []) trivial (lps := []) noLoops (fun _ => rfl) rV2 okV2 ?_ ?_
  · intro ds h hp
    obtain ⟨a, b, c, d, rfl⟩ := IsL4 h
    exact InvEv_init (R := rhoOf theI [a, b, c, d]) rfl h hp
  · rintro ds ⟨l, had, i, rows, rfl, hi0, hi1, hlen, hok, hpl, hr, hrw, hv⟩
    have hl3 := ok_len hok
    generalize hR : rhoOf theI [DV.list l, .list had, .int .i64 i, .list rows] = R
    have hI : R.I = theI := by rw [← hR]; rfl
    have e0 : den R (.v 0) = .list l := by rw [← hR]; rfl
    have e1 : den R (.v 1) = .list had := by rw [← hR]; rfl
    have e2 : den R (.v 2) = .int .i64 i := by rw [← hR]; rfl
    have e3 : den R (.v 3) = .list rows := by rw [← hR]; rfl
    show goalR 0 Fev2L _ _ R _ rV2
    unfold rV2
    refine r_ask (d_lss e2 (d_lenL e0)) (fun h => ?_) (fun h => ?_)
    · simp only [decide_eq_true_eq] at h
      have hil : i.toNat < l.length := by omega
      refine r_knows (kE_den e1 e2 hi0 (by omega)) ?_
      refine evP_goal (Good := goalR 0 Fev2L InvEv muXp R [.list l, .list had, .int .i64 i, .list rows]) hI askR_goal (fun l p h hp => r_knows h hp) e0 e1 e2 e3 hi0 hil (nodeC_of (hr _ (List.getElem_mem hil))) (ok_get hok hil).2 (placed_get hpl hil) hlen hv hrw (fun row hrow hz => ?_) fun e he hz => ?_
      · have hτ := nxE_den e0 e1 e2 e3 (by omega) (by omega) hrow
        show InvEv _ ∧ muXp _ < muXp _ ∧ Fev2L _ = Fev2L _
        rw [hτ]
        refine ⟨InvEv_next hi0 hil hlen hok hpl hr hrw hv hz, ?_, ?_⟩
        · show l.length - (i + 1).toNat < l.length - i.toNat
          omega
        · unfold Fev2L
          rw [evalF_next hi0 hil hz]
      · show Fev2L _ = (false, [den R e])
        unfold Fev2L
        rw [evalF_err hi0 hil hz, if_neg hz, he]
    · simp only [decide_eq_false_iff_not] at h
      show Fev2L _ = (true, [den R (.v 1)])
      unfold Fev2L
      rw [eval_end (by omega), if_pos rfl, e1]
/-- The program's loop, where no node has an error. -/
theorem loopRv : LoopOK Tryz.prog G theI codeRv sRv.L := by
  refine loop_std (F := FevL) (Inv := fun ds => InvEv ds ∧ (evalF ds).2 = 0) (μ := muXp) (entS_ok eQs_ok) (sub := []) trivial (lps := []) noLoops (fun _ => rfl) rRv okRv ?_ ?_
  · intro ds h hp
    obtain ⟨a, b, c, d, rfl⟩ := IsL4 h
    refine ⟨InvEv_init (R := rhoOf theI [a, b, c, d]) rfl h (fun p hm => hp p (List.mem_append_left _ hm)), ?_⟩
    have hz := hp (eql (.app 171 [.v 0, .v 1, .v 2, .v 3]) (k64 0), true) (List.mem_append_right _ (by simp))
    have : den (rhoOf theI [a, b, c, d]) errX = .int .i64 (evalF [a, b, c, d]).2 := rfl
    rw [d_eql this (d_k .i64 0)] at hz
    simpa using hz
  · rintro ds ⟨⟨l, had, i, rows, rfl, hi0, hi1, hlen, hok, hpl, hr, hrw, hv⟩, hfine⟩
    have hl3 := ok_len hok
    generalize hR : rhoOf theI [DV.list l, .list had, .int .i64 i, .list rows] = R
    have hI : R.I = theI := by rw [← hR]; rfl
    have e0 : den R (.v 0) = .list l := by rw [← hR]; rfl
    have e1 : den R (.v 1) = .list had := by rw [← hR]; rfl
    have e2 : den R (.v 2) = .int .i64 i := by rw [← hR]; rfl
    have e3 : den R (.v 3) = .list rows := by rw [← hR]; rfl
    show goalR 0 FevL _ _ R _ rRv
    unfold rRv
    refine r_ask (d_lss e2 (d_lenL e0)) (fun h => ?_) (fun h => ?_)
    · simp only [decide_eq_true_eq] at h
      have hil : i.toNat < l.length := by omega
      refine r_knows (kE_den e1 e2 hi0 (by omega)) ?_
      refine evP_goal (Good := goalR 0 FevL (fun ds => InvEv ds ∧ (evalF ds).2 = 0) muXp R [.list l, .list had, .int .i64 i, .list rows]) hI askR_goal (fun l p h hp => r_knows h hp) e0 e1 e2 e3 hi0 hil (nodeC_of (hr _ (List.getElem_mem hil))) (ok_get hok hil).2 (placed_get hpl hil) hlen hv hrw (fun row hrow hz => ?_) fun e he hz => ?_
      · have hτ := nxE_den e0 e1 e2 e3 (by omega) (by omega) hrow
        show (InvEv _ ∧ _) ∧ muXp _ < muXp _ ∧ FevL _ = FevL _
        rw [hτ]
        refine ⟨⟨InvEv_next hi0 hil hlen hok hpl hr hrw hv hz, ?_⟩, ?_, ?_⟩
        · rw [evalF_next hi0 hil hz]
          exact hfine
        · show l.length - (i + 1).toNat < l.length - i.toNat
          omega
        · unfold FevL
          rw [evalF_next hi0 hil hz]
      · rw [evalF_err hi0 hil hz] at hfine
        exact hz hfine
    · simp only [decide_eq_false_iff_not] at h
      show FevL _ = (true, [den R (.v 1)])
      unfold FevL
      rw [eval_end (by omega), e1]
theorem d_errX {R : Rho} (hI : R.I = theI) : den R errX = .int .i64 (evalF (rhoL R.ρ 0 4)).2 := by
  show R.I 171 _ = _
  rw [hI]
  rfl
theorem sub4 {R : Rho} {τ : List SX} (h : τ.length = 4) : rhoL (R.sub τ).ρ 0 4 = τ.map (den R) := by
  have := rhoL_getD (τ.map (den R)) (.bool false)
  rw [List.length_map, h] at this
  exact this
/-- The program's loop, where a node has an error. -/
theorem loopPv : LoopPOK Tryz.prog G theI codeRv LPv := by
  refine loop_pan (entS_ok eQs_ok) (by kernel_rfl) qRv okPv (fun R => InvEv (rhoL R.ρ 0 4) ∧ (evalF (rhoL R.ρ 0 4)).2 ≠ 0) (fun R => muXp (rhoL R.ρ 0 4)) ?_ ?_
  · intro m a w hr hp
    have hRI : m.R.I = theI := by obtain ⟨_, _, _, _, _, _, y, _⟩ := hr; exact y
    have h3 : IsL [tE, .slice tV, tI, tRows] (rhoL m.R.ρ 0 4) := @srcTys_is (noFacts theI) G m LPv.T LPv.n a w hr LPv.T.src 0 [tE, .slice tV, tI, tRows] (by kernel_rfl)
    refine ⟨InvEv_init hRI h3 (fun p hm => hp p (List.mem_append_left _ hm)), ?_⟩
    have hz := hp (eql errX (k64 0), false) (List.mem_append_right _ (by simp))
    rw [d_eql (d_errX hRI) (d_k .i64 0)] at hz
    simpa using hz
  · rintro R hI ⟨⟨l, had, i, rows, hds, hi0, hi1, hlen, hok, hpl, hr, hrw, hv⟩, hbad⟩
    have hl3 := ok_len hok
    have hds' : [R.ρ 0, R.ρ 1, R.ρ 2, R.ρ 3] = [DV.list l, .list had, .int .i64 i, .list rows] := hds
    simp only [List.cons.injEq, and_true] at hds'
    obtain ⟨e0, e1, e2, e3⟩ := hds'
    have e0 : den R (.v 0) = .list l := e0
    have e1 : den R (.v 1) = .list had := e1
    have e2 : den R (.v 2) = .int .i64 i := e2
    have e3 : den R (.v 3) = .list rows := e3
    unfold qRv
    rw [hds] at hbad
    refine p_ask (d_lss e2 (d_lenL e0)) (fun h => ?_) (fun h => ?_)
    · simp only [decide_eq_true_eq] at h
      have hil : i.toNat < l.length := by omega
      refine p_knows (kE_den e1 e2 hi0 (by omega)) ?_
      refine evP_goal (Good := goalRoundP LPv (fun R => InvEv (rhoL R.ρ 0 4) ∧ (evalF (rhoL R.ρ 0 4)).2 ≠ 0) (fun R => muXp (rhoL R.ρ 0 4)) R) hI (fun e b t f h ht hf => p_ask h ht hf) (fun l p h hp => p_knows h hp) e0 e1 e2 e3 hi0 hil (nodeC_of (hr _ (List.getElem_mem hil))) (ok_get hok hil).2 (placed_get hpl hil) hlen hv hrw (fun row hrow hz => ?_) fun e he hz => ?_
      · have hτ := nxE_den e0 e1 e2 e3 (by omega) (by omega) hrow
        have hs := sub4 (R := R) (τ := nxE row) rfl
        rw [hτ] at hs
        show (InvEv (rhoL (R.sub (nxE row)).ρ 0 4) ∧ (evalF (rhoL (R.sub (nxE row)).ρ 0 4)).2 ≠ 0) ∧ muXp (rhoL (R.sub (nxE row)).ρ 0 4) < muXp (rhoL R.ρ 0 4) ∧ _ ∧ den (R.sub (nxE row)) errX = den R errX
        rw [d_errX (R := R.sub (nxE row)) hI, d_errX hI, hs, hds, evalF_next hi0 hil hz]
        refine ⟨⟨InvEv_next hi0 hil hlen hok hpl hr hrw hv hz, hbad⟩, ?_, rfl, rfl⟩
        show l.length - (i + 1).toNat < l.length - i.toNat
        omega
      · show _ ∧ den R e = den R errX
        refine ⟨rfl, ?_⟩
        rw [d_errX hI, hds, evalF_err hi0 hil hz, he]
    · simp only [decide_eq_false_iff_not] at h
      rw [eval_end (by omega)] at hbad
      exact absurd rfl hbad
end Go.Proofs.YtholilpmihngaaaGreatDoor
