/-
  A part of the proof of QueryValues (the machine on named data, and the contracts of the functions that the law reaches): AmOps9 AmOps10 AmOps12 AmOps11.
-/
import Derived.MapKept
import Derived.Test.YtholilpmihngaaaGreatDoorAmB
set_option linter.all false
set_option linter.unusedVariables false
set_option linter.unusedSimpArgs false
set_option linter.unusedSectionVars false
namespace Go.AM
open Go
section
variable {P : Program} {m : Env} {h : AHeap} {w : World}

theorem HR.cut (hr : HR m h w) (id : Nat) : HR m { h with t := h.t.cut id } w := by
  have sub : ∀ i o, (h.t.cut id).get i = some o → h.t.get i = some o := by
    intro i o hi
    rw [Tr.get_cut] at hi
    split at hi
    · cases hi
    · exact hi
  exact ⟨hr.next, hr.lim, hr.res, hr.EF, hr.E, hr.F, fun i o hi => hr.objL i o (sub i o hi), fun i j x y hx hy => hr.injL i j x y (sub i x hx) (sub j y hy), hr.io⟩

/-- A block under a new number; what it holds may have turned. -/
theorem HR.rename {w' : World} (hr : HR m h w) {id : Nat} {o o' : AObj} (hid : h.t.get id = some o) (ho : OR (m.add h.next (m.mu id)) (m.mu id) o' w')
    (hw : ∀ b, b ≠ (m.mu id).1 → w'.heap[b]? = w.heap[b]?) (hio : ioOf w' = ioOf w := by rfl) (hlv : live o (m.mu id) := by exact True.intro) : HR (m.add h.next (m.mu id)) (AHeap.alloc { h with t := h.t.cut id } o') w' := by
  obtain ⟨g1, g2, g3⟩ := hr.obj id o hid hlv
  have get : ∀ i x, (AHeap.alloc { h with t := h.t.cut id } o').t.get i = some x → (i = h.next ∧ x = o') ∨ (i ≠ id ∧ i ≠ h.next ∧ h.t.get i = some x) := by
    intro i x hi
    simp only [AHeap.alloc, Tr.get_put, Tr.get_cut] at hi
    by_cases e : h.next = i
    · subst e; simp only [if_true, Option.some.injEq] at hi; exact .inl ⟨rfl, hi.symm⟩
    · simp only [e, if_false] at hi
      split at hi
      · cases hi
      · rename_i hne; exact .inr ⟨fun e2 => hne e2.symm, fun e2 => e e2.symm, hi⟩
  have hne : ∀ i x, h.t.get i = some x → live x (m.mu i) → i ≠ id → (m.mu i).1 ≠ (m.mu id).1 := fun i x hi li hne e => hne (hr.injL i id x o hi hid li hlv e)
  have hle := hr.le_add (m.mu id)
  have hlim := hr.lim
  refine ⟨fun i hd => ?_, by simp only [AHeap.alloc]; omega, fun i hd => ?_, hr.EF, fun b y hb => ?_, fun b y hb => ?_, fun i y hy => ?_, fun i j a b ha hb li lj e => ?_, hio.trans hr.io⟩
  · simp only [AHeap.alloc]
    rcases hd with hd | rfl
    · have := hr.next i hd
      omega
    · omega
  · simp only [AHeap.alloc]
    obtain ⟨h1, h2, h3⟩ := hr.res i hd
    refine ⟨?_, by omega, by omega⟩
    rintro (h4 | h4)
    · exact h1 h4
    · exact h2 h4
  · have hb' : m.E b = some y := hb
    rw [hw b (fun e => by rw [e, g2.1] at hb'; cases hb')]; exact hr.E b y hb'
  · have hb' : m.F b = some y := hb
    rw [hw b (fun e => by rw [e, g2.2] at hb'; cases hb')]; exact hr.F b y hb'
  · rcases get i y hy with ⟨rfl, rfl⟩ | ⟨h1, h2, h3⟩
    · exact ⟨by simp, fun _ => by simpa using g2, by simpa using ho⟩
    · obtain ⟨k1, k2, k3⟩ := hr.objL i y h3
      rw [hle.mu i k1]
      exact ⟨hle.dom i k1, by simpa using k2, k3.move hle fun ly => hw _ (hne i y h3 ly h1)⟩
  · rcases get i a ha with ⟨rfl, rfl⟩ | ⟨h1, h2, h3⟩ <;> rcases get j b hb with ⟨rfl, rfl⟩ | ⟨k1, k2, k3⟩
    · rfl
    · rw [hle.mu j (hr.objL j b k3).1] at e lj
      rw [Env.add_mu] at e
      exact absurd e.symm (hne j b k3 lj k1)
    · rw [hle.mu i (hr.objL i a h3).1] at e li
      rw [Env.add_mu] at e
      exact absurd e (hne i a h3 li h1)
    · rw [hle.mu i (hr.objL i a h3).1] at e li
      rw [hle.mu j (hr.objL j b k3).1] at e lj
      exact hr.injL i j a b h3 k3 li lj e

theorem fsl_len {sz : Nat} {ex : Bool} {es : List (List AV)} {x : Value} (hx : V m (.fsl sz ex es) x) : es.flatten.length = es.length * sz := by
  simp only [V] at hx
  obtain ⟨a, c, rfl, h1, h2, h3, h4⟩ := hx
  rcases h4 with h4 | ⟨b, o, rfl, hv⟩
  · have : es = [] := List.eq_nil_of_length_eq_zero (by omega)
    subst this; simp
  · exact VR_len hv

theorem rowCells_fsl (sz : Nat) (ex : Bool) (es : List (List AV)) : rowCells h sz es.length (.fsl sz ex es) = some es.flatten := by
  have hb : (Nat.beq sz sz && Nat.ble es.length es.length) = true := by
    rw [Bool.and_eq_true, nbeq, Nat.ble_eq]; simp
  simp only [rowCells, hb, List.take_length]
theorem rowCells_sl {id off len size : Nat} {cap : Option Nat} {b : Blk} (hb : h.blk? id = some b) (hn : off + len * size ≤ b.n) : rowCells h size len (.sl id off len cap) = some (b.cellsFrom off (len * size)) := by
  have hb' : (Nat.ble len len && Nat.ble (off + len * size) b.n) = true := by
    rw [Bool.and_eq_true, Nat.ble_eq, Nat.ble_eq]; exact ⟨Nat.le_refl _, hn⟩
  simp only [rowCells, hb, hb']

theorem drew_same (hr : HR m h w) : HR m h w.drew := hr.same rfl

theorem append_sound {ts : Array TypeId} {ty : TypeId} {consts : Array Bool} {s x : AV} {sv xv : Value} (hs : V m s sv) (hx : V m x xv) (hr : HR m h w) {av : AV} {h' : AHeap}
    (hop : builtinA P h .append ts ty [s, x] = some (av, h')) : Good m ((builtin .append ts ty consts #[sv, xv]).run P w) av h' := by
  have fin : ∀ {v : Value} {w' : World} {m' : Env}, (Builtin.append_ ts ty #[sv, xv]).run P w = .ok v w' → m.le m' → V m' av v → HR m' h' w' → Good m ((builtin .append ts ty consts #[sv, xv]).run P w) av h' := by
    intro v w' m' e h1 h2 h3
    exact Good.new (s := Builtin.append_ ts ty #[sv, xv]) h1 h3 h2 e
  simp only [builtinA, biAppend] at hop
  split at hop
  · rename_i t u s' x' hts0 hts1 hsx
    simp only [List.cons.injEq, and_true] at hsx
    obtain ⟨rfl, rfl⟩ := hsx
    split at hop
    · cases hop
    · rename_i e du hnu ht hu
      split at hop
      · rename_i i zc hi hzc
        obtain ⟨z, hz1, rfl⟩ := zeroCells_len hzc
        have hz : i.zero = some z := by unfold zeroOf at hz1; simpa [hi] using hz1
        split at hop
        · rename_i sl n hsl hn
          split at hop
          · cases hop
          · rename_i hb
            simp only [Bool.and_eq_true, Nat.ble_eq, Nat.beq_eq] at hb
            obtain ⟨⟨⟨⟨hb1, hb2⟩, hb3⟩, hb4⟩, hb5⟩ := hb
            simp only [List.length_map, Array.length_toList] at hb3
            split at hop
            · cases hop
            · rename_i new hnew
              split at hop
              · cases hop
              · rename_i hok
                simp only [Bool.and_eq_true, Nat.beq_eq] at hok
                obtain ⟨hok, hnl⟩ := hok
                have hrn := run_lenOf (P := P) (w := w) hx hn
                obtain ⟨news, hnv, hnr, _, _⟩ := rowCells_sound (P := P) hr hx hnew
                obtain ⟨news', hnv', hnr', _, _⟩ := rowCells_sound (P := P) (drew_same hr) hx hnew
                -- growing
                have grow : ∀ (base : Option Addr) (c : Nat) (old : List AV) (olds : List Value), sv = .slice base sl c → c < sl + n → old.length = sl * i.size → VL m old olds →
                    (Builtin.firstCells i.size sl (.slice base sl c)).run P w.drew = .ok olds.toArray w.drew →
                    some (AV.sl h.next 0 (sl + n) none, h.alloc (.blk { t := e, row := true, sz := i.size, n := (sl + n) * i.size, z := [], c := Blk.putAll .nil 0 (old ++ new) })) = some (av, h') →
                    Good m ((builtin .append ts ty consts #[sv, xv]).run P w) av h' := by
                  intro base c old olds hsv hc hol hov hor he
                  simp only [Option.some.injEq, Prod.mk.injEq] at he
                  obtain ⟨rfl, rfl⟩ := he
                  subst hsv
                  have hrun := run_append_grow2 (ty := ty) hts0 hts1 ht hu (fun k e => hnu k e) hi hz hrn hor hnr' hc hb1 hb5
                  obtain ⟨g1, g2, g3⟩ := grown_good (e := e) (i := i) (z := z) (sLen := sl) (sCap := c) (n := n) hr hov hnv' hol hnl hb2 hb3
                  exact fin hrun g1 g2 g3
                have zero : ∀ (base : Option Addr) (c : Nat), sv = .slice base sl c → sl ≤ c → n = 0 → V m av sv → h' = h → Good m ((builtin .append ts ty consts #[sv, xv]).run P w) av h' := by
                  intro base c hsv hc hn0 hv he
                  subst hn0 hsv he
                  have hnews : news = [] := by
                    have := VL_length hnv
                    rw [hnl] at this
                    simpa using this
                  subst hnews
                  exact fin (run_append_zero (ty := ty) hts0 hts1 ht hu (fun k e => hnu k e) hi hrn hnr hc) (.refl m) hv hr
                split at hop
                · -- nil
                  simp only [V] at hs
                  simp only [lenOf, Option.some.injEq] at hsl
                  subst hsl
                  split at hop
                  · simp only [Option.some.injEq, Prod.mk.injEq] at hop
                    obtain ⟨rfl, rfl⟩ := hop
                    exact zero none 0 hs (Nat.le_refl _) rfl (by simp [V, hs]) rfl
                  · rename_i hne
                    exact grow none 0 [] [] hs (by have : n ≠ 0 := fun e => hne e; omega) (by simp) (by simp [VL]) (by simp [Builtin.firstCells]) (by simpa using hop)
                · -- empty
                  have hs' := hs
                  simp only [V] at hs
                  simp only [lenOf, Option.some.injEq] at hsl
                  subst hsl
                  obtain ⟨a, c, hsv, hc, _⟩ := hs
                  have hc0 : c = 0 := hc trivial
                  subst hc0
                  split at hop
                  · simp only [Option.some.injEq, Prod.mk.injEq] at hop
                    obtain ⟨rfl, rfl⟩ := hop
                    exact zero a 0 hsv (Nat.le_refl _) rfl hs' rfl
                  · rename_i hne
                    exact grow a 0 [] [] hsv (by have : n ≠ 0 := fun e => hne e; omega) (by simp) (by simp [VL]) (by cases a <;> simp [Builtin.firstCells, loadCells, loadCellsFrom]) (by simpa using hop)
                · -- frozen
                  rename_i sz es
                  have hs' := hs
                  have hfl := fsl_len hs
                  simp only [V] at hs
                  simp only [lenOf, Option.some.injEq] at hsl
                  subst hsl
                  obtain ⟨a, c, hsv, g1, g2, g3, g4⟩ := hs
                  split at hop
                  · rename_i hsz
                    rw [Nat.beq_eq] at hsz
                    subst hsz
                    have hc : c = es.length := g2 trivial
                    subst hc
                    split at hop
                    · simp only [Option.some.injEq, Prod.mk.injEq] at hop
                      obtain ⟨rfl, rfl⟩ := hop
                      exact zero a _ hsv (Nat.le_refl _) rfl hs' rfl
                    · rename_i hne
                      obtain ⟨olds, k1, k2, _, _⟩ := rowCells_sound (P := P) (size := i.size) (n := es.length) (cs := es.flatten) (drew_same hr) hs' (rowCells_fsl i.size true es)
                      rw [hsv] at k2
                      exact grow a _ _ olds hsv (by have : n ≠ 0 := fun e => hne e; omega) hfl k1 k2 hop
                  · cases hop
                · -- exact
                  rename_i id off len c
                  have hs' := hs
                  simp only [V] at hs
                  simp only [lenOf, Option.some.injEq] at hsl
                  subst hsl
                  obtain ⟨hid, c', hsv, g1, g2, _⟩ := hs
                  have hcc : c' = c := g2 c rfl
                  subst hcc
                  split at hop
                  · rename_i hroom
                    rw [Nat.ble_eq] at hroom
                    split at hop
                    · rename_i b hblk
                      split at hop
                      · rename_i hbn
                        rw [Nat.ble_eq] at hbn
                        simp only [Option.some.injEq, Prod.mk.injEq] at hop
                        obtain ⟨rfl, rfl⟩ := hop
                        obtain ⟨w', k1, k2⟩ := BR.write (P := P) hr (blk?_some hblk) (off := off + len * i.size) hnv (by rw [hnl]; rw [Nat.add_mul] at hbn; omega) hok
                        subst hsv
                        refine fin (run_append_room2 (ty := ty) hts0 hts1 ht hu (fun k e => hnu k e) hi hrn hnr hroom (by rw [add_plain]; exact k1)) (.refl m) ?_ k2
                        simp only [V]
                        exact ⟨hid, _, rfl, hroom, fun k e => by cases e; rfl, fun e => by cases e⟩
                      · cases hop
                    · cases hop
                  · rename_i hroom
                    have hroom' : c' < len + n := by
                      rcases Nat.lt_or_ge c' (len + n) with h1 | h1
                      · exact h1
                      · have : Nat.ble (len + n) c' = true := by rw [Nat.ble_eq]; exact h1
                        rw [this] at hroom; cases hroom
                    split at hop
                    · rename_i b hblk
                      split at hop
                      · rename_i hbn
                        rw [Nat.ble_eq] at hbn
                        obtain ⟨olds, k1, k2, _, _⟩ := rowCells_sound (P := P) (size := i.size) (n := len) (cs := b.cellsFrom off (len * i.size)) (drew_same hr) hs' (rowCells_sl hblk hbn)
                        rw [hsv] at k2
                        exact grow _ _ _ olds hsv hroom' (length_cellsFrom _ _ _) k1 k2 hop
                      · cases hop
                    · cases hop
                · -- a row
                  rename_i id len
                  have hs' := hs
                  simp only [V] at hs
                  simp only [lenOf, Option.some.injEq] at hsl
                  subst hsl
                  obtain ⟨hid, c, hsv, g1, _, g2⟩ := hs
                  have hcc : c = (m.mu id).2 := g2 trivial trivial
                  subst hcc
                  split at hop
                  · rename_i b hblk
                    split at hop
                    · rename_i hb'
                      simp only [Bool.and_eq_true, Nat.beq_eq] at hb'
                      obtain ⟨⟨⟨hrow, hbn⟩, hbs⟩, hbt⟩ := hb'
                      simp only [Option.some.injEq, Prod.mk.injEq] at hop
                      obtain ⟨rfl, rfl⟩ := hop
                      have hg := blk?_some hblk
                      have hbr : BR m (m.mu id) b w := (hr.obj id _ hg).2.2
                      have hlen : len * i.size ≤ b.n := by rw [hbn]; exact Nat.le_refl _
                      by_cases hroom : len + n ≤ (m.mu id).2
                      · obtain ⟨c, r1, r2, r3, r4⟩ := hbr
                        obtain ⟨r5, r6⟩ := r4 hrow
                        rw [hbs] at r5
                        have hnews := VL_length hnv
                        have hmul : len * i.size + n * i.size ≤ (m.mu id).2 * i.size := by rw [← Nat.add_mul]; exact Nat.mul_le_mul_right _ hroom
                        have hst := run_storeCells_at P (m.mu id).1 (len * i.size) b.t news 0 c w r1 (by omega) (VL_one hok hnv)
                        simp only [Nat.add_zero] at hst
                        subst hsv
                        refine fin (run_append_room2 (ty := ty) hts0 hts1 ht hu (fun k e => hnu k e) hi hrn hnr hroom (by rw [add_plain, Nat.zero_add]; exact hst)) (hr.le_add (m.mu id)) ?_ (hr.rename hg ?_ (fun k hne => setRow_other w _ k _ hne))
                        · simp only [V]
                          exact ⟨by simp, _, by simp, hroom, fun k e => (by cases e), fun _ _ => by simp⟩
                        · refine ⟨_, setRow_heap w _ c _ b.t (0, 0) r1, ?_, ?_, ?_⟩
                          · simp [Nat.add_mul]; omega
                          · intro k hk
                            have hk' : k < (len + n) * i.size := hk
                            rw [Nat.add_mul] at hk'
                            have hcell : ({ b with n := (len + n) * i.size, c := Blk.putAll b.c (len * i.size) new } : Blk).cell k = if len * i.size ≤ k ∧ k < len * i.size + new.length then (new[k - len * i.size]?).getD .dead else b.cell k := cell_putAll b new (len * i.size) k
                            rw [hcell]
                            by_cases hin : len * i.size ≤ k
                            · rw [if_pos ⟨hin, by omega⟩]
                              have hk3 : k - len * i.size < new.length := by omega
                              obtain ⟨v, hv1, hv2⟩ := VL_get hnv (k - len * i.size) new[k - len * i.size] (by simp)
                              refine ⟨v, ?_, ?_⟩
                              · simp only [List.getElem?_toArray]
                                rw [List.append_assoc, List.getElem?_append_right (by simp; omega)]
                                rw [List.getElem?_append_left (by simp; omega)]
                                simp only [List.length_take, Array.length_toList]
                                rw [show min (len * i.size) c.size = len * i.size by omega]
                                exact hv1
                              · rw [List.getElem?_eq_getElem hk3, Option.getD_some]
                                exact V.mono (hr.le_add _) _ _ hv2
                            · rw [if_neg (by omega)]
                              obtain ⟨v, hv1, hv2⟩ := r3 k (by omega)
                              refine ⟨v, ?_, V.mono (hr.le_add _) _ _ hv2⟩
                              simp only [List.getElem?_toArray]
                              rw [List.append_assoc, List.getElem?_append_left (by simp; omega), List.getElem?_take, if_pos (by omega)]
                              simpa using hv1
                          · intro _
                            refine ⟨?_, r6.1, by show (len + n) * i.size ≤ _ * b.sz; rw [hbs]; exact Nat.mul_le_mul_right _ hroom⟩
                            show (m.mu id).2 * b.sz ≤ _
                            rw [hbs]
                            refine Nat.le_trans r5 ?_
                            simp only [List.size_toArray, List.length_append, List.length_take, List.length_drop, Array.length_toList]
                            omega
                      · have hroom' : (m.mu id).2 < len + n := by omega
                        obtain ⟨olds, k1, k2, _, _⟩ := rowCells_sound (P := P) (size := i.size) (n := len) (cs := b.cellsFrom 0 (len * i.size)) (drew_same hr) hs' (rowCells_sl hblk (by omega))
                        rw [hsv] at k2
                        have hol : (b.cellsFrom 0 (len * i.size)).length = len * i.size := length_cellsFrom _ _ _
                        have hrun := run_append_grow2 (ty := ty) hts0 hts1 ht hu (fun k e => hnu k e) hi hz hrn k2 hnr' hroom' hb1 hb5
                        have hge : len + n ≤ grownCap w (len + n) (m.mu id).2 e := grownCap_ge w _ _ e
                        have hcm : grownCap w (len + n) (m.mu id).2 e ≤ maxLen := grownCap_le_maxLen w _ _ e (by unfold maxLen; omega)
                        have hl := VL_append k1 hnv'
                        have hlen2 := VL_length hl
                        subst hsv
                        refine fin hrun (hr.le_add (w.heap.size, grownCap w (len + n) (m.mu id).2 e)) ?_ ((drew_same (hr.cut id)).alloc _ _ _ ?_)
                        · simp only [V]
                          exact ⟨by simp, _, by simp, hge, fun k e => (by cases e), fun _ _ => by simp⟩
                        · have e1 := VL_length k1
                          have e2 := VL_length hnv'
                          refine ⟨_, by rw [hbt]; exact heap_alloc_new w.drew _, ?_, ?_, ?_⟩
                          · simp only [Array.size_append, List.size_toArray, e1, e2, hol, hnl, Nat.add_mul]
                            omega
                          · intro k hk
                            have hk' : k < (len + n) * i.size := hk
                            rw [Nat.add_mul] at hk'
                            have hcell : ({ b with n := (len + n) * i.size, c := Blk.putAll b.c (len * i.size) new } : Blk).cell k = if len * i.size ≤ k ∧ k < len * i.size + new.length then (new[k - len * i.size]?).getD .dead else b.cell k := cell_putAll b new (len * i.size) k
                            rw [hcell]
                            have hk3 : k < (b.cellsFrom 0 (len * i.size) ++ new).length := by rw [List.length_append, hol, hnl]; omega
                            obtain ⟨v, hv1, hv2⟩ := VL_get hl k (b.cellsFrom 0 (len * i.size) ++ new)[k] (by simp)
                            refine ⟨v, ?_, ?_⟩
                            · rw [Array.getElem?_append_left (by simp; omega)]
                              simpa using hv1
                            · refine V.mono (hr.le_add _) _ _ ?_
                              by_cases hin : len * i.size ≤ k
                              · rw [if_pos ⟨hin, by omega⟩]
                                have hk4 : k - len * i.size < new.length := by omega
                                rw [List.getElem_append_right (by omega)] at hv2
                                rw [List.getElem?_eq_getElem hk4, Option.getD_some]
                                simpa only [hol] using hv2
                              · rw [if_neg (by omega)]
                                rw [List.getElem_append_left (by omega)] at hv2
                                have := getElem?_cellsFrom b (len * i.size) 0 k (by omega)
                                rw [List.getElem?_eq_getElem (by omega), Option.some.injEq, Nat.zero_add] at this
                                rw [this] at hv2
                                exact hv2
                          · intro _
                            refine ⟨?_, hcm, by show (len + n) * i.size ≤ _ * b.sz; rw [hbs]; exact Nat.mul_le_mul_right _ hge⟩
                            refine Nat.le_of_eq (Eq.symm ?_)
                            show _ = _ * b.sz
                            simp only [Array.size_append, List.size_toArray, size_zeroCells, hb3, e1, e2, hol, hnl, ← Nat.add_mul, hbs]
                            congr 1
                            omega
                    · cases hop
                  · cases hop
                · cases hop
        · cases hop
      · cases hop
    · cases hop
  · cases hop
end
end Go.AM
namespace Go.AM
open Go
section
variable {P : Program} {m : Env} {h : AHeap} {w : World}

theorem len_sound {ts : Array TypeId} {ty : TypeId} {consts : Array Bool} {as : List AV} {vs : Array Value} (hl : VL m as vs.toList) (hr : HR m h w) {av : AV} {h' : AHeap}
    (hop : builtinA P h .len ts ty as = some (av, h')) : Good m ((builtin .len ts ty consts vs).run P w) av h' := by
  simp only [builtinA, biLen] at hop
  split at hop
  · rename_i t x hts
    simp only [VL] at hl
    obtain ⟨v, us, hvs, hx, rfl⟩ := hl
    obtain rfl : vs = #[v] := by apply Array.ext'; simpa using hvs
    have hv0 : (#[v] : Array Value)[0]? = some v := rfl
    have fin : ∀ n : Nat, (Builtin.len_ ts ty #[v]).run P w = .ok (goInt n) w → some (vInt n, h) = some (av, h') → Good m ((builtin .len ts ty consts #[v]).run P w) av h' := by
      intro n e he
      simp only [Option.some.injEq, Prod.mk.injEq] at he
      obtain ⟨rfl, rfl⟩ := he
      exact Good.run (s := Builtin.len_ ts ty #[v]) (v := goInt n) hr (by simp [V, vInt, goInt]) e
    split at hop
    · rename_i e hu
      split at hop
      · cases hop
      · rename_i hns
        split at hop
        · rename_i n hn
          rcases lenOf_spec hx hn with ⟨a, c, rfl⟩ | ⟨b, rfl, rfl⟩
          · exact fin n (by simp [Builtin.len_, hts, run_underlying hu]) hop
          · exfalso
            cases x <;> simp only [V] at hx
            · subst hx; exact hns _ rfl
            · obtain ⟨_, e1, _⟩ := hx; cases e1
            · obtain ⟨_, e1, _⟩ := hx; cases e1
            · obtain ⟨_, e1, _⟩ := hx; cases e1
            · obtain ⟨_, _, e1, _⟩ := hx; cases e1
            · obtain ⟨_, e1⟩ := hx; cases e1
            · obtain ⟨_, _, e1, _⟩ := hx; cases e1
            · obtain ⟨_, _, e1, _⟩ := hx; cases e1
            · obtain ⟨_, _, e1, _⟩ := hx; cases e1
            · obtain ⟨_, _, e1, _⟩ := hx; cases e1
            · simp [lenOf] at hn
            · simp [lenOf] at hn
            · simp [lenOf] at hn
            · simp [lenOf] at hn
            · simp [lenOf] at hn
        · cases hop
    · rename_i hu
      split at hop
      · rename_i s
        simp only [V] at hx
        exact fin _ (by simp [Builtin.len_, hts, run_underlying hu, hx]) hop
      · cases hop
    · rename_i n e hu
      exact fin n (by simp [Builtin.len_, hts, run_underlying hu]) hop
    · rename_i a hu
      split at hop
      · rename_i n e hua
        exact fin n (by simp [Builtin.len_, hts, run_underlying hu, run_underlying hua]) hop
      · cases hop
    · cases hop
  · cases hop

theorem min_sound {ts : Array TypeId} {ty : TypeId} {consts : Array Bool} {as : List AV} {vs : Array Value} (hl : VL m as vs.toList) (hr : HR m h w) {av : AV} {h' : AHeap}
    (hop : builtinA P h .min ts ty as = some (av, h')) : Good m ((builtin .min ts ty consts vs).run P w) av h' := by
  simp only [builtinA, biMin] at hop
  split at hop
  · rename_i us hus
    simp only [Option.map_eq_some_iff, Prod.mk.injEq] at hop
    obtain ⟨z, hz, rfl, rfl⟩ := hop
    have e : vs = us.toArray := by apply Array.ext'; simpa using VL_toVs hus hl
    exact Good.run (s := Builtin.min_ ts ty vs) (v := z) hr (by simp [V]) (by rw [e]; exact pureEval_run _ _ hz)
  · cases hop
theorem max_sound {ts : Array TypeId} {ty : TypeId} {consts : Array Bool} {as : List AV} {vs : Array Value} (hl : VL m as vs.toList) (hr : HR m h w) {av : AV} {h' : AHeap}
    (hop : builtinA P h .max ts ty as = some (av, h')) : Good m ((builtin .max ts ty consts vs).run P w) av h' := by
  simp only [builtinA, biMax] at hop
  split at hop
  · rename_i us hus
    simp only [Option.map_eq_some_iff, Prod.mk.injEq] at hop
    obtain ⟨z, hz, rfl, rfl⟩ := hop
    have e : vs = us.toArray := by apply Array.ext'; simpa using VL_toVs hus hl
    exact Good.run (s := Builtin.max_ ts ty vs) (v := z) hr (by simp [V]) (by rw [e]; exact pureEval_run _ _ hz)
  · cases hop

theorem run_copy {ts : Array TypeId} {t ty e : TypeId} {size n0 dl : Nat} {base : Option Addr} {c : Nat} {x : Value} {news : List Value} (hts : ts[0]? = some t) (ht : P.underlying t = some (.slice e)) (hs : sizeT P e = some size)
    (hn : (Builtin.lenOf x).run P w = .ok n0 w) (hf : (Builtin.firstCells size (Nat.min n0 dl) x).run P w = .ok news.toArray w) {w' : World}
    (hst : ∀ a, base = some a → (storeCells a news).run P w = .ok () w') (hnone : base = none → w' = w) :
    (Builtin.copy_ ts ty #[.slice base dl c, x]).run P w = .ok (goInt (Nat.min n0 dl)) w' := by
  unfold Builtin.copy_
  simp only [hts, List.getElem?_toArray, List.getElem?_cons_zero, List.getElem?_cons_succ, Sem.run_bind, run_underlying ht, Result.andThen_ok, hn, run_sizeOf' hs, hf]
  cases base with
  | none => rw [hnone rfl]; simp
  | some a => simp [hst a rfl]

theorem copy_sound {ts : Array TypeId} {ty : TypeId} {consts : Array Bool} {as : List AV} {vs : Array Value} (hl : VL m as vs.toList) (hr : HR m h w) {av : AV} {h' : AHeap}
    (hop : builtinA P h .copy ts ty as = some (av, h')) : Good m ((builtin .copy ts ty consts vs).run P w) av h' := by
  simp only [builtinA, biCopy] at hop
  split at hop
  · rename_i t d x hts
    simp only [VL] at hl
    obtain ⟨dv, us, hvs, hd, xv, us', rfl, hx, rfl⟩ := hl
    obtain rfl : vs = #[dv, xv] := by apply Array.ext'; simpa using hvs
    split at hop
    · rename_i e ht
      split at hop
      · rename_i size dl n0 hs hdl hn0
        have hrn := run_lenOf (P := P) (w := w) hx hn0
        have fin : ∀ (base : Option Addr) (c : Nat) (news : List Value) (w' : World) (hh : AHeap), dv = .slice base dl c → (Builtin.firstCells size (Nat.min n0 dl) xv).run P w = .ok news.toArray w →
            (∀ a, base = some a → (storeCells a news).run P w = .ok () w') → (base = none → w' = w) → HR m hh w' → some (vInt (Nat.min n0 dl), hh) = some (av, h') →
            Good m ((builtin .copy ts ty consts #[dv, xv]).run P w) av h' := by
          intro base c news w' hh hdv hf h1 h2 h3 he
          simp only [Option.some.injEq, Prod.mk.injEq] at he
          obtain ⟨rfl, rfl⟩ := he
          subst hdv
          exact Good.new (s := Builtin.copy_ ts ty #[.slice base dl c, xv]) (v := goInt (Nat.min n0 dl)) (.refl m) h3 (by simp [V, vInt, goInt]) (run_copy hts ht hs hrn hf h1 h2)
        split at hop
        · rename_i cs id off len cap hcs
          obtain ⟨news, k1, k2, _, _⟩ := rowCells_sound (P := P) hr hx hcs
          have hd' := hd
          simp only [V] at hd
          obtain ⟨_, c, hdv, g1, _⟩ := hd
          split at hop
          · rename_i b hb
            split at hop
            · rename_i hn
              simp only [Bool.and_eq_true, Nat.ble_eq, Nat.beq_eq] at hn
              obtain ⟨w', g2, g3⟩ := BR.write (P := P) hr (blk?_some hb) (off := off) k1 (by rw [hn.2]; exact hn.1.1) hn.1.2
              have hdl' : len = dl := by simpa [lenOf] using hdl
              exact fin _ c news w' _ (by rw [← hdl']; exact hdv) k2 (fun a e => by cases e; exact g2) (fun e => by cases e) g3 hop
            · cases hop
          · cases hop
        · rename_i k hcs
          obtain ⟨news, k1, k2, _, _⟩ := rowCells_sound (P := P) hr hx hcs
          simp only [VL] at k1
          subst k1
          simp only [V] at hd
          simp only [lenOf, Option.some.injEq] at hdl
          subst hdl
          obtain ⟨a, c, hdv, _⟩ := hd
          exact fin a c [] w h hdv k2 (fun a e => by simp [storeCells]) (fun _ => rfl) hr hop
        · rename_i l c hcs
          obtain ⟨news, k1, k2, _, _⟩ := rowCells_sound (P := P) hr hx hcs
          simp only [VL] at k1
          subst k1
          simp only [V] at hd
          simp only [lenOf, Option.some.injEq] at hdl
          subst hdl
          exact fin none c [] w h hd k2 (fun a e => by cases e) (fun _ => rfl) hr hop
        · rename_i sz ex hcs
          obtain ⟨news, k1, k2, _, _⟩ := rowCells_sound (P := P) hr hx hcs
          simp only [VL] at k1
          subst k1
          simp only [V] at hd
          simp only [lenOf, Option.some.injEq] at hdl
          subst hdl
          obtain ⟨a, c, hdv, _⟩ := hd
          exact fin a c [] w h hdv k2 (fun a e => by simp [storeCells]) (fun _ => rfl) hr hop
        · cases hop
      · cases hop
    · cases hop
  · cases hop

theorem builtin_sound {b : Builtin} {ts : Array TypeId} {ty : TypeId} {consts : Array Bool} {as : List AV} {vs : Array Value} (hl : VL m as vs.toList) (hr : HR m h w) {av : AV} {h' : AHeap}
    (hop : builtinA P h b ts ty as = some (av, h')) : Good m ((builtin b ts ty consts vs).run P w) av h' := by
  cases b with
  | len => exact len_sound hl hr hop
  | min => exact min_sound hl hr hop
  | max => exact max_sound hl hr hop
  | copy => exact copy_sound hl hr hop
  | append =>
    have hop' := hop
    simp only [builtinA, biAppend] at hop
    split at hop
    · rename_i t u s x hts0 hts1
      simp only [VL] at hl
      obtain ⟨dv, us, hvs, hd, xv, us', rfl, hx, rfl⟩ := hl
      obtain rfl : vs = #[dv, xv] := by apply Array.ext'; simpa using hvs
      exact append_sound hd hx hr hop'
    · cases hop
  | _ => simp [builtinA] at hop

theorem not_string {x : AV} {b : ByteArray} (hx : V m x (.string b)) : x = .sc (.string b) ∨ x = .dead ∨ ∃ t e, x = .sy t e := by
  cases x <;> simp only [V] at hx
  · subst hx; exact .inl rfl
  · obtain ⟨_, e1, _⟩ := hx; cases e1
  · obtain ⟨_, e1, _⟩ := hx; cases e1
  · obtain ⟨_, e1, _⟩ := hx; cases e1
  · obtain ⟨_, _, e1, _⟩ := hx; cases e1
  · obtain ⟨_, e1⟩ := hx; cases e1
  · obtain ⟨_, _, e1, _⟩ := hx; cases e1
  · obtain ⟨_, _, e1, _⟩ := hx; cases e1
  · obtain ⟨_, _, e1, _⟩ := hx; cases e1
  · obtain ⟨_, _, e1, _⟩ := hx; cases e1
  · exact .inr (.inr ⟨_, _, rfl⟩)
  · exact .inr (.inl rfl)
  · obtain ⟨_, e1⟩ := hx
    unfold hndV at e1
    split at e1 <;> cases e1
  · obtain ⟨_, _, _, _, e1, _⟩ := hx; cases e1
  · obtain ⟨_, _, e1, _⟩ := hx; cases e1

theorem ok_convert (src dst : TypeId) (x : Operand) : OpOK P m h w (.convert src dst x) := by
  intro dst' type pos after guard ev ρ hev hr av h' hop
  have hx := hev x
  simp only [opA, opConvert] at hop
  split at hop
  · rename_i e hs hd
    split at hop
    · rename_i he
      split at hop
      · cases hop
      · rename_i hns
        split at hop
        · rename_i n hn
          split at hop
          · rename_i cs hcs
            simp only [Option.map_eq_some_iff, Prod.mk.injEq] at hop
            obtain ⟨bs, hbs, rfl, rfl⟩ := hop
            obtain ⟨vs, k1, k2, _, _⟩ := rowCells_sound (P := P) hr hx hcs
            obtain ⟨ns, rfl, rfl⟩ := bytesList_spec hbs k1
            rcases lenOf_spec hx hn with ⟨a, c, hxv⟩ | ⟨b, hxv, rfl⟩
            · refine Good.run (s := convert src dst (ρ x)) (v := .string ⟨(ns.map fun n => UInt8.ofNat n.toNat).toArray⟩) hr (by simp [V]) ?_
              have hcv : convert src dst (ρ x) = convert src dst (.slice a n c) := by rw [hxv]
              rw [hcv]
              cases a with
              | none =>
                have : ns = [] := by
                  rw [hxv] at k2
                  simp [Builtin.firstCells] at k2
                  exact k2
                subst this
                simp [convert, run_underlying hs, run_underlying hd, run_underlying he, Conv.bytesToString]
                rfl
              | some ad =>
                have hld : (loadCells ad n).run P w = .ok (ns.map (Value.int .u8)).toArray w := by
                  rw [hxv] at k2
                  simpa [Builtin.firstCells] using k2
                have := run_bytesToString w ad n c ns hld
                rw [foldl_bytes] at this
                simp only [convert, Sem.run_bind, run_underlying hs, run_underlying hd, Result.andThen_ok, run_underlying he]
                exact this
            · rw [hxv] at hx
              rcases not_string hx with e1 | e1 | ⟨_, _, e1⟩
              · exact absurd e1 (hns b)
              · rw [e1] at hn; simp [lenOf] at hn
              · rw [e1] at hn; simp [lenOf] at hn
          · cases hop
        · cases hop
    · cases hop
  · rename_i e hne hs hd
    split at hop
    · rename_i he
      split at hop
      · rename_i s es
        simp only [Option.some.injEq, Prod.mk.injEq] at hop
        obtain ⟨rfl, rfl⟩ := hop
        rw [es] at hx
        simp only [V] at hx
        obtain ⟨v, w', m', g1, g2, g3, g4⟩ := bytes_sound (P := P) (src := src) (dst := dst) (s := s) hr (by assumption) hd he
        exact Good.new (s := convert src dst (ρ x)) g2 g4 g3 (by rw [hx]; exact g1)
      · cases hop
    · cases hop
  · split at hop
    · rename_i v hf
      simp only [Option.some.injEq, Prod.mk.injEq] at hop
      obtain ⟨rfl, rfl⟩ := hop
      unfold fastConv at hf
      split at hf
      · rename_i k0 n e
        split at hf
        · rename_i k hk
          have := fastWrap_spec hf
          subst this
          rw [e] at hx
          simp only [V] at hx
          refine Good.run (s := convert src dst (ρ x)) hr (v := .int k (k.wrap n)) (by simp [V]) ?_
          rw [hx]
          have hsrc : ∃ d, P.underlying src = some d := ⟨_, by assumption⟩
          obtain ⟨d, hsrc⟩ := hsrc
          have hk' : P.underlying dst = some (.int k) := hk
          unfold convert
          rw [Sem.run_bind, run_underlying hsrc, Result.andThen_ok, Sem.run_bind, run_underlying hk', Result.andThen_ok]
          cases d <;> rfl
        · cases hf
      · cases hf
    · split at hop
      · rename_i u e
        simp only [Option.map_eq_some_iff, Prod.mk.injEq] at hop
        obtain ⟨z, h1, rfl, rfl⟩ := hop
        have h2 := V_toV e hx
        exact Good.run (s := convert src dst (ρ x)) hr (v := z) (by simp [V]) (by rw [h2]; exact pureEval_run _ _ h1)
      · cases hop
  · cases hop

theorem ok_sliceToArrayPointer (t : TypeId) (x : Operand) : OpOK P m h w (.sliceToArrayPointer t x) := by
  intro dst' type pos after guard ev ρ hev hr av h' hop
  have hx := hev x
  simp only [opA, opSliceToArrayPointer] at hop
  split at hop
  · rename_i n e hu
    have run : ∀ (a : Option Addr) (len c : Nat), n ≤ len → (Instr.arrayAt t (.slice a len c)).run P w = .ok (.pointer a) w := by
      intro a len c hle
      have : ¬ (len < n) := by omega
      simp [Instr.arrayAt, run_underlying hu, this]
    split at hop
    · rename_i id off len cap k es hs
      split at hop
      · rename_i hb
        rw [Nat.ble_eq] at hb
        simp only [Option.some.injEq, Prod.mk.injEq] at hop
        obtain ⟨rfl, rfl⟩ := hop
        rw [es] at hx
        simp only [V] at hx
        obtain ⟨h1, c, hxv, _⟩ := hx
        exact Good.run (s := Instr.arrayAt t (ρ x)) hr (V_ptr h1) (by rw [hxv]; exact run _ _ _ hb)
      · cases hop
    · rename_i sz ex es k ees hs
      split at hop
      · rename_i hb
        simp only [Bool.and_eq_true, Nat.ble_eq, Nat.beq_eq] at hb
        simp only [Option.some.injEq, Prod.mk.injEq] at hop
        obtain ⟨rfl, rfl⟩ := hop
        rw [ees] at hx
        simp only [V] at hx
        obtain ⟨a, c, hxv, g1, _, g3, g4⟩ := hx
        rcases g4 with g4 | ⟨b, o, rfl, hv⟩
        · omega
        · exact Good.run (s := Instr.arrayAt t (ρ x)) hr (V_fp (VR_flatten hv)) (by rw [hxv]; exact run _ _ _ hb.1.1)
      · cases hop
    · cases hop
  · cases hop

theorem lim64 {n : Nat} (h : n ≤ 9223372036854775807) : n < lim .i64 := by
  show n < 9223372036854775808
  omega

theorem run_makeSlice_small {t e : TypeId} {i : TypeInfo} {z : Value} {k1 k2 : IntKind} {len cap : Nat} (hu : P.underlying t = some (.slice e)) (hi : P.info? e = some i) (hz : i.zero = some z)
    (e1 : IntKind.i64.wrap (len : Int) = len) (e2 : IntKind.i64.wrap (cap : Int) = cap) (h1 : ¬ ((len : Int) > cap)) (h2 : ¬ ((cap : Int) < 0)) (h3 : ¬ ((len : Int) < 0)) (h4 : ¬ ((i.bytes : Int) * cap > 2 ^ 48)) :
    (Instr.makeSlice t (.int k1 len) (.int k2 cap)).run P w = .ok (.slice (some ⟨w.heap.size, 0, none⟩) len cap) (w.alloc (.cells ((Array.range (cap * i.size)).map (z.cells[· % z.cells.size]!)) e)) := by
  have c1 : decide ((len : Int) > cap) = false := decide_eq_false h1
  have c2 : decide ((cap : Int) < 0) = false := decide_eq_false h2
  have c3 : decide ((len : Int) < 0) = false := decide_eq_false h3
  have c4 : decide ((i.bytes : Int) * cap > 2 ^ 48) = false := decide_eq_false h4
  have hzz : zeroOf P e = some z := by unfold zeroOf; simp [hi, hz]
  unfold Instr.makeSlice
  rw [Sem.run_bind, run_underlying hu, Result.andThen_ok]
  simp only [asInt, asIntOf]
  rw [Sem.run_bind]
  simp only [Sem.run_bind, Sem.run_pure, Result.andThen_ok, run_typeInfo' hi, e1, e2, c1, c2, c3, c4, Bool.or_false, Bool.false_eq_true, if_false, run_askRoom, Int.toNat_natCast]
  have hsz : (sizeOf e).run P w = .ok i.size w := run_sizeOf' (by unfold sizeT; simp [hi])
  rw [hsz]
  simp only [Result.andThen_ok]
  by_cases h0 : cap * i.size = 0
  · rw [if_pos h0]
    simp [newRow, h0, Array.range_zero']
  · rw [if_neg h0]
    simp only [Sem.run_bind, run_zeroValue' hzz, Result.andThen_ok, Sem.run_pure]
    simp [newRow]

theorem ok_makeSlice (t : TypeId) (l c : Operand) : OpOK P m h w (.makeSlice t l c) := by
  intro dst' type pos after guard ev ρ hev hr av h' hop
  simp only [opA, opMakeSlice] at hop
  split at hop
  · rename_i e hu
    split at hop
    · rename_i len cap i hl hc hi
      split at hop
      · rename_i z hz
        split at hop
        · rename_i hb
          simp only [Bool.and_eq_true, Nat.ble_eq, Nat.beq_eq] at hb
          obtain ⟨⟨⟨⟨hb1, hb2⟩, hb3⟩, hb4⟩, hb5⟩ := hb
          obtain ⟨k1, hl'⟩ := natOf_spec hl (hev l)
          obtain ⟨k2, hc'⟩ := natOf_spec hc (hev c)
          simp only [Option.some.injEq, Prod.mk.injEq] at hop
          obtain ⟨rfl, rfl⟩ := hop
          have hzs : z.cells.size ≠ 0 := by omega
          let cells : Array Value := (Array.range (cap * i.size)).map (z.cells[· % z.cells.size]!)
          have wl : ∀ n : Nat, n ≤ 9223372036854775807 → IntKind.i64.wrap (n : Int) = n :=
            fun n hn => wrap_small .i64 n (lim64 hn)
          have e1 := wl len (by omega)
          have e2 := wl cap hb3
          have hbc : ¬ ((i.bytes : Int) * cap > 2 ^ 48) := by
            have : i.bytes * cap ≤ 281474976710656 := by rw [Nat.mul_comm]; exact hb2
            have h2 : ((i.bytes * cap : Nat) : Int) ≤ ((281474976710656 : Nat) : Int) := Int.ofNat_le.2 this
            rw [Int.natCast_mul] at h2
            omega
          refine Good.new (s := Instr.makeSlice t (ρ l) (ρ c)) (m' := m.add h.next (w.heap.size, 0)) (w' := w.alloc (.cells cells e)) (v := .slice (some ⟨w.heap.size, 0, none⟩) len cap) (hr.le_add _) ?_ ?_ ?_
          · refine hr.alloc _ _ _ ⟨cells, heap_alloc_new w _, ?_, ?_, fun h => by cases h⟩
            · simp [cells]
            · intro j hj
              have hj' : j < cap * i.size := hj
              have hmod : j % z.cells.size < z.cells.size := Nat.mod_lt _ (by omega)
              refine ⟨z.cells[j % z.cells.size]!, ?_, ?_⟩
              · simp [cells, hj']
              · simp only [Blk.cell, Tr.get_nil, List.length_map, Array.length_toList, List.getD]
                rw [List.getElem?_map]
                simp [hmod, V]
          · simp only [V]
            exact ⟨by simp, cap, by simp, hb1, fun k e => by cases e; rfl, fun e => by cases e⟩
          · rw [hl', hc']
            have hn0 : cap * i.size = 0 ∨ cap * i.size ≠ 0 := by omega
            have hlc : ¬ ((len : Int) > cap) := by omega
            have hc0 : ¬ ((cap : Int) < 0) := by omega
            have hl0 : ¬ ((len : Int) < 0) := by omega
            have hi2 : P.info? e = some i := hi
            exact run_makeSlice_small hu hi2 hz e1 e2 hlc hc0 hl0 hbc
        · cases hop
      · cases hop
    · cases hop
  · cases hop
end
end Go.AM
namespace Go.AM
open Go
open Go.MapKept (run_getObj_map run_setObj_map run_findKey heap_set)
/-! ## Maps by strings -/
theorem eqN_refl : ∀ l : List UInt8, eqN l l = true
  | [] => rfl
  | a :: l => by simp [eqN, eqN_refl l]
theorem isMapS_spec {P : Program} {t e : TypeId} (h : isMapS P t = some e) : ∃ k, P.underlying t = some (.map k e) ∧ P.underlying k = some .string := by
  unfold isMapS at h
  split at h
  · rename_i k e' ht
    split at h
    · rename_i hk
      cases h
      exact ⟨k, ht, hk⟩
    · cases h
  · cases h
/-- The entries of a map, as the machine knows them. -/
def Ents (c : List MapEntry) (es : List (ByteArray × Value)) : Prop := c.map (fun e => (e.key, e.val)) = es.map fun e => (Value.string e.1, e.2)
theorem findNow_str (s : ByteArray) : ∀ (c : List MapEntry) (es : List (ByteArray × Value)) (i : Nat), Ents c es → ∃ r, Instr.findNow .string (.string s) c i = some r ∧ (findA s es = none → r = none) ∧ ∀ v, findA s es = some v → ∃ j, r = some (j, v)
  | [], [], _, _ => ⟨none, rfl, fun _ => rfl, fun v h => by simp [findA] at h⟩
  | e :: c, (k, v) :: es, i, h => by
    simp only [Ents, List.map_cons, List.cons.injEq, Prod.mk.injEq] at h
    obtain ⟨⟨h1, h2⟩, h3⟩ := h
    simp only [Instr.findNow, h1, Instr.sameNow, findA]
    by_cases hs : s = k
    · subst hs
      rw [(MapKept.bytes_beq s s).2 rfl]
      refine ⟨some (i, e.val), rfl, fun h => ?_, fun u hu => ?_⟩
      · rw [eqN_refl] at h; cases h
      · rw [eqN_refl] at hu
        simp only [Option.some.injEq] at hu
        exact ⟨i, by rw [h2, hu]⟩
    · have hb : (s == k) = false := by
        cases hq : s == k with
        | false => rfl
        | true => exact absurd ((MapKept.bytes_beq s k).1 hq) hs
      have hn : eqN s.data.toList k.data.toList = false := by
        cases hq : eqN s.data.toList k.data.toList with
        | false => rfl
        | true => exact absurd (bytes_ext (eqN_eq hq)) hs
      rw [hb, hn]
      exact findNow_str s c es (i + 1) h3
  | [], _ :: _, _, h => by simp [Ents] at h
  | _ :: _, [], _, h => by simp [Ents] at h
section
variable {P : Program} {m : Env} {h : AHeap} {w : World}
theorem run_checkKeyS {kt : TypeId} {s : ByteArray} (hd : P.underlying kt = some .string) (e : Bool) (n : Nat) : (Instr.checkKey e (n + 1) kt (.string s)).run P w = .ok () w := by
  unfold Instr.checkKey
  simp only [Sem.run_bind, run_underlying hd, Result.andThen]
  rfl
theorem map_at {id : Nat} {es : List (ByteArray × Value)} (hr : HR m h w) (hg : h.t.get id = some (.map es)) : ∃ c clock, w.heap[(m.mu id).1]? = some (.map c clock) ∧ Ents c.toList es := (hr.obj id _ hg).2.2
theorem V_new {h : AHeap} (hr : HR m h w) : V (m.add h.next (w.heap.size, 0)) (.hnd 0 h.next) (.map (some w.heap.size)) := by
  simp [V, hndV]
theorem HR.newMap (hr : HR m h w) : HR (m.add h.next (w.heap.size, 0)) (h.alloc (.map [])) (w.alloc (.map #[] 0)) :=
  hr.alloc _ _ _ ⟨#[], 0, heap_alloc_new w _, rfl⟩
theorem ok_makeMap (t : TypeId) (r : Option Operand) : OpOK P m h w (.makeMap t r) := by
  intro dst' type pos after guard ev ρ hev hr av h' hop
  simp only [opA, opMakeMap] at hop
  split at hop
  · cases hop
    exact Good.new (s := Instr.makeMap t none) (hr.le_add _) hr.newMap (V_new hr) (by simp [Instr.makeMap])
  · rename_i e x hi
    obtain ⟨k, ht, _⟩ := isMapS_spec hi
    split at hop
    · rename_i j z ez
      cases hop
      have hx := hev x
      rw [ez] at hx
      simp only [V] at hx
      refine Good.new (s := Instr.makeMap t (some (ρ x))) (hr.le_add _) hr.newMap (V_new hr) ?_
      rw [hx]
      simp [Instr.makeMap, run_underlying ht, asInt, asIntOf]
    · cases hop
  · cases hop
theorem update_sound {t : TypeId} {mo k x : Operand} {ev : Operand → AV} {ρ : Operand → Value} (hev : ∀ x, V m (ev x) (ρ x)) (hr : HR m h w) {av : AV} {h' : AHeap} (hop : opMapUpdate P ev h t mo k x = some (av, h')) :
    Good m ((do Instr.mapUpdate t (ρ mo) (ρ k) (ρ x); pure Next.skip : Sem Next).run P w) av h' := by
  unfold opMapUpdate at hop
  split at hop
  · rename_i e id s v hi em ek ex
    obtain ⟨kt, ht, hk⟩ := isMapS_spec hi
    split at hop
    · rename_i es hg
      split at hop
      · rename_i hf
        cases hop
        obtain ⟨c, clock, g1, g2⟩ := map_at hr hg
        have hm := hev mo
        have hkv := hev k
        have hxv := V_toV ex (hev x)
        rw [em] at hm
        rw [ek] at hkv
        simp only [V, hndV] at hm hkv
        obtain ⟨_, hm⟩ := hm
        obtain ⟨r, q1, q2, _⟩ := findNow_str s c.toList es 0 g2
        have hr0 := q2 hf
        subst hr0
        have hput : HR m (h.put id (.map (es ++ [(s, v)]))) { w with heap := w.heap.setIfInBounds (m.mu id).1 (.map (c.push { key := .string s, val := v, born := clock }) (clock + 1)) } := by
          obtain ⟨s1, s2⟩ := heap_set (w := w) (o' := .map (c.push { key := .string s, val := v, born := clock }) (clock + 1)) g1
          refine hr.put hg ⟨_, _, s1, ?_⟩ (fun b hb => s2 b hb)
          have g2' : c.toList.map (fun e => (e.key, e.val)) = es.map fun e => (Value.string e.1, e.2) := g2
          simp [g2']
        refine Good.done (.refl m) hput ?_
        rw [hm, hkv, hxv]
        unfold Instr.mapUpdate
        simp only [Sem.run_bind, run_underlying ht, Result.andThen_ok, run_getObj_map g1, run_checkKeyS hk, run_findKey hk q1, run_setObj_map _ g1]
      · cases hop
    · cases hop
  · cases hop
theorem ok_mapUpdate (t : TypeId) (mo k x : Operand) : OpOK P m h w (.mapUpdate t mo k x) := by
  intro dst' type pos after guard ev ρ hev hr av h' hop
  simp only [opA] at hop
  exact update_sound hev hr hop
theorem ok_insert (t : TypeId) (mo k x : Operand) : OpOK P m h w (.insert t mo k x) := by
  intro dst' type pos after guard ev ρ hev hr av h' hop
  simp only [opA] at hop
  exact update_sound hev hr hop
theorem ok_lookup (t : TypeId) (x i : Operand) (ok : Bool) : OpOK P m h w (.lookup t x i ok) := by
  intro dst' type pos after guard ev ρ hev hr av h' hop
  simp only [opA, opLookup] at hop
  split at hop
  · rename_i e id s hi ex ei
    obtain ⟨kt, ht, hk⟩ := isMapS_spec hi
    split at hop
    · rename_i es hg
      obtain ⟨c, clock, g1, g2⟩ := map_at hr hg
      have hx := hev x
      have hiv := hev i
      rw [ex] at hx
      rw [ei] at hiv
      simp only [V, hndV] at hx hiv
      obtain ⟨_, hx⟩ := hx
      obtain ⟨r, q1, q2, q3⟩ := findNow_str s c.toList es 0 g2
      have run : ∀ v b, (match r with | some (_, u) => v = u ∧ b = true | none => (zeroValue e).run P w = .ok v w ∧ b = false) → (Instr.lookup t (ρ x) (ρ i) ok).run P w = .ok (if ok then .tuple #[v, .bool b] else v) w := by
        intro v b hv
        rw [hx, hiv]
        unfold Instr.lookup
        simp only [Sem.run_bind, run_underlying ht, Result.andThen_ok, run_getObj_map g1, Sem.run_pure, run_checkKeyS hk, run_findKey hk q1]
        cases r with
        | none =>
          simp only at hv ⊢
          obtain ⟨h1, rfl⟩ := hv
          simp only [Sem.run_bind, h1, Result.andThen_ok, Sem.run_pure]
        | some p =>
          obtain ⟨j, u⟩ := p
          simp only at hv ⊢
          obtain ⟨rfl, rfl⟩ := hv
          simp only [Sem.run_bind, Sem.run_pure, Result.andThen_ok]
      split at hop
      · rename_i v hf
        obtain ⟨j, rfl⟩ := q3 v hf
        have hrun := run v true ⟨rfl, rfl⟩
        cases ok with
        | true => cases hop; exact Good.run (s := Instr.lookup t (ρ x) (ρ i) true) hr (by simp [V]) hrun
        | false => cases hop; exact Good.run (s := Instr.lookup t (ρ x) (ρ i) false) hr (by simp [V]) hrun
      · rename_i hf
        have hr0 := q2 hf
        subst hr0
        split at hop
        · rename_i z hz
          cases hop
          exact Good.run (s := Instr.lookup t (ρ x) (ρ i) true) hr (by simp [V]) (run z false ⟨by simp [run_zeroValue' hz], rfl⟩)
        · rename_i z hz
          cases hop
          exact Good.run (s := Instr.lookup t (ρ x) (ρ i) false) hr (by simp [V]) (run z false ⟨by simp [run_zeroValue' hz], rfl⟩)
        · cases hop
    · cases hop
  · cases hop
end
end Go.AM
namespace Go.AM
open Go
section
variable {P : Program} {m : Env} {h : AHeap} {w : World}

theorem map_bound {ev : Operand → AV} {ρ : Operand → Value} (hev : ∀ x, V m (ev x) (ρ x)) {mx : Option Operand} {n d : Nat} (hb : mx.map (bound ev 0 ∘ some) = some (some n)) : Bd (mx.map ρ) n d ∧ mx.isSome = true := by
  cases mx with
  | none => simp at hb
  | some x =>
    simp only [Option.map_some, Function.comp, bound, Option.some.injEq] at hb
    exact ⟨natOf_spec hb (hev x), rfl⟩
theorem map_bound_none {ev : Operand → AV} {mx : Option Operand} (hb : mx.map (bound ev 0 ∘ some) = none) : mx = none := by
  cases mx with
  | none => rfl
  | some x => simp at hb

theorem emp_V {k c : Nat} {a : Option Addr} {n : Nat} (hn : n = 0) (h0 : k = 0 → c = 0) (h1 : a = none → c = 0) : V m (.emp k) (.slice a n c) := by
  subst hn; simp only [V]; exact ⟨a, c, rfl, h0, h1⟩

theorem fsl_sub {sz : Nat} {ex : Bool} {es : List (List AV)} {x : Value} (hx : V m (.fsl sz ex es) x) {l u c' : Nat} {ex' : Bool} (hl : l ≤ u) (hu : u ≤ es.length) :
    ∃ a c, x = .slice a es.length c ∧ es.length ≤ c ∧ (ex = true → c = es.length) ∧
      (∀ mm, (mm = l → u = l) → u ≤ mm → c' = mm - l → (ex' = true → mm = u) → (c = 0 → c' = 0) → V m (.fsl sz ex' ((es.take u).drop l)) (.slice (if mm = l then a else a.map (·.add (l * sz))) (u - l) c')) ∧ (a = none → c = 0) := by
  simp only [V] at hx
  obtain ⟨a, c, hxv, g1, g2, g3, g4⟩ := hx
  refine ⟨a, c, hxv, g1, g2, ?_, g3⟩
  intro mm h1 h2 h3 h4 h5
  have hlen : ((es.take u).drop l).length = u - l := by simp; omega
  simp only [V]
  refine ⟨_, _, by rw [hlen], by rw [hlen, h3]; omega, fun e => by rw [hlen, h3, h4 e], ?_, ?_⟩
  · intro e
    split at e
    · exact h5 (g3 e)
    · have : a = none := by simpa using e
      exact h5 (g3 this)
  · rcases g4 with g4 | ⟨b, o, rfl, hv⟩
    · exact .inl (h5 g4)
    · refine .inr ?_
      split
      · rename_i e
        have e0 : (es.take u).drop l = [] := List.eq_nil_of_length_eq_zero (by rw [hlen, h1 e]; omega)
        exact ⟨b, o, rfl, by rw [e0]; simp [VR]⟩
      · exact ⟨b, o + l * sz, by simp [add_plain], VR_drop l (VR_take u hv)⟩

theorem ok_slice (t : TypeId) (x : Operand) (lo hi mx : Option Operand) : OpOK P m h w (.slice t x lo hi mx) := by
  intro dst' type pos after guard ev ρ hev hr av h' hop
  have hx := hev x
  have fin : ∀ {v : Value}, (Instr.sliceAt t (ρ x) (lo.map ρ) (hi.map ρ) (mx.map ρ)).run P w = .ok v w → V m av v → h' = h → Good m ((execOp ρ ⟨dst', .slice t x lo hi mx, type, pos, after, guard⟩).run P w) av h' := by
    intro v e hv he
    subst he
    exact Good.run (s := Instr.sliceAt t (ρ x) (lo.map ρ) (hi.map ρ) (mx.map ρ)) hr hv e
  have bd : ∀ {d n : Nat} {o : Option Operand}, bound ev d o = some n → Bd (o.map ρ) n d := fun hb => bound_Bd hev hb
  have isS : ∀ {o : Option Operand}, (o.map ρ).isSome = o.isSome := fun {o} => by cases o <;> rfl
  simp only [opA, opSlice] at hop
  split at hop
  · -- a string
    rename_i ht
    split at hop
    · rename_i s es
      rw [es] at hx
      simp only [V] at hx
      split at hop
      · rename_i l u hl hu
        split at hop
        · rename_i hb
          simp only [Bool.and_eq_true, Nat.ble_eq] at hb
          simp only [Option.some.injEq, Prod.mk.injEq] at hop; obtain ⟨rfl, rfl⟩ := hop
          exact fin (v := .string (s.extract l u)) (by rw [hx]; exact run_sliceStr ht (bd hl) (bd hu) hb.1 hb.2) (by simp [V]) rfl
        · cases hop
      · cases hop
    · cases hop
  · rename_i e ht
    split at hop
    · cases hop
    · rename_i size hs
      split at hop
      · -- of a block
        rename_i id off len cap es
        rw [es] at hx
        simp only [V] at hx
        obtain ⟨hid, c, hxv, g1, g2, g3⟩ := hx
        split at hop
        · rename_i l u hl hu hm
          have hm' := map_bound_none hm
          subst hm'
          split at hop
          · rename_i c0
            have hc : c = c0 := g2 c0 rfl
            subst hc
            split at hop
            · rename_i hb
              simp only [Bool.and_eq_true, Nat.ble_eq] at hb
              simp only [Option.some.injEq, Prod.mk.injEq] at hop; obtain ⟨rfl, rfl⟩ := hop
              refine fin (v := _) (by rw [hxv]; exact run_slice (mm := c) ht hs (bd hl) (bd hu) rfl (fun e => by cases e) hb.1 hb.2 (Nat.le_refl _)) ?_ rfl
              have e1 : (c = l) = (c - l = 0) := propext ⟨fun e => by omega, fun e => by omega⟩
              simp only [V, e1]
              refine ⟨hid, c - l, ?_, by omega, fun k e => by cases e; rfl, fun e => by cases e⟩
              split <;> simp [add_plain]
            · cases hop
          · split at hop
            · rename_i hb
              simp only [Bool.and_eq_true, Nat.ble_eq] at hb
              simp only [Option.some.injEq, Prod.mk.injEq] at hop; obtain ⟨rfl, rfl⟩ := hop
              refine fin (v := _) (by rw [hxv]; exact run_slice (mm := c) ht hs (bd hl) (bd hu) rfl (fun e => by cases e) hb.1.1 (by omega) (Nat.le_refl _)) ?_ rfl
              split
              · rename_i h0
                rw [Nat.beq_eq] at h0
                subst h0
                have e0 : (if c = 0 then (some (⟨(m.mu id).1, off, none⟩ : Addr)) else (some ⟨(m.mu id).1, off, none⟩ : Option Addr).map (·.add (0 * size))) = some ⟨(m.mu id).1, off, none⟩ := by
                  split <;> simp [Addr.add]
                rw [e0]
                simp only [V]
                exact ⟨hid, c, rfl, by omega, fun k e => (by cases e), fun _ e => g3 rfl e⟩
              · rename_i h0
                have h0' : l ≠ 0 := fun e => by subst e; simp [nbeq] at h0
                split
                · rename_i hlt
                  have hlt' := blt_lt hlt
                  have : ¬ c = l := by omega
                  rw [if_neg this]
                  simp only [V, Option.map_some, add_plain]
                  refine ⟨hid, c - l, rfl, by omega, fun k e => (by cases e), fun _ e => ?_⟩
                  have : 0 < l * size := Nat.mul_pos (by omega) (by omega)
                  omega
                · rename_i hlt
                  have hge : ¬ l < len := fun e => by
                    have : Nat.blt l len = true := by simp [Nat.blt]; omega
                    rw [this] at hlt; cases hlt
                  exact emp_V (by omega) (fun e => by omega) (fun e => by split at e <;> simp at e)
            · cases hop
        · rename_i l u mm hl hu hm
          obtain ⟨hm', hms⟩ := map_bound (d := c) hev hm
          split at hop
          · rename_i hb
            simp only [Bool.and_eq_true, Nat.ble_eq] at hb
            obtain ⟨⟨⟨hb1, hb2⟩, hb3⟩, hb4⟩ := hb
            simp only [Option.some.injEq, Prod.mk.injEq] at hop; obtain ⟨rfl, rfl⟩ := hop
            have hmc : mm ≤ c := by
              cases cap with
              | none => simp only [Option.getD_none] at hb3; omega
              | some k => have := g2 k rfl; simp only [Option.getD_some] at hb3; omega
            refine fin (v := _) (by rw [hxv]; exact run_slice (mm := mm) ht hs (bd hl) (bd hu) hm' (fun _ => by rw [isS]; exact hb4) hb1 hb2 hmc) ?_ rfl
            split
            · rename_i h0
              rw [Nat.beq_eq] at h0
              exact emp_V (by omega) (fun _ => by omega) (fun _ => by omega)
            · rename_i h0
              have h0' : ¬ mm = l := fun e => by subst e; simp [nbeq] at h0
              rw [if_neg h0']
              simp only [V, Option.map_some, add_plain]
              exact ⟨hid, _, rfl, by omega, fun k e => by cases e; rfl, fun e => by cases e⟩
          · cases hop
        · cases hop
      · -- frozen
        rename_i sz ex es ees
        rw [ees] at hx
        split at hop
        · rename_i l u hl hu hm
          have hm' := map_bound_none hm
          subst hm'
          split at hop
          · rename_i hb
            simp only [Bool.and_eq_true, Nat.ble_eq, Nat.beq_eq] at hb
            obtain ⟨⟨hb1, hb2⟩, rfl⟩ := hb
            simp only [Option.some.injEq, Prod.mk.injEq] at hop; obtain ⟨rfl, rfl⟩ := hop
            have hx0 := hx
            simp only [V] at hx0
            obtain ⟨a0, c0, hxv0, _, _, _, _⟩ := hx0
            obtain ⟨a, c, hxv, g1, g2, g3, g4⟩ := fsl_sub (c' := c0 - l) (ex' := (ex && Nat.beq u es.length)) hx hb1 hb2
            have hcc : c = c0 := by rw [hxv0] at hxv; cases hxv; rfl
            subst hcc
            refine fin (v := _) (by rw [hxv]; exact run_slice (mm := c) ht hs (bd hl) (bd hu) rfl (fun e => by cases e) hb1 (by omega) (Nat.le_refl _)) (g3 c (fun e => by omega) (by omega) rfl ?_ (fun e => by omega)) rfl
            intro e
            simp only [Bool.and_eq_true, Nat.beq_eq] at e
            rw [g2 e.1, e.2]
          · cases hop
        · rename_i l u mm hl hu hm
          have hx0 := hx
          simp only [V] at hx0
          obtain ⟨a0, c0, hxv0, hg1, _, _, _⟩ := hx0
          obtain ⟨hm', hms⟩ := map_bound (d := c0) hev hm
          split at hop
          · rename_i hb
            simp only [Bool.and_eq_true, Nat.ble_eq, Nat.beq_eq] at hb
            obtain ⟨⟨⟨⟨hb1, hb2⟩, hb3⟩, rfl⟩, hb5⟩ := hb
            simp only [Option.some.injEq, Prod.mk.injEq] at hop; obtain ⟨rfl, rfl⟩ := hop
            obtain ⟨a, c, hxv, g1, g2, g3, g4⟩ := fsl_sub (c' := mm - l) (ex' := Nat.beq u mm) hx hb1 (by omega)
            have hcc : c = c0 := by rw [hxv0] at hxv; cases hxv; rfl
            subst hcc
            refine fin (v := _) (by rw [hxv]; exact run_slice (mm := mm) ht hs (bd hl) (bd hu) hm' (fun _ => by rw [isS]; exact hb5) hb1 hb2 (by omega)) ?_ rfl
            split
            · rename_i h0
              rw [Nat.beq_eq] at h0
              exact emp_V (by omega) (fun _ => by omega) (fun _ => by omega)
            · exact g3 mm (fun e => by omega) hb2 rfl (fun e => by rw [Nat.beq_eq] at e; exact e.symm) (fun e => by omega)
          · cases hop
        · cases hop
      · -- nil
        rename_i es
        rw [es] at hx
        simp only [V] at hx
        split at hop
        · rename_i hl hu hm
          split at hop
          · rename_i hb
            simp only [Option.some.injEq, Prod.mk.injEq] at hop; obtain ⟨rfl, rfl⟩ := hop
            refine fin (v := .slice none 0 0) ?_ (by simp [V]) rfl
            rw [hx]
            have := run_slice (P := P) (w := w) (a := none) (len := 0) (cap := 0) (mm := 0) ht hs (bd hl) (bd hu) (bd hm) (fun e => by
              rw [isS] at e ⊢
              cases mx with
              | none => cases e
              | some y => simpa using hb) (Nat.le_refl _) (Nat.le_refl _) (Nat.le_refl _)
            simpa using this
          · cases hop
        · cases hop
      · -- empty
        rename_i k es
        rw [es] at hx
        simp only [V] at hx
        obtain ⟨a, c, hxv, g1, g2⟩ := hx
        split at hop
        · rename_i hl hu hm
          have hm' := map_bound_none hm
          subst hm'
          simp only [Option.some.injEq, Prod.mk.injEq] at hop; obtain ⟨rfl, rfl⟩ := hop
          refine fin (v := _) (by rw [hxv]; exact run_slice (mm := c) ht hs (bd hl) (bd hu) rfl (fun e => by cases e) (Nat.le_refl _) (Nat.zero_le _) (Nat.le_refl _)) (emp_V rfl (fun e => g1 e) ?_) rfl
          intro e
          split at e
          · exact g2 e
          · have : a = none := by simpa using e
            exact g2 this
        · rename_i hl hu hm
          obtain ⟨hm', hms⟩ := map_bound (d := c) hev hm
          split at hop
          · rename_i hb
            simp only [Option.some.injEq, Prod.mk.injEq] at hop; obtain ⟨rfl, rfl⟩ := hop
            exact fin (v := _) (by rw [hxv]; exact run_slice (mm := 0) ht hs (bd hl) (bd hu) hm' (fun _ => by rw [isS]; exact hb) (Nat.le_refl _) (Nat.le_refl _) (Nat.zero_le _)) (emp_V rfl (fun _ => rfl) (fun _ => rfl)) rfl
          · cases hop
        · cases hop
      · cases hop
  · -- an array
    rename_i n e ht
    split at hop
    · rename_i size id off hs es
      obtain ⟨hid, hxv⟩ := ptr_at es hx
      split at hop
      · rename_i l u hl hu
        split at hop
        · rename_i hb
          simp only [Bool.and_eq_true, Nat.ble_eq] at hb
          simp only [Option.some.injEq, Prod.mk.injEq] at hop; obtain ⟨rfl, rfl⟩ := hop
          refine fin (v := _) (by rw [hxv]; exact run_sliceArr ht hs (bd hl) (bd hu) hb.1 hb.2) ?_ rfl
          simp only [V]
          refine ⟨hid, n - l, ?_, by omega, fun k e => by cases e; rfl, fun e => by cases e⟩
          split <;> simp [add_plain]
        · cases hop
      · cases hop
    · rename_i size cs hs es
      rw [es] at hx
      simp only [V] at hx
      obtain ⟨b, o, hxv, hv⟩ := hx
      split at hop
      · rename_i u hl hu
        split at hop
        · rename_i hb
          simp only [Bool.and_eq_true, Nat.ble_eq, Nat.beq_eq] at hb
          obtain ⟨⟨hb1, rfl⟩, hb3⟩ := hb
          simp only [Option.some.injEq, Prod.mk.injEq] at hop; obtain ⟨rfl, rfl⟩ := hop
          refine fin (v := _) (by rw [hxv]; exact run_sliceArr ht hs (bd hl) (bd hu) (Nat.zero_le _) hb1) ?_ rfl
          have hlen : ((cs.take u).map fun c => [c]).length = u := by simp; omega
          simp only [V]
          refine ⟨some ⟨b, o, none⟩, n, ?_, by rw [hlen]; exact hb1, fun e => by rw [Nat.beq_eq] at e; rw [hlen]; exact e.symm, fun e => (by cases e), .inr ⟨b, o, rfl, VR_single (VC_take u hv)⟩⟩
          rw [hlen]
          split <;> simp [Addr.add]
        · cases hop
      · cases hop
    · cases hop
  · cases hop

theorem flatten_replicate_len {α : Type} (l : List α) : ∀ n : Nat, ((List.replicate n l).flatten).length = n * l.length
  | 0 => by simp
  | n + 1 => by rw [List.replicate_succ, List.flatten_cons, List.length_append, flatten_replicate_len l n, Nat.add_mul]; omega

theorem VL_replicate {l : List AV} {vs : List Value} (hl : VL m l vs) : ∀ n : Nat, VL m (List.replicate n l).flatten (List.replicate n vs).flatten
  | 0 => by simp [VL]
  | n + 1 => by rw [List.replicate_succ, List.replicate_succ, List.flatten_cons, List.flatten_cons]; exact VL_append hl (VL_replicate hl n)

theorem range_flatten (z : Array Value) (hz : 0 < z.size) (n : Nat) : ((Array.range (n * z.size)).map (z[· % z.size]!)).toList = (List.replicate n z.toList).flatten := by
  induction n with
  | zero => simp
  | succ n ih =>
    have e : List.replicate (n + 1) z.toList = List.replicate n z.toList ++ [z.toList] := List.replicate_succ'
    rw [e, List.flatten_append, ← ih]
    simp only [Array.toList_map, Array.toList_range, List.flatten_cons, List.flatten_nil, List.append_nil]
    rw [Nat.add_mul, Nat.one_mul, List.range_add, List.map_append]
    congr 1
    rw [List.map_map]
    apply List.ext_getElem?
    intro i
    rw [List.getElem?_map]
    by_cases hi : i < z.size
    · have h1 : (n * z.size + i) % z.size = i := by rw [Nat.mul_comm, Nat.mul_add_mod]; exact Nat.mod_eq_of_lt hi
      simp [hi, h1]
    · simp [hi]

theorem ok_buildSlice (t : TypeId) (len : Nat) (parts : Array (Nat × Operand)) : OpOK P m h w (.buildSlice t len parts) := by
  intro dst' type pos after guard ev ρ hev hr av h' hop
  have hp : ∀ (i : Nat) (p : Nat × AV) (q : Nat × Value), (parts.toList.map fun (i, x) => (i, ev x))[i]? = some p → (parts.toList.map fun (i, x) => (i, ρ x))[i]? = some q → p.1 = q.1 ∧ V m p.2 q.2 := by
    intro i p q hpp hqq
    simp only [List.getElem?_map, Option.map_eq_some_iff] at hpp hqq
    obtain ⟨a, ha, rfl⟩ := hpp
    obtain ⟨b, hb, rfl⟩ := hqq
    rw [ha] at hb
    cases hb
    exact ⟨rfl, hev _⟩
  have hlenp : (parts.toList.map fun (i, x) => (i, ev x)).length = (parts.toList.map fun (i, x) => (i, ρ x)).length := by simp
  have e0 : (parts.map fun (i, x) => (i, ρ x)).toList = parts.toList.map fun (i, x) => (i, ρ x) := by simp
  simp only [opA, opBuildSlice] at hop
  split at hop
  · rename_i e ht
    split at hop
    · rename_i size zero hs hz
      obtain ⟨z, hz1, rfl⟩ := zeroCells_len hz
      split at hop
      · cases hop
      · rename_i hb
        simp only [Bool.and_eq_true, Nat.ble_eq, Nat.beq_eq, List.length_map, Array.length_toList] at hb
        split at hop
        · rename_i cs hf
          simp only [Option.some.injEq, Prod.mk.injEq] at hop; obtain ⟨rfl, rfl⟩ := hop
          obtain ⟨hb1, hb2⟩ := hb
          have hzl := VL_replicate (VL_sc m z.cells.toList) len
          let cells : Array Value := if len * size = 0 then #[] else (Array.range (len * size)).map (z.cells[· % z.cells.size]!)
          have hcells : VL m (List.replicate len (z.cells.toList.map AV.sc)).flatten cells.toList := by
            by_cases h0 : len * size = 0
            · simp only [cells, if_pos h0]
              have : (List.replicate len (z.cells.toList.map AV.sc)).flatten = [] := List.eq_nil_of_length_eq_zero (by rw [flatten_replicate_len]; simp [hb2, h0])
              rw [this]; simp [VL]
            · simp only [cells, if_neg h0]
              have hz0 : 0 < z.cells.size := by
                rw [hb2]
                rcases Nat.eq_zero_or_pos size with e | e
                · rw [e] at h0; simp at h0
                · exact e
              have := range_flatten z.cells hz0 len
              rw [hb2] at this
              rw [← hb2] at this ⊢
              rw [hb2] at this ⊢
              rw [this]
              exact hzl
          obtain ⟨us, g1, g2⟩ := fill_sound (m := m) (fun i => some (i * size, size)) _ _ _ cells cs hlenp hp hcells hf
          have hcs : cs.length = us.size := by have := VL_length g2; simpa using this.symm
          have hrun : (Instr.buildSlice t len (parts.map fun (i, x) => (i, ρ x))).run P w = .ok (.slice (some ⟨w.heap.size, 0, none⟩) len len) (w.alloc (.cells us e)) := by
            have hbig : ¬ (len * size > 2 ^ 24) := by omega
            have e1 : (parts.map fun x => (x.fst, ρ x.snd)).toList = parts.toList.map fun (i, x) => (i, ρ x) := e0
            unfold Instr.buildSlice
            rw [Sem.run_bind, run_underlying ht, Result.andThen_ok]
            simp only [Sem.run_bind, run_sizeOf' hs, Result.andThen_ok, if_neg hbig]
            by_cases h0 : len * size = 0
            · have hc0 : cells = (Array.range (len * size)).map ((#[] : Array Value)[· % (#[] : Array Value).size]!) := by simp only [cells, if_pos h0]; rw [h0]; simp [Array.range_zero']
              rw [if_pos h0]
              simp only [pure_bind]
              rw [e1, ← hc0, g1]
              simp [newRow]
            · have hc0 : cells = (Array.range (len * size)).map (z.cells[· % z.cells.size]!) := by simp only [cells, if_neg h0]
              rw [if_neg h0]
              simp only [Sem.run_bind, run_zeroValue' hz1, Result.andThen_ok, Sem.run_pure, pure_bind]
              rw [e1, ← hc0, g1]
              simp [newRow]
          refine ⟨_, _, m.add h.next (w.heap.size, 0), .inl (by simp only [execOp]; rw [run_value, hrun]; rfl), hr.le_add _, ?_, hr.alloc _ _ _ (BR.fresh (newBlk e cs) 0 g2 rfl rfl rfl (newBlk_cell e cs) (hr.le_add _))⟩
          simp only [V]
          exact ⟨by simp, len, by simp, Nat.le_refl _, fun k e => by cases e; rfl, fun e => by cases e⟩
        · cases hop
    · cases hop
  · cases hop

/-- AN OPERATION OF THE MACHINE IS THE MODEL's. -/
theorem opA_sound (o : Oper) {ev : Operand → AV} {ρ : Operand → Value} (hev : ∀ x, V m (ev x) (ρ x)) (hr : HR m h w) {av : AV} {h' : AHeap} (hop : opA P ev h o = some (av, h')) :
    Good m ((execOp ρ o).run P w) av h' := by
  obtain ⟨dst, op, type, pos, after, guard⟩ := o
  cases op with
  | move x => exact ok_move x dst type pos after guard ev ρ hev hr av h' hop
  | assign x => exact ok_assign x dst type pos after guard ev ρ hev hr av h' hop
  | pick c a b => exact ok_pick c a b dst type pos after guard ev ρ hev hr av h' hop
  | alloc t => exact ok_alloc t dst type pos after guard ev ρ hev hr av h' hop
  | box t x => exact ok_box t x dst type pos after guard ev ρ hev hr av h' hop
  | build t ps => exact ok_build t ps dst type pos after guard ev ρ hev hr av h' hop
  | buildSlice t n ps => exact ok_buildSlice t n ps dst type pos after guard ev ρ hev hr av h' hop
  | load t a => exact ok_load t a dst type pos after guard ev ρ hev hr av h' hop
  | store t a x => exact ok_store t a x dst type pos after guard ev ρ hev hr av h' hop
  | nilCheck x => exact ok_nilCheck x dst type pos after guard ev ρ hev hr av h' hop
  | binOp b t x y ty => exact ok_binOp b t x y ty dst type pos after guard ev ρ hev hr av h' hop
  | unOp u t x => exact ok_unOp u t x dst type pos after guard ev ρ hev hr av h' hop
  | convert s d x => exact ok_convert s d x dst type pos after guard ev ρ hev hr av h' hop
  | sliceToArrayPointer t x => exact ok_sliceToArrayPointer t x dst type pos after guard ev ρ hev hr av h' hop
  | makeInterface t x => exact ok_makeInterface t x dst type pos after guard ev ρ hev hr av h' hop
  | makeFunc f a b => exact ok_makeFunc f a b dst type pos after guard ev ρ hev hr av h' hop
  | makeSlice t l c => exact ok_makeSlice t l c dst type pos after guard ev ρ hev hr av h' hop
  | slice t x lo hi mx => exact ok_slice t x lo hi mx dst type pos after guard ev ρ hev hr av h' hop
  | fieldAddr s x f => exact ok_fieldAddr s x f dst type pos after guard ev ρ hev hr av h' hop
  | field t x f => exact ok_field t x f dst type pos after guard ev ρ hev hr av h' hop
  | indexAddr t x i => exact ok_indexAddr t x i dst type pos after guard ev ρ hev hr av h' hop
  | index t x i => exact ok_index t x i dst type pos after guard ev ρ hev hr av h' hop
  | extract x i => exact ok_extract x i dst type pos after guard ev ρ hev hr av h' hop
  | range t x => exact ok_range t x dst type pos after guard ev ρ hev hr av h' hop
  | next x b => exact ok_next x b dst type pos after guard ev ρ hev hr av h' hop
  | typeAssert x a b c => exact ok_typeAssert x a b c dst type pos after guard ev ρ hev hr av h' hop
  | makeMap t r => exact ok_makeMap t r dst type pos after guard ev ρ hev hr av h' hop
  | insert t m k x => exact ok_insert t m k x dst type pos after guard ev ρ hev hr av h' hop
  | mapUpdate t m k x => exact ok_mapUpdate t m k x dst type pos after guard ev ρ hev hr av h' hop
  | lookup t x i b => exact ok_lookup t x i b dst type pos after guard ev ρ hev hr av h' hop
  | _ => simp [opA] at hop
end
end Go.AM
