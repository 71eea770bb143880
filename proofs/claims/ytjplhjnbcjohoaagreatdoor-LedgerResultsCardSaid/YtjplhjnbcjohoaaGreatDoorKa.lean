/-
  A part of the proof of LedgerResults (the machine on named data, and the contracts of the functions that the law reaches): Vf1 Rp Vd Vv1 Vv2 Vv3 Rq.
-/
import Derived.KernelRfl
import Derived.Test.YtjplhjnbcjohoaaGreatDoorGa
import Derived.Test.YtjplhjnbcjohoaaGreatDoorAmH
set_option linter.all false
set_option linter.unusedVariables false
set_option linter.unusedSimpArgs false
set_option linter.unusedSectionVars false
namespace Go.Proofs.YtjplhjnbcjohoaaGreatDoor
open Go Go.AM
theorem hmix : Tryz.prog.follows .mixedOrders = true := by kernel_rfl
theorem namesRun : Tryz.prog.funcs.toList.all (fun fn => !(fn.name == "runtime.NumGoroutine")) = true := by kernel_rfl
theorem hNum (f : FuncId) (fn : Func) (h : Tryz.prog.funcs[f]? = some fn) : (fn.name == "runtime.NumGoroutine") = false := by
  have := List.all_eq_true.1 namesRun fn (List.mem_iff_getElem?.2 ⟨f, by simpa using h⟩)
  simpa using this
noncomputable def isSc : AV → Bool
  | .sc _ => true
  | _ => false
theorem isSc_ok {cs : List AV} (h : cs.all isSc = true) : ∀ c ∈ cs, ∃ u, c = AV.sc u := by
  intro c hc
  have := List.all_eq_true.1 h c hc
  unfold isSc at this
  split at this
  · exact ⟨_, rfl⟩
  · cases this
theorem plainG : PlainG G := by
  intro g cs h
  unfold G at h
  split at h <;> cases h <;> exact isSc_ok (by kernel_rfl)
noncomputable def hasB (f : FuncId) : Bool := match Tryz.prog.funcs[f]? with
  | some fn => !fn.body.isNone && Bool.not (Nat.beq f yid)
  | none => false
theorem hasB_ok {f : FuncId} (h : hasB f = true) : HasBody Tryz.prog f := by
  unfold hasB at h
  split at h
  · rename_i fn e
    simp only [Bool.and_eq_true, Bool.not_eq_true'] at h
    exact ⟨fn, e, h.1, hNum f fn e, Nat.ne_of_beq_eq_false h.2⟩
  · cases h
theorem noSpec_ok (O : Orc) : SpecOK Tryz.prog G noSpec := fun f sp h => by simp [noSpec] at h
theorem sameF {f : FuncId} {X : CallF} : (fun g args h => if g = f then X g args h else none) = (fun g args h => if g = f then X f args h else none) := by
  funext g args h
  by_cases e : g = f
  · rw [if_pos e, if_pos e, e]
  · rw [if_neg e, if_neg e]
/-! ## Contracts of the seat's functions -/
/-- The loops of a function, by their first region. -/
noncomputable def lpsOf (l : List (Nat × LoopSp)) (k : Nat) : Option LoopSp := match l with
  | [] => none
  | (i, L) :: l => match Nat.beq i k with
    | true => some L
    | false => lpsOf l k
noncomputable def bodyOf (f : FuncId) : Code := match Tryz.prog.funcs[f]? with
  | some fn => fn.body.getD .skip
  | none => .skip
noncomputable def loopAt (f k : Nat) : Code := (loopsIn (bodyOf f)).getD k .skip
/-- What each loop of a function is, where it has a contract. -/
def LoopsAre (I : Nat → List DV → DV) (f : FuncId) (lps : List (Nat × LoopSp)) : Prop := LoopsOK Tryz.prog G I (lpsOf lps) (bodyOf f)
theorem lpsOf_mem : ∀ {l : List (Nat × LoopSp)} {k : Nat} {L : LoopSp}, lpsOf l k = some L → (k, L) ∈ l
  | (i, M) :: l, k, L, h => by
    unfold lpsOf at h
    split at h
    · rename_i e
      cases h
      rw [Nat.eq_of_beq_eq_true e]
      simp
    · exact List.mem_cons_of_mem _ (lpsOf_mem h)
theorem noLoops {I : Nat → List DV → DV} {c : Code} : LoopsOK Tryz.prog G I (lpsOf []) c := fun _ _ _ h => by simp [lpsOf] at h
theorem loops1 {I : Nat → List DV → DV} {f k : Nat} {c : Code} {L : LoopSp} (hc : loopsIn (bodyOf f) = [c]) (hL : LoopOK Tryz.prog G I c L) : LoopsAre I f [(k, L)] := by
  intro B hB M hM
  have h1 := lpsOf_mem hM
  simp only [List.mem_cons, List.not_mem_nil, or_false, Prod.mk.injEq] at h1
  obtain ⟨_, rfl⟩ := h1
  rw [hc] at hB
  simp only [List.mem_cons, List.not_mem_nil, or_false] at hB
  rw [hB]
  exact hL
abbrev Frz := List (Option (TypeId × List Ty))
/-- Loops of inner functions that have contracts. -/
abbrev SubL := List (FuncId × List (Nat × LoopSp))
noncomputable def subOf (l : SubL) (f : FuncId) : Option (Nat → Option LoopSp) := match l with
  | [] => none
  | (g, x) :: l => match Nat.beq g f with
    | true => some (lpsOf x)
    | false => subOf l f
def SubsOK (I : Nat → List DV → DV) : SubL → Prop
  | [] => True
  | x :: l => LoopsAre I x.1 x.2 ∧ SubsOK I l
theorem subs_ok {I : Nat → List DV → DV} : ∀ {l : SubL}, SubsOK I l → SubOK Tryz.prog G I (subOf l)
  | [], _ => fun f lps h => by simp [subOf] at h
  | (g, x) :: l, hs => fun f lps h => by
    intro fn c hf hc
    unfold subOf at h
    split at h
    · rename_i e
      cases h
      obtain rfl := Nat.eq_of_beq_eq_true e
      have : bodyOf g = c := by unfold bodyOf; rw [hf]; simp [hc]
      rw [← this]
      exact hs.1
    · exact subs_ok hs.2 f lps h fn c hf hc
/-- A function by its loops' contracts; slices of its own among its results are data. -/
noncomputable def runS (I : Nat → List DV → DV) (spec : SpecF) (sub : SubL) (lps : List (Nat × LoopSp)) (ts : Frz) (f : FuncId) (sg : Sig) (facts : List (SX × Bool)) : Out :=
  iceRes ts (@callM (mkO facts I) Tryz.prog G (spec (mkO facts I)) 100 (subOf sub) (lpsOf lps) f (mkArgs 0 sg) heap0)
noncomputable abbrev runI (I : Nat → List DV → DV) (spec : SpecF) (lps : List (Nat × LoopSp)) (ts : Frz) (f : FuncId) (sg : Sig) (facts : List (SX × Bool)) : Out := runS I spec [] lps ts f sg facts
noncomputable def runSX (I : Nat → List DV → DV) (spec : SpecF) (sub : SubL) (lps : List (Nat × LoopSp)) (ts : Frz) (f : FuncId) (sg : Sig) (o : SX → Option Bool) : Out :=
  iceRes ts (@callM ⟨o, I⟩ Tryz.prog G (spec ⟨o, I⟩) 100 (subOf sub) (lpsOf lps) f (mkArgs 0 sg) heap0)
noncomputable abbrev runX (I : Nat → List DV → DV) (spec : SpecF) (lps : List (Nat × LoopSp)) (ts : Frz) (f : FuncId) (sg : Sig) (o : SX → Option Bool) : Out := runSX I spec [] lps ts f sg o
/-- A round of a loop. -/
noncomputable def roundS (I : Nat → List DV → DV) (spec : SpecF) (sub : SubL) (lps : List (Nat × LoopSp)) (B : Code) (facts : List (SX × Bool)) (s : St) : Run := @codeM (mkO facts I) Tryz.prog G (spec (mkO facts I)) 100 (subOf sub) (lpsOf lps) B s
noncomputable abbrev roundI (I : Nat → List DV → DV) (spec : SpecF) (lps : List (Nat × LoopSp)) (B : Code) (facts : List (SX × Bool)) (s : St) : Run := roundS I spec [] lps B facts s
noncomputable def roundSX (I : Nat → List DV → DV) (spec : SpecF) (sub : SubL) (lps : List (Nat × LoopSp)) (B : Code) (L : LoopSp) (o : SX → Option Bool) : Run := @codeM ⟨o, I⟩ Tryz.prog G (spec ⟨o, I⟩) 100 (subOf sub) (lpsOf lps) B (L.T.st L.n)
noncomputable abbrev roundX (I : Nat → List DV → DV) (spec : SpecF) (lps : List (Nat × LoopSp)) (B : Code) (L : LoopSp) (o : SX → Option Bool) : Run := roundSX I spec [] lps B L o
section
variable {I : Nat → List DV → DV} {spec : SpecF}
theorem callI (hsp : ∀ O : Orc, O.I = I → @SpecOK O Tryz.prog G (spec O)) {sub : SubL} (hs : SubsOK I sub) {lps : List (Nat × LoopSp)} {f : FuncId} (hl : LoopsAre I f lps) (ts : Frz) :
    ∀ O : Orc, O.I = I → @CallOK O Tryz.prog G (fun g args h => if g = f then iceRes ts (@callM O Tryz.prog G (spec O) 100 (subOf sub) (lpsOf lps) g args h) else none) := by
  intro O hI
  have h1 := @callM_ok O Tryz.prog G (spec O) (lpsOf lps) hmix hNum (hsp O hI) plainG 100 (subOf sub) (by rw [hI]; exact subs_ok hs) f (by
    intro fn c hf hc
    rw [hI]
    have : bodyOf f = c := by unfold bodyOf; rw [hf]; simp [hc]
    rw [← this]
    exact hl)
  have h2 := @iceRes_ok O Tryz.prog G ts _ h1
  intro g args h av h' hq
  simp only at hq
  split at hq
  · rename_i e
    exact h2 g args h av h' (by simp only [if_pos e]; subst e; exact hq)
  · cases hq
theorem fn_runS (hsp : ∀ O : Orc, O.I = I → @SpecOK O Tryz.prog G (spec O)) {sub : SubL} (hs : SubsOK I sub) (lps : List (Nat × LoopSp)) (ts : Frz) {f : FuncId} (hl : LoopsAre I f lps) {sg rs : Sig} {pre : List DV → Prop} {F : List DV → List (List DV)} (hb : hasB f = true) (p : Pln)
    (hc : checkPlan rs (runS I spec sub lps ts f sg) [] p = true)
    (hgoal : ∀ (ds : List (List DV)), IsArgs sg ds → pre ds.flatten → goalPlan (rhoOf I ds.flatten) (F ds.flatten) p) : FnOK Tryz.prog G f sg rs pre F :=
  fn_plan (call := fun O g args h => iceRes ts (@callM O Tryz.prog G (spec O) 100 (subOf sub) (lpsOf lps) g args h)) plainG (hasB_ok hb) (callI hsp hs hl ts) p hc (fun _ ds _ h hp => hgoal ds (repArgs_is h) hp)
theorem fn_run (hsp : ∀ O : Orc, O.I = I → @SpecOK O Tryz.prog G (spec O)) (lps : List (Nat × LoopSp)) (ts : Frz) {f : FuncId} (hl : LoopsAre I f lps) {sg rs : Sig} {pre : List DV → Prop} {F : List DV → List (List DV)} (hb : hasB f = true) (p : Pln)
    (hc : checkPlan rs (runI I spec lps ts f sg) [] p = true)
    (hgoal : ∀ (ds : List (List DV)), IsArgs sg ds → pre ds.flatten → goalPlan (rhoOf I ds.flatten) (F ds.flatten) p) : FnOK Tryz.prog G f sg rs pre F :=
  fn_runS hsp (sub := []) trivial lps ts hl hb p hc hgoal
theorem own_runS (hsp : ∀ O : Orc, O.I = I → @SpecOK O Tryz.prog G (spec O)) {sub : SubL} (hs : SubsOK I sub) (lps : List (Nat × LoopSp)) {f : FuncId} (hl : LoopsAre I f lps) (el : TypeId) (ets : List Ty) {sg rs : Sig} {pre : List DV → Prop} {F : List DV → List (List DV)} (hb : hasB f = true) (p : Pln)
    (hc : checkOwn el ets rs (runS I spec sub lps [] f sg) [] p = true)
    (hgoal : ∀ (ds : List (List DV)), IsArgs sg ds → pre ds.flatten → goalPlan (rhoOf I ds.flatten) (F ds.flatten) p) : FnOwn Tryz.prog G f sg el ets rs pre F :=
  own_plan (call := fun O g args h => iceRes [] (@callM O Tryz.prog G (spec O) 100 (subOf sub) (lpsOf lps) g args h)) plainG (hasB_ok hb) (callI hsp hs hl []) p hc (fun _ ds _ h hp => hgoal ds (repArgs_is h) hp)
theorem own_run (hsp : ∀ O : Orc, O.I = I → @SpecOK O Tryz.prog G (spec O)) (lps : List (Nat × LoopSp)) {f : FuncId} (hl : LoopsAre I f lps) (el : TypeId) (ets : List Ty) {sg rs : Sig} {pre : List DV → Prop} {F : List DV → List (List DV)} (hb : hasB f = true) (p : Pln)
    (hc : checkOwn el ets rs (runI I spec lps [] f sg) [] p = true)
    (hgoal : ∀ (ds : List (List DV)), IsArgs sg ds → pre ds.flatten → goalPlan (rhoOf I ds.flatten) (F ds.flatten) p) : FnOwn Tryz.prog G f sg el ets rs pre F :=
  own_runS hsp (sub := []) trivial lps hl el ets hb p hc hgoal
theorem loop_runS (hsp : ∀ O : Orc, O.I = I → @SpecOK O Tryz.prog G (spec O)) {sub : SubL} (hs : SubsOK I sub) {lps : List (Nat × LoopSp)} {B : Code} {L : LoopSp} (hl : LoopsOK Tryz.prog G I (lpsOf lps) B) (p : RPln)
    (hok : (L.yes.2.1.ok L.T L.n && L.no.2.1.ok L.T L.n && checkRound L (roundS I spec sub lps B) [] p) = true) (inv : Rho → Prop) (μ : Rho → Nat)
    (init : ∀ m a w, @RS (noFacts I) plainR m G (L.T.st L.n) a w → (∀ p ∈ L.pre, den m.R p.1 = .bool p.2) → inv m.R)
    (step : ∀ R, R.I = I → inv R → goalRound L inv μ R p) : LoopOK Tryz.prog G I B L :=
  loop_plan hmix hNum hsp plainG 100 (subs_ok hs) hl p hok inv μ init step
theorem loop_run (hsp : ∀ O : Orc, O.I = I → @SpecOK O Tryz.prog G (spec O)) {lps : List (Nat × LoopSp)} {B : Code} {L : LoopSp} (hl : LoopsOK Tryz.prog G I (lpsOf lps) B) (p : RPln)
    (hok : (L.yes.2.1.ok L.T L.n && L.no.2.1.ok L.T L.n && checkRound L (roundI I spec lps B) [] p) = true) (inv : Rho → Prop) (μ : Rho → Nat)
    (init : ∀ m a w, @RS (noFacts I) plainR m G (L.T.st L.n) a w → (∀ p ∈ L.pre, den m.R p.1 = .bool p.2) → inv m.R)
    (step : ∀ R, R.I = I → inv R → goalRound L inv μ R p) : LoopOK Tryz.prog G I B L :=
  loop_runS hsp (sub := []) trivial hl p hok inv μ init step
end
end Go.Proofs.YtjplhjnbcjohoaaGreatDoor
namespace Go.Proofs.YtjplhjnbcjohoaaGreatDoor
open Go Go.AM
/-! ## Values, plainly -/
def valOK (k n : Int) (sz : Nat) : Bool := (k == 1 && n == 0 && sz == 0) || (k == 2 && (n == 0 || n == 1) && sz == 0) || (k == 3 && sz == 0) || (k == 4 && n == 0 && decide (sz ≤ 64))
/-- A number in eight bytes. -/
def be8 (n : Int) : List Int := [n / 2 ^ 56 % 256, n / 2 ^ 48 % 256, n / 2 ^ 40 % 256, n / 2 ^ 32 % 256, n / 2 ^ 24 % 256, n / 2 ^ 16 % 256, n / 2 ^ 8 % 256, n % 256]
def escI (l : List Int) : List Int := l.flatMap fun z => if z = 0 then [0, 255] else [z]
/-- A value's bytes. -/
def encV (k n : Int) (s : ByteArray) : List Int := if k = 1 then [1] else if k = 2 then [2, n] else if k = 3 then 3 :: be8 (n + 9223372036854775808) else 4 :: (escI (strI s) ++ [0, 0])
/-! ## Outcomes as bytes, plainly -/
def okVal (v : List DV) : Bool := valOK (iD v 0) (iD v 1) (sD v 2).size
def encVal (v : List DV) : List Int := encV (iD v 0) (iD v 1) (sD v 2)
def mayEnc (v : List DV) : List Int := if okVal v then encVal v else []
def rowB (l : List (List DV)) : List Int := if 12 < l.length then [] else ((l.length : Int) % 256) :: l.flatMap mayEnc
def rowOK (l : List (List DV)) : Bool := decide (l.length ≤ 12) && l.all okVal
def rowsB (l : List (List DV)) : List Int := l.flatMap fun r => rowB (lD r 0)
def rowsOK (l : List (List DV)) : Bool := l.all fun r => rowOK (lD r 0)
def two (n : Int) : Bool := decide (0 ≤ n) && decide (n ≤ 65535)
def be2 (n : Int) : List Int := [n / 256 % 256, n % 256]
def saidB (e a c : Int) (rows : List (List DV)) : List Int := be2 e ++ (be2 a ++ (be2 c ++ ((rows.length : Int) % 256 :: rowsB rows)))
def headOK (e a c : Int) (rows : List (List DV)) : Bool := two e && two a && two c && decide (rows.length ≤ 255)
def saidOK (e a c : Int) (rows : List (List DV)) : Bool := headOK e a c rows && (rowsOK rows && decide ((saidB e a c rows).length ≤ 3000))

/-! ### a value of bytes -/
/-- A text of bytes: the error, the text's bytes, how many bytes ahead of what is left. -/
def txt : List Int → List Int → Nat → Int × List Int × Nat
  | [], _, _ => (7, [], 0)
  | c :: l, out, u => if c = 0 then (match l with
      | [] => (7, [], 0)
      | d :: l' => if d = 0 then (0, out, u + 2) else if d = 255 then (if out.length = 64 then (150, [], 0) else txt l' (out ++ [0]) (u + 2)) else (150, [], 0))
    else if out.length = 64 then (150, [], 0) else txt l (out ++ [c]) (u + 1)
/-- Do the bytes end ahead of the text's end, between two of its letters? -/
def txEnd : List Int → List Int → Bool
  | [], _ => true
  | c :: l, out => if c = 0 then (match l with
      | [] => false
      | d :: l' => if d = 0 then false else if d = 255 then (if out.length = 64 then false else txEnd l' (out ++ [0])) else false)
    else if out.length = 64 then false else txEnd l (out ++ [c])
def numI (l : List Int) : Int := l.foldl (fun x c => x * 256 + c) 0
def noVal (e : Int) : Int × List DV × Nat := (e, [.int .i64 0, .int .i64 0, .str ⟨#[]⟩], 0)
def aVal (k n : Int) (s : ByteArray) (u : Nat) : Int × List DV × Nat := (0, [.int .i64 k, .int .i64 n, .str s], u)
/-- A value of bytes: the error, the value, how many bytes. -/
def decV : List Int → Int × List DV × Nat
  | [] => noVal 7
  | k :: r =>
    if k = 1 then aVal 1 0 ⟨#[]⟩ 1
    else if k = 2 then (match r with
      | [] => noVal 7
      | n :: _ => if 1 < n then noVal 150 else aVal 2 n ⟨#[]⟩ 2)
    else if k = 3 then (if r.length < 8 then noVal 7 else aVal 3 (numI (r.take 8) - 9223372036854775808) ⟨#[]⟩ 9)
    else if k = 4 then (match txt r [] 1 with
      | (e, out, u) => if e = 0 then aVal 4 0 (textI out) u else noVal e)
    else noVal 150
theorem txt_spec : ∀ (n : Nat) (l : List Int), l.length ≤ n → ∀ (out : List Int) (u : Nat) (o : List Int) (u' : Nat), txt l out u = (0, o, u') → ∃ t : List Int, o = out ++ t ∧ u ≤ u' ∧ u' - u ≤ l.length ∧ l.take (u' - u) = escI t ++ [0, 0] ∧ (out.length ≤ 64 → o.length ≤ 64) ∧ (∀ z ∈ t, z ∈ l) := by
  intro n
  induction n with
  | zero =>
    intro l hl out u o u' h
    have : l = [] := List.length_eq_zero_iff.1 (by omega)
    subst this
    simp [txt] at h
  | succ n ih =>
    intro l hl out u o u' h
    match l, hl with
    | [], _ => simp [txt] at h
    | c :: l, hl =>
      unfold txt at h
      split at h
      · rename_i hc
        subst hc
        match l, hl with
        | [], _ => simp at h
        | d :: l', hl =>
          simp only at h
          split at h
          · rename_i hd
            subst hd
            cases h
            exact ⟨[], by simp, by omega, by simp only [List.length_cons]; omega, by simp [escI, show u + 2 - u = 2 by omega], fun h => h, by simp⟩
          · split at h
            · rename_i hd
              subst hd
              split at h
              · simp at h
              · rename_i h64
                simp only [List.length_cons] at hl
                obtain ⟨t, e1, e2, e3, e4, e5, e6⟩ := ih l' (by omega) _ _ _ _ h
                refine ⟨0 :: t, by rw [e1]; simp, by omega, by simp; omega, ?_, fun h => e5 (by simp; omega), fun z hz => ?_⟩
                · rw [show u' - u = (u' - (u + 2)) + 2 by omega]
                  simp only [List.take_succ_cons, e4]
                  simp [escI]
                · rcases List.mem_cons.1 hz with rfl | hz
                  · simp
                  · have := e6 z hz
                    simp [this]
            · simp at h
      · rename_i hc
        split at h
        · simp at h
        · rename_i h64
          simp only [List.length_cons] at hl
          obtain ⟨t, e1, e2, e3, e4, e5, e6⟩ := ih l (by omega) _ _ _ _ h
          refine ⟨c :: t, by rw [e1]; simp, by omega, by simp; omega, ?_, fun h => e5 (by simp; omega), fun z hz => ?_⟩
          · rw [show u' - u = (u' - (u + 1)) + 1 by omega]
            simp only [List.take_succ_cons, e4]
            simp [escI, hc]
          · rcases List.mem_cons.1 hz with rfl | hz
            · simp
            · have := e6 z hz
              simp [this]
theorem txEnd_spec : ∀ (n : Nat) (l : List Int), l.length ≤ n → ∀ (out : List Int) (u : Nat), txEnd l out = true → txt l out u = (7, [], 0) := by
  intro n
  induction n with
  | zero =>
    intro l hl out u h
    have : l = [] := List.length_eq_zero_iff.1 (by omega)
    subst this
    simp [txt]
  | succ n ih =>
    intro l hl out u h
    match l, hl with
    | [], _ => simp [txt]
    | c :: l, hl =>
      unfold txEnd at h
      unfold txt
      split at h
      · rename_i hc
        rw [if_pos hc]
        match l, hl with
        | [], _ => simp at h
        | d :: l', hl =>
          simp only at h ⊢
          split at h
          · cases h
          · rename_i hd
            rw [if_neg hd]
            split at h
            · rename_i hd2
              rw [if_pos hd2]
              split at h
              · cases h
              · rename_i h64
                rw [if_neg h64]
                simp only [List.length_cons] at hl
                exact ih l' (by omega) _ _ h
            · cases h
      · rename_i hc
        rw [if_neg hc]
        split at h
        · cases h
        · rename_i h64
          rw [if_neg h64]
          simp only [List.length_cons] at hl
          exact ih l (by omega) _ _ h
theorem numI_8 {a b c d e f g h : Int} : numI [a, b, c, d, e, f, g, h] = ((((((a * 256 + b) * 256 + c) * 256 + d) * 256 + e) * 256 + f) * 256 + g) * 256 + h := by simp [numI]
theorem eight {l : List Int} (h : ¬ l.length < 8) : ∃ a b c d e f g i r, l = a :: b :: c :: d :: e :: f :: g :: i :: r := by
  match l, h with
  | [], h => simp at h
  | [_], h => simp at h
  | [_, _], h => simp at h
  | [_, _, _], h => simp at h
  | [_, _, _, _], h => simp at h
  | [_, _, _, _, _], h => simp at h
  | [_, _, _, _, _, _], h => simp at h
  | [_, _, _, _, _, _, _], h => simp at h
  | a :: b :: c :: d :: e :: f :: g :: i :: r, _ => exact ⟨a, b, c, d, e, f, g, i, r, rfl⟩
theorem strI_textI {l : List Int} (h : AreB l) : strI (textI l) = l := by
  unfold strI textI
  simp only [List.map_map]
  conv => rhs; rw [← List.map_id l]
  refine List.map_congr_left fun z hz => ?_
  have := h z hz
  simp only [Function.comp]
  have h5 : (UInt8.ofNat z.toNat).toNat = z.toNat % 256 := UInt8.toNat_ofNat'
  simp only [h5, id]
  omega
theorem areB_mem {l : List Int} (h : AreB l) {z : Int} (hz : z ∈ l) : 0 ≤ z ∧ z ≤ 255 := by
  have := h z hz
  omega
theorem size_textI (l : List Int) : (textI l).size = l.length := by
  unfold textI
  show (List.toArray _).size = _
  simp
/-- What a value is read of are its bytes. -/
theorem decV_spec {l : List Int} (hl : AreB l) {v : List DV} {n : Nat} (h : decV l = (0, v, n)) : okVal v = true ∧ n ≤ l.length ∧ 1 ≤ n ∧ l.take n = encVal v := by
  unfold decV at h
  split at h
  · simp [noVal] at h
  rename_i k r
  have hk := areB_mem hl (z := k) (by simp)
  split at h
  · rename_i e
    subst e
    simp only [aVal, Prod.mk.injEq, true_and] at h
    obtain ⟨rfl, rfl⟩ := h
    exact ⟨rfl, by simp, by simp, by simp [encVal, encV, iD]⟩
  split at h
  · rename_i e
    subst e
    split at h
    · simp [noVal] at h
    · rename_i m r'
      have hm := areB_mem hl (z := m) (by simp)
      split at h
      · simp [noVal] at h
      · rename_i h1
        simp only [aVal, Prod.mk.injEq, true_and] at h
        obtain ⟨rfl, rfl⟩ := h
        refine ⟨?_, by simp, by simp, by simp [encVal, encV, iD]⟩
        have : m = 0 ∨ m = 1 := by omega
        rcases this with rfl | rfl <;> rfl
  split at h
  · rename_i e
    subst e
    split at h
    · simp [noVal] at h
    · rename_i h8
      obtain ⟨a, b, c, d, e, f, g, i, r', rfl⟩ := eight h8
      have ba := areB_mem hl (z := a) (by simp)
      have bb := areB_mem hl (z := b) (by simp)
      have bc := areB_mem hl (z := c) (by simp)
      have bd := areB_mem hl (z := d) (by simp)
      have be := areB_mem hl (z := e) (by simp)
      have bf := areB_mem hl (z := f) (by simp)
      have bg := areB_mem hl (z := g) (by simp)
      have bi := areB_mem hl (z := i) (by simp)
      simp only [aVal, Prod.mk.injEq, true_and] at h
      obtain ⟨rfl, rfl⟩ := h
      refine ⟨rfl, by simp, by simp, ?_⟩
      simp only [encVal, encV, iD, List.getD_cons_zero, List.getD_cons_succ, List.take_succ_cons, List.take_zero, numI_8, be8]
      simp only [show ¬ ((3 : Int) = 1) by decide, show ¬ ((3 : Int) = 2) by decide, if_false, if_true, List.cons.injEq, true_and, and_true]
      omega
  split at h
  · rename_i e
    subst e
    cases ht : txt r [] 1 with
    | mk e p =>
      obtain ⟨o, u⟩ := p
      rw [ht] at h
      simp only at h
      split at h
      · rename_i he
        subst he
        obtain ⟨t, e1, e2, e3, e4, e5, e6⟩ := txt_spec _ r (Nat.le_refl _) _ _ _ _ ht
        simp only [aVal, Prod.mk.injEq, true_and] at h
        obtain ⟨rfl, rfl⟩ := h
        simp only [List.nil_append] at e1
        subst e1
        have hb : AreB o := fun z hz => hl z (by simp [e6 z hz])
        have h64 := e5 (by simp)
        refine ⟨?_, by simp; omega, by omega, ?_⟩
        · simp [okVal, valOK, iD, sD, size_textI, h64]
        · simp only [encVal, encV, iD, sD, List.getD_cons_zero, List.getD_cons_succ, strI_textI hb]
          simp only [show ¬ ((4 : Int) = 1) by decide, show ¬ ((4 : Int) = 2) by decide, show ¬ ((4 : Int) = 3) by decide, if_false]
          rw [show u = (u - 1) + 1 by omega, List.take_succ_cons, e4]
      · rename_i he
        simp only [noVal, Prod.mk.injEq] at h
        exact absurd h.1 he
  · simp [noVal] at h

/-! ### rows of bytes -/
def pVals (l : List Int) : Nat → Nat → List (List DV) → Option (List (List DV) × Nat)
  | 0, at', acc => some (acc, at')
  | n + 1, at', acc => if (decV (l.drop at')).1 = 0 then pVals l n (at' + (decV (l.drop at')).2.2) (acc ++ [(decV (l.drop at')).2.1]) else none
/-- The program's rows: it goes on where bytes end too early. -/
def pRows (l : List Int) : Nat → Nat → Bool → List (List DV) → Option (List (List DV) × Nat × Bool)
  | 0, at', sh, acc => some (acc, at', sh)
  | n + 1, at', sh, acc => if sh || decide (l.length ≤ at') then pRows l n at' true (acc ++ [[.list []]]) else
    (match pVals l (l.getD at' 0).toNat (at' + 1) [] with
    | none => none
    | some (row, at2) => pRows l n at2 false (acc ++ [[.list row]]))
/-- The document's rows. -/
def qRows (l : List Int) : Nat → Nat → List (List DV) → Option (List (List DV) × Nat)
  | 0, at', acc => some (acc, at')
  | n + 1, at', acc => if l.length ≤ at' then none else
    (match pVals l (l.getD at' 0).toNat (at' + 1) [] with
    | none => none
    | some (row, at2) => qRows l n at2 (acc ++ [[.list row]]))
theorem pRows_short (l : List Int) : ∀ (n at' : Nat) (acc : List (List DV)), ∃ rows, pRows l n at' true acc = some (rows, at', true)
  | 0, at', acc => ⟨acc, rfl⟩
  | n + 1, at', acc => by
    unfold pRows
    simp only [Bool.true_or, if_true]
    exact pRows_short l n at' _
theorem pq_rows (l : List Int) : ∀ (n at' : Nat) (acc : List (List DV)), (∃ rows at2, qRows l n at' acc = some (rows, at2) ∧ pRows l n at' false acc = some (rows, at2, false)) ∨ (qRows l n at' acc = none ∧ (pRows l n at' false acc = none ∨ ∃ rows at2, pRows l n at' false acc = some (rows, at2, true)))
  | 0, at', acc => .inl ⟨acc, at', rfl, rfl⟩
  | n + 1, at', acc => by
    unfold pRows qRows
    simp only [Bool.false_or]
    by_cases h : l.length ≤ at'
    · simp only [h, decide_true, if_true]
      obtain ⟨rows, e⟩ := pRows_short l n at' (acc ++ [[.list []]])
      refine .inr ⟨?_, .inr ⟨rows, at', e⟩⟩
      first | rfl | trivial
    · simp only [h, decide_false, if_false, Bool.false_eq_true]
      cases pVals l (l.getD at' 0).toNat (at' + 1) [] with
      | none => exact .inr ⟨rfl, .inl rfl⟩
      | some p => exact pq_rows l n p.2 _
theorem take_drop_cat {l : List Int} {a b c : Nat} (h1 : a ≤ b) (h2 : b ≤ c) : (l.take c).drop a = (l.take b).drop a ++ (l.take c).drop b := by
  have e1 : l.take b = (l.take c).take b := by rw [List.take_take, Nat.min_eq_left h2]
  have e2 : (l.take c).drop b = ((l.take c).drop a).drop (b - a) := by rw [List.drop_drop]; congr 1; omega
  have e3 : ((l.take c).take b).drop a = ((l.take c).drop a).take (b - a) := List.drop_take
  rw [e1, e2, e3, List.take_append_drop]
theorem pVals_spec {l : List Int} (hl : AreB l) : ∀ (n at' : Nat) (acc row : List (List DV)) (at2 : Nat), at' ≤ l.length → pVals l n at' acc = some (row, at2) →
    ∃ vs, row = acc ++ vs ∧ vs.length = n ∧ (∀ v ∈ vs, okVal v = true) ∧ at' ≤ at2 ∧ at2 ≤ l.length ∧ (l.take at2).drop at' = vs.flatMap encVal
  | 0, at', acc, row, at2, h1, h => by
    simp only [pVals, Option.some.injEq, Prod.mk.injEq] at h
    obtain ⟨rfl, rfl⟩ := h
    exact ⟨[], by simp, rfl, by simp, Nat.le_refl _, h1, by simp⟩
  | n + 1, at', acc, row, at2, h1, h => by
    unfold pVals at h
    split at h
    · rename_i h0
      have hd : decV (l.drop at') = (0, (decV (l.drop at')).2.1, (decV (l.drop at')).2.2) := by rw [← h0]
      obtain ⟨k1, k2, k3, k4⟩ := decV_spec (fun z hz => hl z (List.mem_of_mem_drop hz)) hd
      rw [List.length_drop] at k2
      obtain ⟨vs, e1, e2, e3, e4, e5, e6⟩ := pVals_spec hl n _ _ _ _ (by omega) h
      refine ⟨(decV (l.drop at')).2.1 :: vs, by rw [e1]; simp, by simp [e2], fun v hv => ?_, by omega, e5, ?_⟩
      · rcases List.mem_cons.1 hv with rfl | hv
        · exact k1
        · exact e3 v hv
      · rw [take_drop_cat (b := at' + (decV (l.drop at')).2.2) (by omega) e4, e6, List.flatMap_cons]
        congr 1
        rw [← k4, List.take_drop]
    · cases h
theorem mayEnc_ok {v : List DV} (h : okVal v = true) : mayEnc v = encVal v := by unfold mayEnc; rw [h]; rfl
theorem qRows_spec {l : List Int} (hl : AreB l) : ∀ (n at' : Nat) (acc rows : List (List DV)) (at2 : Nat), at' ≤ l.length → qRows l n at' acc = some (rows, at2) →
    ∃ rs, rows = acc ++ rs ∧ rs.length = n ∧ at' ≤ at2 ∧ at2 ≤ l.length ∧ (rowsOK rs = true → (l.take at2).drop at' = rowsB rs)
  | 0, at', acc, rows, at2, h1, h => by
    simp only [qRows, Option.some.injEq, Prod.mk.injEq] at h
    obtain ⟨rfl, rfl⟩ := h
    exact ⟨[], by simp, rfl, Nat.le_refl _, h1, by simp [rowsB]⟩
  | n + 1, at', acc, rows, at2, h1, h => by
    unfold qRows at h
    split at h
    · cases h
    rename_i hlt
    cases hp : pVals l (l.getD at' 0).toNat (at' + 1) [] with
    | none => rw [hp] at h; cases h
    | some p =>
      obtain ⟨row, a3⟩ := p
      rw [hp] at h
      simp only at h
      obtain ⟨vs, e1, e2, e3, e4, e5, e6⟩ := pVals_spec hl _ _ _ _ _ (by omega) hp
      simp only [List.nil_append] at e1
      subst e1
      obtain ⟨rs, f1, f2, f3, f4, f5⟩ := qRows_spec hl n _ _ _ _ e5 h
      refine ⟨[.list row] :: rs, by rw [f1]; simp, by simp [f2], by omega, f4, fun hok => ?_⟩
      have hz := areB_mem hl (z := l.getD at' 0) (by
        rw [List.getD_eq_getElem?_getD, List.getElem?_eq_getElem (by omega)]
        exact List.getElem_mem _)
      simp only [rowsOK, List.all_cons, Bool.and_eq_true] at hok
      obtain ⟨o1, o2⟩ := hok
      simp only [rowOK, Bool.and_eq_true, decide_eq_true_eq, lD, List.getD_cons_zero] at o1
      rw [take_drop_cat (b := a3) (by omega) f3, f5 o2]
      simp only [rowsB, List.flatMap_cons, lD, List.getD_cons_zero]
      congr 1
      rw [take_drop_cat (b := at' + 1) (by omega) e4, e6]
      unfold rowB
      rw [if_neg (by omega)]
      have hone : (l.take (at' + 1)).drop at' = [l.getD at' 0] := by
        rw [List.take_add_one, List.drop_append_of_le_length (by rw [List.length_take]; omega), List.drop_of_length_le (by rw [List.length_take]; omega)]
        rw [List.getElem?_eq_getElem (by omega), List.getD_eq_getElem?_getD, List.getElem?_eq_getElem (by omega)]
        rfl
      rw [hone, e2]
      have : (((l.getD at' 0).toNat : Int)) % 256 = l.getD at' 0 := by omega
      rw [this]
      have hfm : row.flatMap mayEnc = row.flatMap encVal := by
        rw [List.flatMap_def, List.flatMap_def]
        congr 1
        exact List.map_congr_left fun v hv => mayEnc_ok (e3 v hv)
      rw [hfm]
      rfl

/-! ### an outcome of bytes -/
def num2 (l : List Int) (i : Nat) : Int := l.getD i 0 * 256 + l.getD (i + 1) 0
/-- As the program reads it. -/
def outP (l : List Int) : Option (Int × Int × Int × List (List DV)) :=
  if l.length < 7 then none else
  match pRows l (l.getD 6 0).toNat 7 false [] with
  | some (rows, _, false) => if saidOK (num2 l 0) (num2 l 2) (num2 l 4) rows && decide (l = saidB (num2 l 0) (num2 l 2) (num2 l 4) rows) then some (num2 l 0, num2 l 2, num2 l 4, rows) else none
  | _ => none
/-- As the document reads it: what is read, and whether it is an outcome. -/
def outQ (l : List Int) : Option (Int × Int × Int × List (List DV) × Bool) :=
  if l.length < 7 || decide (3000 < l.length) then none else
  match qRows l (l.getD 6 0).toNat 7 [] with
  | some (rows, at2) => some (num2 l 0, num2 l 2, num2 l 4, rows, saidOK (num2 l 0) (num2 l 2) (num2 l 4) rows && decide (at2 = l.length))
  | none => none
theorem seven {l : List Int} (h : ¬ l.length < 7) : ∃ a b c d e f n r, l = a :: b :: c :: d :: e :: f :: n :: r := by
  match l, h with
  | [], h => simp at h
  | [_], h => simp at h
  | [_, _], h => simp at h
  | [_, _, _], h => simp at h
  | [_, _, _, _], h => simp at h
  | [_, _, _, _, _], h => simp at h
  | [_, _, _, _, _, _], h => simp at h
  | a :: b :: c :: d :: e :: f :: n :: r, _ => exact ⟨a, b, c, d, e, f, n, r, rfl⟩
theorem be2_I {a b : Int} (h1 : 0 ≤ a ∧ a ≤ 255) (h2 : 0 ≤ b ∧ b ≤ 255) : be2 (a * 256 + b) = [a, b] := by
  unfold be2
  simp only [List.cons.injEq, and_true]
  omega
theorem saidOK_rows {e a c : Int} {rows : List (List DV)} (h : saidOK e a c rows = true) : rowsOK rows = true ∧ (saidB e a c rows).length ≤ 3000 := by
  simp only [saidOK, Bool.and_eq_true, decide_eq_true_eq] at h
  exact ⟨h.2.1, h.2.2⟩
/-- What is read is what was written: both readings agree. -/
theorem outP_Q {l : List Int} (hl : AreB l) : outP l = match outQ l with
    | some (e, a, c, rows, true) => some (e, a, c, rows)
    | _ => none := by
  unfold outP outQ
  by_cases h7 : l.length < 7
  · simp [h7]
  obtain ⟨a, b, c, d, e, f, n, r, rfl⟩ := seven h7
  have ba := areB_mem hl (z := a) (by simp)
  have bb := areB_mem hl (z := b) (by simp)
  have bc := areB_mem hl (z := c) (by simp)
  have bd := areB_mem hl (z := d) (by simp)
  have be := areB_mem hl (z := e) (by simp)
  have bf := areB_mem hl (z := f) (by simp)
  have bn := areB_mem hl (z := n) (by simp)
  have q0 : num2 (a :: b :: c :: d :: e :: f :: n :: r) 0 = a * 256 + b := rfl
  have q2 : num2 (a :: b :: c :: d :: e :: f :: n :: r) 2 = c * 256 + d := rfl
  have q4 : num2 (a :: b :: c :: d :: e :: f :: n :: r) 4 = e * 256 + f := rfl
  have q6 : (a :: b :: c :: d :: e :: f :: n :: r).getD 6 0 = n := rfl
  rw [q0, q2, q4, q6]
  generalize hL : a :: b :: c :: d :: e :: f :: n :: r = L at hl h7 ⊢
  have t7 : L.take 7 = [a, b, c, d, e, f, n] := by rw [← hL]; rfl
  simp only [h7, if_false, decide_false, Bool.false_or]
  -- the bytes ahead of the place where the rows end
  have key : ∀ rows at2, qRows L n.toNat 7 [] = some (rows, at2) → rowsOK rows = true → saidB (a * 256 + b) (c * 256 + d) (e * 256 + f) rows = L.take at2 ∧ at2 ≤ L.length := by
    intro rows at2 h hok
    obtain ⟨rs, f1, f2, f3, f4, f5⟩ := qRows_spec hl _ _ _ _ _ (by omega) h
    simp only [List.nil_append] at f1
    subst f1
    refine ⟨?_, f4⟩
    have := take_drop_cat (l := L) (a := 0) (b := 7) (c := at2) (by omega) f3
    rw [List.drop_zero, List.drop_zero, f5 hok, t7] at this
    rw [this]
    unfold saidB
    rw [be2_I ba bb, be2_I bc bd, be2_I be bf, f2]
    have : ((n.toNat : Nat) : Int) % 256 = n := by omega
    rw [this]
    rfl
  rcases pq_rows L n.toNat 7 [] with ⟨rows, at2, e1, e2⟩ | ⟨e1, e2 | ⟨rows, at2, e2⟩⟩
  · rw [e1, e2]
    simp only
    by_cases hs : saidOK (a * 256 + b) (c * 256 + d) (e * 256 + f) rows = true
    · obtain ⟨k1, k2⟩ := key _ _ e1 (saidOK_rows hs).1
      have hlen := (saidOK_rows hs).2
      rw [k1, List.length_take, Nat.min_eq_left k2] at hlen
      rw [hs, k1]
      simp only [Bool.true_and]
      by_cases ha : at2 = L.length
      · have h3 : ¬ 3000 < L.length := by omega
        have hL2 : L = L.take at2 := by rw [ha, List.take_length]
        rw [← hL2]
        simp [ha, h3]
      · have h4 : ¬ L = L.take at2 := by
          intro h5
          have := congrArg List.length h5
          rw [List.length_take] at this
          omega
        simp only [h4, decide_false, Bool.false_eq_true, if_false, ha]
        split <;> simp_all
    · have hs : saidOK (a * 256 + b) (c * 256 + d) (e * 256 + f) rows = false := by simpa using hs
      rw [hs]
      simp only [Bool.false_and, Bool.false_eq_true, if_false]
      split <;> simp_all
  · rw [e1, e2]
    simp
  · rw [e1, e2]
    simp
end Go.Proofs.YtjplhjnbcjohoaaGreatDoor
namespace Go.Proofs.YtjplhjnbcjohoaaGreatDoor
open Go Go.AM
/-! ## The functions, plainly -/
abbrev tRow : Ty := .slice tV
abbrev tRows : Ty := .slice [tRow]
/-- An outcome: its error, a place, rows, a number. -/
abbrev tO : List Ty := [tI, tI, tRows, tI]
def FvCheck (ds : List DV) : List (List DV) := [[.int .i64 (if valOK (iD ds 0) (iD ds 1) (sD ds 2).size then 0 else 150)]]
def FvEnc (ds : List DV) : List (List DV) := if valOK (iD ds 0) (iD ds 1) (sD ds 2).size then [[.list (bytesI (encV (iD ds 0) (iD ds 1) (sD ds 2)))], [.int .i64 0]] else [[.list []], [.int .i64 150]]
/-- A text's bytes from a place on, behind others. -/
def FvEsc (ds : List DV) : DV := .list (bytesI (intsD ds 1 ++ escI ((strI (sD ds 0)).drop (iD ds 2).toNat)))
def Fboth (ds : List DV) : List (List DV) := [[.list (lD ds 0 ++ lD ds 1)]]
def Fclone (ds : List DV) : List (List DV) := [[.list (lD ds 0)]]
def Ftrue (ds : List DV) : List (List DV) := [[.bool true]]
def Fright (ds : List DV) : List (List DV) := [[.bool (valOK (iD ds 0) (iD ds 1) (sD ds 2).size)]]
def FrBytes (ds : List DV) : List (List DV) := [[.list (bytesI (encV (iD ds 0) (iD ds 1) (sD ds 2)))]]
def Fsaid (ds : List DV) : List (List DV) := if headOK (iD ds 0) (iD ds 1) (iD ds 3) (lD ds 2) then [[.list (bytesI (saidB (iD ds 0) (iD ds 1) (iD ds 3) (lD ds 2)))], [.bool (saidOK (iD ds 0) (iD ds 1) (iD ds 3) (lD ds 2))]] else [[.list []], [.bool false]]
def FencR (ds : List DV) : List (List DV) := if saidOK (iD ds 0) (iD ds 1) (iD ds 3) (lD ds 2) then [[.list (bytesI (saidB (iD ds 0) (iD ds 1) (iD ds 3) (lD ds 2)))], [.int .i64 0]] else [[.list []], [.int .i64 271]]
/-- The document's bytes. -/
def FrefB (ds : List DV) : List (List DV) := if headOK (iD ds 0) (iD ds 1) (iD ds 3) (lD ds 2) && rowsOK (lD ds 2) then [[.list (bytesI (saidB (iD ds 0) (iD ds 1) (iD ds 3) (lD ds 2)))], [.bool (saidOK (iD ds 0) (iD ds 1) (iD ds 3) (lD ds 2))]] else [[.list []], [.bool false]]
def FdecV (ds : List DV) : List (List DV) := [(decV (intsD ds 0)).2.1, [.int .i64 (decV (intsD ds 0)).2.2], [.int .i64 (decV (intsD ds 0)).1]]
def ovV : List (List DV) → Int → Bool
  | [], _ => true
  | v :: l, n => if 1000 < (sD v 2).size then false else if 2000 < n + 1 then false else ovV l (n + 1)
def ovR : List (List DV) → Int → Bool
  | [], _ => true
  | r :: l, n => if 50 < (lD r 0).length then false else if ovV (lD r 0) n then ovR l (n + (lD r 0).length) else false
def Fover (ds : List DV) : List (List DV) := [[.bool (if 300 < (lD ds 0).length then true else !ovR (lD ds 0) 0)]]
def outDV (o : Int × Int × Int × List (List DV)) : List DV := [.int .i64 o.1, .int .i64 o.2.1, .list o.2.2.2, .int .i64 o.2.2.1]
def noOut : List DV := [.int .i64 0, .int .i64 0, .list [], .int .i64 0]
def FdecR (ds : List DV) : List (List DV) := match outP (intsD ds 0) with
  | some o => [outDV o, [.int .i64 0]]
  | none => [noOut, [.int .i64 271]]
def FrefR (ds : List DV) : List (List DV) := match outQ (intsD ds 0) with
  | some (e, a, c, rows, ok) => [outDV (e, a, c, rows), [.bool ok]]
  | none => [noOut, [.bool false]]
open Classical in
/-- Lists are the same. -/
noncomputable def eqLs (a b : List (List DV)) : Bool := decide (a = b)
noncomputable def Feq (ds : List DV) : List (List DV) := [[.bool (eqLs (lD ds 0) (lD ds 1))]]
noncomputable def FsameO (ds : List DV) : List (List DV) := [[.bool (decide (iD ds 0 = iD ds 4) && decide (iD ds 1 = iD ds 5) && decide (iD ds 3 = iD ds 7) && eqLs (lD ds 2) (lD ds 6))]]
/-! ### loops -/
def FL1 (ds : List DV) : DV := .list (bytesI (intsD ds 1 ++ ((lD ds 0).drop (iD ds 2).toNat).flatMap mayEnc))
def FL1ok (ds : List DV) : DV := .bool (bD ds 2 && ((lD ds 0).drop (iD ds 1).toNat).all okVal)
def FL2 (ds : List DV) : DV := .list (bytesI (intsD ds 1 ++ rowsB ((lD ds 0).drop (iD ds 2).toNat)))
def FL2ok (ds : List DV) : DV := .bool (bD ds 2 && rowsOK ((lD ds 0).drop (iD ds 1).toNat))
def FallOK (ds : List DV) : DV := .bool (((lD ds 0).drop (iD ds 1).toNat).all okVal)
def FrowsOK (ds : List DV) : DV := .bool (rowsOK ((lD ds 0).drop (iD ds 1).toNat))
def FovV (ds : List DV) : DV := .bool (ovV ((lD ds 0).drop (iD ds 1).toNat) (iD ds 2))
def FovR (ds : List DV) : DV := .bool (ovR ((lD ds 0).drop (iD ds 1).toNat) (iD ds 2))
/-- A text: all bytes, the place, what is read: the error, the text, the place behind it. -/
def txtD (ds : List DV) : Int × List Int × Nat := txt ((intsD ds 0).drop (iD ds 1).toNat) (intsD ds 2) (iD ds 1).toNat
def FtxE (ds : List DV) : DV := .int .i64 (txtD ds).1
def FtxT (ds : List DV) : DV := .list (bytesI (txtD ds).2.1)
def FtxU (ds : List DV) : DV := .int .i64 (txtD ds).2.2
def FtxZ (ds : List DV) : DV := .bool (txEnd ((intsD ds 0).drop (iD ds 1).toNat) (intsD ds 2))
/-- A row: all bytes, the place, what is read, how many there are still: whether they can be read, the row, the place behind it. -/
def valsD (ds : List DV) : Option (List (List DV) × Nat) := pVals (intsD ds 0) (iD ds 3).toNat (iD ds 1).toNat (lD ds 2)
def FpvOK (ds : List DV) : DV := .bool (valsD ds).isSome
def FpvR (ds : List DV) : DV := .list ((valsD ds).getD ([], 0)).1
def FpvU (ds : List DV) : DV := .int .i64 ((valsD ds).getD ([], 0)).2
/-- The program's rows: all bytes, the place, the error, what is read, how many there are still. -/
def rowsD (ds : List DV) : Option (List (List DV) × Nat × Bool) := pRows (intsD ds 0) (iD ds 4).toNat (iD ds 1).toNat (decide (iD ds 2 ≠ 0)) (lD ds 3)
def FprOK (ds : List DV) : DV := .bool (rowsD ds).isSome
def FprR (ds : List DV) : DV := .list ((rowsD ds).getD ([], 0, false)).1
def FprU (ds : List DV) : DV := .int .i64 ((rowsD ds).getD ([], 0, false)).2.1
def FprE (ds : List DV) : DV := .int .i64 (if ((rowsD ds).getD ([], 0, false)).2.2 then 7 else 0)
/-- Is there no error, or nothing to be read? -/
def FerrOK (ds : List DV) : DV := .bool (decide (iD ds 0 = 0) || decide (iD ds 1 = 0))
/-- Is it no error, or that of bytes that end too early? -/
def Ferr7 (ds : List DV) : DV := .bool (decide (iD ds 0 = 0) || decide (iD ds 0 = 7))
/-- The document's rows: all bytes, the place, what is read, how many there are still. -/
def qrowsD (ds : List DV) : Option (List (List DV) × Nat) := qRows (intsD ds 0) (iD ds 3).toNat (iD ds 1).toNat (lD ds 2)
def FqrOK (ds : List DV) : DV := .bool (qrowsD ds).isSome
def FqrR (ds : List DV) : DV := .list ((qrowsD ds).getD ([], 0)).1
def FqrU (ds : List DV) : DV := .int .i64 ((qrowsD ds).getD ([], 0)).2
/-- Two lists from a place on. -/
noncomputable def FeqL (ds : List DV) : DV := .bool (eqLs ((lD ds 0).drop (iD ds 2).toNat) ((lD ds 1).drop (iD ds 2).toNat))
noncomputable def FeqL2 (ds : List DV) : DV := .bool (eqLs ((lD ((lD ds 0).getD (iD ds 2).toNat []) 0).drop (iD ds 3).toNat) ((lD ((lD ds 1).getD (iD ds 2).toNat []) 0).drop (iD ds 3).toNat))
noncomputable def theI : Nat → List DV → DV
  | 1, ds => .list (FvCheck ds)
  | 2, ds => .list (FvEnc ds)
  | 3, ds => .list (Fboth ds)
  | 4, ds => .list (Feq ds)
  | 5, ds => .list (Fclone ds)
  | 6, ds => .list (Ftrue ds)
  | 7, ds => .list (Fright ds)
  | 8, ds => .list (FrBytes ds)
  | 9, ds => .list (Fsaid ds)
  | 10, ds => .list (FencR ds)
  | 11, ds => .list (FrefB ds)
  | 12, ds => .list (FdecV ds)
  | 13, ds => .list (Fover ds)
  | 14, ds => .list (FdecR ds)
  | 15, ds => .list (FrefR ds)
  | 16, ds => .list (FsameO ds)
  | 101, ds => FvEsc ds
  | 104, ds => FeqL ds
  | 105, ds => FeqL2 ds
  | 111, ds => FL1 ds
  | 112, ds => FL1ok ds
  | 113, ds => FL2 ds
  | 114, ds => FL2ok ds
  | 115, ds => FallOK ds
  | 116, ds => FrowsOK ds
  | 117, ds => FovV ds
  | 118, ds => FovR ds
  | 121, ds => FtxE ds
  | 122, ds => FtxT ds
  | 123, ds => FtxU ds
  | 124, ds => FpvOK ds
  | 134, ds => FtxZ ds
  | 135, ds => FerrOK ds
  | 136, ds => Ferr7 ds
  | 125, ds => FpvR ds
  | 126, ds => FpvU ds
  | 127, ds => FprOK ds
  | 128, ds => FprR ds
  | 129, ds => FprU ds
  | 130, ds => FprE ds
  | 131, ds => FqrOK ds
  | 132, ds => FqrR ds
  | 133, ds => FqrU ds
  | _, _ => .bool false
end Go.Proofs.YtjplhjnbcjohoaaGreatDoor
namespace Go.Proofs.YtjplhjnbcjohoaaGreatDoor
open Go Go.AM
noncomputable def pCheck : Pln :=
  (.ask (eql (.v 0) (k64 1))
    (.ask (eql (.v 1) (k64 0))
      (.ask (eql (.v 2) (.ks (bstr #[])))
        (.done [[(k64 0)]])
        (.done [[(k64 150)]]))
      (.done [[(k64 150)]]))
    (.ask (eql (.v 0) (k64 2))
      (.ask (eql (.v 1) (k64 0))
        (.ask (eql (.v 2) (.ks (bstr #[])))
          (.done [[(k64 0)]])
          (.done [[(k64 150)]]))
        (.ask (eql (.v 1) (k64 1))
          (.ask (eql (.v 2) (.ks (bstr #[])))
            (.done [[(k64 0)]])
            (.done [[(k64 150)]]))
          (.done [[(k64 150)]])))
      (.ask (eql (.v 0) (k64 3))
        (.ask (eql (.v 2) (.ks (bstr #[])))
          (.done [[(k64 0)]])
          (.done [[(k64 150)]]))
        (.ask (eql (.v 0) (k64 4))
          (.ask (eql (.v 1) (k64 0))
            (.ask (lss (k64 64) (.len (.v 2)))
              (.done [[(k64 150)]])
              (.done [[(k64 0)]]))
            (.done [[(k64 150)]]))
          (.done [[(k64 150)]])))))
theorem agg_v {ds : List (List DV)} (h : IsArgs [.agg tV] ds) : ∃ k n s, ds = [[.int .i64 k, .int .i64 n, .str s]] ∧ -9223372036854775808 ≤ n ∧ n ≤ 9223372036854775807 := by
  simp only [IsArgs, IsOne, IsL, tV] at h
  obtain ⟨_, _, rfl, ⟨d1, _, rfl, h1, d2, _, rfl, h2, d3, _, rfl, h3, rfl⟩, rfl⟩ := h
  obtain ⟨k, rfl, _⟩ := h1.i64
  obtain ⟨n, rfl, n1, n2⟩ := h2.i64
  obtain ⟨s, rfl, _⟩ := h3.str
  exact ⟨k, n, s, rfl, n1, n2⟩
theorem size0 (s : ByteArray) : (s = ⟨#[]⟩) ↔ s.size = 0 := by
  constructor
  · rintro rfl; rfl
  · intro h
    have : s.data.size = 0 := h
    have e : s.data = #[] := Array.eq_empty_of_size_eq_zero this
    cases s
    simp_all
theorem okCheck : EntsOK Tryz.prog G theI [] := trivial
theorem lCheck : LoopsAre theI 78 [] := noLoops
theorem kCheck : (hasB 78 && checkPlan [.one tI] (runI theI (entS []) [] [] 78 [.agg tV]) [] pCheck) = true := by kernel_rfl
theorem fnCheck : FnOK Tryz.prog G 78 [.agg tV] [.one tI] (fun _ => True) FvCheck := by
  have hk := kCheck
  rw [Bool.and_eq_true] at hk
  refine fn_run (entS_ok okCheck) [] [] lCheck hk.1 pCheck hk.2 ?_
  intro ds h _
  obtain ⟨k, n, s, rfl, _⟩ := agg_v h
  have e0 := size0 s
  have yes : valOK k n s.size = true → goalPlan (rhoOf theI [[.int .i64 k, .int .i64 n, .str s]].flatten) (FvCheck [[.int .i64 k, .int .i64 n, .str s]].flatten) (.done [[k64 0]]) := by
    intro h
    show FvCheck _ = _
    have : FvCheck [[.int .i64 k, .int .i64 n, .str s]].flatten = [[.int .i64 (if valOK k n s.size then 0 else 150)]] := rfl
    rw [this, h]
    rfl
  have no : valOK k n s.size = false → goalPlan (rhoOf theI [[.int .i64 k, .int .i64 n, .str s]].flatten) (FvCheck [[.int .i64 k, .int .i64 n, .str s]].flatten) (.done [[k64 150]]) := by
    intro h
    show FvCheck _ = _
    have : FvCheck [[.int .i64 k, .int .i64 n, .str s]].flatten = [[.int .i64 (if valOK k n s.size then 0 else 150)]] := rfl
    rw [this, h]
    rfl
  generalize hR : rhoOf theI [[.int .i64 k, .int .i64 n, .str s]].flatten = R at yes no ⊢
  have q0 : R.ρ 0 = .int .i64 k := by rw [← hR]; rfl
  have q1 : R.ρ 1 = .int .i64 n := by rw [← hR]; rfl
  have q2 : R.ρ 2 = .str s := by rw [← hR]; rfl
  have ak : ∀ j : Nat, den R (eql (.v 0) (k64 j)) = .bool (decide (k = j)) := fun j => d_eql (d_v q0) (d_k .i64 j)
  have an : ∀ j : Nat, den R (eql (.v 1) (k64 j)) = .bool (decide (n = j)) := fun j => d_eql (d_v q1) (d_k .i64 j)
  have az : den R (eql (.v 2) (.ks (bstr #[]))) = .bool (decide (s.size = 0)) := by
    simp only [den, q2, binD, bstr]
    congr 1
    simp only [decide_eq_decide]
    exact e0
  have al : den R (lss (k64 64) (.len (.v 2))) = .bool (decide ((64 : Int) < s.size)) := d_lss (d_k .i64 64) (d_lens (d_v q2))
  generalize s.size = z at yes no az al
  unfold pCheck
  refine goal_ask (ak 1) (fun k1 => goal_ask (an 0) (fun n1 => goal_ask az (fun s1 => yes ?_) (fun s1 => no ?_)) (fun n1 => no ?_)) (fun k1 => ?_)
  any_goals (simp [valOK] at *; omega)
  refine goal_ask (ak 2) (fun k2 => goal_ask (an 0) (fun n1 => goal_ask az (fun s1 => yes ?_) (fun s1 => no ?_)) (fun n1 => goal_ask (an 1) (fun n2 => goal_ask az (fun s1 => yes ?_) (fun s1 => no ?_)) (fun n2 => no ?_))) (fun k2 => ?_)
  any_goals (simp [valOK] at *; omega)
  refine goal_ask (ak 3) (fun k3 => goal_ask az (fun s1 => yes ?_) (fun s1 => no ?_)) (fun k3 => ?_)
  any_goals (simp [valOK] at *; omega)
  refine goal_ask (ak 4) (fun k4 => goal_ask (an 0) (fun n1 => goal_ask al (fun s1 => no ?_) (fun s1 => yes ?_)) (fun n1 => no ?_)) (fun k4 => no ?_)
  all_goals (simp [valOK] at *; omega)
end Go.Proofs.YtjplhjnbcjohoaaGreatDoor
namespace Go.Proofs.YtjplhjnbcjohoaaGreatDoor
open Go Go.AM
/-! ### value.Encode: the loop over a text -/
noncomputable def bxV : Blk := { t := 64, row := false, sz := 1, n := 3, z := [.dead], c := (Tr.nil : Tr AV).put 2 (.sy .str (.v 0)) }
noncomputable def bx0 : Blk := { t := 64, row := false, sz := 1, n := 0, z := [.dead], c := .nil }
noncomputable def TEnc : Tmpl := { tm := [(1, .ptr 0 0), (5, .own 7 [tU8] (.v 1)), (38, .sy tI (.len (.v 0))), (39, .sy tI (.v 2))], ob := [(0, bxV)], ow := [⟨7, 5, [tU8], .v 1⟩], src := [.cell 0 2 .str, .own 0, .tm 39 tI], osrc := [.tm 5 5 [tU8]] }
noncomputable def YEnc : Tmpl := { tm := [(5, .own 7 [tU8] (.v 0))], ob := [(0, bx0)], ow := [⟨7, 5, [tU8], .v 0⟩], src := [.own 0], osrc := [.tm 5 5 [tU8]] }
noncomputable def LEnc : LoopSp := { n := 62, T := TEnc, pre := [(lss (k64 64) (.len (.v 0)), false), (lss (k64 64) (.len (.v 1)), false), (eql (.v 2) (k64 0), true)], yes := (.exit 1, YEnc, [.app 101 [.v 0, .v 1, .v 2]]) }
noncomputable abbrev codeEnc : Code := loopAt 47 0
noncomputable abbrev cE1 : SX := .cat (.v 1) (.row [.byte (.v 0) (.v 2)])
noncomputable abbrev cE2 : SX := .cat cE1 (.row [.ki .u8 (.ofNat 255)])
noncomputable def rEnc : RPln :=
  .ask (lss (.v 2) (.len (.v 0)))
    (knowR [(lss (.v 2) (k64 0), false), (lss (k64 1000000) (.len (.v 1)), false)]
      (.ask (eql (.byte (.v 0) (.v 2)) (.ki .u8 (.ofNat 0)))
        (.know (lss (k64 1000000) (.len cE1)) false (.next [.v 0, cE2, add (.v 2) (k64 1)]))
        (.next [.v 0, cE1, add (.v 2) (k64 1)])))
    (.exit true [.v 1])
theorem okEnc : (LEnc.yes.2.1.ok LEnc.T LEnc.n && LEnc.no.2.1.ok LEnc.T LEnc.n && checkRound LEnc (roundI theI (entS []) [] codeEnc) [] rEnc) = true := by kernel_rfl
def invEnc (R : Rho) : Prop := ∃ s l i, R.ρ 0 = .str s ∧ R.ρ 1 = .list (bytesI l) ∧ R.ρ 2 = .int .i64 i ∧ 0 ≤ i ∧ i ≤ s.size ∧ s.size ≤ 64 ∧ l.length ≤ 64 + 2 * i
noncomputable def muEnc (R : Rho) : Nat := match R.ρ 0, R.ρ 2 with
  | .str s, .int _ i => s.size - i.toNat
  | _, _ => 0
theorem esc_step {l : List Int} {i : Int} (h0 : 0 ≤ i) (h1 : i < l.length) : escI (l.drop i.toNat) = (if l.getD i.toNat 0 = 0 then [0, 255] else [l.getD i.toNat 0]) ++ escI (l.drop (i + 1).toNat) := by
  have h2 : i.toNat < l.length := by omega
  rw [List.drop_eq_getElem_cons h2, show (i + 1).toNat = i.toNat + 1 by omega]
  simp only [escI, List.flatMap_cons, List.getD_eq_getElem?_getD, List.getElem?_eq_getElem h2, Option.getD_some]
theorem loopEnc : LoopOK Tryz.prog G theI codeEnc LEnc := by
  refine loop_run (lps := []) (entS_ok (l := []) trivial) noLoops rEnc okEnc invEnc muEnc ?_ ?_
  · intro m a w hr hp
    obtain ⟨s, e0, _⟩ := (head_cell hr (id := 0) (k := 2) (i := 0) (ty := .str) (b := bxV) (by kernel_rfl) (by decide) (by kernel_rfl)).str
    obtain ⟨l, e1, _, _⟩ := (head_own hr (t := 5) (id := 7) (i := 1) (el := 5) (ts := [tU8]) (by kernel_rfl) (by kernel_rfl)).ints
    obtain ⟨i, e2, _⟩ := (head_sy hr (t := 39) (i := 2) (ty := tI) (by kernel_rfl)).i64
    have p1 := hp (lss (k64 64) (.len (.v 0)), false) (by simp [LEnc])
    have p2 := hp (lss (k64 64) (.len (.v 1)), false) (by simp [LEnc])
    have p3 := hp (eql (.v 2) (k64 0), true) (by simp [LEnc])
    rw [d_lss (d_k .i64 64) (d_lens (d_v e0))] at p1
    rw [d_lss (d_k .i64 64) (d_lenI (d_v e1))] at p2
    rw [d_eql (d_v e2) (d_k .i64 0)] at p3
    simp only [DV.bool.injEq, decide_eq_false_iff_not, decide_eq_true_eq] at p1 p2 p3
    refine ⟨s, l, i, e0, e1, e2, ?_⟩
    omega
  · rintro R hI ⟨s, l, i, e0, e1, e2, h1, h2, h3, h4⟩
    have hout : ∀ (R' : Rho) (l' : List Int) (i' : Int), R'.I = theI → R'.ρ 0 = .str s → R'.ρ 1 = .list (bytesI l') → R'.ρ 2 = .int .i64 i' → LEnc.yes.2.2.map (den R') = [.list (bytesI (l' ++ escI ((strI s).drop i'.toNat)))] := by
      intro R' l' i' hI' f0 f1 f2
      show [den R' (.app 101 [.v 0, .v 1, .v 2])] = _
      rw [d_app, hI']
      simp only [List.map_cons, List.map_nil, den, f0, f1, f2]
      show [FvEsc _] = _
      simp only [FvEsc, intsD, lD, sD, iD, List.getD_cons_zero, List.getD_cons_succ, ints_bytes]
    have hsz : (strI s).length = s.size := len_strI s
    unfold rEnc
    refine round_ask (d_lss (d_v e2) (d_lens (d_v e0))) (fun hlt => ?_) (fun hge => ?_)
    · simp only [decide_eq_true_eq] at hlt
      have hb := d_byte (d_v e0) (d_v e2) h1 hlt
      have hst := esc_step h1 (show i < (strI s).length by omega)
      have hc1 := cat_I R (d_v e1) (row_I R hb)
      have hc2 := cat_I R hc1 (row_I R (x := .ki .u8 (.ofNat 255)) (z := 255) rfl)
      have hi1 := d_add (R := R) (d_v e2) (d_k .i64 1) (by omega) (by omega)
      refine round_knows (l := [_, _]) ?_ ?_
      · intro q hq
        simp only [List.mem_cons, List.not_mem_nil, or_false] at hq
        rcases hq with rfl | rfl
        · rw [d_lss (d_v e2) (d_k .i64 0)]; simp; omega
        · exact len_le R (d_v e1) (by omega)
      have next : ∀ (e : SX) (l' : List Int), den R e = .list (bytesI (l ++ l')) → l'.length ≤ 2 → l' ++ escI ((strI s).drop (i + 1).toNat) = escI ((strI s).drop i.toNat) → goalRound LEnc invEnc muEnc R (.next [.v 0, e, add (.v 2) (k64 1)]) := by
        intro e l' he hl' heq
        have s0 := sub_get R [.v 0, e, add (.v 2) (k64 1)] 0 rfl (d_v e0)
        have s1 := sub_get R [.v 0, e, add (.v 2) (k64 1)] 1 rfl he
        have s2 := sub_get R [.v 0, e, add (.v 2) (k64 1)] 2 rfl hi1
        refine round_next (fun _ => rfl) ⟨s, l ++ l', i + 1, s0, s1, s2, by omega, by omega, h3, by rw [List.length_append]; omega⟩ ?_ ?_
        · simp only [muEnc, s0, s2, e0, e2]
          omega
        · rw [hout R l i hI e0 e1 e2, hout (R.sub [.v 0, e, add (.v 2) (k64 1)]) (l ++ l') (i + 1) hI s0 s1 s2, List.append_assoc, heq]
      refine round_ask (d_eql hb (d_k .u8 0)) (fun hz => ?_) (fun hz => ?_)
      · simp only [decide_eq_true_eq] at hz
        replace hz : (strI s).getD i.toNat 0 = 0 := hz
        refine round_know (len_le R hc1 (by simp; omega)) ?_
        refine next cE2 [(strI s).getD i.toNat 0, 255] ?_ (by simp) ?_
        · rw [hc2]
          simp
        · rw [hst, if_pos hz, hz]
      · simp only [decide_eq_false_iff_not] at hz
        replace hz : ¬ (strI s).getD i.toNat 0 = 0 := hz
        refine next cE1 [(strI s).getD i.toNat 0] hc1 (by simp) ?_
        rw [hst, if_neg hz]
    · simp only [decide_eq_false_iff_not] at hge
      refine round_exit (fun _ => rfl) ?_
      rw [hout R l i hI e0 e1 e2]
      have : (strI s).drop i.toNat = [] := List.drop_eq_nil_of_le (by omega)
      rw [this]
      simp only [List.map_cons, List.map_nil, den, e1]
      simp [escI]
end Go.Proofs.YtjplhjnbcjohoaaGreatDoor
namespace Go.Proofs.YtjplhjnbcjohoaaGreatDoor
open Go Go.AM
/-! ### value.Encode -/
theorem lEnc : LoopsAre theI 47 [(13, LEnc)] := loops1 (by kernel_rfl) loopEnc
noncomputable def eCheck : Ent := eFn 78 [.agg tV] [.one tI] [] 1
theorem eCheck_ok : EntsOK Tryz.prog G theI [eCheck] := ⟨eFn_ok plainG (pre_true fnCheck) (fun _ => rfl) [] (by kernel_rfl), trivial⟩
noncomputable abbrev aCheck (a b c : SX) : SX := .at (.app 1 [a, b, c]) (k64 0) 0
noncomputable abbrev xS : SX := .bin .xor (.conv .u64 (.v 1)) (.ki .u64 (.ofNat 9223372036854775808))
noncomputable abbrev shB (n : Nat) : SX := .row [.conv .u8 (.bin .shr xS (k64 n))]
noncomputable abbrev r0 : SX := .row [.conv .u8 (.v 0)]
noncomputable abbrev tE : SX := .app 101 [.v 2, r0, k64 0]
noncomputable def pEnc : Pln :=
  .ask (eql (aCheck (.v 0) (.v 1) (.v 2)) (k64 0))
    (.ask (eql (.v 0) (k64 2))
      (.done [[.cat r0 (.row [.conv .u8 (.v 1)])], [k64 0]])
      (.ask (eql (.v 0) (k64 3))
        (.done [[.cat r0 (.cat (shB 56) (.cat (shB 48) (.cat (shB 40) (.cat (shB 32) (.cat (shB 24) (.cat (shB 16) (.cat (shB 8) (shB 0))))))))], [k64 0]])
        (.ask (eql (.v 0) (k64 4))
          (knows [(lss (k64 64) (.len (.v 2)), false), (lss (k64 64) (.len r0), false), (lss (k64 1000000) (.len tE), false)]
            (.done [[.cat tE (.cat (.row [.ki .u8 (.ofNat 0)]) (.row [.ki .u8 (.ofNat 0)]))], [k64 0]]))
          (.done [[r0], [k64 0]]))))
    (.done [[.emp], [aCheck (.v 0) (.v 1) (.v 2)]])
theorem kEnc : (hasB 47 && checkPlan [.one tB, .one tI] (runI theI (entS [eCheck]) [(13, LEnc)] [some (5, [tU8]), none] 47 [.agg tV]) [] pEnc) = true := by kernel_rfl
theorem dCheck {R : Rho} (hI : R.I = theI) {a b c : SX} {k n : Int} {s : ByteArray} (ha : den R a = .int .i64 k) (hb : den R b = .int .i64 n) (hc : den R c = .str s) : den R (aCheck a b c) = .int .i64 (if valOK k n s.size then 0 else 150) := by
  refine d_res (F := FvCheck) (by rw [hI]; rfl) ?_
  simp only [List.map_cons, List.map_nil, ha, hb, hc]
  rfl
theorem esc_len (l : List Int) : (escI l).length ≤ 2 * l.length := by
  induction l with
  | nil => simp [escI]
  | cons z l ih =>
    have : (escI (z :: l)).length = (if z = 0 then [0, 255] else [z]).length + (escI l).length := by simp [escI]
    rw [this, List.length_cons]
    split <;> simp <;> omega
theorem fnEnc : FnOK Tryz.prog G 47 [.agg tV] [.one tB, .one tI] (fun _ => True) FvEnc := by
  have hk := kEnc
  rw [Bool.and_eq_true] at hk
  refine fn_run (entS_ok eCheck_ok) [(13, LEnc)] _ lEnc hk.1 pEnc hk.2 ?_
  intro ds h _
  obtain ⟨k, n, s, rfl, n1, n2⟩ := agg_v h
  have hF : FvEnc [[.int .i64 k, .int .i64 n, .str s]].flatten = if valOK k n s.size then [[.list (bytesI (encV k n s))], [.int .i64 0]] else [[.list []], [.int .i64 150]] := rfl
  generalize hR : rhoOf theI [[.int .i64 k, .int .i64 n, .str s]].flatten = R
  have hI : R.I = theI := by rw [← hR]; rfl
  have q0 : R.ρ 0 = .int .i64 k := by rw [← hR]; rfl
  have q1 : R.ρ 1 = .int .i64 n := by rw [← hR]; rfl
  have q2 : R.ρ 2 = .str s := by rw [← hR]; rfl
  have hc := dCheck hI (d_v q0) (d_v q1) (d_v q2)
  have hr0 := row_I R (d_u8 (d_v q0))
  have fin : ∀ e : SX, valOK k n s.size = true → den R e = .list (bytesI (encV k n s)) → goalPlan R (FvEnc [[.int .i64 k, .int .i64 n, .str s]].flatten) (.done [[e], [k64 0]]) := by
    intro e h1 h2
    show FvEnc _ = _
    rw [hF, h1]
    simp only [if_true, List.map_cons, List.map_nil, h2]
    rfl
  unfold pEnc
  refine goal_ask (d_eql hc (d_k .i64 0)) (fun hv => ?_) (fun hv => ?_)
  · have hv : valOK k n s.size = true := by
      cases h : valOK k n s.size with
      | true => rfl
      | false => rw [h] at hv; simp at hv
    refine goal_ask (d_eql (d_v q0) (d_k .i64 2)) (fun h2 => ?_) (fun h2 => ?_)
    · simp only [decide_eq_true_eq] at h2
      replace h2 : k = 2 := h2
      refine fin _ hv ?_
      have hn : n = 0 ∨ n = 1 := by
        simp [valOK] at hv
        omega
      rw [cat_I R hr0 (row_I R (d_u8 (d_v q1))), h2]
      rcases hn with rfl | rfl <;> rfl
    simp only [decide_eq_false_iff_not] at h2
    replace h2 : ¬ k = 2 := h2
    refine goal_ask (d_eql (d_v q0) (d_k .i64 3)) (fun h3 => ?_) (fun h3 => ?_)
    · simp only [decide_eq_true_eq] at h3
      replace h3 : k = 3 := h3
      refine fin _ hv ?_
      have hx := d_xor63 (R := R) (x := .v 1) (d_v q1) n1 n2
      have sh : ∀ j : Nat, j ≤ 64 → den R (shB j) = .list (bytesI [(n + 9223372036854775808) / 2 ^ j % 256]) := fun j hj => row_I R (shr_I R hx (by omega) j hj)
      rw [cat_I R hr0 (cat_I R (sh 56 (by omega)) (cat_I R (sh 48 (by omega)) (cat_I R (sh 40 (by omega)) (cat_I R (sh 32 (by omega)) (cat_I R (sh 24 (by omega)) (cat_I R (sh 16 (by omega)) (cat_I R (sh 8 (by omega)) (sh 0 (by omega)))))))))]
      rw [h3]
      simp [encV, be8]
    simp only [decide_eq_false_iff_not] at h3
    replace h3 : ¬ k = 3 := h3
    refine goal_ask (d_eql (d_v q0) (d_k .i64 4)) (fun h4 => ?_) (fun h4 => ?_)
    · simp only [decide_eq_true_eq] at h4
      replace h4 : k = 4 := h4
      have hs : s.size ≤ 64 := by
        simp [valOK, h4] at hv
        omega
      have ht : den R tE = .list (bytesI ([k % 256] ++ escI (strI s))) := by
        show den R (.app 101 _) = _
        rw [d_app, hI]
        simp only [List.map_cons, List.map_nil, hr0, d_v q2, d_k]
        show FvEsc _ = _
        simp only [FvEsc, intsD, lD, sD, iD, List.getD_cons_zero, List.getD_cons_succ, ints_bytes]
        rfl
      have hl := esc_len (strI s)
      rw [len_strI] at hl
      refine goal_knows ?_ (fin _ hv ?_)
      · intro q hq
        simp only [List.mem_cons, List.not_mem_nil, or_false] at hq
        rcases hq with rfl | rfl | rfl
        · rw [d_lss (d_k .i64 64) (d_lens (d_v q2))]; simp; omega
        · rw [d_lss (d_k .i64 64) (d_lenI hr0)]; simp
        · exact len_le R ht (by simp; omega)
      · rw [cat_I R ht (cat_I R (row_I R (x := .ki .u8 (.ofNat 0)) (z := 0) rfl) (row_I R (x := .ki .u8 (.ofNat 0)) (z := 0) rfl)), h4]
        simp [encV]
    · simp only [decide_eq_false_iff_not] at h4
      replace h4 : ¬ k = 4 := h4
      refine fin _ hv ?_
      have h1 : k = 1 := by
        simp [valOK] at hv
        omega
      rw [hr0, h1]
      rfl
  · have hv : valOK k n s.size = false := by
      cases h : valOK k n s.size with
      | false => rfl
      | true => rw [h] at hv; simp at hv
    show FvEnc _ = _
    rw [hF, hv]
    simp only [List.map_cons, List.map_nil, hc, hv]
    rfl
end Go.Proofs.YtjplhjnbcjohoaaGreatDoor
namespace Go.Proofs.YtjplhjnbcjohoaaGreatDoor
open Go Go.AM
/-! ### plain steps -/
theorem flat_step {α β : Type} {l : List α} {f : α → List β} {i : Nat} (h : i < l.length) : (l.drop i).flatMap f = f l[i] ++ (l.drop (i + 1)).flatMap f := by
  rw [List.drop_eq_getElem_cons h, List.flatMap_cons]
theorem all_step {α : Type} {l : List α} {f : α → Bool} {i : Nat} (h : i < l.length) : (l.drop i).all f = (f l[i] && (l.drop (i + 1)).all f) := by
  rw [List.drop_eq_getElem_cons h, List.all_cons]
theorem esc_len' (l : List Int) : (escI l).length ≤ 2 * l.length := by
  induction l with
  | nil => simp [escI]
  | cons z l ih =>
    have : (escI (z :: l)).length = (if z = 0 then [0, 255] else [z]).length + (escI l).length := by simp [escI]
    rw [this, List.length_cons]
    split <;> simp <;> omega
theorem encV_len {k n : Int} {s : ByteArray} (h : valOK k n s.size = true) : (encV k n s).length ≤ 131 := by
  unfold encV
  split
  · simp
  split
  · simp
  split
  · simp [be8]
  · have h2 : s.size ≤ 64 := by
      simp [valOK] at h
      omega
    have := esc_len' (strI s)
    rw [len_strI] at this
    simp
    omega
theorem mayEnc_len (v : List DV) : (mayEnc v).length ≤ 131 := by
  unfold mayEnc
  split
  · rename_i h
    exact encV_len h
  · simp
theorem flat_len {l : List (List DV)} : (l.flatMap mayEnc).length ≤ 131 * l.length := by
  induction l with
  | nil => simp
  | cons v l ih =>
    have := mayEnc_len v
    rw [List.flatMap_cons, List.length_append, List.length_cons]
    omega
theorem rowB_len (l : List (List DV)) : (rowB l).length ≤ 1573 := by
  unfold rowB
  split
  · simp
  · have := flat_len (l := l)
    rw [List.length_cons]
    omega
theorem rowsB_len (l : List (List DV)) : (rowsB l).length ≤ 1573 * l.length := by
  induction l with
  | nil => simp [rowsB]
  | cons v l ih =>
    have := rowB_len (lD v 0)
    have e : rowsB (v :: l) = rowB (lD v 0) ++ rowsB l := by simp [rowsB]
    rw [e, List.length_append, List.length_cons]
    omega
theorem saidB_len (e a c : Int) (l : List (List DV)) : (saidB e a c l).length ≤ 7 + 1573 * l.length := by
  have := rowsB_len l
  simp [saidB, be2]
  omega
section
variable {R : Rho}
theorem or_n (y c : Nat) (hc : c < 256) (hy : y < 72057594037927936) : bitsD .or .u64 ((y * 256 : Nat) : Int) (c : Int) = ((y * 256 + c : Nat) : Int) := by
  show IntKind.u64.wrap ((BitVec.ofInt 64 ((y * 256 : Nat) : Int) ||| BitVec.ofInt 64 (c : Int)).toNat : Int) = _
  rw [wrap_u64]
  have e1 : (BitVec.ofInt 64 ((y * 256 : Nat) : Int)).toNat = y * 256 := by
    rw [BitVec.ofInt_natCast, BitVec.toNat_ofNat]
    omega
  have e2 : (BitVec.ofInt 64 (c : Int)).toNat = c := by
    rw [BitVec.ofInt_natCast, BitVec.toNat_ofNat]
    omega
  rw [BitVec.toNat_or, e1, e2]
  have e3 : y * 256 ||| c = y * 256 + c := by
    have := Nat.two_pow_add_eq_or_of_lt (i := 8) (b := c) (by omega) y
    rw [Nat.mul_comm y 256]
    exact this.symm
  rw [e3]
  omega
theorem d_c64 {x : SX} {z : Int} (hx : den R x = .int .u8 z) (h : 0 ≤ z ∧ z ≤ 255) : den R (.conv .u64 x) = .int .u64 z := by
  simp only [den, hx, convD, wrap_u64]
  congr 1
  omega
theorem d_ci {x : SX} {z : Int} {k : IntKind} (hx : den R x = .int k z) (h : 0 ≤ z ∧ z ≤ 18446744073709551615 ∧ z ≤ 9223372036854775807) : den R (.conv .i64 x) = .int .i64 z := by
  simp only [den, hx, convD]
  rw [wrap_i64 (by omega) (by omega)]
theorem d_c8 {x : SX} {z : Int} {k : IntKind} (hx : den R x = .int k z) (h : 0 ≤ z ∧ z ≤ 255) : den R (.conv .u8 x) = .int .u8 z := by
  simp only [den, hx, convD, wrap_u8]
  congr 1
  omega
theorem d_c16 {x : SX} {z : Int} {k : IntKind} (hx : den R x = .int k z) (h : 0 ≤ z ∧ z ≤ 65535) : den R (.conv .u16 x) = .int .u16 z := by
  simp only [den, hx, convD, wrap_u16]
  congr 1
  omega
/-- A byte behind a number: as the reader puts it there. -/
theorem d_or8 {x y : SX} {s z : Int} (hx : den R x = .int .u64 s) (hy : den R y = .int .u8 z) (h0 : 0 ≤ s) (h1 : s ≤ 72057594037927935) (hz : 0 ≤ z ∧ z ≤ 255) :
    den R (.bin .or (.bin .shl x (.ki .u64 (.ofNat 8))) (.conv .u64 y)) = .int .u64 (s * 256 + z) := by
  have hs : den R (.bin .shl x (.ki .u64 (.ofNat 8))) = .int .u64 (s * 256) := by
    simp only [den, hx, binD, wrap_u64]
    congr 1
    show s * 2 ^ min 8 64 % _ = _
    have : (2 : Int) ^ min 8 64 = 256 := by decide
    rw [this]
    omega
  have hc := d_c64 hy hz
  have e1 : s = (s.toNat : Int) := by omega
  have e2 : z = (z.toNat : Int) := by omega
  simp only [den] at hs hc ⊢
  rw [hs, hc]
  simp only [binD]
  have := or_n s.toNat z.toNat (by omega) (by omega)
  rw [Int.natCast_add, Int.natCast_mul, ← e1, ← e2] at this
  congr 1
theorem d_or0 {y : SX} {z : Int} (hy : den R y = .int .u8 z) (hz : 0 ≤ z ∧ z ≤ 255) : den R (.bin .or (.ki .u64 (.ofNat 0)) (.conv .u64 y)) = .int .u64 z := by
  have hc := d_c64 hy hz
  have e2 : z = (z.toNat : Int) := by omega
  simp only [den] at hc ⊢
  rw [hc]
  simp only [binD]
  have := or_n 0 z.toNat (by omega) (by omega)
  simp only [Nat.zero_mul, Nat.zero_add] at this
  rw [← e2] at this
  congr 1
/-- A byte behind a number: as the document puts it there. -/
theorem d_mul8 {x y : SX} {s z : Int} (hx : den R x = .int .u64 s) (hy : den R y = .int .u8 z) (h0 : 0 ≤ s) (h1 : s ≤ 72057594037927935) (hz : 0 ≤ z ∧ z ≤ 255) :
    den R (.bin .add (.bin .mul (.ki .u64 (.ofNat 256)) x) (.conv .u64 y)) = .int .u64 (s * 256 + z) := by
  have hc := d_c64 hy hz
  simp only [den] at hc ⊢
  rw [hc, hx]
  simp only [binD, wrap_u64]
  congr 1
  show (Int.ofNat 256 * s % _ + z) % _ = _
  have : Int.ofNat 256 = 256 := rfl
  rw [this]
  omega
theorem d_mul0 {y : SX} {z : Int} (hy : den R y = .int .u8 z) (hz : 0 ≤ z ∧ z ≤ 255) : den R (.bin .add (.ki .u64 (.ofNat 0)) (.conv .u64 y)) = .int .u64 z := by
  have hc := d_c64 hy hz
  simp only [den] at hc ⊢
  rw [hc]
  simp only [binD, wrap_u64]
  congr 1
  show (Int.ofNat 0 + z) % _ = _
  have : Int.ofNat 0 = 0 := rfl
  rw [this]
  omega
theorem xor_u (n : Nat) (h : n < 2 ^ 64) : bitsD .xor .u64 (n : Int) ((2 ^ 63 : Nat) : Int) = if n < 2 ^ 63 then ((2 ^ 63 + n : Nat) : Int) else ((n - 2 ^ 63 : Nat) : Int) := by
  show IntKind.u64.wrap ((BitVec.ofInt 64 (n : Int) ^^^ BitVec.ofInt 64 ((2 ^ 63 : Nat) : Int)).toNat : Int) = _
  rw [wrap_u64]
  have e1 : (BitVec.ofInt 64 (n : Int)).toNat = n := by
    rw [BitVec.ofInt_natCast, BitVec.toNat_ofNat]
    omega
  have e2 : (BitVec.ofInt 64 ((2 ^ 63 : Nat) : Int)).toNat = 2 ^ 63 := by
    rw [BitVec.ofInt_natCast, BitVec.toNat_ofNat]
  rw [BitVec.toNat_xor, e1, e2]
  split
  · rename_i h1
    rw [xor63 h1]
    omega
  · rename_i h1
    have := xor63' (b := n - 2 ^ 63) (by omega)
    rw [show 2 ^ 63 + (n - 2 ^ 63) = n by omega] at this
    rw [this]
    omega
/-- A number out of its bits, as the program makes it. -/
theorem d_unsign {x : SX} {s : Int} (hx : den R x = .int .u64 s) (h0 : 0 ≤ s) (h1 : s ≤ 18446744073709551615) :
    den R (.conv .i64 (.bin .xor x (.ki .u64 (.ofNat 9223372036854775808)))) = .int .i64 (s - 9223372036854775808) := by
  have e1 : s = (s.toNat : Int) := by omega
  simp only [den, hx, binD]
  have := xor_u s.toNat (by omega)
  rw [← e1] at this
  have e3 : bitsD .xor .u64 s (Int.ofNat 9223372036854775808) = if s.toNat < 2 ^ 63 then ((2 ^ 63 + s.toNat : Nat) : Int) else ((s.toNat - 2 ^ 63 : Nat) : Int) := this
  rw [e3]
  simp only [convD, wrap_i64']
  congr 1
  split <;> split <;> omega
/-- ... and as the document does. -/
theorem d_unsign' {x : SX} {s : Int} (hx : den R x = .int .u64 s) (h0 : 0 ≤ s) (h1 : s ≤ 18446744073709551615) :
    den R (.conv .i64 (.bin .add x (.ki .u64 (.ofNat 9223372036854775808)))) = .int .i64 (s - 9223372036854775808) := by
  simp only [den, hx, binD, wrap_u64, convD, wrap_i64']
  congr 1
  have : Int.ofNat 9223372036854775808 = 9223372036854775808 := rfl
  rw [this]
  split <;> omega
end
end Go.Proofs.YtjplhjnbcjohoaaGreatDoor
