/-
  A part of the proof of QueryValues (the machine on named data, and the contracts of the functions that the law reaches): AmSX AmDefs AmSound.
-/
import Derived.Calls
import GoSem.Claims
import Derived.Laws.AppendOwn
import GoSem.ClaimKeys
set_option linter.all false
set_option linter.unusedVariables false
set_option linter.unusedSimpArgs false
set_option linter.unusedSectionVars false
/-
  SX: names for data that is not known: what an abstract value of the machine may be called, where it is not a known value. DV: data, as it is read out of memory that nobody writes. den: what a name stands for.
-/
namespace Go.AM
open Go

inductive DV where
  | int (k : IntKind) (z : Int)
  | bool (b : Bool)
  | str (s : ByteArray)
  | list (es : List (List DV))

inductive Ty where
  | int (k : IntKind)
  | bool
  | str
  | slice (cs : List Ty)

inductive SX where
  | v (i : Nat)
  | ki (k : IntKind) (z : Int)
  | kb (b : Bool)
  | ks (s : ByteArray)
  | emp
  | len (e : SX)
  | at (e i : SX) (c : Nat)
  | byte (e i : SX)
  | bin (op : BinOp) (x y : SX)
  | conv (k : IntKind) (x : SX)
  | not (x : SX)
  | cut (e lo hi : SX)
  | cat (x y : SX)
  | bytes (e : SX)
  | text (e : SX)
  | all (es : List SX)
  | app (f : Nat) (es : List SX)
  | row (es : List SX)                                -- a list of one row

/-- What variables and functions stand for. -/
structure Rho where
  ρ : Nat → DV
  I : Nat → List DV → DV

noncomputable def bitsD (op : BinOp) (k : IntKind) (x y : Int) : Int :=
  match op with
  | .and => k.wrap (BitVec.ofInt k.bits x &&& BitVec.ofInt k.bits y).toNat
  | .or => k.wrap (BitVec.ofInt k.bits x ||| BitVec.ofInt k.bits y).toNat
  | .xor => k.wrap (BitVec.ofInt k.bits x ^^^ BitVec.ofInt k.bits y).toNat
  | _ => k.wrap (BitVec.ofInt k.bits x &&& ~~~BitVec.ofInt k.bits y).toNat

open Classical in
/-- A row of one list stands among those of another one. -/
noncomputable def memD : List (List DV) → List (List DV) → Bool
  | [r], fs => decide (r ∈ fs)
  | _, _ => false
noncomputable def binD (op : BinOp) (a b : DV) : DV :=
  match a, b with
  | .int k x, .int l y => match op with
    | .lss => .bool (decide (x < y))
    | .eql => .bool (decide (k = l) && decide (x = y))
    | .add => .int k (k.wrap (x + y))
    | .sub => .int k (k.wrap (x - y))
    | .mul => .int k (k.wrap (x * y))
    | .shr => .int k (x.fdiv (2 ^ min y.toNat k.bits))
    | .shl => .int k (k.wrap (x * 2 ^ min y.toNat k.bits))
    | .quo => .int k (k.wrap (x.tdiv y))
    | .rem => .int k (x.tmod y)
    | op => .int k (bitsD op k x y)
  | .bool x, .bool y => .bool (x == y)
  | .str x, .str y => match op with
    | .eql => .bool (decide (x = y))
    | _ => .bool (Op.bytesLess x.toList y.toList)
  | .list x, .list y => .bool (memD x y)
  | _, _ => .bool false

noncomputable def lenD : DV → DV
  | .str s => .int .i64 s.size
  | .list es => .int .i64 es.length
  | _ => .bool false
noncomputable def atD (e i : DV) (c : Nat) : DV :=
  match e, i with
  | .list es, .int _ z => (es.getD z.toNat []).getD c (.bool false)
  | _, _ => .bool false
noncomputable def byteD (e i : DV) : DV :=
  match e, i with
  | .str s, .int _ z => .int .u8 (s.data.toList.getD z.toNat 0).toNat
  | _, _ => .bool false
noncomputable def convD (k : IntKind) : DV → DV
  | .int _ z => .int k (k.wrap z)
  | _ => .bool false
noncomputable def notD : DV → DV
  | .bool b => .bool (!b)
  | _ => .bool false
noncomputable def cutD (e lo hi : DV) : DV :=
  match e, lo, hi with
  | .str s, .int _ a, .int _ b => .str (s.extract a.toNat b.toNat)
  | .list es, .int _ a, .int _ b => .list ((es.take b.toNat).drop a.toNat)
  | _, _, _ => .bool false
noncomputable def catD (x y : DV) : DV :=
  match x, y with
  | .str s, .str t => .str (s ++ t)
  | .list es, .list fs => .list (es ++ fs)
  | _, _ => .bool false
noncomputable def bytesD : DV → DV
  | .str s => .list (s.data.toList.map fun b => [.int .u8 b.toNat])
  | .int _ z => .list (List.replicate z.toNat [.int .u8 0])           -- so many zeros
  | _ => .bool false
noncomputable def byteOf : List DV → UInt8
  | [.int _ z] => UInt8.ofNat z.toNat
  | _ => 0
noncomputable def textD : DV → DV
  | .list es => .str ⟨(es.map byteOf).toArray⟩
  | _ => .bool false
def isT : DV → Bool
  | .bool b => b
  | _ => false

noncomputable def den (R : Rho) : SX → DV
  | .v i => R.ρ i
  | .ki k z => .int k z
  | .kb b => .bool b
  | .ks s => .str s
  | .emp => .list []
  | .len e => lenD (den R e)
  | .at e i c => atD (den R e) (den R i) c
  | .byte e i => byteD (den R e) (den R i)
  | .bin op x y => binD op (den R x) (den R y)
  | .conv k x => convD k (den R x)
  | .not x => notD (den R x)
  | .cut e lo hi => cutD (den R e) (den R lo) (den R hi)
  | .cat x y => catD (den R x) (den R y)
  | .bytes e => bytesD (den R e)
  | .text e => textD (den R e)
  | .all es => .bool (denAll es)
  | .app f es => R.I f (denL es)
  | .row es => .list [denL es]
where
  denAll : List SX → Bool
    | [] => true
    | e :: es => isT (den R e) && denAll es
  denL : List SX → List DV
    | [] => []
    | e :: es => den R e :: denL es

/-! ### Names that are one -/
noncomputable def eqK : IntKind → IntKind → Bool := fun a b => decide (a = b)
noncomputable def eqI : Int → Int → Bool
  | .ofNat a, .ofNat b => Nat.beq a b
  | .negSucc a, .negSucc b => Nat.beq a b
  | _, _ => false
noncomputable def opN : BinOp → Nat
  | .add => 0 | .sub => 1 | .mul => 2 | .and => 3 | .or => 4 | .xor => 5 | .andNot => 6 | .eql => 7 | .lss => 8 | .shr => 9 | .shl => 10 | .quo => 11 | .rem => 12 | _ => 13
noncomputable def eqO (a b : BinOp) : Bool := Nat.beq (opN a) (opN b) && Nat.blt (opN a) 13

noncomputable def eqN : List UInt8 → List UInt8 → Bool
  | [], [] => true
  | a :: as, b :: bs => Nat.beq a.toNat b.toNat && eqN as bs
  | _, _ => false

noncomputable def eqSX : SX → SX → Bool
  | .v i, .v j => Nat.beq i j
  | .ki k z, .ki l y => eqK k l && eqI z y
  | .kb a, .kb b => a == b
  | .ks s, .ks t => eqN s.data.toList t.data.toList
  | .emp, .emp => true
  | .len e, .len f => eqSX e f
  | .at e i c, .at f j d => Nat.beq c d && eqSX i j && eqSX e f
  | .byte e i, .byte f j => eqSX i j && eqSX e f
  | .bin o x y, .bin p z u => eqO o p && eqSX x z && eqSX y u
  | .conv k x, .conv l y => eqK k l && eqSX x y
  | .not x, .not y => eqSX x y
  | .cut e a b, .cut f c d => eqSX a c && eqSX b d && eqSX e f
  | .cat x y, .cat z u => eqSX x z && eqSX y u
  | .bytes x, .bytes y => eqSX x y
  | .text x, .text y => eqSX x y
  | .all es, .all fs => eqSXs es fs
  | .app f es, .app g fs => Nat.beq f g && eqSXs es fs
  | .row es, .row fs => eqSXs es fs
  | _, _ => false
where
  eqSXs : List SX → List SX → Bool
    | [], [] => true
    | x :: xs, y :: ys => eqSX x y && eqSXs xs ys
    | _, _ => false

noncomputable def eqTy : Ty → Ty → Bool
  | .int k, .int l => eqK k l
  | .bool, .bool => true
  | .str, .str => true
  | .slice cs, .slice ds => eqTys cs ds
  | _, _ => false
where
  eqTys : List Ty → List Ty → Bool
    | [], [] => true
    | x :: xs, y :: ys => eqTy x y && eqTys xs ys
    | _, _ => false

theorem eqK_eq {a b : IntKind} (h : eqK a b = true) : a = b := by simpa [eqK] using h
theorem eqI_eq {a b : Int} (h : eqI a b = true) : a = b := by
  cases a <;> cases b <;> simp [eqI] at h <;> simp [h]
theorem eqO_eq {a b : BinOp} (h : eqO a b = true) : a = b := by
  cases a <;> cases b <;> first | rfl | (simp [eqO, opN] at h; try exact absurd h (by decide))
theorem eqN_eq : ∀ {a b : List UInt8}, eqN a b = true → a = b
  | [], [], _ => rfl
  | a :: as, b :: bs, h => by
    simp only [eqN, Bool.and_eq_true, Nat.beq_eq] at h
    rw [eqN_eq h.2, UInt8.toNat_inj.1 h.1]
  | [], _ :: _, h => by simp [eqN] at h
  | _ :: _, [], h => by simp [eqN] at h
theorem bytes_ext {s t : ByteArray} (h : s.data.toList = t.data.toList) : s = t := by
  cases s; cases t
  simp only at h
  congr 1
  exact Array.toList_inj.1 h

mutual
theorem eqSX_eq : ∀ {a b : SX}, eqSX a b = true → a = b := by
  intro a b h
  unfold eqSX at h
  split at h <;> (try (cases h; done)) <;> (try simp only [Bool.and_eq_true, Nat.beq_eq] at h)
  · rw [h]
  · rw [eqK_eq h.1, eqI_eq h.2]
  · rw [eq_of_beq h]
  · rw [bytes_ext (eqN_eq h)]
  · rfl
  · rw [eqSX_eq h]
  · rw [h.1.1, eqSX_eq h.1.2, eqSX_eq h.2]
  · rw [eqSX_eq h.1, eqSX_eq h.2]
  · rw [eqO_eq h.1.1, eqSX_eq h.1.2, eqSX_eq h.2]
  · rw [eqK_eq h.1, eqSX_eq h.2]
  · rw [eqSX_eq h]
  · rw [eqSX_eq h.1.1, eqSX_eq h.1.2, eqSX_eq h.2]
  · rw [eqSX_eq h.1, eqSX_eq h.2]
  · rw [eqSX_eq h]
  · rw [eqSX_eq h]
  · rw [eqSXs_eq h]
  · rw [h.1, eqSXs_eq h.2]
  · rw [eqSXs_eq h]
theorem eqSXs_eq : ∀ {a b : List SX}, eqSX.eqSXs a b = true → a = b := by
  intro a b h
  cases a with
  | nil => cases b with
    | nil => rfl
    | cons y ys => simp [eqSX.eqSXs] at h
  | cons x xs => cases b with
    | nil => simp [eqSX.eqSXs] at h
    | cons y ys =>
      simp only [eqSX.eqSXs, Bool.and_eq_true] at h
      rw [eqSX_eq h.1, eqSXs_eq h.2]
end
mutual
theorem eqTy_eq : ∀ {a b : Ty}, eqTy a b = true → a = b := by
  intro a b h
  unfold eqTy at h
  split at h <;> (try (cases h; done))
  · rw [eqK_eq h]
  · rfl
  · rfl
  · rw [eqTys_eq h]
theorem eqTys_eq : ∀ {a b : List Ty}, eqTy.eqTys a b = true → a = b := by
  intro a b h
  cases a with
  | nil => cases b with
    | nil => rfl
    | cons y ys => simp [eqTy.eqTys] at h
  | cons x xs => cases b with
    | nil => simp [eqTy.eqTys] at h
    | cons y ys =>
      simp only [eqTy.eqTys, Bool.and_eq_true] at h
      rw [eqTy_eq h.1, eqTys_eq h.2]
end

/-! ### What is known -/
/-- Facts on truth values. -/
class Orc where
  orc : SX → Option Bool
  I : Nat → List DV → DV

noncomputable def lookF (e : SX) : List (SX × Bool) → Option Bool
  | [] => none
  | (f, b) :: l => match eqSX e f with
    | true => some b
    | false => lookF e l

noncomputable def ltI : Int → Int → Bool
  | .ofNat a, .ofNat b => Nat.blt a b
  | .negSucc a, .negSucc b => Nat.blt b a
  | .negSucc _, .ofNat _ => true
  | .ofNat _, .negSucc _ => false

noncomputable def look [O : Orc] : SX → Option Bool
  | .kb b => some b
  | .bin .lss (.ki _ a) (.ki _ b) => some (ltI a b)
  | .bin .eql (.ki k a) (.ki l b) => some (eqK k l && eqI a b)
  | .bin .lss (.len _) (.ki _ (.ofNat 0)) => some false
  | .not x => match look x with
    | some b => some (Bool.not b)
    | none => none
  | e => O.orc e

def FactsOK [O : Orc] (R : Rho) : Prop := R.I = O.I ∧ ∀ e b, O.orc e = some b → den R e = .bool b

theorem lookF_mem {e : SX} {b : Bool} : ∀ {l : List (SX × Bool)}, lookF e l = some b → (e, b) ∈ l
  | [], h => by simp [lookF] at h
  | (f, c) :: l, h => by
    rw [lookF] at h
    split at h
    · rename_i heq
      cases h
      rw [eqSX_eq heq]
      simp
    · exact List.mem_cons_of_mem _ (lookF_mem h)

/-- Facts, by a list. -/
noncomputable abbrev mkO (l : List (SX × Bool)) (I : Nat → List DV → DV) : Orc := ⟨fun e => lookF e l, I⟩
theorem mkO_ok {l : List (SX × Bool)} {R : Rho} {I : Nat → List DV → DV} (hI : R.I = I) (h : ∀ p ∈ l, den R p.1 = .bool p.2) : @FactsOK (mkO l I) R := ⟨hI, fun e b hb => h _ (lookF_mem hb)⟩

theorem ltI_eq (a b : Int) : ltI a b = decide (a < b) := by
  rw [Bool.eq_iff_iff, decide_eq_true_eq]
  cases a with
  | ofNat a => cases b with
    | ofNat b =>
      simp only [ltI, Nat.blt, Nat.ble_eq, Int.ofNat_eq_natCast]
      omega
    | negSucc b =>
      simp only [ltI, Int.negSucc_eq, Int.ofNat_eq_natCast]
      constructor
      · intro h; cases h
      · intro h; omega
  | negSucc a => cases b with
    | ofNat b =>
      simp only [ltI, Int.negSucc_eq, Int.ofNat_eq_natCast, true_iff]
      omega
    | negSucc b =>
      simp only [ltI, Nat.blt, Nat.ble_eq, Int.negSucc_eq]
      omega
theorem eqI_dec (a b : Int) : eqI a b = decide (a = b) := by
  rw [Bool.eq_iff_iff, decide_eq_true_eq]
  constructor
  · exact eqI_eq
  · rintro rfl
    cases a <;> simp [eqI]

theorem look_den [O : Orc] {R : Rho} (hF : FactsOK R) : ∀ {e : SX} {b : Bool}, look e = some b → den R e = .bool b := by
  intro e
  induction e using SX.rec (motive_2 := fun _ => True) with
  | kb c => intro b h; simp only [look, Option.some.injEq] at h; rw [h]; rfl
  | not x ih =>
    intro b h
    simp only [look] at h
    split at h
    · rename_i c hc
      simp only [Option.some.injEq] at h
      rw [den, ih hc, ← h]
      rfl
    · cases h
  | nil => trivial
  | cons => trivial
  | bin op x y ihx ihy =>
    intro b h
    unfold look at h
    split at h
    · rename_i heq; cases heq
    · rename_i k u l v heq
      cases heq
      cases h
      simp only [den, binD, ltI_eq]
    · rename_i k u l v heq
      cases heq
      cases h
      simp only [den, binD, eqI_dec]
      rfl
    · rename_i e k heq
      cases heq
      cases h
      simp only [den, lenD]
      split <;> simp [binD]
    · rename_i heq; cases heq
    · exact hF.2 _ _ h
  | _ =>
    intro b h
    exact hF.2 _ _ (by simpa only [look] using h)
end Go.AM
/-
  AM: an abstract machine over the model's own code. It runs functions on abstract values: exact values, pointers and slices into blocks that the run itself has made, and frozen (read-only) rows given by their content. Capacities of grown slices are left open. Definitions alone; AmSound.lean shows what a run of it says of the model.
-/
set_option linter.unusedVariables false
namespace Go.AM
open Go

/-- A binary trie from numbers. -/
inductive Tr (α : Type) where
  | nil
  | node (v : Option α) (l r : Tr α)

noncomputable def Tr.get {α : Type} (t : Tr α) : Nat → Option α :=
  @Tr.rec α (fun _ => Nat → Option α) (fun _ => none)
    (fun v _ _ gl gr i => cond (Nat.beq i 0) v (cond (Nat.beq (Nat.land i 1) 1) (gl (Nat.div i 2)) (gr (Nat.sub (Nat.div i 2) 1)))) t

noncomputable def Tr.one {α : Type} (v : Option α) (f : Nat) : Nat → Tr α :=
  @Nat.rec (fun _ => Nat → Tr α) (fun _ => .nil)
    (fun _ ih i => cond (Nat.beq i 0) (.node v .nil .nil) (cond (Nat.beq (Nat.land i 1) 1) (.node none (ih (Nat.div i 2)) .nil) (.node none .nil (ih (Nat.sub (Nat.div i 2) 1))))) f

noncomputable def Tr.set {α : Type} (v : Option α) (f : Nat) (t : Tr α) : Nat → Tr α :=
  @Tr.rec α (fun _ => Nat → Tr α) (fun i => Tr.one v f i)
    (fun u l r sl sr i => cond (Nat.beq i 0) (.node v l r) (cond (Nat.beq (Nat.land i 1) 1) (.node u (sl (Nat.div i 2)) r) (.node u l (sr (Nat.sub (Nat.div i 2) 1))))) t

/-- Abstract values. -/
inductive AV where
  | sc (v : Value)                                   -- exactly this value
  | agg (cs : List AV)                               -- a struct or an array, its cells
  | tup (vs : List AV)
  | ifc (t : TypeId) (v : AV)
  | clo (fn : Fn) (first captured : List AV)
  | ptr (id off : Nat)                               -- into block id
  | sl (id off len : Nat) (cap : Option Nat)         -- a slice of block id, from cell off; cap: exact, or open
  | emp (k : Nat)                                    -- an empty slice: 0: nil or of capacity 0; else: any
  | fp (cells : List AV)                             -- a pointer to frozen cells
  | fsl (sz : Nat) (exact : Bool) (elems : List (List AV))   -- a frozen slice; exact: its capacity is its length
  | sy (t : Ty) (e : SX)                              -- data that goes by a name
  | dead                                             -- anything
  | hnd (k id : Nat)                                 -- a handle of block id: k = 0 a map; else a range's yield
  | own (id : Nat) (ts : List Ty) (e : SX)             -- a slice that grows: the whole of row id, its content by name
  | oe (id : Nat) (ts : List Ty) (e i : SX) (c : Nat)  -- a pointer to cell c of element i of such a row
  deriving Inhabited

inductive Ex where
  | normal
  | exit (id : Nat)
  | ret
  | goto (l : Nat)

/-- What a range over a function keeps besides its temporaries. -/
structure LpX where
  st : Nat
  pend : Ex
  ps : Array Tmp
  asg : Code
  body : Code

structure Blk where
  t : TypeId
  row : Bool
  sz : Nat        -- of a row: cells of an element
  n : Nat         -- cells that are known
  z : List AV     -- what stands in cell i where c holds nothing: z[i % z.length]
  c : Tr AV
  lp : Option LpX := none   -- in templates: the temporaries of a range over a function

inductive AObj where
  | blk (b : Blk)
  | iter (s : ByteArray) (pos : Nat)
  | map (es : List (ByteArray × Value))               -- a map by strings
  | box (opened : Bool)                               -- the block for what rounds defer: open and empty, or taken
  | grow (t : TypeId) (ts : List Ty) (e : SX)         -- a row of the run's own that holds the data e
  | loop (st : Nat) (pend : Ex) (tm : Tr AV) (n : Nat) (ps : Array Tmp) (asg body : Code)   -- a range over a function; st: 0 ready, 1 busy, 2 done, else exhausted

/-- next: the name of the next block; lim: the name of the one after it, and from there on. -/
structure AHeap where
  next : Nat
  lim : Nat
  t : Tr AObj

noncomputable def Tr.put {α : Type} (t : Tr α) (i : Nat) (v : α) : Tr α := Tr.set (some v) (Nat.succ i) t i
noncomputable def Tr.cut {α : Type} (t : Tr α) (i : Nat) : Tr α := Tr.set none (Nat.succ i) t i

noncomputable def Blk.cell (b : Blk) (i : Nat) : AV :=
  match b.c.get i with
  | some v => v
  | none => b.z.getD (i % b.z.length) .dead

noncomputable def Blk.cellsFrom (b : Blk) (off n : Nat) : List AV :=
  @Nat.rec (fun _ => Nat → List AV) (fun _ => []) (fun _ ih off => b.cell off :: ih (Nat.succ off)) n off

noncomputable def Blk.putAll (c : Tr AV) (off : Nat) (vs : List AV) : Tr AV :=
  @List.rec AV (fun _ => Tr AV → Nat → Tr AV) (fun c _ => c) (fun v _ ih c off => ih (c.put off v) (Nat.succ off)) vs c off

noncomputable def AHeap.blk? (h : AHeap) (id : Nat) : Option Blk :=
  match h.t.get id with
  | some (.blk b) => some b
  | _ => none

noncomputable def AHeap.alloc (h : AHeap) (o : AObj) : AHeap := { next := h.lim, lim := Nat.succ h.lim, t := h.t.put h.next o }
noncomputable def AHeap.put (h : AHeap) (id : Nat) (o : AObj) : AHeap := { next := h.next, lim := h.lim, t := h.t.put id o }

/-- The exact value, where there is one. -/
noncomputable def toV : AV → Option Value
  | .sc v => some v
  | .agg cs => (toVs cs).map fun vs => .agg vs.toArray
  | .tup cs => (toVs cs).map fun vs => .tuple vs.toArray
  | .ifc t v => (toV v).map (.iface t)
  | _ => none
where
  toVs : List AV → Option (List Value)
    | [] => some []
    | c :: cs => match toV c with
      | some v => match toVs cs with
        | some vs => some (v :: vs)
        | none => none
      | none => none

noncomputable def isBad : Value → Bool
  | .agg _ | .tuple _ => true
  | _ => false

/-- A value of one cell. -/
noncomputable def okCell : AV → Bool
  | .sc v => !isBad v
  | .agg _ | .tup _ | .dead => false
  | _ => true

/-- The cells of a value that is stored. -/
noncomputable def cellsOf : AV → Option (List AV)
  | .sc (.agg cs) => some (cs.toList.map .sc)
  | .sc (.tuple _) => none
  | .agg cs => some cs
  | .tup _ => none
  | .dead => none
  | v => some [v]

/-- The cells of a struct or an array. -/
noncomputable def aggOf : AV → Option (List AV)
  | .sc (.agg cs) => some (cs.toList.map .sc)
  | .agg cs => some cs
  | _ => none

noncomputable def pureEval {α : Type} (P : Program) : Sem α → Option α
  | .pure a => some a
  | .program k => pureEval P (k P)
  | .mark _ k => pureEval P k
  | _ => none

noncomputable def isAggT (P : Program) (t : TypeId) : Option Bool :=
  match P.underlying t with
  | some (.struct _) => some true
  | some (.array _ _) => some true
  | some _ => some false
  | none => none

noncomputable def zeroOf (P : Program) (t : TypeId) : Option Value := (P.info? t).bind (·.zero)
noncomputable def sizeT (P : Program) (t : TypeId) : Option Nat := (P.info? t).map (·.size)

/-- A value of type t out of its cells. -/
noncomputable def ofCells (P : Program) (t : TypeId) (cs : List AV) : Option AV :=
  match isAggT P t with
  | some true => some (.agg cs)
  | some false => match cs with
    | [c] => some c
    | _ => none
  | none => none

/-- The cells of the first n elements of a slice (or of a string, as bytes). -/
noncomputable def rowCells (h : AHeap) (size n : Nat) : AV → Option (List AV)
  | .sc (.slice none _ _) => match n with
    | 0 => some []
    | _ => none
  | .sc (.string s) => some ((s.data.toList.take n).map fun b => .sc (.int .u8 b.toNat))
  | .emp _ => match n with
    | 0 => some []
    | _ => none
  | .sl id off len _ => match h.blk? id with
    | some b => match Nat.ble n len && Nat.ble (off + n * size) b.n with
      | true => some (b.cellsFrom off (n * size))
      | false => none
    | none => none
  | .fsl sz _ elems => match Nat.beq sz size && Nat.ble n elems.length with
    | true => some ((elems.take n).flatten)
    | false => none
  | _ => none

noncomputable def lenOf : AV → Option Nat
  | .sc (.slice _ n _) => some n
  | .sc (.string s) => some s.size
  | .emp _ => some 0
  | .sl _ _ n _ => some n
  | .fsl _ _ es => some es.length
  | _ => none

noncomputable def bytesList : List AV → Option (List UInt8)
  | [] => some []
  | .sc (.int .u8 n) :: cs => (bytesList cs).map (UInt8.ofNat n.toNat :: ·)
  | _ => none

noncomputable def natOf : AV → Option Nat
  | .sc (.int _ (.ofNat n)) => some n
  | _ => none

noncomputable def vInt (n : Nat) : AV := .sc (.int .i64 n)

/-- Slicing bounds: low ≤ high ≤ limit. -/
noncomputable def bound (ev : Operand → AV) (d : Nat) : Option Operand → Option Nat
  | none => some d
  | some x => natOf (ev x)

abbrev Out := Option (AV × AHeap)

noncomputable def binA (P : Program) (op : BinOp) (t : TypeId) (x y : Operand) (a b : AV) : Option AV :=
  match toV a, toV b with
  | some u, some v => (pureEval P (do eqGuard op t x y u v; binOp op t u v)).map .sc
  | _, _ => none

/-- What a value that is not nil is: 1 a pointer, 2 a slice, 3 a function, 4 an interface value; 0: not known. -/
noncomputable def kindOf : AV → Nat
  | .ptr .. | .fp _ => 1
  | .sl .. => 2
  | .clo .. => 3
  | .ifc .. => 4
  | _ => 0

noncomputable def nilOf : AV → Nat
  | .sc (.pointer none) => 1
  | .sc (.slice none _ _) => 2
  | .sc .nilFunc => 3
  | .sc .nilIface => 4
  | _ => 5

noncomputable def kindT (P : Program) (t : TypeId) : Nat :=
  match P.underlying t with
  | some (.pointer _) => 1
  | some (.slice _) => 2
  | some (.func _ _ _) => 3
  | some (.interface _) => 4
  | _ => 6

noncomputable def cmpNil (P : Program) (op : BinOp) (t : TypeId) (a b : AV) : Option AV :=
  match (Nat.beq (kindOf a) (kindT P t) && Nat.beq (nilOf b) (kindT P t)) || (Nat.beq (nilOf a) (kindT P t) && Nat.beq (kindOf b) (kindT P t)) with
  | true => match op with
    | .eql => some (.sc (.bool false))
    | .neq => some (.sc (.bool true))
    | _ => none
  | false => none

noncomputable def fillA (place : Nat → Option (Nat × Nat)) (cells : List AV) : List (Nat × AV) → Option (List AV)
  | [] => some cells
  | (i, v) :: rest => match place i with
    | none => none
    | some (off, size) => match cellsOf v with
      | none => none
      | some cs => match Nat.beq cs.length size && Nat.ble (off + size) cells.length with
        | false => none
        | true => fillA place (cells.take off ++ cs ++ cells.drop (off + size)) rest

noncomputable def zeroCells (P : Program) (t : TypeId) : Option (List AV) := (zeroOf P t).map fun z => z.cells.toList.map .sc

noncomputable def newBlk (t : TypeId) (cs : List AV) : Blk := { t, row := false, sz := 1, n := cs.length, z := [], c := Blk.putAll .nil 0 cs }

noncomputable def opPick (P : Program) (ev : Operand → AV) (h : AHeap) (c a b : Operand) : Out :=
  match ev c with
  | .sc (.bool t) => some (match t with | true => ev a | false => ev b, h)
  | _ => none

noncomputable def opAlloc (P : Program) (ev : Operand → AV) (h : AHeap) (t : TypeId) : Out :=
  match zeroCells P t with
  | some cs => some (.ptr h.next 0, h.alloc (.blk { t, row := false, sz := 1, n := cs.length, z := cs, c := .nil }))
  | none => none

noncomputable def opBox (P : Program) (ev : Operand → AV) (h : AHeap) (t : TypeId) (x : Operand) : Out :=
  match cellsOf (ev x) with
  | some cs => some (.ptr h.next 0, h.alloc (.blk (newBlk t cs)))
  | none => none

noncomputable def opBuild (P : Program) (ev : Operand → AV) (h : AHeap) (t : TypeId) (parts : Array (Nat × Operand)) : Out :=
  match zeroCells P t with
  | none => none
  | some zero => match P.underlying t with
    | some (.struct fs) => match fs.toList.mapM (fun f => (P.info? f.type).map fun i => (f.offset, i.size)) with
      | some places => (fillA (fun i => places.toArray[i]?) zero (parts.toList.map fun (i, x) => (i, ev x))).map fun cs => (.agg cs, h)
      | none => none
    | some (.array _ e) => match sizeT P e with
      | some size => (fillA (fun i => some (i * size, size)) zero (parts.toList.map fun (i, x) => (i, ev x))).map fun cs => (.agg cs, h)
      | none => none
    | _ => none

noncomputable def opBuildSlice (P : Program) (ev : Operand → AV) (h : AHeap) (t : TypeId) (len : Nat) (parts : Array (Nat × Operand)) : Out :=
  match P.underlying t with
  | some (.slice e) => match sizeT P e, zeroCells P e with
    | some size, some zero => match Nat.ble (len * size) 4096 && Nat.beq zero.length size with
      | false => none
      | true => match fillA (fun i => some (i * size, size)) (List.replicate len zero).flatten (parts.toList.map fun (i, x) => (i, ev x)) with
        | some cs => some (.sl h.next 0 len (some len), h.alloc (.blk (newBlk e cs)))
        | none => none
    | _, _ => none
  | _ => none

noncomputable def opLoad (P : Program) (ev : Operand → AV) (h : AHeap) (t : TypeId) (a : Operand) : Out :=
  match sizeT P t with
  | none => none
  | some k => match ev a with
    | .ptr id off => match h.blk? id with
      | some b => match Nat.ble (off + k) b.n with
        | true => (ofCells P t (b.cellsFrom off k)).map fun v => (v, h)
        | false => none
      | none => none
    | .fp cs => match Nat.ble k cs.length with
      | true => (ofCells P t (cs.take k)).map fun v => (v, h)
      | false => none
    | _ => none

noncomputable def opStore (P : Program) (ev : Operand → AV) (h : AHeap) (t : TypeId) (a x : Operand) : Out :=
  match sizeT P t, cellsOf (ev x), ev a with
  | some k, some cs, .ptr id off => match h.blk? id with
    | some b => match Nat.beq cs.length k && Nat.ble (off + k) b.n && cs.all okCell with
      | true => some (.sc undef, h.put id (.blk { b with c := Blk.putAll b.c off cs }))
      | false => none
    | none => none
  | _, _, _ => none

noncomputable def opNilCheck (P : Program) (ev : Operand → AV) (h : AHeap) (x : Operand) : Out :=
  match ev x with
  | .ptr id off => some (.ptr id off, h)
  | .fp cs => some (.fp cs, h)
  | .clo (.func f) u v => some (.clo (.func f) u v, h)
  | .sc (.func (.func f) u v) => some (.sc (.func (.func f) u v), h)
  | .ifc t v => some (.ifc t v, h)
  | .sc (.iface t v) => some (.sc (.iface t v), h)
  | _ => none

/-- What a number that is not negative stays below. -/
noncomputable def lim : IntKind → Nat
  | .i8 => 128
  | .u8 => 256
  | .i16 => 32768
  | .u16 => 65536
  | .i32 => 2147483648
  | .u32 => 4294967296
  | .i64 => 9223372036854775808
  | .u64 => 18446744073709551616

/-- n, wrapped into kind k: where that is quickly said. -/
noncomputable def fastWrap (k : IntKind) (n : Nat) : Option AV :=
  cond (Nat.blt n (lim k)) (some (.sc (.int k (.ofNat n)))) (cond k.signed none (some (.sc (.int k (.ofNat (Nat.mod n (lim k)))))))

/-- Operations on two numbers that are not negative: where they are quickly said. -/
noncomputable def fastInt (op : BinOp) (k : IntKind) (a b : Nat) : Option AV :=
  match op with
  | .add => fastWrap k (Nat.add a b)
  | .sub => cond (Nat.ble b a) (fastWrap k (Nat.sub a b)) none
  | .mul => fastWrap k (Nat.mul a b)
  | .and => cond (Nat.blt a (lim k) && Nat.blt b (lim k)) (some (.sc (.int k (.ofNat (Nat.land a b))))) none
  | .or => cond (Nat.blt a (lim k) && Nat.blt b (lim k)) (some (.sc (.int k (.ofNat (Nat.lor a b))))) none
  | .xor => cond (Nat.blt a (lim k) && Nat.blt b (lim k)) (some (.sc (.int k (.ofNat (Nat.xor a b))))) none
  | .eql => some (.sc (.bool (Nat.beq a b)))
  | .neq => some (.sc (.bool (Bool.not (Nat.beq a b))))
  | .lss => some (.sc (.bool (Nat.blt a b)))
  | .leq => some (.sc (.bool (Nat.ble a b)))
  | .gtr => some (.sc (.bool (Nat.blt b a)))
  | .geq => some (.sc (.bool (Nat.ble b a)))
  | _ => none

noncomputable def fastShift (op : BinOp) (k : IntKind) (a b : Nat) : Option AV :=
  cond (Nat.blt b 8 || (Nat.blt b 32 && Nat.blt 2147483647 (lim k))) (match op with
    | .shl => fastWrap k (Nat.mul a (Nat.pow 2 b))
    | .shr => some (.sc (.int k (.ofNat (Nat.div a (Nat.pow 2 b)))))
    | _ => none) none

noncomputable def fastBin (op : BinOp) (a b : AV) : Option AV :=
  match a, b with
  | .sc (.int k (.ofNat x)), .sc (.int k2 (.ofNat y)) => match op with
    | .shl => fastShift .shl k x y
    | .shr => fastShift .shr k x y
    | _ => match decide (k = k2) with
      | true => fastInt op k x y
      | false => none
  | _, _ => none

noncomputable def opBinOp (P : Program) (ev : Operand → AV) (h : AHeap) (op : BinOp) (t : TypeId) (x y : Operand) : Out :=
  match fastBin op (ev x) (ev y) with
  | some v => some (v, h)
  | none => match binA P op t x y (ev x) (ev y) with
    | some v => some (v, h)
    | none => (cmpNil P op t (ev x) (ev y)).map fun v => (v, h)

noncomputable def notA (op : UnOp) (a : AV) : Option AV :=
  match op, a with
  | .not, .sc (.bool b) => some (.sc (.bool (Bool.not b)))
  | _, _ => none

noncomputable def opUnOp (P : Program) (ev : Operand → AV) (h : AHeap) (op : UnOp) (x : Operand) : Out :=
  match notA op (ev x) with
  | some v => some (v, h)
  | none => match toV (ev x) with
    | some u => (pureEval P (Op.unary op u)).map fun v => (.sc v, h)
    | none => none

/-- A number into another kind, where it is quickly said. -/
noncomputable def fastConv (P : Program) (dst : TypeId) (a : AV) : Option AV :=
  match a with
  | .sc (.int _ (.ofNat n)) => match P.underlying dst with
    | some (.int k) => fastWrap k n
    | _ => none
  | _ => none

noncomputable def opConvert (P : Program) (ev : Operand → AV) (h : AHeap) (src dst : TypeId) (x : Operand) : Out :=
  match P.underlying src, P.underlying dst with
  | some (.slice e), some .string => match P.underlying e with
    | some (.int .u8) => match ev x with
      | .sc (.string _) => none
      | v => match lenOf v with
        | some n => match rowCells h 1 n v with
          | some cs => (bytesList cs).map fun bs => (.sc (.string ⟨bs.toArray⟩), h)
          | none => none
        | none => none
    | _ => none
  | some _, some (.slice e) => match P.underlying e with
    | some (.int .u8) => match ev x with
      | .sc (.string s) => some (.fsl 1 false (s.data.toList.map fun b => [.sc (.int .u8 b.toNat)]), h)
      | _ => none
    | _ => none
  | some _, _ => match fastConv P dst (ev x) with
    | some v => some (v, h)
    | none => match toV (ev x) with
      | some u => (pureEval P (convert src dst u)).map fun v => (.sc v, h)
      | none => none
  | none, _ => none

noncomputable def opSliceToArrayPointer (P : Program) (ev : Operand → AV) (h : AHeap) (t : TypeId) (x : Operand) : Out :=
  match P.underlying t with
  | some (.array n e) => match ev x, sizeT P e with
    | .sl id off len _, some _ => match Nat.ble n len with
      | true => some (.ptr id off, h)
      | false => none
    | .fsl sz _ es, some k => match Nat.ble n es.length && Nat.beq sz k && Nat.ble 1 n with
      | true => some (.fp es.flatten, h)
      | false => none
    | _, _ => none
  | _ => none

noncomputable def opMakeInterface (P : Program) (ev : Operand → AV) (h : AHeap) (t : TypeId) (x : Operand) : Out :=
  match P.underlying t with
  | some (.interface _) => none
  | some _ => match toV (ev x) with
    | some v => some (.sc (.iface t v), h)
    | none => some (.ifc t (ev x), h)
  | none => none

noncomputable def opMakeSlice (P : Program) (ev : Operand → AV) (h : AHeap) (t : TypeId) (l c : Operand) : Out :=
  match P.underlying t with
  | some (.slice e) => match natOf (ev l), natOf (ev c), P.info? e with
    | some len, some cap, some i => match i.zero with
      | some z => match Nat.ble len cap && Nat.ble (cap * i.bytes) 281474976710656 && Nat.ble cap 9223372036854775807 && Nat.beq z.cells.size i.size && Nat.ble 1 i.size with
        | true => some (.sl h.next 0 len (some cap), h.alloc (.blk { t := e, row := false, sz := 1, n := cap * i.size, z := z.cells.toList.map .sc, c := .nil }))
        | false => none
      | none => none
    | _, _, _ => none
  | _ => none

noncomputable def opSlice (P : Program) (ev : Operand → AV) (h : AHeap) (t : TypeId) (x : Operand) (lo hi mx : Option Operand) : Out :=
  match P.underlying t with
  | some .string => match ev x with
    | .sc (.string s) => match bound ev 0 lo, bound ev s.size hi, mx with
      | some l, some u, none => match Nat.ble l u && Nat.ble u s.size with
        | true => some (.sc (.string (s.extract l u)), h)
        | false => none
      | _, _, _ => none
    | _ => none
  | some (.slice e) => match sizeT P e with
    | none => none
    | some size => match ev x with
      | .sl id off len cap => match bound ev 0 lo, bound ev len hi, mx.map (bound ev 0 ∘ some) with
        | some l, some u, none => match cap with
          | some c => match Nat.ble l u && Nat.ble u c with
            | true => some (.sl id (if c - l = 0 then off else off + l * size) (u - l) (some (c - l)), h)
            | false => none
          | none => match Nat.ble l u && Nat.ble u len && Nat.ble 1 size with
            | true => some (match Nat.beq l 0 with | true => .sl id off u none | false => match Nat.blt l len with | true => .sl id (off + l * size) (u - l) none | false => .emp 1, h)
            | false => none
        | some l, some u, some (some m) => match Nat.ble l u && Nat.ble u m && Nat.ble m (cap.getD len) && hi.isSome with
          | true => some (match Nat.beq m l with | true => .emp 0 | false => .sl id (off + l * size) (u - l) (some (m - l)), h)
          | false => none
        | _, _, _ => none
      | .fsl sz ex es => match bound ev 0 lo, bound ev es.length hi, mx.map (bound ev 0 ∘ some) with
        | some l, some u, none => match Nat.ble l u && Nat.ble u es.length && Nat.beq sz size with
          | true => some (.fsl sz (ex && Nat.beq u es.length) ((es.take u).drop l), h)
          | false => none
        | some l, some u, some (some m) => match Nat.ble l u && Nat.ble u m && Nat.ble m es.length && Nat.beq sz size && hi.isSome with
          | true => some (match Nat.beq m l with | true => .emp 0 | false => .fsl sz (Nat.beq u m) ((es.take u).drop l), h)
          | false => none
        | _, _, _ => none
      | .sc (.slice none 0 0) => match bound ev 0 lo, bound ev 0 hi, bound ev 0 mx with
        | some 0, some 0, some 0 => match mx.isNone || hi.isSome with
          | true => some (.sc (.slice none 0 0), h)
          | false => none
        | _, _, _ => none
      | .emp k => match bound ev 0 lo, bound ev 0 hi, mx.map (bound ev 0 ∘ some) with
        | some 0, some 0, none => some (.emp k, h)
        | some 0, some 0, some (some 0) => match hi.isSome with
          | true => some (.emp 0, h)
          | false => none
        | _, _, _ => none
      | _ => none
  | some (.array n e) => match sizeT P e, ev x with
    | some size, .ptr id off => match bound ev 0 lo, bound ev n hi, mx with
      | some l, some u, none => match Nat.ble l u && Nat.ble u n with
        | true => some (.sl id (if n = l then off else off + l * size) (u - l) (some (n - l)), h)
        | false => none
      | _, _, _ => none
    | some size, .fp cs => match bound ev 0 lo, bound ev n hi, mx with
      | some 0, some u, none => match Nat.ble u n && Nat.beq size 1 && Nat.ble n cs.length with
        | true => some (.fsl size (Nat.beq u n) ((cs.take u).map fun c => [c]), h)
        | false => none
      | _, _, _ => none
    | _, _ => none
  | _ => none

noncomputable def opFieldAddr (P : Program) (ev : Operand → AV) (h : AHeap) (s : TypeId) (x : Operand) (f : Nat) : Out :=
  match P.underlying s with
  | some (.struct fs) => match fs[f]? with
    | some fl => match sizeT P fl.type with
      | some (_ + 1) => match ev x with
        | .ptr id off => some (.ptr id (off + fl.offset), h)
        | .fp cs => some (.fp (cs.drop fl.offset), h)
        | _ => none
      | _ => none
    | none => none
  | _ => none

noncomputable def opField (P : Program) (ev : Operand → AV) (h : AHeap) (t : TypeId) (x : Operand) (f : Nat) : Out :=
  match P.underlying t, ev x with
  | some (.struct fs), v => match fs[f]?, aggOf v with
    | some fl, some cs => match sizeT P fl.type with
      | some k => match Nat.ble (fl.offset + k) cs.length with
        | true => (ofCells P fl.type ((cs.drop fl.offset).take k)).map fun v => (v, h)
        | false => none
      | none => none
    | _, _ => none
  | _, _ => none

noncomputable def opIndexAddr (P : Program) (ev : Operand → AV) (h : AHeap) (t : TypeId) (x ix : Operand) : Out :=
  match natOf (ev ix), P.underlying t with
  | some i, some (.array len e) => match sizeT P e with
    | some size => match Nat.blt i len, ev x with
      | true, .ptr id off => some (.ptr id (off + i * size), h)
      | true, .fp cs => some (.fp (cs.drop (i * size)), h)
      | _, _ => none
    | none => none
  | some i, some (.slice e) => match sizeT P e with
    | some size => match ev x with
      | .sl id off len _ => match Nat.blt i len with
        | true => some (.ptr id (off + i * size), h)
        | false => none
      | .fsl sz _ es => match Nat.beq sz size with
        | true => match es[i]? with
          | some cs => some (.fp cs, h)
          | none => none
        | false => none
      | _ => none
    | none => none
  | _, _ => none

noncomputable def opIndex (P : Program) (ev : Operand → AV) (h : AHeap) (t : TypeId) (x ix : Operand) : Out :=
  match P.underlying t with
  | some .string => match ev x, natOf (ev ix) with
    | .sc (.string s), some i => match s[i]? with
      | some b => some (.sc (.int .u8 b.toNat), h)
      | none => none
    | _, _ => none
  | some (.array len e) => match sizeT P e, natOf (ev ix), aggOf (ev x) with
    | some size, some i, some cs => match Nat.blt i len && Nat.ble (i * size + size) cs.length with
      | true => (ofCells P e ((cs.drop (i * size)).take size)).map fun v => (v, h)
      | false => none
    | _, _, _ => none
  | _ => none

noncomputable def opExtract (P : Program) (ev : Operand → AV) (h : AHeap) (t : Operand) (i : Nat) : Out :=
  match ev t with
  | .tup vs => match vs[i]? with
    | some v => some (v, h)
    | none => none
  | .sc (.tuple vs) => match vs[i]? with
    | some v => some (.sc v, h)
    | none => none
  | _ => none

noncomputable def opRange (P : Program) (ev : Operand → AV) (h : AHeap) (t : TypeId) (x : Operand) : Out :=
  match P.underlying t, ev x with
  | some .string, .sc (.string s) => some (.ptr h.next 0, h.alloc (.iter s 0))
  | _, _ => none

noncomputable def opNext (P : Program) (ev : Operand → AV) (h : AHeap) (it : Operand) (isString : Bool) : Out :=
  match isString, ev it with
  | true, .ptr id 0 => match h.t.get id with
    | some (.iter s pos) => match Nat.blt pos s.size with
      | true => match Utf8.decode s pos with
        | (c, width) => some (.sc (.tuple #[.bool true, goInt pos, .int .i32 c]), h.put id (.iter s (pos + width)))
      | false => some (.sc (.tuple #[.bool false]), h)
    | _ => none
  | _, _ => none

noncomputable def opTypeAssert (P : Program) (ev : Operand → AV) (h : AHeap) (x : Operand) (t : TypeId) (ok : Bool) : Out :=
  match P.underlying t, ev x with
  | some (.interface _), _ => none
  | some _, .sc (.iface u v) => match Nat.beq u t with
    | true => some (match ok with | true => .sc (.tuple #[v, .bool true]) | false => .sc v, h)
    | false => none
  | some _, .ifc u v => match Nat.beq u t with
    | true => some (match ok with | true => .tup [v, .sc (.bool true)] | false => v, h)
    | false => none
  | _, _ => none

/-- The place of a key. -/
noncomputable def findA (s : ByteArray) : List (ByteArray × Value) → Option Value
  | [] => none
  | (k, v) :: l => match eqN s.data.toList k.data.toList with
    | true => some v
    | false => findA s l

noncomputable def isMapS (P : Program) (t : TypeId) : Option TypeId :=
  match P.underlying t with
  | some (.map k e) => match P.underlying k with
    | some .string => some e
    | _ => none
  | _ => none

noncomputable def opMakeMap (P : Program) (ev : Operand → AV) (h : AHeap) (t : TypeId) (r : Option Operand) : Out :=
  match isMapS P t, r with
  | some _, none => some (.hnd 0 h.next, h.alloc (.map []))
  | some _, some x => match ev x with
    | .sc (.int _ _) => some (.hnd 0 h.next, h.alloc (.map []))
    | _ => none
  | none, _ => none

noncomputable def opMapUpdate (P : Program) (ev : Operand → AV) (h : AHeap) (t : TypeId) (m k x : Operand) : Out :=
  match isMapS P t, ev m, ev k, toV (ev x) with
  | some _, .hnd 0 id, .sc (.string s), some v => match h.t.get id with
    | some (.map es) => match findA s es with
      | none => some (.sc undef, h.put id (.map (es ++ [(s, v)])))
      | some _ => none
    | _ => none
  | _, _, _, _ => none

noncomputable def opLookup (P : Program) (ev : Operand → AV) (h : AHeap) (t : TypeId) (x i : Operand) (ok : Bool) : Out :=
  match isMapS P t, ev x, ev i with
  | some e, .hnd 0 id, .sc (.string s) => match h.t.get id with
    | some (.map es) => match findA s es with
      | some v => match ok with
        | true => some (.sc (.tuple #[v, .bool true]), h)
        | false => some (.sc v, h)
      | none => match zeroOf P e, ok with
        | some z, true => some (.sc (.tuple #[z, .bool false]), h)
        | some z, false => some (.sc z, h)
        | none, _ => none
    | _ => none
  | _, _, _ => none

/-- An operation that is no call of a function with a body. -/
noncomputable def opA (P : Program) (ev : Operand → AV) (h : AHeap) (o : Oper) : Out :=
  match o.op with
  | .move x | .assign x => some (ev x, h)
  | .pick c a b => opPick P ev h c a b
  | .alloc t => opAlloc P ev h t
  | .box t x => opBox P ev h t x
  | .build t parts => opBuild P ev h t parts
  | .buildSlice t len parts => opBuildSlice P ev h t len parts
  | .load t a => opLoad P ev h t a
  | .store t a x => opStore P ev h t a x
  | .nilCheck x => opNilCheck P ev h x
  | .binOp op t x y _ => opBinOp P ev h op t x y
  | .unOp op _ x => opUnOp P ev h op x
  | .convert src dst x => opConvert P ev h src dst x
  | .sliceToArrayPointer t x => opSliceToArrayPointer P ev h t x
  | .makeInterface t x => opMakeInterface P ev h t x
  | .makeFunc fn first captured => some (.clo fn (first.toList.map ev) (captured.toList.map ev), h)
  | .makeSlice t l c => opMakeSlice P ev h t l c
  | .slice t x lo hi mx => opSlice P ev h t x lo hi mx
  | .fieldAddr s x f => opFieldAddr P ev h s x f
  | .field t x f => opField P ev h t x f
  | .indexAddr t x ix => opIndexAddr P ev h t x ix
  | .index t x ix => opIndex P ev h t x ix
  | .extract t i => opExtract P ev h t i
  | .range t x => opRange P ev h t x
  | .next it isString => opNext P ev h it isString
  | .typeAssert x _ t ok => opTypeAssert P ev h x t ok
  | .makeMap t r => opMakeMap P ev h t r
  | .mapUpdate t m k x | .insert t m k x => opMapUpdate P ev h t m k x
  | .lookup t x i ok => opLookup P ev h t x i ok
  | _ => none

noncomputable def biLen (P : Program) (h : AHeap) (ts : Array TypeId) (ty : TypeId) (args : List AV) : Out :=
  match ts[0]?, args with
  | some t, [x] => match P.underlying t with
    | some (.slice _) => match x with
      | .sc (.string _) => none
      | _ => match lenOf x with
        | some n => some (vInt n, h)
        | none => none
    | some .string => match x with
      | .sc (.string s) => some (vInt s.size, h)
      | _ => none
    | some (.array n _) => some (vInt n, h)
    | some (.pointer a) => match P.underlying a with
      | some (.array n _) => some (vInt n, h)
      | _ => none
    | _ => none
  | _, _ => none

noncomputable def biMin (P : Program) (h : AHeap) (ts : Array TypeId) (ty : TypeId) (args : List AV) : Out :=
  match toV.toVs args with
  | some vs => (pureEval P (Builtin.min_ ts ty vs.toArray)).map fun v => (.sc v, h)
  | none => none

noncomputable def biMax (P : Program) (h : AHeap) (ts : Array TypeId) (ty : TypeId) (args : List AV) : Out :=
  match toV.toVs args with
  | some vs => (pureEval P (Builtin.max_ ts ty vs.toArray)).map fun v => (.sc v, h)
  | none => none

noncomputable def biAppend (P : Program) (h : AHeap) (ts : Array TypeId) (ty : TypeId) (args : List AV) : Out :=
  match ts[0]?, ts[1]?, args with
  | some t, some u, [s, x] => match P.underlying t, P.underlying u with
    | some (.slice _), some (.int _) => none
    | some (.slice e), some _ => match P.info? e, zeroCells P e with
      | some i, some z => match lenOf s, lenOf x with
        | some sl, some n => match Nat.ble ((sl + n) * i.bytes) 140737488355328 && Nat.ble (sl + n) 9223372036854775807 && Nat.beq z.length i.size && Nat.ble 1 i.size && Nat.ble 1 i.bytes with
          | false => none
          | true => match rowCells h i.size n x with
            | none => none
            | some new => match new.all okCell && Nat.beq new.length (n * i.size) with
             | false => none
             | true =>
              let grown : List AV → Out := fun old =>
                some (.sl h.next 0 (sl + n) none, h.alloc (.blk { t := e, row := true, sz := i.size, n := (sl + n) * i.size, z := [], c := Blk.putAll .nil 0 (old ++ new) }))
              match s with
              | .sc (.slice none 0 0) => match n with
                | 0 => some (s, h)
                | _ => grown []
              | .emp 0 => match n with
                | 0 => some (s, h)
                | _ => grown []
              | .fsl sz true es => match Nat.beq sz i.size with
                | true => match n with
                  | 0 => some (s, h)
                  | _ => grown es.flatten
                | false => none
              | .sl id off len (some c) => match Nat.ble (len + n) c with
                | true => match h.blk? id with
                  | some b => match Nat.ble (off + (len + n) * i.size) b.n with
                    | true => some (.sl id off (len + n) (some c), h.put id (.blk { b with c := Blk.putAll b.c (off + len * i.size) new }))
                    | false => none
                  | none => none
                | false => match h.blk? id with
                  | some b => match Nat.ble (off + len * i.size) b.n with
                    | true => grown (b.cellsFrom off (len * i.size))
                    | false => none
                  | none => none
              | .sl id 0 len none => match h.blk? id with
                | some b => match b.row && Nat.beq b.n (len * i.size) && Nat.beq b.sz i.size && Nat.beq b.t e with
                  | true => some (.sl h.next 0 (len + n) none, AHeap.alloc { h with t := h.t.cut id } (.blk { b with n := (len + n) * i.size, c := Blk.putAll b.c (len * i.size) new }))
                  | false => none
                | none => none
              | _ => none
        | _, _ => none
      | _, _ => none
    | _, _ => none
  | _, _, _ => none

noncomputable def biCopy (P : Program) (h : AHeap) (ts : Array TypeId) (ty : TypeId) (args : List AV) : Out :=
  match ts[0]?, args with
  | some t, [d, x] => match P.underlying t with
    | some (.slice e) => match sizeT P e, lenOf d, lenOf x with
      | some size, some dl, some n0 => match rowCells h size (Nat.min n0 dl) x, d with
        | some cs, .sl id off _ _ => match h.blk? id with
          | some b => match Nat.ble (off + (Nat.min n0 dl) * size) b.n && cs.all okCell && Nat.beq cs.length ((Nat.min n0 dl) * size) with
            | true => some (vInt (Nat.min n0 dl), h.put id (.blk { b with c := Blk.putAll b.c off cs }))
            | false => none
          | none => none
        | some [], .emp _ => some (vInt (Nat.min n0 dl), h)
        | some [], .sc (.slice none _ _) => some (vInt (Nat.min n0 dl), h)
        | some [], .fsl _ _ [] => some (vInt (Nat.min n0 dl), h)
        | _, _ => none
      | _, _, _ => none
    | _ => none
  | _, _ => none

/-- The builtins. -/
noncomputable def builtinA (P : Program) (h : AHeap) (b : Builtin) (ts : Array TypeId) (ty : TypeId) (args : List AV) : Out :=
  match b with
  | .len => biLen P h ts ty args
  | .min => biMin P h ts ty args
  | .max => biMax P h ts ty args
  | .append => biAppend P h ts ty args
  | .copy => biCopy P h ts ty args
  | _ => none


/-! ### Operations on names -/

/-- A truth value that is known. -/
noncomputable def resB [O : Orc] : AV → AV
  | .sy .bool e => match look e with
    | some b => .sc (.bool b)
    | none => .sy .bool e
  | a => a

noncomputable def asSX : AV → Option (Ty × SX)
  | .sy t e => some (t, e)
  | .sc (.int k z) => some (.int k, .ki k z)
  | .sc (.bool b) => some (.bool, .kb b)
  | .sc (.string s) => some (.str, .ks s)
  | _ => none

noncomputable def intSX (a : AV) : Option SX :=
  match asSX a with
  | some (.int _, e) => some e
  | _ => none

noncomputable def eqS (x y : SX) : SX := match eqSX x y with
  | true => .kb true
  | false => .bin .eql x y

noncomputable def cmpS (op : BinOp) (x y : SX) : Option SX :=
  match op with
  | .eql => some (eqS x y)
  | .neq => some (.not (eqS x y))
  | .lss => some (.bin .lss x y)
  | .geq => some (.not (.bin .lss x y))
  | .gtr => some (.bin .lss y x)
  | .leq => some (.not (.bin .lss y x))
  | _ => none

/-- A number that lies in its kind. -/
noncomputable def inR (k : IntKind) : Int → Bool
  | .ofNat n => Nat.blt n (lim k)
  | .negSucc n => k.signed && Nat.blt n (lim k)

/-- A single cell of a plain type, under a name. -/
noncomputable def cellSX (t : Ty) (a : AV) : Option SX :=
  match t, a with
  | .int k, .sy (.int l) e => match eqK k l with
    | true => some e
    | false => none
  | .int k, .sc (.int l z) => match eqK k l && inR l z with
    | true => some (.ki l z)
    | false => none
  | .bool, .sy .bool e => some e
  | .bool, .sc (.bool b) => some (.kb b)
  | .str, .sy .str e => some e
  | .str, .sc (.string s) => match Nat.ble s.size 9223372036854775807 with
    | true => some (.ks s)
    | false => none
  | _, _ => none

/-- The plain cells of a value of type t. -/
noncomputable def symLits (P : Program) : Nat → TypeId → List AV → Option (List SX)
  | 0, _, _ => none
  | d + 1, t, cs =>
    match P.underlying t with
    | some .bool => match cs with
      | [c] => (cellSX .bool c).map ([·])
      | _ => none
    | some (.int q) => match cs with
      | [c] => (cellSX (.int q) c).map ([·])
      | _ => none
    | some .string => match cs with
      | [c] => (cellSX .str c).map ([·])
      | _ => none
    | some (.array n e) => match Nat.beq cs.length (P.cellsOf t) with
      | true => ((List.range n).mapM fun i => symLits P d e ((cs.drop (i * P.cellsOf e)).take (P.cellsOf e))).map List.flatten
      | false => none
    | some (.struct fs) => match Nat.beq cs.length (P.cellsOf t) && fs.all (·.name != "_") with
      | true => (fs.toList.mapM fun f => symLits P d f.type ((cs.drop f.offset).take (P.cellsOf f.type))).map List.flatten
      | false => none
    | _ => none

noncomputable def zipEq : List SX → List SX → List SX
  | x :: xs, y :: ys => match eqSX x y with
    | true => zipEq xs ys
    | false => .bin .eql x y :: zipEq xs ys
  | _, _ => []

noncomputable def allS : List SX → SX
  | [] => .kb true
  | [e] => e
  | es => .all es

noncomputable def symEq (P : Program) (t : TypeId) (a b : AV) : Option SX :=
  match aggOf a, aggOf b with
  | some cs, some ds => match P.keyTypeAt 8 t && Bool.not (P.eqGuardType P.depth t) with
    | true => match symLits P 8 t cs, symLits P 8 t ds with
      | some xs, some ys => match Nat.beq xs.length ys.length with
        | true => some (allS (zipEq xs ys))
        | false => none
      | _, _ => none
    | false => none
  | _, _ => none

noncomputable def shrS (op : BinOp) (a b : AV) : Option AV :=
  match op, a, b with
  | .shr, .sy (.int k) x, .sc (.int l (.ofNat c)) => some (.sy (.int k) (.bin .shr x (.ki l (.ofNat c))))
  | .shl, .sy (.int k) x, .sc (.int l (.ofNat c)) => some (.sy (.int k) (.bin .shl x (.ki l (.ofNat c))))
  | .quo, .sy (.int k) x, .sc (.int l (.ofNat c)) => match eqK k l && Nat.blt 0 c with
    | true => some (.sy (.int k) (.bin .quo x (.ki l (.ofNat c))))
    | false => none
  | .rem, .sy (.int k) x, .sc (.int l (.ofNat c)) => match eqK k l && Nat.blt 0 c with
    | true => some (.sy (.int k) (.bin .rem x (.ki l (.ofNat c))))
    | false => none
  | _, _, _ => none

noncomputable def symBin0 (P : Program) (op : BinOp) (t : TypeId) (a b : AV) : Option AV :=
  match asSX a, asSX b with
  | some (.int k, x), some (.int l, y) => match eqK k l with
    | true => match op with
      | .add => some (.sy (.int k) (.bin .add x y))
      | .sub => some (.sy (.int k) (.bin .sub x y))
      | .mul => some (.sy (.int k) (.bin .mul x y))
      | .and => some (.sy (.int k) (.bin .and x y))
      | .or => some (.sy (.int k) (.bin .or x y))
      | .xor => some (.sy (.int k) (.bin .xor x y))
      | .andNot => some (.sy (.int k) (.bin .andNot x y))
      | op => (cmpS op x y).map (.sy .bool)
    | false => none
  | some (.str, x), some (.str, y) => match op with
    | .eql => some (.sy .bool (eqS x y))
    | .neq => some (.sy .bool (.not (eqS x y)))
    | .lss => some (.sy .bool (.bin .lss x y))
    | .geq => some (.sy .bool (.not (.bin .lss x y)))
    | .gtr => some (.sy .bool (.bin .lss y x))
    | .leq => some (.sy .bool (.not (.bin .lss y x)))
    | _ => none
  | some (.bool, x), some (.bool, y) => match P.underlying t with
    | some .bool => match op with
      | .eql => some (.sy .bool (eqS x y))
      | .neq => some (.sy .bool (.not (eqS x y)))
      | _ => none
    | _ => none
  | _, _ => match op with
    | .eql => match isAggT P t with
      | some true => (symEq P t a b).map (.sy .bool)
      | _ => none
    | .neq => match isAggT P t with
      | some true => (symEq P t a b).map fun e => .sy .bool (.not e)
      | _ => none
    | _ => none

noncomputable def symBin (P : Program) (op : BinOp) (t : TypeId) (a b : AV) : Option AV :=
  match shrS op a b with
  | some r => some r
  | none => symBin0 P op t a b

/-- It is known that x is at most y. -/
noncomputable def leS [O : Orc] (x y : SX) : Bool :=
  match x, y with
  | .ki _ (.ofNat a), .ki _ (.ofNat b) => Nat.ble a b
  | .ki _ (.ofNat 0), .len _ => true
  | x, y => eqSX x y || (match look (.bin .lss x y) with
    | some true => true
    | _ => match look (.bin .lss y x) with
      | some false => true
      | _ => false)

noncomputable def zeroS : SX := .ki .i64 (.ofNat 0)

/-- The cells of an element. -/
noncomputable def elemCells (e i : SX) : Nat → List Ty → List AV
  | _, [] => []
  | k, t :: ts => .sy t (.at e i k) :: elemCells e i (Nat.succ k) ts

/-- The rows of a list that goes by a name. -/
noncomputable def rowsOf (e : SX) (cs : List Ty) : Nat → Nat → List (List AV)
  | _, 0 => []
  | i, n + 1 => elemCells e (.ki .i64 (.ofNat i)) 0 cs :: rowsOf e cs (i + 1) n
/-- A row that grows, cell by cell. -/
noncomputable def growB (t : TypeId) (ts : List Ty) (e : SX) (n : Nat) : Blk := { t, row := true, sz := ts.length, n := n * ts.length, z := [], c := Blk.putAll .nil 0 (rowsOf e ts 0 n).flatten }

noncomputable def boundS (ev : Operand → AV) (d : SX) : Option Operand → Option SX
  | none => some d
  | some x => intSX (ev x)

/-- A zero byte, one cell wide. -/
noncomputable def isZ8 : List Value → Bool
  | [.int .u8 (.ofNat 0)] => true
  | _ => false
/-- Zeros: as many as something is long. -/
noncomputable def symMake [O : Orc] (P : Program) (h : AHeap) (t : TypeId) (l c : AV) : Out :=
  match P.underlying t, l, intSX c with
  | some (.slice el), .sy (.int .i64) (.len d), some c' => match P.info? el with
    | some i => match i.zero with
      | some z => match isZ8 z.cells.toList && Nat.beq i.size 1 && Nat.beq i.bytes 1 && leS (.len d) c' && leS c' (.ki .i64 (.ofNat 1000000)) with
        | true => some (.own h.next [.int .u8] (.bytes (.len d)), h.alloc (.grow el [.int .u8] (.bytes (.len d))))
        | false => none
      | none => none
    | none => none
  | _, _, _ => none

noncomputable def asTy (t : Ty) (a : AV) : Option SX :=
  match a with
  | .sy u e => match eqTy t u with
    | true => some e
    | false => none
  | .sc v => match t, v with
    | .int k, .int l z => match eqK k l && inR l z with
      | true => some (.ki l z)
      | false => none
    | .bool, .bool b => some (.kb b)
    | .str, .string s => match Nat.ble s.size 9223372036854775807 with
      | true => some (.ks s)
      | false => none
    | .slice _, .slice none 0 0 => some .emp
    | _, _ => none
  | _ => none

noncomputable def scalarT : Ty → Bool
  | .slice _ => false
  | _ => true
noncomputable def scalTs : List Ty → Bool
  | [] => true
  | t :: ts => scalarT t && scalTs ts
/-! ### Maps whose keys go by names: which keys they hold; each holds true -/
noncomputable def keyKind (P : Program) (kt : TypeId) : Option Nat :=
  match P.underlying kt with
  | some (.int _) => some 0
  | some (.struct _) => match P.keyTypeAt 8 kt with
    | true => some 1
    | false => none
  | _ => none
noncomputable def keyTys (P : Program) : Nat → TypeId → Option (List Ty)
  | 0, _ => none
  | d + 1, t => match P.underlying t with
    | some .bool => some [.bool]
    | some (.int q) => some [.int q]
    | some .string => some [.str]
    | some (.struct fs) => (fs.toList.mapM fun f => keyTys P d f.type).map List.flatten
    | _ => none
noncomputable def dummies : List Ty → Nat → List AV
  | [], _ => []
  | t :: ts, i => .sy t (.v i) :: dummies ts (Nat.succ i)
noncomputable def varsFrom : List Ty → Nat → List SX
  | [], _ => []
  | _ :: ts, i => .v i :: varsFrom ts (Nat.succ i)
/-- The type of the keys, how they stand, the types of their cells. -/
noncomputable def mapS (P : Program) (t : TypeId) : Option (TypeId × TypeId × Nat × List Ty) :=
  match P.underlying t with
  | some (.map k e) => match keyKind P k, keyTys P 8 k, zeroOf P e with
    | some b, some ts, some (.bool false) => match symLits P 8 k (dummies ts 0) with
      | some xs => match scalTs ts && eqSX.eqSXs xs (varsFrom ts 0) with
        | true => some (k, e, b, ts)
        | false => none
      | none => none
    | _, _, _ => none
  | _ => none
noncomputable def zipTy : List Ty → List AV → Option (List SX)
  | [], [] => some []
  | t :: ts, c :: cs => match asTy t c, zipTy ts cs with
    | some e, some es => some (e :: es)
    | _, _ => none
  | _, _ => none
noncomputable def keySX (b : Nat) (ts : List Ty) (a : AV) : Option (List SX) :=
  match Nat.beq b 0 with
  | true => zipTy ts [a]
  | false => match aggOf a with
    | some cs => zipTy ts cs
    | none => none
/-- Two known ones that differ. -/
noncomputable def neC : SX → SX → Bool
  | .ki _ z, .ki _ y => Bool.not (eqI z y)
  | .kb a, .kb b => Bool.not (a == b)
  | _, _ => false
noncomputable def neCs : List SX → List SX → Bool
  | x :: xs, y :: ys => neC x y || neCs xs ys
  | _, _ => false
/-- Whether a key is among known ones. -/
noncomputable def hasC : SX → List SX → Option Bool
  | .emp, _ => some false
  | .cat x (.row ls), ks => match eqSX.eqSXs ls ks with
    | true => some true
    | false => match neCs ls ks with
      | true => hasC x ks
      | false => none
  | _, _ => none
/-- How long a known list is. -/
noncomputable def lenC : SX → Option Nat
  | .emp => some 0
  | .cat x (.row _) => match lenC x with
    | some n => some (Nat.succ n)
    | none => none
  | _ => none
noncomputable def shortS [O : Orc] (e : SX) : Bool :=
  match lenC e with
  | some n => Nat.ble n 1000000
  | none => leS (.len e) (.ki .i64 (.ofNat 1000000))
noncomputable def hasS [O : Orc] (e : SX) (ks : List SX) : Option Bool :=
  match hasC e ks with
  | some c => some c
  | none => look (.bin .lss (.row ks) e)

noncomputable def symMakeMap (P : Program) (ev : Operand → AV) (h : AHeap) (t : TypeId) (r : Option Operand) : Out :=
  match mapS P t, r with
  | some (_, _, b, ts), none => some (.hnd 2 h.next, h.alloc (.grow b ts .emp))
  | some (_, _, b, ts), some x => match ev x with
    | .sc (.int _ _) => some (.hnd 2 h.next, h.alloc (.grow b ts .emp))
    | _ => none
  | none, _ => none
noncomputable def symLookup (P : Program) (h : AHeap) (t : TypeId) (x i : AV) : Out :=
  match mapS P t, x with
  | some (_, _, b, ts), .hnd 2 id => match h.t.get id, keySX b ts i with
    | some (.grow c us e), some ks => match Nat.beq b c && eqTy.eqTys us ts with
      | true => match hasC e ks with
        | some r => some (.sc (.bool r), h)
        | none => some (.sy .bool (.bin .lss (.row ks) e), h)
      | false => none
    | _, _ => none
  | _, _ => none
noncomputable def symUpdate [O : Orc] (P : Program) (h : AHeap) (t : TypeId) (x i v : AV) : Out :=
  match mapS P t, x, v with
  | some (_, _, b, ts), .hnd 2 id, .sc (.bool true) => match h.t.get id, keySX b ts i with
    | some (.grow c us e), some ks => match Nat.beq b c && eqTy.eqTys us ts with
      | true => match hasS e ks, shortS e with
        | some false, true => some (.sc undef, h.put id (.grow b ts (.cat e (.row ks))))
        | _, _ => none
      | false => none
    | _, _ => none
  | _, _, _ => none

noncomputable def symOp0 [O : Orc] (P : Program) (ev : Operand → AV) (h : AHeap) (o : Oper) : Out :=
  match o.op with
  | .pick c a b => match resB (ev c) with
    | .sc (.bool true) => some (ev a, h)
    | .sc (.bool false) => some (ev b, h)
    | _ => none
  | .binOp op t x y _ => (symBin P op t (ev x) (ev y)).map fun v => (v, h)
  | .unOp .not _ x => match ev x with
    | .sy .bool e => some (.sy .bool (.not e), h)
    | _ => none
  | .convert src dst x => match P.underlying src, P.underlying dst, ev x with
    | some _, some (.int k), .sy (.int _) e => some (.sy (.int k) (.conv k e), h)
    | some (.slice el), some .string, .sy (.slice [.int .u8]) e => match P.underlying el with
      | some (.int .u8) => some (.sy .str (.text e), h)
      | _ => none
    | some (.slice el), some .string, .own id [.int .u8] e => match P.underlying el, h.t.get id with
      | some (.int .u8), some (.grow _ [.int .u8] f) => match eqSX e f with
        | true => some (.sy .str (.text e), h)
        | false => none
      | _, _ => none
    | some .string, some (.slice el), .sy .str e => match P.underlying el with
      | some (.int .u8) => some (.sy (.slice [.int .u8]) (.bytes e), h)
      | _ => none
    | _, _, _ => none
  | .slice t x lo hi none => match P.underlying t, ev x with
    | some .string, .sy .str e => match boundS ev zeroS lo, boundS ev (.len e) hi with
      | some a, some b => match leS zeroS a && leS a b && leS b (.len e) with
        | true => some (.sy .str (.cut e a b), h)
        | false => none
      | _, _ => none
    | some (.slice el), .sy (.slice cs) e => match sizeT P el with
      | some size => match boundS ev zeroS lo, boundS ev (.len e) hi with
        | some a, some b => match leS zeroS a && leS a b && leS b (.len e) && Nat.beq size cs.length with
          | true => some (.sy (.slice cs) (.cut e a b), h)
          | false => none
        | _, _ => none
      | none => none
    | some (.slice el), .sl id 0 len none => match sizeT P el, h.blk? id with
      | some size, some blk => match bound ev 0 lo, bound ev len hi with
        | some l, some u => match blk.row && Nat.beq blk.sz size && Nat.ble 1 size && Nat.blt l u && Nat.ble (u * size) blk.n with
          | true => some (.sl id (l * size) (u - l) none, h)
          | false => none
        | _, _ => none
      | _, _ => none
    | _, _ => none
  | .slice t x lo hi (some mx) => match P.underlying t, ev x with
    | some (.slice el), .sy (.slice cs) _ => match sizeT P el, bound ev 0 lo, bound ev 1 hi, bound ev 1 (some mx) with
      | some size, some 0, some 0, some 0 => match Nat.beq size cs.length with
        | true => some (.emp 0, h)
        | false => none
      | _, _, _, _ => none
    | _, _ => none
  | .indexAddr t x ix => match P.underlying t, ev x with
    | some (.slice el), .sy (.slice cs) e => match sizeT P el, intSX (ev ix) with
      | some size, some i => match leS zeroS i && Nat.beq size cs.length with
        | true => match look (.bin .lss i (.len e)) with
          | some true => some (.fp (elemCells e i 0 cs), h)
          | _ => none
        | false => none
      | _, _ => none
    | _, _ => none
  | .index t x ix => match P.underlying t, ev x with
    | some .string, .sy .str e => match intSX (ev ix) with
      | some i => match leS zeroS i with
        | true => match look (.bin .lss i (.len e)) with
          | some true => some (.sy (.int .u8) (.byte e i), h)
          | _ => none
        | false => none
      | none => none
    | _, _ => none
  | .sliceToArrayPointer t x => match P.underlying t, ev x with
    | some (.array n el), .sy (.slice cs) e => match sizeT P el with
      | some size => match Nat.beq size cs.length && Nat.ble 1 n && leS (.ki .i64 (.ofNat n)) (.len e) with
        | true => some (.fp (rowsOf e cs 0 n).flatten, h)
        | false => none
      | none => none
    | _, _ => none
  | .makeSlice t l c => symMake P h t (ev l) (ev c)
  | .makeMap t r => symMakeMap P ev h t r
  | .lookup t x i false => symLookup P h t (ev x) (ev i)
  | .mapUpdate t m k x | .insert t m k x => symUpdate P h t (ev m) (ev k) (ev x)
  | _ => none

/-- A number up to n that the facts tell. -/
noncomputable def knownI [O : Orc] (k : IntKind) (e : SX) : Nat → Option Nat
  | 0 => match look (.bin .eql e (.ki k (.ofNat 0))) with
    | some true => some 0
    | _ => none
  | n + 1 => match look (.bin .eql e (.ki k (.ofNat (Nat.succ n)))) with
    | some true => some (Nat.succ n)
    | _ => knownI k e n
/-- A small number by the facts. -/
noncomputable def conc [O : Orc] (a : AV) : AV :=
  match a with
  | .sy (.int k) e => match knownI k e 16 with
    | some c => .sc (.int k (.ofNat c))
    | none => a
  | _ => a
/-- Division and shifts by what is not known. -/
noncomputable def divS [O : Orc] (op : BinOp) (a b : AV) : Option AV :=
  match a, b with
  | .sy (.int k) x, .sy (.int l) y => match op with
    | .quo => match eqK k l && (match look (.bin .eql y (.ki l (.ofNat 0))) with | some false => true | _ => false) with
      | true => some (.sy (.int k) (.bin .quo x y))
      | false => none
    | .rem => match eqK k l && (match look (.bin .eql y (.ki l (.ofNat 0))) with | some false => true | _ => false) with
      | true => some (.sy (.int k) (.bin .rem x y))
      | false => none
    | .shr => match l.signed with
      | false => some (.sy (.int k) (.bin .shr x y))
      | true => none
    | .shl => match l.signed with
      | false => some (.sy (.int k) (.bin .shl x y))
      | true => none
    | _ => none
  | _, _ => none
/-- An element of a row that grows: where it lies. -/
noncomputable def ownAddr [O : Orc] (P : Program) (t : TypeId) (a b : AV) : Option AV :=
  match P.underlying t, a with
  | some (.slice el), .own id ts e => match sizeT P el, intSX b with
    | some size, some i => match leS zeroS i && Nat.beq size ts.length && (match look (.bin .lss i (.len e)) with | some true => true | _ => false) with
      | true => some (.oe id ts e i 0)
      | false => none
    | _, _ => none
  | _, _ => none
/-- .. what it holds. -/
noncomputable def ownLoad (P : Program) (h : AHeap) (t : TypeId) (a : AV) : Option AV :=
  match a with
  | .oe id ts e i c => match h.t.get id, sizeT P t with
    | some (.grow _ us f), some k => match eqTy.eqTys ts us && eqSX e f && Nat.ble (c + k) ts.length && Nat.ble 1 ts.length with
      | true => ofCells P t (((elemCells e i 0 ts).drop c).take k)
      | false => none
    | _, _ => none
  | _ => none
/-- .. a part of it. -/
noncomputable def ownField (P : Program) (s : TypeId) (a : AV) (f : Nat) : Option AV :=
  match a, P.underlying s with
  | .oe id ts e i c, some (.struct fs) => match fs[f]? with
    | some fl => match sizeT P fl.type with
      | some (_ + 1) => some (.oe id ts e i (c + fl.offset))
      | _ => none
    | none => none
  | _, _ => none
noncomputable def negS (a : AV) : Option AV :=
  match a with
  | .sy (.int k) e => some (.sy (.int k) (.bin .sub (.ki k (.ofNat 0)) e))
  | _ => none
noncomputable def symOp [O : Orc] (P : Program) (ev : Operand → AV) (h : AHeap) (o : Oper) : Out :=
  match symOp0 P ev h o with
  | some r => some r
  | none => match o.op with
    | .indexAddr t x ix => match ownAddr P t (ev x) (ev ix) with
      | some r => some (r, h)
      | none => opA P (fun x => conc (ev x)) h o
    | .index _ _ _ => opA P (fun x => conc (ev x)) h o
    | .load t a => (ownLoad P h t (ev a)).map fun v => (v, h)
    | .fieldAddr s x f => (ownField P s (ev x) f).map fun v => (v, h)
    | .binOp op _ x y _ => (divS op (ev x) (ev y)).map fun v => (v, h)
    | .unOp .neg _ x => (negS (ev x)).map fun v => (v, h)
    | _ => none

noncomputable def symLen (P : Program) (h : AHeap) (ts : Array TypeId) (args : List AV) : Out :=
  match ts[0]?, args with
  | some t, [.sy .str e] => match P.underlying t with
    | some .string => some (.sy (.int .i64) (.len e), h)
    | _ => none
  | some t, [.sy (.slice _) e] => match P.underlying t with
    | some (.slice _) => some (.sy (.int .i64) (.len e), h)
    | _ => none
  | some t, [.own _ _ e] => match P.underlying t with
    | some (.slice _) => some (.sy (.int .i64) (.len e), h)
    | _ => none
  | _, _ => none

noncomputable def symMin [O : Orc] (h : AHeap) (args : List AV) : Out :=
  match args with
  | [a, b] => match asSX a, asSX b with
    | some (.int k, x), some (.int l, y) => match eqK k l with
      | true => match leS x y with
        | true => some (a, h)
        | false => match leS y x with
          | true => some (b, h)
          | false => none
      | false => none
    | _, _ => none
  | _ => none

/-- The greater one. -/
noncomputable def pickMax [O : Orc] (a b : AV) : Option AV :=
  match asSX a, asSX b with
  | some (.int k, x), some (.int l, y) => match eqK k l with
    | true => match leS x y with
      | true => some b
      | false => match leS y x with
        | true => some a
        | false => none
    | false => none
  | _, _ => none
noncomputable def foldMax [O : Orc] : AV → List AV → Option AV
  | a, [] => some a
  | a, b :: l => match pickMax a b with
    | some c => foldMax c l
    | none => none
noncomputable def symMax [O : Orc] (h : AHeap) (args : List AV) : Out :=
  match args with
  | a :: l => match foldMax a l with
    | some c => some (c, h)
    | none => none
  | [] => none

/-- A slice of no element and no room. -/
noncomputable def noRoom : AV → Bool
  | .sc (.slice none 0 0) => true
  | .sl _ _ 0 (some 0) => true
  | .emp 0 => true
  | _ => false

/-- Known cells, one a row, as a list's name. -/
noncomputable def rowsSX (t : Ty) : List AV → Option SX
  | [] => some .emp
  | a :: as => match asTy t a, rowsSX t as with
    | some e, some es => some (.cat (.row [e]) es)
    | _, _ => none

/-- What is appended, as a list's name. -/
noncomputable def tailSX : AV → Option (Ty × SX)
  | .sy (.slice [t]) e => some (t, e)
  | .sy .str e => some (.int .u8, .bytes e)
  | _ => none

/-- Data of an unknown length behind a block that is full. -/
noncomputable def symAppendB [O : Orc] (P : Program) (h : AHeap) (ts : Array TypeId) (args : List AV) : Out :=
  match ts[0]?, ts[1]?, args with
  | some t, some u, [.sl id off len (some c), x] => match P.underlying t, P.underlying u, tailSX x with
    | some (.slice _), some (.int _), _ => none
    | some (.slice el), some _, some (ty, e) => match P.info? el, zeroCells P el, h.blk? id with
      | some i, some z, some b => match scalarT ty && Nat.beq c len && Nat.beq i.size 1 && Nat.beq z.length 1 && Nat.ble 1 i.bytes && Nat.ble (2000000 * i.bytes) 140737488355328 && Nat.ble len 1000000 && Nat.ble (off + len) b.n with
        | true => match rowsSX ty (b.cellsFrom off len), look (.bin .lss (.ki .i64 (.ofNat 1000000)) (.len e)) with
          | some old, some false => some (.sy (.slice [ty]) (.cat old e), { next := h.lim, lim := Nat.succ h.lim, t := h.t.cut id })
          | _, _ => none
        | false => none
      | _, _, _ => none
    | _, _, _ => none
  | _, _, _ => none

noncomputable def symAppend [O : Orc] (P : Program) (h : AHeap) (ts : Array TypeId) (args : List AV) : Out :=
  match ts[0]?, ts[1]?, args with
  | some t, some u, [s, .sy (.slice cs) e] => match P.underlying t, P.underlying u with
    | some (.slice el), some (.slice _) => match P.info? el, zeroCells P el with
      | some i, some z => match noRoom s && Nat.beq cs.length i.size && Nat.beq z.length i.size && Nat.ble 1 i.size && Nat.ble 1 i.bytes && Nat.ble (1000000 * i.bytes) 140737488355328 with
        | true => match look (.bin .lss (.ki .i64 (.ofNat 1000000)) (.len e)) with
          | some false => some (.sy (.slice cs) e, { next := h.lim, lim := Nat.succ h.lim, t := h.t })
          | _ => none
        | false => none
      | _, _ => none
    | _, _ => none
  | _, _, _ => none

/-- Known rows of cells, as a list's name. -/
noncomputable def cellsSX0 : List Ty → List AV → Option (List SX × List AV)
  | [], as => some ([], as)
  | t :: ts, a :: as => match asTy t a, cellsSX0 ts as with
    | some e, some (es, r) => some (e :: es, r)
    | _, _ => none
  | _, _ => none
noncomputable def rowsM (ts : List Ty) : Nat → List AV → Option SX
  | 0, _ => some .emp
  | 1, as => match cellsSX0 ts as with
    | some (es, _) => some (.row es)
    | none => none
  | n + 1, as => match cellsSX0 ts as with
    | some (es, r) => match rowsM ts n r with
      | some x => some (.cat (.row es) x)
      | none => none
    | none => none

/-- It is known that a list has no more than a million elements. -/
noncomputable def fewS [O : Orc] (e : SX) : Bool :=
  match e with
  | .emp => true
  | .row _ => true
  | e => match look (.bin .lss (.ki .i64 (.ofNat 1000000)) (.len e)) with
    | some false => true
    | _ => false

/-- What is laid behind a slice that grows. -/
noncomputable def moreSX [O : Orc] (h : AHeap) (ts : List Ty) (x : AV) : Option SX :=
  match x with
  | .sy (.slice us) e => match eqTy.eqTys ts us && fewS e with
    | true => some e
    | false => none
  | .sy .str e => match eqTy.eqTys ts [.int .u8] && fewS (.bytes e) with
    | true => some (.bytes e)
    | false => none
  | .sc (.string s) => match eqTy.eqTys ts [.int .u8] && Nat.ble s.size 4096 with
    | true => some (.bytes (.ks s))
    | false => none
  | .sc (.slice none 0 0) => some .emp
  | .emp _ => some .emp
  | .sl id off len _ => match Nat.ble len 4096, h.blk? id with
    | true, some b => match Nat.ble (off + len * ts.length) b.n with
      | true => rowsM ts len (b.cellsFrom off (len * ts.length))
      | false => none
    | _, _ => none
  | _ => none

/-- The facts tell that it is a list. -/
noncomputable def listS [O : Orc] (e : SX) : Bool := match look (.bin .eql (.len (.cat .emp e)) (.len e)) with
  | some true => true
  | _ => false
/-- A slice of the run's own goes by the first name, its row by the second: one, or the zeros that were filled. -/
noncomputable def sameN [O : Orc] (e e' : SX) : Bool := match eqSX e e' with
  | true => true
  | false => match eqSX e (.bytes (.len e')) with
    | true => listS e'
    | false => false
/-- 'append' to a slice that grows. -/
noncomputable def symGrow [O : Orc] (P : Program) (h : AHeap) (ts : Array TypeId) (args : List AV) : Out :=
  match ts[0]?, ts[1]?, args with
  | some t, some u, [.own id tys e, x] => match P.underlying t, P.underlying u with
    | some (.slice _), some (.int _) => none
    | some (.slice el), some _ => match P.info? el, zeroCells P el, h.t.get id with
      | some i, some z, some (.grow t' tys' e') => match Nat.beq t' el && eqTy.eqTys tys tys' && sameN e e' && Nat.beq i.size tys.length && Nat.beq z.length i.size && Nat.ble 1 i.size && Nat.ble 1 i.bytes && Nat.ble (2000000 * i.bytes) 140737488355328 && fewS e' with
        | true => match moreSX h tys x with
          | some x' => some (.own h.next tys (.cat e' x'), AHeap.alloc { h with t := h.t.cut id } (.grow el tys (.cat e' x')))
          | none => none
        | false => none
      | _, _, _ => none
    | _, _ => none
  | _, _, _ => none

/-- A slice of the run's own that stands in a cell: data from here on. -/
noncomputable def iceC (h : AHeap) (id off : Nat) : Option AHeap :=
  match h.blk? id with
  | some b => match Nat.blt off b.n, b.cell off with
    | true, .own j us f => match h.t.get j with
      | some (.grow _ vs g) => match eqTy.eqTys us vs && eqSX f g with
        | true => some (AHeap.put { next := h.next, lim := h.lim, t := h.t.cut j } id (.blk { b with c := b.c.put off (.sy (.slice us) f) }))
        | false => none
      | _ => none
    | _, _ => none
  | none => none
/-- What is laid behind a slice that grows, where it is a slice of the run's own, or holds one: that one is data from here on. -/
noncomputable def iceX (h : AHeap) (x : AV) : Option (AV × AHeap) :=
  match x with
  | .own j us f => match h.t.get j with
    | some (.grow _ vs g) => match eqTy.eqTys us vs && eqSX f g with
      | true => some (.sy (.slice us) f, { next := h.next, lim := h.lim, t := h.t.cut j })
      | false => none
    | _ => none
  | .sl id off len cap => match iceC h id off with
    | some h' => some (.sl id off len cap, h')
    | none => none
  | _ => none
noncomputable def symGrowI [O : Orc] (P : Program) (h : AHeap) (ts : Array TypeId) (args : List AV) : Out :=
  match args with
  | [s, x] => match iceX h x with
    | some (x', h') => symGrow P h' ts [s, x']
    | none => none
  | _ => none

/-- A length that the facts tell, not above a number. -/
noncomputable def knownLen [O : Orc] (e : SX) : Nat → Option Nat
  | 0 => match look (.bin .eql (.len e) (.ki .i64 (.ofNat 0))) with
    | some true => some 0
    | _ => none
  | n + 1 => match look (.bin .eql (.len e) (.ki .i64 (.ofNat (Nat.succ n)))) with
    | some true => some (Nat.succ n)
    | _ => knownLen e n
/-- Data fills a known row. -/
noncomputable def symCopy [O : Orc] (P : Program) (h : AHeap) (ts : Array TypeId) (args : List AV) : Out :=
  match args with
  | [.sl id off len cap, .sy (.slice cs) e] => match leS (.ki .i64 (.ofNat len)) (.len e) with
    | true => biCopy P h ts 0 [.sl id off len cap, .fsl cs.length false (rowsOf e cs 0 len)]
    | false => match knownLen e len with
      | some j => biCopy P h ts 0 [.sl id off len cap, .fsl cs.length false (rowsOf e cs 0 j)]
      | none => none
  | _ => none

/-- Data fills a row of zeros of its own length. -/
noncomputable def symCopyO [O : Orc] (P : Program) (h : AHeap) (ts : Array TypeId) (args : List AV) : Out :=
  match ts[0]?, args with
  | some t, [.own id tys e, x] => match P.underlying t with
    | some (.slice el) => match sizeT P el, h.t.get id, moreSX h tys x with
      | some size, some (.grow t' tys' e'), some x' => match eqTy.eqTys tys tys' && eqSX e e' && eqSX e (.bytes (.len x')) && Nat.beq size tys.length && Nat.ble 1 size with
        | true => some (.sy (.int .i64) (.len x'), h.put id (.grow t' tys x'))
        | false => none
      | _, _, _ => none
    | _ => none
  | _, _ => none

/-- As above, out of another slice of the run's own: that one is data from here on. -/
noncomputable def symCopyI [O : Orc] (P : Program) (h : AHeap) (ts : Array TypeId) (args : List AV) : Out :=
  match args with
  | [s, x] => match iceX h x with
    | some (x', h') => symCopyO P h' ts [s, x']
    | none => none
  | _ => none

/-- Nothing is appended. -/
noncomputable def symAppend0 (P : Program) (h : AHeap) (ts : Array TypeId) (args : List AV) : Out :=
  match ts[0]?, ts[1]?, args with
  | some t, some u, [.sl id off len cap, .emp _] => match P.underlying t, P.underlying u with
    | some (.slice e), some (.slice _) => match P.info? e with
      | some _ => some (.sl id off len cap, h)
      | none => none
    | _, _ => none
  | _, _, _ => none

/-- 'clear' of a slice of a known block. -/
noncomputable def symClear (P : Program) (h : AHeap) (ts : Array TypeId) (args : List AV) : Out :=
  match ts[0]?, args with
  | some t, [.sl id off len _] => match P.underlying t with
    | some (.slice e) => match zeroOf P e, h.blk? id with
      | some z, some b => match Nat.ble 1 len && Nat.ble 1 z.cells.size && (List.replicate len (z.cells.toList.map AV.sc)).flatten.all okCell && Nat.ble (off + (List.replicate len (z.cells.toList.map AV.sc)).flatten.length) b.n with
        | true => some (.sc (.tuple #[]), h.put id (.blk { b with c := Blk.putAll b.c off (List.replicate len (z.cells.toList.map AV.sc)).flatten }))
        | false => none
      | _, _ => none
    | _ => none
  | _, _ => none

noncomputable def symBuiltin [O : Orc] (P : Program) (h : AHeap) (b : Builtin) (ts : Array TypeId) (args : List AV) : Out :=
  match b with
  | .len => symLen P h ts args
  | .min => symMin h args
  | .append => match symAppend P h ts args with
    | some r => some r
    | none => match symAppendB P h ts args with
      | some r => some r
      | none => match symGrow P h ts args with
        | some r => some r
        | none => match symGrowI P h ts args with
          | some r => some r
          | none => symAppend0 P h ts args
  | .copy => match symCopy P h ts args with
    | some r => some r
    | none => match symCopyO P h ts args with
      | some r => some r
      | none => symCopyI P h ts args
  | .max => symMax h args
  | .clear => symClear P h ts args
  | _ => none

/-- How a call's callee and arguments come out: a function of the program. -/
noncomputable def targetV (x : AV) (args : List AV) : Option (FuncId × List AV) :=
  match x with
  | .sc (.func (.func g) first captured) => some (g, first.toList.map .sc ++ args ++ captured.toList.map .sc)
  | .clo (.func g) first captured => some (g, first ++ args ++ captured)
  | _ => none

noncomputable def targetA (ev : Operand → AV) (c : Call) : Option (FuncId × List AV) :=
  match c.callee with
  | .value f => targetV (ev f) (c.args.toList.map ev)
  | _ => none

/-- Rounds are called under this name. -/
noncomputable def yid : Nat := 18446744073709551616

/-- A call of a range's yield. -/
noncomputable def yieldA (ev : Operand → AV) (c : Call) : Option (List AV) :=
  match c.callee with
  | .value f => match ev f with
    | .hnd 1 id => some (.hnd 1 id :: c.args.toList.map ev)
    | _ => none
  | _ => none

/-- A deferred call. -/
inductive DefA where
  | box (id : Nat)
  | fn (f : FuncId) (args : List AV)

/-- df: the deferred calls; none: within a round. -/
structure St where
  tm : Tr AV
  n : Nat
  h : AHeap
  df : Option (List DefA) := some []

/-- What operands come out as, given what temporaries hold. -/
noncomputable def evF (G : Nat → Option (List AV)) (tv : Nat → AV) : Operand → AV
  | .tmp t => tv t
  | .const v => .sc v
  | .global g => match G g with
    | some cs => .fp cs
    | none => .sc (.pointer (some ⟨g, 0, none⟩))
  | .func f => .sc (.func (.func f) #[] #[])

noncomputable def tmV (tm : Tr AV) (t : Nat) : AV := (tm.get t).getD (.sc undef)

noncomputable def St.ev (G : Nat → Option (List AV)) (tm : Tr AV) : Operand → AV := evF G (tmV tm)

noncomputable def St.putDst (s : St) (dst : Option Tmp) (v : AV) (h : AHeap) : Option St :=
  match dst with
  | none => some { s with h }
  | some d => match Nat.blt d s.n with
    | true => some { s with tm := s.tm.put d v, h }
    | false => none

abbrev CallF := FuncId → List AV → AHeap → Out

/-- An operation. -/
noncomputable def stepA [O : Orc] (P : Program) (call : CallF) (ev : Operand → AV) (h : AHeap) (o : Oper) : Out :=
  match o.op with
  | .call c => match c.callee with
    | .builtin b => match builtinA P h b c.argTypes o.type (c.args.toList.map ev) with
      | some r => some r
      | none => symBuiltin P h b c.argTypes (c.args.toList.map ev)
    | _ => match targetA ev c with
      | some (f, args) => match Nat.beq f yid with
        | true => none
        | false => call f args h
      | none => match yieldA ev c with
        | some args => call yid args h
        | none => none
  | _ => match opA P ev h o with
    | some r => some r
    | none => symOp P ev h o

noncomputable def wantedA [O : Orc] (ops : Array Oper) (tv : Nat → AV) (o : Oper) : Option Bool :=
  match o.guard with
  | none => some true
  | some (j, want) => match (ops[j]?).bind (·.dst) with
    | some d => match resB (tv d) with
      | .sc (.bool b) => some (b == want)
      | .dead => none
      | .sy _ _ => none
      | _ => some false
    | none => some false

/-- 'defer'. -/
noncomputable def deferA (ev : Operand → AV) (s : St) (o : Oper) : Option St :=
  match o.op with
  | .defer c => match s.df, targetA ev c with
    | some l, some (f, args) => match s.putDst o.dst (.sc undef) s.h with
      | some s' => some { s' with df := some (.fn f args :: l) }
      | none => none
    | _, _ => none
  | _ => none

noncomputable def opsA [O : Orc] (P : Program) (G : Nat → Option (List AV)) (call : CallF) (ops : Array Oper) : List Oper → St → Option St
  | [], s => some s
  | o :: rest, s => match wantedA ops (tmV s.tm) o with
    | some true => match stepA P call (St.ev G s.tm) s.h o with
      | some (v, h) => match s.putDst o.dst v h with
        | some s' => opsA P G call ops rest s'
        | none => none
      | none => match deferA (St.ev G s.tm) s o with
        | some s' => opsA P G call ops rest s'
        | none => none
    | some false => match s.putDst o.dst (.sc undef) s.h with
      | some s' => opsA P G call ops rest s'
      | none => none
    | none => none

/-! ### Rows of operations whose order is open -/
noncomputable def hasBit (m i : Nat) : Bool := Nat.beq (Nat.land (Nat.shiftRight m i) 1) 1
noncomputable def bit (i : Nat) : Nat := Nat.shiftLeft 1 i

noncomputable def eqV : Value → Value → Bool
  | .bool a, .bool b => match a with
    | true => b
    | false => Bool.not b
  | .int k (.ofNat a), .int l (.ofNat b) => decide (k = l) && Nat.beq a b
  | .int k (.negSucc a), .int l (.negSucc b) => decide (k = l) && Nat.beq a b
  | .pointer none, .pointer none => true
  | .slice none a b, .slice none c d => Nat.beq a c && Nat.beq b d
  | .nilFunc, .nilFunc => true
  | .nilIface, .nilIface => true
  | .map none, .map none => true
  | .string a, .string b => decide (a.data.toList.map (·.toNat) = b.data.toList.map (·.toNat))
  | _, _ => false

/-- a holds of whatever b holds of. -/
noncomputable def eqA : AV → AV → Bool
  | .dead, _ => true
  | .sc u, .sc v => eqV u v
  | .ptr i a, .ptr j b => Nat.beq i j && Nat.beq a b
  | .sl i a l c, .sl j b k d => Nat.beq i j && Nat.beq a b && Nat.beq l k && (match c, d with
    | none, none => true
    | some c, some d => Nat.beq c d
    | _, _ => false)
  | .emp a, .emp b => Nat.beq a b
  | .agg cs, .agg ds => eqAs cs ds
  | .ifc t x, .ifc u y => Nat.beq t u && eqA x y
  | .sy t e, .sy u f => eqTy t u && eqSX e f
  | .fp cs, .fp ds => eqAs cs ds
  | .fsl s x es, .fsl t y fs => Nat.beq s t && x == y && eqRs es fs
  | .own i ts e, .own j us f => Nat.beq i j && eqTy.eqTys ts us && eqSX e f
  | _, _ => false
where
  eqAs : List AV → List AV → Bool
    | [], [] => true
    | c :: cs, d :: ds => eqA c d && eqAs cs ds
    | _, _ => false
  eqRs : List (List AV) → List (List AV) → Bool
    | [], [] => true
    | c :: cs, d :: ds => eqAs c d && eqRs cs ds
    | _, _ => false

noncomputable def bindsA (e : Edge) : Bool :=
  match e.ground with
  | .textOnly _ => false
  | .gcOnly _ => false
  | _ => true

/-- What comes ahead of an operation: what its edges name, and what comes ahead of that. -/
noncomputable def maskA (acc : List Nat) : List Edge → Nat
  | [] => 0
  | e :: es => match bindsA e with
    | true => Nat.lor (Nat.lor (maskA acc es) (bit e.on)) (acc.getD e.on 0)
    | false => maskA acc es

noncomputable def masksA : List Oper → List Nat → List Nat
  | [], acc => acc
  | o :: os, acc => masksA os (acc ++ [maskA acc o.after.toList])

/-- Operations that turn the heap, or call. -/
noncomputable def isAct (o : Oper) : Bool :=
  match o.op with
  | .store .. => true
  | .next .. => true
  | .call c => match c.callee with
    | .builtin .len => false
    | .builtin .min => false
    | .builtin .max => false
    | _ => true
  | _ => false

noncomputable def isRead (o : Oper) : Bool :=
  match o.op with
  | .load .. => true
  | .convert .. => true
  | _ => false

noncomputable def tmpsOf : List Operand → List Tmp
  | [] => []
  | .tmp t :: xs => t :: tmpsOf xs
  | _ :: xs => tmpsOf xs

/-- The temporaries that an operation reads. -/
noncomputable def seesA (ops : Array Oper) (o : Oper) : List Tmp :=
  (match o.guard with
   | some (j, _) => match (ops[j]?).bind (·.dst) with
     | some d => [d]
     | none => []
   | none => []) ++ tmpsOf o.op.operands.toList

noncomputable def memA (t : Nat) : List Nat → Bool
  | [] => false
  | u :: us => Nat.beq t u || memA t us

structure DRow where
  j : Nat
  o : Oper
  sees : List Tmp
  anc : Nat
  act : Bool

noncomputable def rowsFrom (ops : Array Oper) (ms : List Nat) : Nat → List Oper → List DRow
  | _, [] => []
  | j, o :: os => { j, o, sees := seesA ops o, anc := ms.getD j 0, act := isAct o } :: rowsFrom ops ms (Nat.succ j) os

noncomputable def rowsA (ops : Array Oper) : List DRow := rowsFrom ops (masksA ops.toList []) 0 ops.toList

noncomputable def writesIn (x : DRow) (ts : List Tmp) : Bool :=
  match x.o.dst with
  | some d => memA d ts
  | none => false

noncomputable def sameDst (x y : DRow) : Bool :=
  match x.o.dst, y.o.dst with
  | some d, some e => Nat.beq d e
  | _, _ => false

/-- The earlier one of two comes ahead of the later one, where that matters. -/
noncomputable def pairOK (x y : DRow) : Bool :=
  hasBit y.anc x.j || Bool.not ((x.act && y.act) || writesIn x y.sees || writesIn y x.sees || sameDst x y)

noncomputable def pairsOK : List DRow → Bool
  | [] => true
  | x :: xs => Nat.blt x.anc (bit x.j) && xs.all (pairOK x) && pairsOK xs

/-- Acts that come ahead of y; and acts that y does not come ahead of. -/
noncomputable def loA (rows : List DRow) (y : DRow) : Nat := (rows.filter fun x => x.act && hasBit y.anc x.j).length
noncomputable def hiA (rows : List DRow) (y : DRow) : Nat := (rows.filter fun x => x.act && Bool.not (hasBit x.anc y.j)).length

/-- The heap with those of the new blocks that come ahead and are not in it. -/
noncomputable def addNews (b anc mk : Nat) : List (Nat × AObj) → Tr AObj → Tr AObj
  | [], t => t
  | (i, o) :: l, t => match hasBit anc i && Bool.not (hasBit mk i) with
    | true => (addNews b anc mk l t).put (Nat.add b i) o
    | false => addNews b anc mk l t

structure DS where
  tm : Tr AV
  news : List (Nat × AObj)
  h : AHeap
  got : Nat
  past : List (AHeap × Nat)               -- the heaps after 0, 1, 2, ... acts
  reads : List (DRow × Tr AV × AV)

/-- What no block of this row is named beyond. -/
noncomputable def farA (b : Nat) : Nat := Nat.add b 1180591620717411303424

noncomputable def putA (n : Nat) (tm : Tr AV) (dst : Option Tmp) (v : AV) : Option (Tr AV) :=
  match dst with
  | none => some tm
  | some d => match Nat.blt d n with
    | true => some (tm.put d v)
    | false => none

section
variable [O : Orc]
variable (P : Program) (G : Nat → Option (List AV)) (call : CallF) (ops : Array Oper) (b nt : Nat)

noncomputable def viewA (y : DRow) (lim : Nat) (news : List (Nat × AObj)) (h : AHeap) (mk : Nat) : AHeap := { next := Nat.add b y.j, lim, t := addNews b y.anc mk news h.t }

noncomputable def rowA (y : DRow) (s : DS) : Option DS :=
  match wantedA ops (tmV s.tm) y.o with
  | none => none
  | some false => match putA nt s.tm y.o.dst (.sc undef) with
    | none => none
    | some tm => match y.act with
      | true => some { s with tm, got := Nat.lor s.got (bit y.j), past := s.past ++ [(s.h, Nat.lor s.got (bit y.j))] }
      | false => some { s with tm }
  | some true => match y.act with
    | true => match stepA P call (St.ev G s.tm) (viewA b y s.h.lim s.news s.h s.got) y.o with
      | none => none
      | some (v, h) => match Nat.ble s.h.lim h.lim && Nat.ble h.lim (farA b) with
        | false => none
        | true => match putA nt s.tm y.o.dst v with
          | none => none
          | some tm => some { s with tm, h, got := Nat.lor (Nat.lor s.got y.anc) (bit y.j), past := s.past ++ [(h, Nat.lor (Nat.lor s.got y.anc) (bit y.j))] }
    | false => match stepA P call (St.ev G s.tm) { next := Nat.add b y.j, lim := farA b, t := .nil } y.o with
      | some (v, h) => match putA nt s.tm y.o.dst v with
        | none => none
        | some tm => match h.t.get (Nat.add b y.j) with
          | some ob => match Nat.beq h.next (farA b) && Nat.beq h.lim (Nat.succ (farA b)) with
            | true => some { s with tm, news := (y.j, ob) :: s.news }
            | false => none
          | none => match Nat.beq h.next (Nat.add b y.j) && Nat.beq h.lim (farA b) with
            | true => some { s with tm }
            | false => none
      | none => match isRead y.o with
        | false => none
        | true => match stepA P call (St.ev G s.tm) (viewA b y (farA b) s.news s.h s.got) y.o with
          | none => none
          | some (v, _) => match putA nt s.tm y.o.dst v with
            | none => none
            | some tm => some { s with tm, reads := (y, s.tm, v) :: s.reads }

noncomputable def rowsRun : List DRow → DS → Option DS
  | [], s => some s
  | y :: ys, s => match rowA P G call ops b nt y s with
    | some s' => rowsRun ys s'
    | none => none

/-- A read gives the same at every heap at which it may stand. -/
noncomputable def readAt (r : DRow × Tr AV × AV) (news : List (Nat × AObj)) (c : AHeap × Nat) : Bool :=
  match stepA P call (St.ev G r.2.1) (viewA b r.1 (farA b) news c.1 c.2) r.1.o with
  | some (v, _) => eqA r.2.2 v
  | none => false

noncomputable def readOK (rows : List DRow) (news : List (Nat × AObj)) (past : List (AHeap × Nat)) (r : DRow × Tr AV × AV) : Bool :=
  Nat.ble (hiA rows r.1) (loA rows r.1) || ((past.take (Nat.succ (hiA rows r.1))).drop (loA rows r.1)).all (readAt P G call b r news)
end

noncomputable def notGrow : AObj → Bool
  | .grow .. => false
  | _ => true
noncomputable def noGrowAt (h : AHeap) (id : Nat) : Bool :=
  match h.t.get id with
  | some (.grow ..) => false
  | _ => true

noncomputable def listOr [O : Orc] (P : Program) (G : Nat → Option (List AV)) (call : CallF) (ops : Array Oper) (rows : List DRow) (s : St) : Option St :=
  match pairsOK rows && Nat.ble (Nat.add s.h.lim ops.size) (farA s.h.lim) with
  | false => none
  | true => match rowsRun P G call ops s.h.lim s.n rows { tm := s.tm, news := [], h := { next := 0, lim := Nat.add s.h.lim ops.size, t := s.h.t }, got := 0, past := [({ next := 0, lim := Nat.add s.h.lim ops.size, t := s.h.t }, 0)], reads := [] } with
    | none => none
    | some d => match d.reads.all (readOK P G call s.h.lim rows d.news d.past) && (d.news.all (fun n => notGrow n.2) && d.past.all (fun c => d.news.all (fun n => noGrowAt c.1 (Nat.add s.h.lim n.1)))) with
      | false => none
      | true => some { tm := d.tm, n := s.n, h := { next := d.h.lim, lim := Nat.succ d.h.lim, t := addNews s.h.lim (Nat.sub (bit ops.size) 1) d.got d.news d.h.t }, df := s.df }

/-- A row of operations whose order is open. -/
noncomputable def drawA [O : Orc] (P : Program) (G : Nat → Option (List AV)) (call : CallF) (ops : Array Oper) (s : St) : Option St := listOr P G call ops (rowsA ops) s

abbrev Run := Option (Ex × St)

/-- A range over a function. -/
noncomputable def rangeA (P : Program) (call : CallF) (g : AV) (ps : Array Tmp) (asg body : Code) (s : St) : Run :=
  match s.df with
  | none => none
  | some l => match targetV g [.hnd 1 (s.h.alloc (.box true)).next] with
    | none => none
    | some (f, args) => match (match Nat.beq f yid with | true => none | false => call f args ((s.h.alloc (.box true)).alloc (.loop 0 .normal s.tm s.n ps asg body))) with
      | none => none
      | some (_, h) => match h.t.get (s.h.alloc (.box true)).next with
        | some (.loop st pend tm n ps' asg' body') => match Nat.beq st 1 with
          | true => none
          | false => some (pend, { tm := s.tm, n := s.n, h := h.put (s.h.alloc (.box true)).next (.loop 3 pend tm n ps' asg' body'), df := some (.box s.h.next :: l) })
        | _ => none

noncomputable def codeA [O : Orc] (P : Program) (G : Nat → Option (List AV)) (call : CallF) (iter jump : Code → St → Run) : Code → St → Run
  | .skip, s => some (.normal, s)
  | .region _ ops draw, s => match draw with
    | false => match opsA P G call ops ops.toList s with
      | some s' => some (.normal, s')
      | none => none
    | true => match drawA P G call ops s with
      | some s' => some (.normal, s')
      | none => none
  | .seq a b, s => match codeA P G call iter jump a s with
    | some (.normal, s') => codeA P G call iter jump b s'
    | r => r
  | .cond c a b, s => match resB (St.ev G s.tm c) with
    | .sc (.bool true) => codeA P G call iter jump a s
    | .sc (.bool false) => codeA P G call iter jump b s
    | _ => none
  | .block id a, s => match codeA P G call iter jump a s with
    | some (.exit i, s') => match Nat.beq i id with
      | true => some (.normal, s')
      | false => some (.exit i, s')
    | r => r
  | .loop a, s => iter a s
  | .scope a, s => match codeA P G call iter jump a s with
    | some (.goto l, s') => match findLabel a l with
      | some rest => match jump rest s' with
        | some (.goto _, _) => none
        | r => r
      | none => some (.goto l, s')
    | r => r
  | .goto l, s => some (.goto l, s)
  | .rangeFunc g ps asg body, s => rangeA P call (St.ev G s.tm g) ps asg body s
  | .exit id, s => some (.exit id, s)
  | .label _, s => some (.normal, s)
  | .ret, s => some (.ret, s)
  | _, _ => none

noncomputable def resultsA (P : Program) (tm : Tr AV) (h : AHeap) : List ResultVar → Option (List AV)
  | [] => some []
  | .tmp t :: rs => match resultsA P tm h rs with
    | some vs => some ((tm.get t).getD (.sc undef) :: vs)
    | none => none
  | .cell a t :: rs => match tm.get a, sizeT P t, resultsA P tm h rs with
    | some (.ptr id off), some k, some vs => match h.blk? id with
      | some b => match Nat.ble (off + k) b.n with
        | true => match ofCells P t (b.cellsFrom off k) with
          | some v => some (v :: vs)
          | none => none
        | false => none
      | none => none
    | _, _, _ => none

noncomputable def argsTr (i : Nat) (vs : List AV) (t : Tr AV) : Tr AV := Blk.putAll t i vs

/-- What yield hands in goes into the temporaries of the loop. -/
noncomputable def putPs (n : Nat) : List Tmp → List AV → Tr AV → Option (Tr AV)
  | [], [], tm => some tm
  | t :: ts, v :: vs, tm => match Nat.blt t n with
    | true => putPs n ts vs (tm.put t v)
    | false => none
  | _, _, _ => none

/-- A round. -/
noncomputable def roundA (run : Code → St → Run) (args : List AV) (h : AHeap) : Out :=
  match args with
  | .hnd 1 id :: vs => match h.t.get id with
    | some (.loop _ _ tm n ps asg body) => match putPs n ps.toList vs tm with
      | none => none
      | some tm' => match run asg { tm := tm', n, h, df := none } with
        | some (.normal, s1) => match s1.h.t.get id with
          | some (.loop 0 pend tm1 n1 ps1 asg1 body1) => match run body { s1 with h := s1.h.put id (.loop 1 pend tm1 n1 ps1 asg1 body1) } with
            | some (e, s2) => match s2.h.t.get id with
              | some (.loop _ _ tm2 n2 ps2 asg2 body2) => match e with
                | .normal => some (.sc (.bool true), s2.h.put id (.loop 0 .normal tm2 n2 ps2 asg2 body2))
                | .goto _ => none
                | e => some (.sc (.bool false), s2.h.put id (.loop 2 e tm2 n2 ps2 asg2 body2))
              | _ => none
            | none => none
          | _ => none
        | _ => none
    | _ => none
  | _ => none

/-- The body of a function that is called as a deferred one while its caller returns: recover finds nothing. -/
noncomputable def isRec (o : Oper) : Bool :=
  match o.op with
  | .call c => match c.callee with
    | .builtin .recover => true
    | _ => false
  | _ => false

noncomputable def noCall : CallF := fun _ _ _ => none

noncomputable def opsD [O : Orc] (P : Program) (G : Nat → Option (List AV)) (ops : Array Oper) : List Oper → St → Option St
  | [], s => some s
  | o :: rest, s => match wantedA ops (tmV s.tm) o with
    | some true => match isRec o with
      | true => match s.putDst o.dst (.sc .nilIface) s.h with
        | some s' => opsD P G ops rest s'
        | none => none
      | false => match stepA P noCall (St.ev G s.tm) s.h o with
        | some (v, h) => match s.putDst o.dst v h with
          | some s' => opsD P G ops rest s'
          | none => none
        | none => none
    | some false => match s.putDst o.dst (.sc undef) s.h with
      | some s' => opsD P G ops rest s'
      | none => none
    | none => none

noncomputable def codeD [O : Orc] (P : Program) (G : Nat → Option (List AV)) (run : Code → St → Run) : Code → St → Run
  | .seq a b, s => match codeD P G run a s with
    | some (.normal, s') => codeD P G run b s'
    | r => r
  | .cond c a b, s => match resB (St.ev G s.tm c) with
    | .sc (.bool true) => codeD P G run a s
    | .sc (.bool false) => codeD P G run b s
    | _ => none
  | .region id ops draw, s => match draw with
    | false => match opsD P G ops ops.toList s with
      | some s' => some (.normal, s')
      | none => none
    | true => run (.region id ops draw) s
  | c, s => run c s

/-- A deferred call: what it hands back is left. -/
noncomputable def enterD (P : Program) (runD : Code → St → Run) (f : FuncId) (args : List AV) (h : AHeap) : Option AHeap :=
  match P.funcs[f]? with
  | none => none
  | some fn => match fn.body with
    | none => none
    | some c => match runD c { tm := argsTr 0 args .nil, n := Nat.max args.length fn.ntmps, h } with
      | some (.normal, s) | some (.ret, s) => match s.df, resultsA P s.tm s.h fn.results.toList with
        | some [], some _ => some s.h
        | _, _ => none
      | _ => none

/-- On the way out. -/
noncomputable def leaveA (P : Program) (runD : Code → St → Run) : List DefA → AHeap → Option AHeap
  | [], h => some h
  | .box id :: ds, h => match h.t.get id with
    | some (.box true) => leaveA P runD ds (h.put id (.box false))
    | _ => none
  | .fn f args :: ds, h => match enterD P runD f args h with
    | some h' => leaveA P runD ds h'
    | none => none

/-- A call of a function with a body. -/
noncomputable def enterB (P : Program) (run runD : Code → St → Run) (fn : Func) (args : List AV) (h : AHeap) : Out :=
  match fn.body with
  | none => none
  | some c => match run c { tm := argsTr 0 args .nil, n := Nat.max args.length fn.ntmps, h } with
    | some (.normal, s) | some (.ret, s) => match s.df with
      | none => none
      | some l => match leaveA P runD l s.h with
        | none => none
        | some h' => match resultsA P s.tm h' fn.results.toList with
          | some [v] => some (v, h')
          | some vs => some (.tup vs, h')
          | none => none
    | _ => none

noncomputable def enterA (P : Program) (run runD : Code → St → Run) (f : FuncId) (args : List AV) (h : AHeap) : Out :=
  match Nat.beq f yid with
  | true => none
  | false => match P.funcs[f]? with
    | none => none
    | some fn => enterB P run runD fn args h

/-- A call, of yield too. -/
noncomputable def enterR (P : Program) (run runD : Code → St → Run) (f : FuncId) (args : List AV) (h : AHeap) : Out :=
  match Nat.beq f yid with
  | true => roundA run args h
  | false => enterA P run runD f args h

/-- The machine. 'spec': functions that are taken by a contract. -/
noncomputable def runA [O : Orc] (P : Program) (G : Nat → Option (List AV)) (spec : FuncId → Option (List AV → AHeap → Out)) : Nat → Code → St → Run
  | 0, _, _ => none
  | n + 1, c, s => codeA P G
      (fun f args h => match spec f with
        | some sp => sp args h
        | none => enterR P (runA P G spec n) (codeD P G (runA P G spec n)) f args h)
      (fun a s => match runA P G spec n a s with
        | some (.normal, s') => runA P G spec n (.loop a) s'
        | r => r) (runA P G spec n) c s

noncomputable def callA [O : Orc] (P : Program) (G : Nat → Option (List AV)) (spec : FuncId → Option (List AV → AHeap → Out)) (n : Nat) (f : FuncId) (args : List AV) (h : AHeap) : Out :=
  enterA P (runA P G spec n) (codeD P G (runA P G spec n)) f args h

end Go.AM
namespace Go.AM
open Go

/-! ## The trie -/
theorem nbeq (a b : Nat) : Nat.beq a b = decide (a = b) := by
  cases h : Nat.beq a b
  · simp [Nat.ne_of_beq_eq_false h]
  · simp [Nat.eq_of_beq_eq_true h]

theorem land_one (i : Nat) : Nat.beq (Nat.land i 1) 1 = decide (i % 2 = 1) := by
  rw [nbeq]
  have : Nat.land i 1 = i % 2 := Nat.and_one_is_mod i
  rw [this]

@[simp] theorem Tr.get_nil {α : Type} (i : Nat) : (Tr.nil : Tr α).get i = none := rfl
theorem Tr.get_node {α : Type} (v : Option α) (l r : Tr α) (i : Nat) : (Tr.node v l r).get i = if i = 0 then v else if i % 2 = 1 then l.get (i / 2) else r.get (i / 2 - 1) := by
  show cond (Nat.beq i 0) v (cond (Nat.beq (Nat.land i 1) 1) (l.get (Nat.div i 2)) (r.get (Nat.sub (Nat.div i 2) 1))) = _
  rw [land_one, nbeq]
  by_cases h0 : i = 0
  · simp [h0]
  · by_cases h1 : i % 2 = 1 <;> simp [h0, h1] <;> rfl
theorem Tr.one_succ {α : Type} (v : Option α) (f i : Nat) : Tr.one v (f + 1) i = if i = 0 then Tr.node v .nil .nil else if i % 2 = 1 then .node none (Tr.one v f (i / 2)) .nil else .node none .nil (Tr.one v f (i / 2 - 1)) := by
  show cond (Nat.beq i 0) _ (cond (Nat.beq (Nat.land i 1) 1) (Tr.node none (Tr.one v f (Nat.div i 2)) .nil) (Tr.node none .nil (Tr.one v f (Nat.sub (Nat.div i 2) 1)))) = _
  rw [land_one, nbeq]
  by_cases h0 : i = 0
  · simp [h0]
  · by_cases h1 : i % 2 = 1 <;> simp [h0, h1] <;> rfl
theorem Tr.set_node {α : Type} (v u : Option α) (f : Nat) (l r : Tr α) (i : Nat) : Tr.set v f (.node u l r) i = if i = 0 then .node v l r else if i % 2 = 1 then .node u (Tr.set v f l (i / 2)) r else .node u l (Tr.set v f r (i / 2 - 1)) := by
  show cond (Nat.beq i 0) _ (cond (Nat.beq (Nat.land i 1) 1) (Tr.node u (Tr.set v f l (Nat.div i 2)) r) (Tr.node u l (Tr.set v f r (Nat.sub (Nat.div i 2) 1)))) = _
  rw [land_one, nbeq]
  by_cases h0 : i = 0
  · simp [h0]
  · by_cases h1 : i % 2 = 1 <;> simp [h0, h1] <;> rfl
theorem Tr.set_nil {α : Type} (v : Option α) (f i : Nat) : Tr.set v f (.nil : Tr α) i = Tr.one v f i := rfl

theorem Tr.get_one {α : Type} (v : Option α) : ∀ (f i j : Nat), i < f → (Tr.one v f i).get j = if i = j then v else none := by
  intro f
  induction f with
  | zero => intro i j h; omega
  | succ f ih =>
    intro i j h
    rw [Tr.one_succ]
    by_cases h0 : i = 0
    · subst h0
      rw [if_pos rfl, Tr.get_node]
      by_cases hj : j = 0
      · simp [hj]
      · simp [hj, Ne.symm hj]
    · rw [if_neg h0]
      by_cases h1 : i % 2 = 1
      · rw [if_pos h1, Tr.get_node, ih (i / 2) (j / 2) (by omega)]
        by_cases hj : j = 0
        · subst hj; rw [if_pos rfl, if_neg h0]
        · rw [if_neg hj]
          by_cases hj1 : j % 2 = 1
          · rw [if_pos hj1]
            have e : (i / 2 = j / 2) = (i = j) := propext ⟨fun _ => by omega, fun e => by rw [e]⟩
            simp only [e]
          · rw [if_neg hj1, Tr.get_nil, if_neg (fun e => by rw [e] at h1; exact hj1 h1)]
      · rw [if_neg h1, Tr.get_node, ih (i / 2 - 1) (j / 2 - 1) (by omega)]
        by_cases hj : j = 0
        · subst hj; rw [if_pos rfl, if_neg h0]
        · rw [if_neg hj]
          by_cases hj1 : j % 2 = 1
          · rw [if_pos hj1, Tr.get_nil, if_neg (fun e => by rw [e] at h1; exact h1 hj1)]
          · rw [if_neg hj1]
            have e : (i / 2 - 1 = j / 2 - 1) = (i = j) := propext ⟨fun _ => by omega, fun e => by rw [e]⟩
            simp only [e]

theorem Tr.get_set {α : Type} (v : Option α) (f : Nat) : ∀ (t : Tr α) (i j : Nat), i < f → (Tr.set v f t i).get j = if i = j then v else t.get j := by
  intro t
  induction t with
  | nil => intro i j h; rw [Tr.set_nil, Tr.get_one v f i j h, Tr.get_nil]
  | node u l r il ir =>
    intro i j h
    rw [Tr.set_node]
    by_cases h0 : i = 0
    · subst h0
      rw [if_pos rfl, Tr.get_node, Tr.get_node]
      by_cases hj : j = 0
      · simp [hj]
      · simp [hj, Ne.symm hj]
    · rw [if_neg h0]
      by_cases h1 : i % 2 = 1
      · rw [if_pos h1, Tr.get_node, Tr.get_node, il (i / 2) (j / 2) (by omega)]
        by_cases hj : j = 0
        · subst hj; rw [if_pos rfl, if_neg h0, if_pos rfl]
        · rw [if_neg hj, if_neg hj]
          by_cases hj1 : j % 2 = 1
          · rw [if_pos hj1, if_pos hj1]
            have e : (i / 2 = j / 2) = (i = j) := propext ⟨fun _ => by omega, fun e => by rw [e]⟩
            simp only [e]
          · rw [if_neg hj1, if_neg hj1, if_neg (fun e => by rw [e] at h1; exact hj1 h1)]
      · rw [if_neg h1, Tr.get_node, Tr.get_node, ir (i / 2 - 1) (j / 2 - 1) (by omega)]
        by_cases hj : j = 0
        · subst hj; rw [if_pos rfl, if_neg h0, if_pos rfl]
        · rw [if_neg hj, if_neg hj]
          by_cases hj1 : j % 2 = 1
          · rw [if_pos hj1, if_pos hj1, if_neg (fun e => by rw [e] at h1; exact h1 hj1)]
          · rw [if_neg hj1, if_neg hj1]
            have e : (i / 2 - 1 = j / 2 - 1) = (i = j) := propext ⟨fun _ => by omega, fun e => by rw [e]⟩
            simp only [e]

/-! ## What an abstract value says of a value -/
structure Env where
  R : Rho
  mu : Nat → Nat × Nat
  dom : Nat → Prop
  res : Nat → Prop
  E : Nat → Option Obj
  F : Nat → Option Obj
  io : Os × Array (Nat × ByteArray)
/-- What the system is, and what was written. -/
def ioOf (w : World) : Os × Array (Nat × ByteArray) := (w.os, w.output)

def Env.ecell (m : Env) (b o : Nat) : Option Value :=
  match m.E b with
  | some (.cells c _ _) => c[o]?
  | _ => none

mutual
/-- What data is, in memory that nobody writes. -/
def Rep (m : Env) : Ty → DV → Value → Prop
  | .int k, d, v => ∃ z, d = .int k z ∧ v = .int k z ∧ k.min ≤ z ∧ z ≤ k.max
  | .bool, d, v => ∃ b, d = .bool b ∧ v = .bool b
  | .str, d, v => ∃ s, d = .str s ∧ v = .string s ∧ s.size ≤ maxLen
  | .slice cs, d, v => ∃ es a c, d = .list es ∧ v = .slice a es.length c ∧ es.length ≤ c ∧ es.length ≤ maxLen ∧ (a = none → c = 0) ∧
      (c = 0 ∨ ∃ b o, a = some ⟨b, o, none⟩ ∧ ∀ i row, es[i]? = some row → RepL m cs row b (o + i * cs.length))
def RepL (m : Env) : List Ty → List DV → Nat → Nat → Prop
  | [], ds, _, _ => ds = []
  | t :: ts, ds, b, o => ∃ d rest v, ds = d :: rest ∧ m.ecell b o = some v ∧ Rep m t d v ∧ RepL m ts rest b (o + 1)
end

/-- What a handle is. -/
def hndV : Nat → Nat → Value
  | 0, b => .map (some b)
  | 2, b => .map (some b)
  | _, b => .func (.yield b) #[] #[]

mutual
def V (m : Env) : AV → Value → Prop
  | .sc u, v => v = u
  | .agg cs, v => ∃ vs : Array Value, v = .agg vs ∧ VL m cs vs.toList
  | .tup cs, v => ∃ vs : Array Value, v = .tuple vs ∧ VL m cs vs.toList
  | .ifc t x, v => ∃ u, v = .iface t u ∧ V m x u
  | .clo fn as cs, v => ∃ us ws : Array Value, v = .func fn us ws ∧ VL m as us.toList ∧ VL m cs ws.toList
  | .ptr id off, v => m.dom id ∧ v = .pointer (some ⟨(m.mu id).1, off, none⟩)
  | .sl id off len cap, v => m.dom id ∧ ∃ c, v = .slice (some ⟨(m.mu id).1, off, none⟩) len c ∧ len ≤ c ∧ (∀ k, cap = some k → c = k) ∧ (cap = none → off = 0 → c = (m.mu id).2)
  | .emp k, v => ∃ a c, v = .slice a 0 c ∧ (k = 0 → c = 0) ∧ (a = none → c = 0)
  | .fp cs, v => ∃ b o, v = .pointer (some ⟨b, o, none⟩) ∧ VC m b o cs
  | .fsl sz ex es, v => ∃ a c, v = .slice a es.length c ∧ es.length ≤ c ∧ (ex = true → c = es.length) ∧ (a = none → c = 0) ∧ (c = 0 ∨ ∃ b o, a = some ⟨b, o, none⟩ ∧ VR m b sz o es)
  | .sy t e, v => Rep m t (den m.R e) v
  | .dead, _ => True
  | .hnd k id, v => (m.dom id ∧ (k = 2 → (m.mu id).2 = maxLen + 1)) ∧ v = hndV k (m.mu id).1
  | .own id ts e, v => m.dom id ∧ ∃ l a, den m.R e = .list l ∧ v = .slice a l.length (m.mu id).2 ∧ l.length ≤ (m.mu id).2 ∧ (m.mu id).2 ≤ maxLen ∧ (a = none → (m.mu id).2 = 0) ∧ ((m.mu id).2 ≠ 0 → a = some ⟨(m.mu id).1, 0, none⟩)
  | .oe id ts e i c, v => ∃ b o, v = .pointer (some ⟨b, o, none⟩) ∧ m.dom id ∧ (m.mu id).2 ≤ maxLen ∧ b = (m.mu id).1 ∧ ∃ l k z, den m.R e = .list l ∧ den m.R i = .int k z ∧ 0 ≤ z ∧ z.toNat < l.length ∧ l.length ≤ (m.mu id).2 ∧ o = z.toNat * ts.length + c
def VL (m : Env) : List AV → List Value → Prop
  | [], vs => vs = []
  | c :: cs, vs => ∃ v us, vs = v :: us ∧ V m c v ∧ VL m cs us
def VC (m : Env) (b : Nat) : Nat → List AV → Prop
  | _, [] => True
  | o, c :: cs => (∃ v, m.ecell b o = some v ∧ V m c v) ∧ VC m b (o + 1) cs
def VR (m : Env) (b sz : Nat) : Nat → List (List AV) → Prop
  | _, [] => True
  | o, e :: es => e.length = sz ∧ VC m b o e ∧ VR m b sz (o + sz) es
end

theorem Rep.kind {m : Env} {t : Ty} {d : DV} {v : Value} (h : Rep m t d v) : (∃ k z, v = .int k z) ∨ (∃ b, v = .bool b) ∨ (∃ s, v = .string s) ∨ ∃ a n c, v = .slice a n c := by
  cases t with
  | int k => simp only [Rep] at h; obtain ⟨z, _, e, _⟩ := h; exact .inl ⟨_, _, e⟩
  | bool => simp only [Rep] at h; obtain ⟨b, _, e⟩ := h; exact .inr (.inl ⟨_, e⟩)
  | str => simp only [Rep] at h; obtain ⟨s, _, e, _⟩ := h; exact .inr (.inr (.inl ⟨_, e⟩))
  | slice cs => simp only [Rep] at h; obtain ⟨es, a, c, _, e, _⟩ := h; exact .inr (.inr (.inr ⟨_, _, _, e⟩))

/-- What values see of it. -/
structure Env.wle (m m' : Env) : Prop where
  dom : ∀ id, m.dom id → m'.dom id
  mu : ∀ id, m.dom id → m'.mu id = m.mu id
  E : ∀ b o, m.E b = some o → m'.E b = some o
  R : m'.R = m.R
  io : m'.io = m.io

structure Env.le (m m' : Env) : Prop extends Env.wle m m' where
  F : ∀ b o, m.F b = some o → m'.F b = some o
  res : ∀ id, m.res id → m'.res id

theorem Env.le.refl (m : Env) : m.le m := ⟨⟨fun _ h => h, fun _ _ => rfl, fun _ _ h => h, rfl, rfl⟩, fun _ _ h => h, fun _ h => h⟩
theorem Env.le.trans {a b c : Env} (h : a.le b) (k : b.le c) : a.le c :=
  ⟨⟨fun id hi => k.dom id (h.dom id hi), fun id hi => (k.mu id (h.dom id hi)).trans (h.mu id hi), fun x o hx => k.E x o (h.E x o hx), k.R.trans h.R, k.io.trans h.io⟩, fun x o hx => k.F x o (h.F x o hx), fun id hi => k.res id (h.res id hi)⟩
theorem Env.wle.trans {a b c : Env} (h : a.wle b) (k : b.wle c) : a.wle c :=
  ⟨fun id hi => k.dom id (h.dom id hi), fun id hi => (k.mu id (h.dom id hi)).trans (h.mu id hi), fun x o hx => k.E x o (h.E x o hx), k.R.trans h.R, k.io.trans h.io⟩

theorem Env.wle.ecell {m m' : Env} (h : m.wle m') {b o : Nat} {v : Value} (hv : m.ecell b o = some v) : m'.ecell b o = some v := by
  unfold Env.ecell at *
  cases he : m.E b with
  | none => simp [he] at hv
  | some x => rw [h.E b x he]; simpa [he] using hv

mutual
theorem Rep.wmono {m m' : Env} (h : m.wle m') : ∀ (t : Ty) (d : DV) (v : Value), Rep m t d v → Rep m' t d v
  | .int k, d, v, hv => by simpa only [Rep] using hv
  | .bool, d, v, hv => by simpa only [Rep] using hv
  | .str, d, v, hv => by simpa only [Rep] using hv
  | .slice cs, d, v, hv => by
    simp only [Rep] at *
    obtain ⟨es, a, c, h1, h2, h3, h4, h5, h6⟩ := hv
    refine ⟨es, a, c, h1, h2, h3, h4, h5, ?_⟩
    rcases h6 with h6 | ⟨b, o, e, h7⟩
    · exact .inl h6
    · exact .inr ⟨b, o, e, fun i row hi => RepL.wmono h cs row b _ (h7 i row hi)⟩
theorem RepL.wmono {m m' : Env} (h : m.wle m') : ∀ (ts : List Ty) (ds : List DV) (b o : Nat), RepL m ts ds b o → RepL m' ts ds b o
  | [], ds, b, o, hv => by simpa only [RepL] using hv
  | t :: ts, ds, b, o, hv => by
    simp only [RepL] at *
    obtain ⟨d, rest, v, h1, h2, h3, h4⟩ := hv
    exact ⟨d, rest, v, h1, h.ecell h2, Rep.wmono h t d v h3, RepL.wmono h ts rest b (o + 1) h4⟩
end

mutual
theorem V.wmono {m m' : Env} (h : m.wle m') : ∀ (a : AV) (v : Value), V m a v → V m' a v
  | .sc u, v, hv => by simpa [V] using hv
  | .agg cs, v, hv => by
    simp only [V] at *; obtain ⟨vs, e, hl⟩ := hv; exact ⟨vs, e, VL.wmono h cs _ hl⟩
  | .tup cs, v, hv => by
    simp only [V] at *; obtain ⟨vs, e, hl⟩ := hv; exact ⟨vs, e, VL.wmono h cs _ hl⟩
  | .ifc t x, v, hv => by
    simp only [V] at *; obtain ⟨u, e, hl⟩ := hv; exact ⟨u, e, V.wmono h x _ hl⟩
  | .clo fn as cs, v, hv => by
    simp only [V] at *; obtain ⟨us, ws, e, h1, h2⟩ := hv; exact ⟨us, ws, e, VL.wmono h as _ h1, VL.wmono h cs _ h2⟩
  | .ptr id off, v, hv => by
    simp only [V] at *; rw [h.mu id hv.1]; exact ⟨h.dom id hv.1, hv.2⟩
  | .sl id off len cap, v, hv => by
    simp only [V] at *; rw [h.mu id hv.1]; exact ⟨h.dom id hv.1, hv.2⟩
  | .emp k, v, hv => by simpa only [V] using hv
  | .fp cs, v, hv => by
    simp only [V] at *; obtain ⟨b, o, e, hl⟩ := hv; exact ⟨b, o, e, VC.wmono h b o cs hl⟩
  | .fsl sz ex es, v, hv => by
    simp only [V] at *; obtain ⟨a, c, e, h1, h2, h3, h4⟩ := hv
    refine ⟨a, c, e, h1, h2, h3, ?_⟩
    rcases h4 with h4 | ⟨b, o, e, hr⟩
    · exact .inl h4
    · exact .inr ⟨b, o, e, VR.wmono h b sz o es hr⟩
  | .sy t e, v, hv => by simp only [V] at *; rw [h.R]; exact Rep.wmono h t _ v hv
  | .dead, v, hv => by simp [V]
  | .hnd k id, v, hv => by
    simp only [V] at *; rw [h.mu id hv.1.1]; exact ⟨⟨h.dom id hv.1.1, hv.1.2⟩, hv.2⟩
  | .own id ts e, v, hv => by
    simp only [V] at *; rw [h.mu id hv.1, h.R]; exact ⟨h.dom id hv.1, hv.2⟩
  | .oe id ts e i c, v, hv => by
    simp only [V] at *; obtain ⟨b, o, h1, h2, h3⟩ := hv; rw [h.mu id h2, h.R]; exact ⟨b, o, h1, h.dom id h2, h3⟩
theorem VL.wmono {m m' : Env} (h : m.wle m') : ∀ (cs : List AV) (vs : List Value), VL m cs vs → VL m' cs vs
  | [], vs, hv => by simpa [VL] using hv
  | c :: cs, vs, hv => by
    simp only [VL] at *; obtain ⟨v, us, e, h1, h2⟩ := hv; exact ⟨v, us, e, V.wmono h c v h1, VL.wmono h cs us h2⟩
theorem VC.wmono {m m' : Env} (h : m.wle m') (b : Nat) : ∀ (o : Nat) (cs : List AV), VC m b o cs → VC m' b o cs
  | o, [], hv => by simp [VC]
  | o, c :: cs, hv => by
    simp only [VC] at *; obtain ⟨⟨v, h1, h2⟩, h3⟩ := hv; exact ⟨⟨v, h.ecell h1, V.wmono h c v h2⟩, VC.wmono h b (o + 1) cs h3⟩
theorem VR.wmono {m m' : Env} (h : m.wle m') (b sz : Nat) : ∀ (o : Nat) (es : List (List AV)), VR m b sz o es → VR m' b sz o es
  | o, [], hv => by simp [VR]
  | o, e :: es, hv => by
    simp only [VR] at *; exact ⟨hv.1, VC.wmono h b o e hv.2.1, VR.wmono h b sz (o + sz) es hv.2.2⟩
end
theorem V.mono {m m' : Env} (h : m.le m') (a : AV) (v : Value) (hv : V m a v) : V m' a v := V.wmono h.towle a v hv
theorem VL.mono {m m' : Env} (h : m.le m') (cs : List AV) (vs : List Value) (hv : VL m cs vs) : VL m' cs vs := VL.wmono h.towle cs vs hv
theorem VC.mono {m m' : Env} (h : m.le m') (b : Nat) (o : Nat) (cs : List AV) (hv : VC m b o cs) : VC m' b o cs := VC.wmono h.towle b o cs hv
theorem VR.mono {m m' : Env} (h : m.le m') (b sz : Nat) (o : Nat) (es : List (List AV)) (hv : VR m b sz o es) : VR m' b sz o es := VR.wmono h.towle b sz o es hv
/-! ## The heap -/
theorem Tr.get_put {α : Type} (t : Tr α) (i j : Nat) (v : α) : (t.put i v).get j = if i = j then some v else t.get j := by
  unfold Tr.put
  exact Tr.get_set _ _ _ _ _ (Nat.lt_succ_self _)
theorem Tr.get_cut {α : Type} (t : Tr α) (i j : Nat) : (t.cut i).get j = if i = j then none else t.get j := by
  unfold Tr.cut
  exact Tr.get_set _ _ _ _ _ (Nat.lt_succ_self _)

theorem putAll_nil (c : Tr AV) (off : Nat) : Blk.putAll c off [] = c := rfl
theorem putAll_cons (c : Tr AV) (off : Nat) (v : AV) (vs : List AV) : Blk.putAll c off (v :: vs) = Blk.putAll (c.put off v) (off + 1) vs := rfl
theorem cellsFrom_zero (b : Blk) (off : Nat) : b.cellsFrom off 0 = [] := rfl
theorem cellsFrom_succ (b : Blk) (off n : Nat) : b.cellsFrom off (n + 1) = b.cell off :: b.cellsFrom (off + 1) n := rfl

theorem get_putAll : ∀ (vs : List AV) (c : Tr AV) (off j : Nat), (Blk.putAll c off vs).get j = if off ≤ j ∧ j < off + vs.length then vs[j - off]? else c.get j
  | [], c, off, j => by
    have : ¬ (off ≤ j ∧ j < off + ([] : List AV).length) := by simp
    rw [putAll_nil, if_neg this]
  | v :: vs, c, off, j => by
    rw [putAll_cons, get_putAll vs, Tr.get_put]
    by_cases h : off = j
    · subst h
      have h1 : ¬ (off + 1 ≤ off ∧ off < off + 1 + vs.length) := by omega
      simp [h1]
    · by_cases h2 : off + 1 ≤ j ∧ j < off + 1 + vs.length
      · have h3 : off ≤ j ∧ j < off + (v :: vs).length := by simp; omega
        rw [if_pos h2, if_pos h3]
        obtain ⟨k, hk⟩ : ∃ k, j - off = k + 1 := ⟨j - off - 1, by omega⟩
        rw [hk, List.getElem?_cons_succ]
        congr 1
        omega
      · have h3 : ¬ (off ≤ j ∧ j < off + (v :: vs).length) := by simp; omega
        rw [if_neg h2, if_neg h3, if_neg h]

theorem cell_putAll (b : Blk) (vs : List AV) (off i : Nat) : ({ b with c := Blk.putAll b.c off vs } : Blk).cell i = if off ≤ i ∧ i < off + vs.length then (vs[i - off]?).getD .dead else b.cell i := by
  unfold Blk.cell
  simp only [get_putAll]
  by_cases h : off ≤ i ∧ i < off + vs.length
  · rw [if_pos h, if_pos h]
    have : i - off < vs.length := by omega
    simp [this]
  · rw [if_neg h, if_neg h]

theorem length_cellsFrom (b : Blk) : ∀ (n off : Nat), (b.cellsFrom off n).length = n
  | 0, _ => rfl
  | n + 1, off => by simp [cellsFrom_succ, length_cellsFrom b n]

theorem getElem?_cellsFrom (b : Blk) : ∀ (n off j : Nat), j < n → (b.cellsFrom off n)[j]? = some (b.cell (off + j))
  | n + 1, off, 0, _ => by simp [cellsFrom_succ]
  | n + 1, off, j + 1, h => by
    rw [cellsFrom_succ, List.getElem?_cons_succ, getElem?_cellsFrom b n (off + 1) j (by omega)]
    congr 2
    omega

def BR (m : Env) (p : Nat × Nat) (b : Blk) (w : World) : Prop :=
  ∃ c : Array Value, w.heap[p.1]? = some (.cells c b.t (0, 0)) ∧ b.n ≤ c.size ∧ (∀ i, i < b.n → ∃ v, c[i]? = some v ∧ V m (b.cell i) v) ∧
    (b.row = true → p.2 * b.sz ≤ c.size ∧ p.2 ≤ maxLen ∧ b.n ≤ p.2 * b.sz)

def lstOf : Nat → LoopState
  | 0 => .ready
  | 1 => .busy
  | 2 => .done
  | _ => .exhausted
def pendOf : Ex → Option Code
  | .normal => none
  | .exit id => some (.exit id)
  | .ret => some .ret
  | .goto l => some (.goto l)

/-- Plain data as values. -/
def dvOf : Ty → DV → Option Value
  | .int k, .int l z => if k = l ∧ k.min ≤ z ∧ z ≤ k.max then some (.int k z) else none
  | .bool, .bool b => some (.bool b)
  | .str, .str s => if s.size ≤ maxLen then some (.string s) else none
  | _, _ => none
def rowVs : List Ty → List DV → Option (List Value)
  | [], [] => some []
  | t :: ts, d :: ds => match dvOf t d, rowVs ts ds with
    | some v, some vs => some (v :: vs)
    | _, _ => none
  | _, _ => none
/-- A row as a map's key. -/
def KeyV (b : Nat) (ts : List Ty) (row : List DV) (x : Value) : Prop :=
  ∃ vs, rowVs ts row = some vs ∧ ((b = 0 ∧ vs = [x]) ∨ (b ≠ 0 ∧ x = .agg vs.toArray))
/-- Rows as a map's entries: each holds true. -/
def KeysOK (b : Nat) (ts : List Ty) : List (List DV) → List MapEntry → Prop
  | [], [] => True
  | r :: l, x :: c => (KeyV b ts r x.key ∧ x.val = .bool true) ∧ KeysOK b ts l c
  | _, _ => False
/-- A map whose keys are known by name: each holds true. -/
def MR (m : Env) (p : Nat × Nat) (b : Nat) (ts : List Ty) (e : SX) (w : World) : Prop :=
  p.2 = maxLen + 1 ∧ ∃ l c clock, den m.R e = .list l ∧ l.length ≤ maxLen ∧ w.heap[p.1]? = some (.map c clock) ∧ KeysOK b ts l c.toList
theorem MR.move {m m' : Env} {p : Nat × Nat} {b : Nat} {ts : List Ty} {e e' : SX} {w w' : World} (h : MR m p b ts e w) (hd : den m'.R e' = den m.R e) (hw : w'.heap[p.1]? = w.heap[p.1]?) : MR m' p b ts e' w' := by
  obtain ⟨h1, l, c, k, h2, h0, h3, h4⟩ := h
  exact ⟨h1, l, c, k, hd.trans h2, h0, hw.trans h3, h4⟩
theorem MR.lt {m : Env} {p : Nat × Nat} {b : Nat} {ts : List Ty} {e : SX} {w : World} (h : MR m p b ts e w) : p.1 < w.heap.size := by
  obtain ⟨_, l, c, k, _, _, h3, _⟩ := h
  exact (Array.getElem?_eq_some_iff.1 h3).1

/-- A row that grows: without room there is none; or a map. -/
def GR (m : Env) (p : Nat × Nat) (t : TypeId) (ts : List Ty) (e : SX) (w : World) : Prop :=
  p.2 = 0 ∨ (∃ l, den m.R e = .list l ∧ (∀ row ∈ l, row.length = ts.length) ∧ l.length ≤ p.2 ∧ 1 ≤ ts.length ∧ BR m p (growB t ts e l.length) w) ∨ MR m p t ts e w

theorem GR.own {m : Env} {p : Nat × Nat} {t : TypeId} {ts : List Ty} {e : SX} {w : World} (h : GR m p t ts e w) (hc : p.2 ≤ maxLen) :
    p.2 = 0 ∨ ∃ l, den m.R e = .list l ∧ (∀ row ∈ l, row.length = ts.length) ∧ l.length ≤ p.2 ∧ 1 ≤ ts.length ∧ BR m p (growB t ts e l.length) w := by
  rcases h with h | h | h
  · exact .inl h
  · exact .inr h
  · have := h.1
    omega
/-- Objects that have a block. -/
def live : AObj → Nat × Nat → Prop
  | .grow .., p => p.2 ≠ 0
  | _, _ => True

def OR (m : Env) (p : Nat × Nat) : AObj → World → Prop
  | .grow t ts e, w => GR m p t ts e w
  | .blk b, w => BR m p b w
  | .iter s pos, w => w.heap[p.1]? = some (.stringIter s pos)
  | .map es, w => ∃ c clock, w.heap[p.1]? = some (.map c clock) ∧ c.toList.map (fun e => (e.key, e.val)) = es.map fun e => (Value.string e.1, e.2)
  | .box b, w => w.heap[p.1]? = some (.deferred (if b then some [] else none))
  | .loop st pend tm n ps asg body, w => ∃ (fn : FuncId) (d : Nat) (tmps : Array Value), w.heap[p.1]? = some (.loop { state := lstOf st, pending := pendOf pend, fn, tmps, params := ps, assign := asg, body, defers := d }) ∧
      tmps.size = n ∧ ∀ t, V m ((tm.get t).getD (.sc undef)) (tmps.getD t undef)

structure HR (m : Env) (h : AHeap) (w : World) : Prop where
  next : ∀ id, m.dom id → id ≠ h.next ∧ id < h.lim
  lim : h.next < h.lim
  res : ∀ id, m.res id → ¬ m.dom id ∧ id ≠ h.next ∧ id < h.lim
  EF : ∀ b x, m.F b = some x → m.E b = none
  E : ∀ b o, m.E b = some o → w.heap[b]? = some o
  F : ∀ b o, m.F b = some o → w.heap[b]? = some o
  objL : ∀ id o, h.t.get id = some o → m.dom id ∧ (live o (m.mu id) → m.E (m.mu id).1 = none ∧ m.F (m.mu id).1 = none) ∧ OR m (m.mu id) o w
  injL : ∀ i j x y, h.t.get i = some x → h.t.get j = some y → live x (m.mu i) → live y (m.mu j) → (m.mu i).1 = (m.mu j).1 → i = j
  io : ioOf w = m.io

theorem HR.obj {m : Env} {h : AHeap} {w : World} (hr : HR m h w) (id : Nat) (o : AObj) (e : h.t.get id = some o) (hl : live o (m.mu id) := by exact True.intro) : m.dom id ∧ (m.E (m.mu id).1 = none ∧ m.F (m.mu id).1 = none) ∧ OR m (m.mu id) o w :=
  ⟨(hr.objL id o e).1, (hr.objL id o e).2.1 hl, (hr.objL id o e).2.2⟩

theorem BR.wmove {m m' : Env} {p : Nat × Nat} {b : Blk} {w w' : World} (hm : m.wle m') (hw : w'.heap[p.1]? = w.heap[p.1]?) (h : BR m p b w) : BR m' p b w' := by
  obtain ⟨c, h1, h2, h3, h4⟩ := h
  exact ⟨c, hw.trans h1, h2, fun i hi => let ⟨v, a, b⟩ := h3 i hi; ⟨v, a, V.wmono hm _ _ b⟩, h4⟩
theorem OR.wmove {m m' : Env} {p : Nat × Nat} {o : AObj} {w w' : World} (hm : m.wle m') (hw : live o p → w'.heap[p.1]? = w.heap[p.1]?) (h : OR m p o w) : OR m' p o w' := by
  cases o with
  | grow t ts e =>
    rcases h with h | ⟨l, h1, h2, h3, h4, h5⟩ | h
    · exact .inl h
    · by_cases h0 : p.2 = 0
      · exact .inl h0
      · exact .inr (.inl ⟨l, by rw [hm.R]; exact h1, h2, h3, h4, BR.wmove hm (hw h0) h5⟩)
    · exact .inr (.inr (h.move (by rw [hm.R]) (hw (by have := h.1; show p.2 ≠ 0; omega))))
  | _ =>
  have hw : w'.heap[p.1]? = w.heap[p.1]? := hw trivial
  first
  | exact BR.wmove hm hw h
  | exact hw.trans h
  | (obtain ⟨c, k, h1, h2⟩ := h; exact ⟨c, k, hw.trans h1, h2⟩)
  | (obtain ⟨fn, d, ts, h1, h2, h3⟩ := h; exact ⟨fn, d, ts, hw.trans h1, h2, fun t => V.wmono hm _ _ (h3 t)⟩)
theorem OR.wmove' {m m' : Env} {p : Nat × Nat} {o : AObj} {w w' : World} (hm : m.wle m') (hw : w'.heap[p.1]? = w.heap[p.1]?) (h : OR m p o w) : OR m' p o w' := h.wmove hm fun _ => hw
/-
  | iter s pos => exact hw.trans h
  | map es => obtain ⟨c, k, h1, h2⟩ := h; exact ⟨c, k, hw.trans h1, h2⟩
  | box b => exact hw.trans h
  | loop st pend tm n ps asg body => obtain ⟨fn, d, ts, h1, h2, h3⟩ := h; exact ⟨fn, d, ts, hw.trans h1, h2, fun t => V.wmono hm _ _ (h3 t)⟩
-/
theorem BR.move {m m' : Env} {p : Nat × Nat} {b : Blk} {w w' : World} (hm : m.le m') (hw : w'.heap[p.1]? = w.heap[p.1]?) (h : BR m p b w) : BR m' p b w' := h.wmove hm.towle hw
theorem OR.move {m m' : Env} {p : Nat × Nat} {o : AObj} {w w' : World} (hm : m.le m') (hw : live o p → w'.heap[p.1]? = w.heap[p.1]?) (h : OR m p o w) : OR m' p o w' := h.wmove hm.towle hw

theorem BR.lt {m : Env} {p : Nat × Nat} {b : Blk} {w : World} (h : BR m p b w) : p.1 < w.heap.size := by
  obtain ⟨c, h1, _⟩ := h; exact (Array.getElem?_eq_some_iff.1 h1).1
theorem OR.lt {m : Env} {p : Nat × Nat} {o : AObj} {w : World} (h : OR m p o w) (hl : live o p) : p.1 < w.heap.size := by
  cases o with
  | grow t ts e =>
    rcases h with h | ⟨l, h1, h2, h3, h4, h5⟩ | h
    · exact absurd h hl
    · exact h5.lt
    · exact h.lt
  | blk b => exact BR.lt h
  | iter s pos => exact (Array.getElem?_eq_some_iff.1 (show w.heap[p.1]? = _ from h)).1
  | map es => obtain ⟨c, k, h1, _⟩ := h; exact (Array.getElem?_eq_some_iff.1 h1).1
  | box b => exact (Array.getElem?_eq_some_iff.1 (show w.heap[p.1]? = _ from h)).1
  | loop st pend tm n ps asg body => obtain ⟨fn, d, ts, h1, _⟩ := h; exact (Array.getElem?_eq_some_iff.1 h1).1

/-- The environment with one block more. -/
def Env.add (m : Env) (id : Nat) (p : Nat × Nat) : Env := { m with mu := fun i => if i = id then p else m.mu i, dom := fun i => m.dom i ∨ i = id }
theorem Env.le_add {m : Env} {id : Nat} (hid : ¬ m.dom id) (p : Nat × Nat) : m.le (m.add id p) :=
  ⟨⟨fun _ h => .inl h, fun i h => by
    have : i ≠ id := fun e => hid (e ▸ h)
    simp [Env.add, this], fun _ _ h => h, rfl, rfl⟩, fun _ _ h => h, fun _ h => h⟩
@[simp] theorem Env.add_mu (m : Env) (id : Nat) (p : Nat × Nat) : (m.add id p).mu id = p := by simp [Env.add]
@[simp] theorem Env.add_E (m : Env) (id : Nat) (p : Nat × Nat) : (m.add id p).E = m.E := rfl
@[simp] theorem Env.add_F (m : Env) (id : Nat) (p : Nat × Nat) : (m.add id p).F = m.F := rfl
@[simp] theorem Env.add_dom (m : Env) (id : Nat) (p : Nat × Nat) : (m.add id p).dom id := .inr rfl
theorem HR.nodom {m : Env} {h : AHeap} {w : World} (hr : HR m h w) : ¬ m.dom h.next := fun e => (hr.next _ e).1 rfl
theorem HR.le_add {m : Env} {h : AHeap} {w : World} (hr : HR m h w) (p : Nat × Nat) : m.le (m.add h.next p) := m.le_add hr.nodom p

theorem HR.fresh {m : Env} {h : AHeap} {w : World} (hr : HR m h w) : m.E w.heap.size = none := by
  cases he : m.E w.heap.size with
  | none => rfl
  | some o => have := hr.E _ _ he; simp at this

theorem HR.freshF {m : Env} {h : AHeap} {w : World} (hr : HR m h w) : m.F w.heap.size = none := by
  cases he : m.F w.heap.size with
  | none => rfl
  | some o => have := hr.F _ _ he; simp at this

/-- A new block, where an old one may be given up. -/
theorem HR.allocSub {m : Env} {h h' : AHeap} {w : World} (hr : HR m h w) (o : AObj) (x : Obj) (k : Nat) (hn : h'.next = h.lim) (hl : h'.lim = h.lim + 1)
    (hget : ∀ i y, h'.t.get i = some y → (i = h.next ∧ y = o) ∨ (i ≠ h.next ∧ h.t.get i = some y))
    (ho : OR (m.add h.next (w.heap.size, k)) (w.heap.size, k) o (w.alloc x)) : HR (m.add h.next (w.heap.size, k)) h' (w.alloc x) := by
  have hold : ∀ b, b < w.heap.size → (w.alloc x).heap[b]? = w.heap[b]? := fun b hb => heap_alloc_old w x b hb
  have hle := hr.le_add (w.heap.size, k)
  have hlim := hr.lim
  refine ⟨fun id hd => ?_, by omega, fun id hd => ?_, hr.EF, fun b y hb => ?_, fun b y hb => ?_, fun id y hy => ?_, fun i j a b ha hb li lj e => ?_, hr.io⟩
  · rcases hd with hd | rfl
    · have := hr.next id hd
      omega
    · omega
  · obtain ⟨h1, h2, h3⟩ := hr.res id hd
    refine ⟨?_, by omega, by omega⟩
    rintro (h4 | h4)
    · exact h1 h4
    · exact h2 h4
  · have := hr.E b y hb
    rw [hold b (Array.getElem?_eq_some_iff.1 this).1]; exact this
  · have := hr.F b y hb
    rw [hold b (Array.getElem?_eq_some_iff.1 this).1]; exact this
  · rcases hget id y hy with ⟨rfl, rfl⟩ | ⟨hne, hy⟩
    · exact ⟨by simp, fun _ => ⟨by simpa using hr.fresh, by simpa using hr.freshF⟩, by simpa using ho⟩
    · obtain ⟨h1, h2, h3⟩ := hr.objL id y hy
      have hmu : (m.add h.next (w.heap.size, k)).mu id = m.mu id := hle.mu id h1
      rw [hmu]
      exact ⟨hle.dom id h1, by simpa using h2, h3.move hle fun hl => hold _ (h3.lt hl)⟩
  · rcases hget i a ha with ⟨rfl, rfl⟩ | ⟨hi, ha⟩ <;> rcases hget j b hb with ⟨rfl, rfl⟩ | ⟨hj, hb⟩
    · rfl
    · obtain ⟨h1, h2, h3⟩ := hr.objL j b hb
      rw [hle.mu j h1] at e lj
      rw [Env.add_mu] at e
      have := h3.lt lj
      simp only at e
      omega
    · obtain ⟨h1, h2, h3⟩ := hr.objL i a ha
      rw [hle.mu i h1] at e li
      rw [Env.add_mu] at e
      have := h3.lt li
      simp only at e
      omega
    · have h1 := (hr.objL i a ha).1
      have h2 := (hr.objL j b hb).1
      rw [hle.mu i h1] at li e
      rw [hle.mu j h2] at lj e
      exact hr.injL i j a b ha hb li lj e

/-- A new block. -/
theorem HR.alloc {m : Env} {h : AHeap} {w : World} (hr : HR m h w) (o : AObj) (x : Obj) (k : Nat)
    (ho : OR (m.add h.next (w.heap.size, k)) (w.heap.size, k) o (w.alloc x)) : HR (m.add h.next (w.heap.size, k)) (h.alloc o) (w.alloc x) := by
  refine hr.allocSub o x k rfl rfl (fun i y hy => ?_) ho
  simp only [AHeap.alloc, Tr.get_put] at hy
  by_cases hi : h.next = i
  · simp only [hi, if_true, Option.some.injEq] at hy
    exact .inl ⟨hi.symm, hy.symm⟩
  · simp only [hi, if_false] at hy
    exact .inr ⟨Ne.symm hi, hy⟩

/-- Block id has become another one; nothing else has turned. -/
theorem HR.put {m : Env} {h : AHeap} {w w' : World} (hr : HR m h w) {id : Nat} {o o' : AObj} (hid : h.t.get id = some o)
    (ho : OR m (m.mu id) o' w') (hw : ∀ b, b ≠ (m.mu id).1 → w'.heap[b]? = w.heap[b]?) (hio : ioOf w' = ioOf w := by rfl) (hlv : live o (m.mu id) := by exact True.intro) : HR m (h.put id o') w' := by
  obtain ⟨g1, g2, g3⟩ := hr.obj id o hid hlv
  refine ⟨hr.next, hr.lim, hr.res, hr.EF, fun b y hb => ?_, fun b y hb => ?_, fun i y hy => ?_, fun i j a b ha hb li lj e => ?_, hio.trans hr.io⟩
  · rw [hw b (fun e => by rw [e, g2.1] at hb; cases hb)]; exact hr.E b y hb
  · rw [hw b (fun e => by rw [e, g2.2] at hb; cases hb)]; exact hr.F b y hb
  · simp only [AHeap.put, Tr.get_put] at hy
    by_cases hi : id = i
    · subst hi
      simp only [if_true, Option.some.injEq] at hy
      subst hy
      exact ⟨g1, fun _ => g2, ho⟩
    · simp only [hi, if_false] at hy
      obtain ⟨h1, h2, h3⟩ := hr.objL i y hy
      exact ⟨h1, h2, h3.move (Env.le.refl m) fun ly => hw _ fun e => hi (hr.injL id i o y hid hy hlv ly e.symm)⟩
  · simp only [AHeap.put, Tr.get_put] at ha hb
    have fa : ∃ x, h.t.get i = some x ∧ live x (m.mu i) := by
      by_cases hi : id = i
      · exact ⟨o, hi ▸ hid, hi ▸ hlv⟩
      · simp only [hi, if_false] at ha; exact ⟨a, ha, li⟩
    have fb : ∃ x, h.t.get j = some x ∧ live x (m.mu j) := by
      by_cases hi : id = j
      · exact ⟨o, hi ▸ hid, hi ▸ hlv⟩
      · simp only [hi, if_false] at hb; exact ⟨b, hb, lj⟩
    obtain ⟨x, fa, la⟩ := fa
    obtain ⟨y, fb, lb⟩ := fb
    exact hr.injL i j x y fa fb la lb e

/-- The world has more frozen blocks. -/
theorem HR.same {m : Env} {h : AHeap} {w w' : World} (hr : HR m h w) (hw : w'.heap = w.heap) (hio : ioOf w' = ioOf w := by rfl) : HR m h w' :=
  ⟨hr.next, hr.lim, hr.res, hr.EF, fun b o hb => hw ▸ hr.E b o hb, fun b o hb => hw ▸ hr.F b o hb, fun id o hid => let ⟨a, b, c⟩ := hr.objL id o hid; ⟨a, b, c.move (Env.le.refl m) (fun _ => by rw [hw])⟩, hr.injL, hio.trans hr.io⟩

/-- A new frozen block. -/
def Env.ice (m : Env) (b : Nat) (o : Obj) : Env := { m with E := fun k => if k = b then some o else m.E k }
theorem HR.ice {m : Env} {h : AHeap} {w w' : World} (hr : HR m h w) (x : Obj) (hold : ∀ b, b < w.heap.size → w'.heap[b]? = w.heap[b]?) (hnew : w'.heap[w.heap.size]? = some x) (hio : ioOf w' = ioOf w := by rfl) :
    m.le (m.ice w.heap.size x) ∧ HR (m.ice w.heap.size x) h w' := by
  have hle : m.le (m.ice w.heap.size x) := ⟨⟨fun _ h => h, fun _ _ => rfl, fun b o hb => by
    have : b ≠ w.heap.size := fun e => by rw [e, hr.fresh] at hb; cases hb
    simpa [Env.ice, this] using hb, rfl, rfl⟩, fun _ _ h => h, fun _ h => h⟩
  refine ⟨hle, hr.next, hr.lim, hr.res, fun b o hb => ?_, fun b o hb => ?_, fun b o hb => ?_, fun id o hid => ?_, hr.injL, hio.trans hr.io⟩
  · have hF := hr.F b o hb
    have : b ≠ w.heap.size := Nat.ne_of_lt (Array.getElem?_eq_some_iff.1 hF).1
    simpa [Env.ice, this] using hr.EF b o hb
  · by_cases e : b = w.heap.size
    · subst e
      simp only [Env.ice, if_true, Option.some.injEq] at hb
      subst hb
      exact hnew
    · simp only [Env.ice, e, if_false] at hb
      have := hr.E b o hb
      rw [hold b (Array.getElem?_eq_some_iff.1 this).1]; exact this
  · have := hr.F b o hb
    rw [hold b (Array.getElem?_eq_some_iff.1 this).1]; exact this
  · obtain ⟨h1, h2, h3⟩ := hr.objL id o hid
    refine ⟨h1, fun hl => ?_, h3.move hle fun hl => hold _ (h3.lt hl)⟩
    have : (m.mu id).1 ≠ w.heap.size := Nat.ne_of_lt (h3.lt hl)
    simpa [Env.ice, this] using h2 hl
end Go.AM
