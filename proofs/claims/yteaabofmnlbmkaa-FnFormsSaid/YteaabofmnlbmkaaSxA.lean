/- A symbolic executor for function bodies, proved sound: part 1 of 3. No condition. -/
import Derived.Tactics
import Derived.Below
import Derived.WalkKit
import Derived.Laws.Cells
import Derived.Laws.IdiomCopy
import Derived.Laws.Append
import Derived.Lib.AppendStr
set_option linter.all false
/- The symbolic executor: abstract values, the table of own rows, and the predicate transformers of operations and code. Definitions alone. -/
namespace Sx
open Go

/-- Abstract values. `sl`, `pim`: memory that is not written while the call runs, as a tree. `loc`, `part`, `prow`, `sub`, `psub`: references into the table of own rows. -/
inductive AV where
  | unk
  | tt
  | ff
  | prop (p : Prop) (d : Decidable p)
  | int (k : IntKind) (n : Int)
  | str (s : List UInt8)
  | nilsl
  | emp
  | sl (sz : Nat) (es : List AV)
  | pim (sz : Nat) (es : List AV) (j t : Nat)
  | loc (i : Nat)
  | part (i off len : Nat)
  | prow (i j t : Nat)
  | sub (i j : Nat)
  | psub (i j k t : Nat)
  | nilptr
  | nilfn
  | nilif
  | agg (cs : List AV)
  | fn (f : Fn) (first caps : List AV)
  | ifc (t : TypeId) (v : AV)
  | tuple (vs : List AV)

inductive Kind where
  | var | plain | nest

/-- An own row: a variable in memory (`var`, one element), the array behind a slice (`plain`; `nest`: its elements are slices that are own rows themselves). -/
inductive Ent where
  | dead
  | row (k : Kind) (sz : Nat) (es : List AV)

inductive Ex where
  | normal
  | exit (id : Nat)
  | goto (l : Nat)
  | ret

def pr (p : Prop) [d : Decidable p] : AV := .prop p d
def i64 (n : Int) : AV := .int .i64 n
def bv (b : Bool) : AV := .prop (b = true) (instDecidableEqBool b true)

/-! ### lists, by recursion that the unifier can run -/
def lget : List AV → Nat → (AV → Prop) → Prop
  | [], _, _ => False
  | x :: _, 0, k => k x
  | _ :: xs, n + 1, k => lget xs n k
def lset : List AV → Nat → AV → (List AV → Prop) → Prop
  | [], _, _, _ => False
  | _ :: xs, 0, v, k => k (v :: xs)
  | x :: xs, n + 1, v, k => lset xs n v fun ys => k (x :: ys)
def eget : List Ent → Nat → (Ent → Prop) → Prop
  | [], _, _ => False
  | x :: _, 0, k => k x
  | _ :: xs, n + 1, k => eget xs n k
def eset : List Ent → Nat → Ent → (List Ent → Prop) → Prop
  | [], _, _, _ => False
  | _ :: xs, 0, v, k => k (v :: xs)
  | x :: xs, n + 1, v, k => eset xs n v fun ys => k (x :: ys)
/-- Put an entry behind the table: its number, and the new table. -/
def snoc : List Ent → Ent → (Nat → List Ent → Prop) → Prop
  | [], e, k => k 0 [e]
  | x :: xs, e, k => snoc xs e fun n ys => k (n + 1) (x :: ys)
def nth {α : Type _} : List α → Nat → Option α
  | [], _ => none
  | x :: _, 0 => some x
  | _ :: xs, n + 1 => nth xs n
def idx : List Nat → Nat → Option Nat
  | [], _ => none
  | x :: xs, n => match Nat.beq x n with
    | true => some 0
    | false => match idx xs n with
      | some p => some (p + 1)
      | none => none

/-! ### types -/
def tinfo (P : Program) (t : TypeId) : Option TypeInfo := nth P.types.toList t
def und (P : Program) (t : TypeId) : Option TypeDesc :=
  match tinfo P t with
  | some i => match i.desc with
    | .named _ u => match tinfo P u with
      | some j => some j.desc
      | none => none
    | d => some d
  | none => none
def siz (P : Program) (t : TypeId) : Nat := match tinfo P t with | some i => i.size | none => 0
def byt (P : Program) (t : TypeId) : Nat := match tinfo P t with | some i => i.bytes | none => 0
def isagg (P : Program) (t : TypeId) : Option Bool :=
  match und P t with
  | some (.struct _) => some true
  | some (.array _ _) => some true
  | some _ => some false
  | none => none
def isslice (P : Program) (t : TypeId) : Bool :=
  match und P t with
  | some (.slice _) => true
  | _ => false

/-! ### values -/
def cellsOf : AV → List AV
  | .agg cs => cs
  | v => [v]
/-- One cell. -/
def okCell : AV → Bool
  | .unk => false
  | .agg _ => false
  | .tuple _ => false
  | _ => true
def ofVal1 : Value → AV
  | .bool true => .tt
  | .bool false => .ff
  | .int k n => .int k n
  | .string s => .str s.data.toList
  | .slice none 0 0 => .nilsl
  | .pointer none => .nilptr
  | .nilFunc => .nilfn
  | .nilIface => .nilif
  | _ => .unk
def ofVal : Value → AV
  | .agg cs => .agg (cs.toList.map ofVal1)
  | v => ofVal1 v
def zer (P : Program) (t : TypeId) (k : AV → Prop) : Prop :=
  match tinfo P t with
  | some i => match i.zero with
    | some z => k (ofVal z)
    | none => False
  | none => False
def ev (ts : List AV) (o : Operand) (k : AV → Prop) : Prop :=
  match o with
  | .tmp t => lget ts t k
  | .const v => k (ofVal v)
  | .func f => k (.fn (.func f) [] [])
  | .global _ => False
def evs (ts : List AV) : List Operand → (List AV → Prop) → Prop
  | [], k => k []
  | o :: os, k => ev ts o fun v => evs ts os fun vs => k (v :: vs)
/-- A bool as a proposition. -/
def asP (v : AV) (k : (p : Prop) → Decidable p → Prop) : Prop :=
  match v with
  | .tt => k True (.isTrue trivial)
  | .ff => k False (.isFalse id)
  | .prop p d => k p d
  | _ => False
/-- The two ways of a proposition. -/
structure twoP (p y n : Prop) : Prop where
  yes : p → y
  no : ¬ p → n
/-- An element of a list. -/
inductive getP (es : List AV) (j : Nat) (K : AV → Prop) : Prop
  | mk (e : AV) (h : nth es j = some e) (hk : K e) : getP es j K
/-- An element of a list, or none. -/
inductive optP (es : List AV) (j : Nat) (K : Option AV → Prop) : Prop
  | mk (o : Option AV) (h : nth es j = o) (hk : K o) : optP es j K
/-- An index within a length. -/
inductive idxP (n : Int) (len : Nat) (K : Prop) : Prop
  | mk (h0 : 0 ≤ n) (h1 : n < (len : Int)) (hk : K) : idxP n len K
/-- An index within a length, told as a number. -/
inductive idxN (n : Int) (len : Nat) (K : Nat → Prop) : Prop
  | mk (m : Nat) (h0 : 0 ≤ n) (h1 : n < (len : Int)) (h : n.toNat = m) (hk : K m) : idxN n len K
/-- A list, told otherwise. -/
inductive eqL (es : List AV) (K : List AV → Prop) : Prop
  | mk (es' : List AV) (h : es = es') (hk : K es') : eqL es K
/-- A length, told otherwise. -/
inductive lenP (es : List AV) (K : Nat → Prop) : Prop
  | mk (n : Nat) (h : es.length = n) (hk : K n) : lenP es K
/-- A length of a string, told otherwise. -/
inductive lenS (s : List UInt8) (K : Nat → Prop) : Prop
  | mk (n : Nat) (h : s.length = n) (hk : K n) : lenS s K
/-- A string, told otherwise. -/
inductive eqS (s : List UInt8) (K : List UInt8 → Prop) : Prop
  | mk (s' : List UInt8) (h : s = s') (hk : K s') : eqS s K
/-- A number that is not too large. -/
structure leP (n b : Nat) (K : Prop) : Prop where
  h : n ≤ b
  hk : K
/-- The two ways of a bool. -/
def two (v : AV) (y n : Prop) : Prop :=
  match v with
  | .tt => y
  | .ff => n
  | .prop p _ => twoP p y n
  | _ => False

/-! ### renaming, and what is not kept as a tree -/
def ent (tab : List Ent) (i : Nat) : Ent := match nth tab i with | some e => e | none => .dead
def knownL (es : List AV) : Prop := ∀ e ∈ es, ∀ v ∈ cellsOf e, okCell v = true
def snap1 (tab : List Ent) : AV → AV
  | .loc i => match ent tab i with
    | .row .var _ _ => .unk
    | .row _ sz es => .sl sz es
    | .dead => .unk
  | .part i off len => match ent tab i with
    | .row .var _ _ => .unk
    | .row _ sz es => .sl sz ((es.drop off).take len)
    | .dead => .unk
  | .sub i j => match ent tab i with
    | .row .nest _ es => match nth es j with | some (.sl sz es') => .sl sz es' | _ => .unk
    | _ => .unk
  | .psub i j k t => match ent tab i with
    | .row .nest _ es => match nth es j with | some (.sl sz es') => .pim sz es' k t | _ => .unk
    | _ => .unk
  | .prow i j t => match ent tab i with
    | .row .var _ _ => .unk
    | .row _ sz es => .pim sz es j t
    | .dead => .unk
  | _ => .unk
/-- A tree, that bears no name of a row. -/
def imm1 : AV → Bool
  | .tt => true
  | .ff => true
  | .prop _ _ => true
  | .int _ _ => true
  | .str _ => true
  | .nilsl => true
  | .emp => true
  | .sl _ _ => true
  | .pim _ _ _ _ => true
  | .nilptr => true
  | .nilfn => true
  | .nilif => true
  | _ => false
/-- The references, renamed; `miss`: for those that have no new name. -/
def mv1 (φ : Nat → Option Nat) (miss : AV → AV) : AV → AV
  | .loc i => match φ i with | some p => .loc p | none => miss (.loc i)
  | .part i off len => match φ i with | some p => .part p off len | none => miss (.part i off len)
  | .prow i j t => match φ i with | some p => .prow p j t | none => miss (.prow i j t)
  | .sub i j => match φ i with | some p => .sub p j | none => miss (.sub i j)
  | .psub i j k t => match φ i with | some p => .psub p j k t | none => miss (.psub i j k t)
  | .agg cs => match cs.all imm1 with | true => .agg cs | false => .unk
  | .fn _ _ _ => .unk
  | .ifc _ _ => .unk
  | .tuple _ => .unk
  | v => v
def mv2 (φ : Nat → Option Nat) (miss : AV → AV) : AV → AV
  | .agg cs => .agg (cs.map (mv1 φ miss))
  | .fn f a b => .fn f (a.map (mv1 φ miss)) (b.map (mv1 φ miss))
  | v => mv1 φ miss v
def mv3 (φ : Nat → Option Nat) (miss : AV → AV) : AV → AV
  | .tuple vs => .tuple (vs.map (mv2 φ miss))
  | .ifc t v => .ifc t (mv2 φ miss v)
  | v => mv2 φ miss v
def mvE (φ : Nat → Option Nat) (miss : AV → AV) : Ent → Ent
  | .row .var sz es => .row .var sz (es.map (mv2 φ miss))
  | e => e
def refOf : AV → Option Nat
  | .loc i => some i
  | .part i _ _ => some i
  | .prow i _ _ => some i
  | .sub i _ => some i
  | .psub i _ _ _ => some i
  | _ => none
def snapS (σ : List Nat) (tab : List Ent) (v : AV) : AV :=
  match refOf v with
  | some i => match idx σ i with
    | some _ => .unk
    | none => snap1 tab v
  | none => .unk
/-- A variable that is handed over to be read: what it holds as a tree. -/
def snapV (σ : List Nat) (tab : List Ent) (v : AV) : AV :=
  match v with
  | .prow i j t => match ent tab i with
    | .row .var sz es => match (es.map (mv2 (fun _ => none) (snapS σ tab))).all (fun e => (cellsOf e).all okCell) with
      | true => .pim sz (es.map (mv2 (fun _ => none) (snapS σ tab))) j t
      | false => .unk
    | _ => snap1 tab (.prow i j t)
  | v => snap1 tab v
def lost : AV → AV := fun _ => .unk
def ren3 (σ : List Nat) (tab : List Ent) : AV → AV := mv3 (idx σ) (snapV σ tab)
def renT (σ : List Nat) (tab : List Ent) : List Ent := σ.map fun i => mvE (idx σ) (snap1 tab) (ent tab i)
def cut3 (σ : List Nat) : AV → AV := mv3 (idx σ) lost
def cutT (σ : List Nat) (tab : List Ent) : List Ent := σ.map fun i => mvE (idx σ) lost (ent tab i)
/-- The nested rows that are handed over to be read are known. -/
def snapOk (σ : List Nat) : Nat → List Ent → Prop
  | _, [] => True
  | i, e :: rest => match e with
    | .row .nest _ es => match idx σ i with
      | some _ => snapOk σ (i + 1) rest
      | none => knownL es ∧ snapOk σ (i + 1) rest
    | _ => snapOk σ (i + 1) rest
def nodupB : List Nat → Bool
  | [] => true
  | i :: σ => match idx σ i with
    | some _ => false
    | none => nodupB σ
/-- The first n numbers. -/
def upto : Nat → List Nat → Bool
  | 0, _ => true
  | n + 1, σ => match nth σ n with
    | some i => match Nat.beq i n with
      | true => upto n σ
      | false => false
    | none => false

/-! ### what says less -/
def empT (T : List Ent) (i : Nat) : Prop := match ent T i with
  | .row .plain _ es => es = []
  | _ => False
def le1 (T : List Ent) (a b : AV) : Prop :=
  match b with
  | .unk => True
  | .tt => match a with | .tt => True | .prop p _ => p | _ => False
  | .ff => match a with | .ff => True | .prop p _ => ¬ p | _ => False
  | .prop q _ => match a with | .tt => q | .ff => ¬ q | .prop p _ => (p ↔ q) | _ => False
  | .int k n => match a with | .int k' n' => k' = k ∧ n' = n | _ => False
  | .str s => match a with | .str s' => s' = s | _ => False
  | .emp => match a with | .emp => True | .nilsl => True | _ => False
  | .sl sz es => match a with | .sl sz' es' => sz' = sz ∧ es' = es | .emp => es = [] | .nilsl => es = [] | _ => False
  | .loc i => match a with | .loc j => j = i | .emp => empT T i | .nilsl => empT T i | _ => False
  | b => a = b
def leL1 (T : List Ent) : List AV → List AV → Prop
  | [], [] => True
  | a :: as, b :: bs => le1 T a b ∧ leL1 T as bs
  | _, _ => False
def le2 (T : List Ent) (a b : AV) : Prop :=
  match b with
  | .agg bs => match a with | .agg as => leL1 T as bs | _ => False
  | b => le1 T a b
def leL2 (T : List Ent) : List AV → List AV → Prop
  | [], [] => True
  | a :: as, b :: bs => le2 T a b ∧ leL2 T as bs
  | _, _ => False
def le3 (T : List Ent) (a b : AV) : Prop :=
  match b with
  | .tuple bs => match a with | .tuple as => leL2 T as bs | _ => False
  | b => le2 T a b
def leL3 (T : List Ent) : List AV → List AV → Prop
  | [], [] => True
  | a :: as, b :: bs => le3 T a b ∧ leL3 T as bs
  | _, _ => False
def le2v (T : List Ent) (a b : AV) : Prop :=
  match b with
  | .unk => match a with | .agg _ => False | _ => True
  | b => le2 T a b
def leLv (T : List Ent) : List AV → List AV → Prop
  | [], [] => True
  | a :: as, b :: bs => le2v T a b ∧ leLv T as bs
  | _, _ => False
def leE (T : List Ent) (a b : Ent) : Prop :=
  match b with
  | .dead => True
  | .row k sz es => match a with
    | .row k' sz' es' => k' = k ∧ sz' = sz ∧ (match k with | .var => leLv T es' es | _ => es' = es)
    | .dead => False
def leT (T : List Ent) : List Ent → List Ent → Prop
  | [], [] => True
  | a :: as, b :: bs => leE T a b ∧ leT T as bs
  | _, _ => False
/-- Rows without elements. -/
def newR (ext : List Nat) : List Ent := ext.map fun sz => .row .plain sz []
/-- A state may be told as another one: the rows in σ are kept under new numbers (the first m under their own), the others are lost; rows without elements may be put in. -/
inductive weak (fz : Bool) (m : Nat) (ts : List AV) (tab : List Ent) (ts' : List AV) (tab' : List Ent) : Prop
  | mk (ext σ : List Nat) (h1 : upto m σ = true) (h2 : nodupB σ = true) (hl : leL3 tab' (ts.map (cut3 σ)) ts') (ht : leT tab' (cutT σ (tab ++ newR ext)) tab') : weak fz m ts tab ts' tab'
  | fz (ext σ : List Nat) (h1 : upto m σ = true) (h2 : nodupB σ = true) (hf : fz = true) (hs : snapOk σ 0 (tab ++ newR ext)) (hl : leL3 tab' (ts.map (ren3 σ (tab ++ newR ext))) ts') (ht : leT tab' (renT σ (tab ++ newR ext)) tab') : weak fz m ts tab ts' tab'

/-! ### contracts: taken as a parameter here -/
abbrev Contracts := (f : FuncId) → (args : List AV) → (muts : List Ent) → (Q : AV → List Ent → Prop) → (al : Bool) → Prop
/-- One result; some result. -/
def is (r : AV) (muts : List Ent) : AV → List Ent → Prop := fun r' m' => r' = r ∧ m' = muts
def some' {α : Type} (p : α → Prop) (r : α → AV) (m : α → List Ent) : AV → List Ent → Prop := fun r' m' => ∃ x, p x ∧ r' = r x ∧ m' = m x

/-! ### operations -/
def bitsOp (op : BinOp) (k : IntKind) (a b : Int) : Int :=
  let x := BitVec.ofInt k.bits a
  let y := BitVec.ofInt k.bits b
  match op with
  | .and => k.wrap (x &&& y).toNat
  | .or => k.wrap (x ||| y).toNat
  | .xor => k.wrap (x ^^^ y).toNat
  | _ => k.wrap (x &&& ~~~y).toNat
/-- A number that is computed may be told otherwise. -/
inductive num (k : IntKind) (n : Int) (K : AV → Prop) : Prop
  | mk (m : Int) (h : n = m) (hk : K (.int k m)) : num k n K
def intW (op : BinOp) (kd : IntKind) (a b : Int) (k : AV → Prop) : Prop :=
  match op with
  | .add => num kd (kd.wrap (a + b)) k
  | .sub => num kd (kd.wrap (a - b)) k
  | .mul => num kd (kd.wrap (a * b)) k
  | .quo => b ≠ 0 ∧ num kd (kd.wrap (a.tdiv b)) k
  | .rem => b ≠ 0 ∧ num kd (a.tmod b) k
  | .and => num kd (bitsOp .and kd a b) k
  | .or => num kd (bitsOp .or kd a b) k
  | .xor => num kd (bitsOp .xor kd a b) k
  | .andNot => num kd (bitsOp .andNot kd a b) k
  | .eql => k (pr (a = b))
  | .neq => k (pr (¬ a = b))
  | .lss => k (pr (a < b))
  | .leq => k (pr (a ≤ b))
  | .gtr => k (pr (b < a))
  | .geq => k (pr (b ≤ a))
  | _ => False
def strW (op : BinOp) (s t : List UInt8) (k : AV → Prop) : Prop :=
  match op with
  | .add => s.length + t.length ≤ 4611686018427387904 ∧ eqS (s ++ t) fun u => k (.str u)
  | .eql => k (pr (s = t))
  | .neq => k (pr (¬ s = t))
  | .lss => k (pr (Op.bytesLess s t = true))
  | .leq => k (pr (Op.bytesLess s t = true ∨ s = t))
  | .gtr => k (pr (¬ (Op.bytesLess s t = true ∨ s = t)))
  | .geq => k (pr (¬ Op.bytesLess s t = true))
  | _ => False
def boolW (P : Program) (t : TypeId) (op : BinOp) (x y : AV) (k : AV → Prop) : Prop :=
  match und P t with
  | some .bool => match op with
    | .eql => asP x fun p _ => asP y fun q _ => k (pr (p ↔ q))
    | .neq => asP x fun p _ => asP y fun q _ => k (pr (¬ (p ↔ q)))
    | _ => False
  | _ => False
def sameKind : IntKind → IntKind → Bool
  | .i8, .i8 => true
  | .i16, .i16 => true
  | .i32, .i32 => true
  | .i64, .i64 => true
  | .u8, .u8 => true
  | .u16, .u16 => true
  | .u32, .u32 => true
  | .u64, .u64 => true
  | _, _ => false
def binW (P : Program) (t : TypeId) (op : BinOp) (x y : AV) (k : AV → Prop) : Prop :=
  match x with
  | .int kd a => match y with
    | .int kd' b => match op with
      | .shl => 0 ≤ b ∧ num kd (kd.wrap (a * 2 ^ (min b.toNat kd.bits))) k
      | .shr => 0 ≤ b ∧ num kd (a.fdiv (2 ^ (min b.toNat kd.bits))) k
      | op => match sameKind kd kd' with
        | true => intW op kd a b k
        | false => False
    | _ => False
  | .str s => match y with
    | .str t => strW op s t k
    | _ => False
  | x => boolW P t op x y k
def unW (op : UnOp) (x : AV) (k : AV → Prop) : Prop :=
  match op with
  | .not => match x with
    | .tt => k .ff
    | .ff => k .tt
    | .prop p d => k (.prop (¬ p) (instDecidableNot (dp := d)))
    | _ => False
  | .neg => match x with
    | .int kd n => num kd (kd.wrap (0 - n)) k
    | _ => False
  | _ => False
/-- What a plain row or an element of it may hold: a reference to a plain or nested row becomes a tree, and that row is given up (`fz`: no entry came in to be written). -/
def frz1 (fz : Bool) (v : AV) (tab : List Ent) (k : AV → List Ent → Prop) : Prop :=
  match v with
  | .loc i => match ent tab i with
    | .row .var _ _ => False
    | .row k' sz es => match fz with
      | true => (match k' with | .nest => knownL es | _ => True) ∧ eset tab i .dead fun tab' => k (.sl sz es) tab'
      | false => False
    | .dead => False
  | .unk => False
  | .part _ _ _ => False
  | .prow _ _ _ => False
  | .sub _ _ => False
  | .psub _ _ _ _ => False
  | .agg _ => False
  | .fn _ _ _ => False
  | .ifc _ _ => False
  | .tuple _ => False
  | v => k v tab
def frzL (fz : Bool) : List AV → List Ent → (List AV → List Ent → Prop) → Prop
  | [], tab, k => k [] tab
  | v :: vs, tab, k => frz1 fz v tab fun v' tab' => frzL fz vs tab' fun vs' tab'' => k (v' :: vs') tab''
def frz2 (fz : Bool) (v : AV) (tab : List Ent) (k : AV → List Ent → Prop) : Prop :=
  match v with
  | .agg cs => frzL fz cs tab fun cs' tab' => k (.agg cs') tab'
  | v => frz1 fz v tab k
/-- What a function value is bound to: a struct's slices become trees. -/
def frzB (fz : Bool) (v : AV) (tab : List Ent) (k : AV → List Ent → Prop) : Prop :=
  match v with
  | .agg cs => match fz with
    | true => match cs.all imm1 with
      | true => k (.agg cs) tab
      | false => frzL true cs tab fun cs' tab' => k (.agg cs') tab'
    | false => k (.agg cs) tab
  | v => k v tab
def frzA (fz : Bool) : List AV → List Ent → (List AV → List Ent → Prop) → Prop
  | [], tab, k => k [] tab
  | v :: vs, tab, k => frzB fz v tab fun v' tab' => frzA fz vs tab' fun vs' tab'' => k (v' :: vs') tab''
/-- What a nested row's element may be: an own plain row, which is given up, or an empty slice. -/
def mov1 (v : AV) (tab : List Ent) (k : AV → List Ent → Prop) : Prop :=
  match v with
  | .loc i => match ent tab i with
    | .row .plain sz es => eset tab i .dead fun tab' => k (.sl sz es) tab'
    | _ => False
  | .nilsl => k .nilsl tab
  | .emp => k .emp tab
  | _ => False
/-- What a variable may hold. -/
def okVar1 : AV → Bool
  | .sub _ _ => false
  | .psub _ _ _ _ => false
  | .agg _ => false
  | .fn _ _ _ => false
  | .ifc _ _ => false
  | .tuple _ => false
  | _ => true
def okVar : AV → Bool
  | .agg cs => cs.all okVar1
  | v => okVar1 v
def alive (tab : List Ent) (i : Nat) : Bool := match ent tab i with | .row _ _ _ => true | .dead => false
/-- A value of one cell that is known well enough to be stored. -/
def okSt1 (tab : List Ent) : AV → Bool
  | .unk => false
  | .loc i => alive tab i
  | .part i _ _ => alive tab i
  | .prow i _ _ => alive tab i
  | v => okVar1 v
def okSt (tab : List Ent) : AV → Bool
  | .agg cs => cs.all (okSt1 tab)
  | v => okSt1 tab v
def elemOk (sz : Nat) (v : AV) : Bool := Nat.beq (cellsOf v).length sz
/-- Cells from t on, n of them. -/
def cut (cs : List AV) (t n : Nat) : List AV := (cs.drop t).take n
def splice : List AV → Nat → List AV → List AV
  | cs, 0, vs => vs ++ cs.drop vs.length
  | [], _ + 1, _ => []
  | c :: cs, t + 1, vs => c :: splice cs t vs
/-- A list, run to its end. -/
def lnorm {α : Type _} : List α → (List α → Prop) → Prop
  | [], k => k []
  | x :: xs, k => lnorm xs fun ys => k (x :: ys)
/-- An element again, out of its cells. -/
def mkElem (e : AV) (cs : List AV) : AV :=
  match e with
  | .agg _ => .agg cs
  | _ => match cs with
    | [v] => v
    | _ => .agg cs
def mkElemW (e : AV) (cs : List AV) (k : AV → Prop) : Prop :=
  match e with
  | .agg _ => k (.agg cs)
  | _ => match cs with
    | [v] => k v
    | _ => k (.agg cs)
/-- A part of an element: a struct or an array, or one cell. -/
def partW (P : Program) (t : TypeId) (e : AV) (t0 : Nat) (k : AV → Prop) : Prop :=
  match isagg P t with
  | none => False
  | some true => match t0 with
    | 0 => match Nat.beq (siz P t) (cellsOf e).length with
      | true => k (.agg (cellsOf e))
      | false => siz P t ≤ (cellsOf e).length ∧ k (.agg (cut (cellsOf e) 0 (siz P t)))
    | t0 => t0 + siz P t ≤ (cellsOf e).length ∧ k (.agg (cut (cellsOf e) t0 (siz P t)))
  | some false => lget (cellsOf e) t0 k
def loadW (P : Program) (t : TypeId) (p : AV) (tab : List Ent) (k : AV → Prop) : Prop :=
  match p with
  | .prow i j t0 => match ent tab i with
    | .row .nest _ es => match isslice P t with
      | true => match t0 with
        | 0 => getP es j fun e => match e with
          | .sl _ _ => k (.sub i j)
          | .nilsl => k .nilsl
          | .emp => k .emp
          | _ => False
        | _ => False
      | false => False
    | .row .var _ es => lget es j fun e => partW P t e t0 k
    | .row _ _ es => getP es j fun e => partW P t e t0 k
    | .dead => False
  | .pim _ es j t0 => getP es j fun e => partW P t e t0 k
  | .psub i j j' t0 => match ent tab i with
    | .row .nest _ es => optP es j fun o => match o with
      | some (.sl _ es') => getP es' j' fun e => partW P t e t0 k
      | _ => False
    | _ => False
  | _ => False
/-- References to the slices in an entry's elements are given up. -/
def kill1 (i : Nat) : AV → AV
  | .sub i' j => match Nat.beq i' i with | true => .unk | false => .sub i' j
  | .psub i' j k t => match Nat.beq i' i with | true => .unk | false => .psub i' j k t
  | .agg _ => .unk
  | .fn _ _ _ => .unk
  | .ifc _ _ => .unk
  | .tuple _ => .unk
  | v => v
def kill2 (i : Nat) : AV → AV
  | .agg cs => .agg (cs.map (kill1 i))
  | .fn f a b => .fn f (a.map (kill1 i)) (b.map (kill1 i))
  | v => kill1 i v
def kill3 (i : Nat) : AV → AV
  | .tuple vs => .tuple (vs.map (kill2 i))
  | .ifc t v => .ifc t (kill2 i v)
  | v => kill2 i v
def storeW (fz : Bool) (P : Program) (t : TypeId) (p v : AV) (ts : List AV) (tab : List Ent) (k : List AV → List Ent → Prop) : Prop :=
  Nat.beq (cellsOf v).length (siz P t) = true ∧ Nat.blt 0 (siz P t) = true ∧
  match p with
  | .prow i j t0 => match ent tab i with
    | .row .var sz es => okSt tab v = true ∧ lget es j fun e => Nat.ble (t0 + siz P t) (cellsOf e).length = true ∧
        lnorm (splice (cellsOf e) t0 (cellsOf v)) fun cs => mkElemW e cs fun e' => lset es j e' fun es' => eset tab i (.row .var sz es') fun tab' => k ts tab'
    | .row .plain _ _ => frz2 fz v tab fun v' tab' => match ent tab' i with
      | .row .plain sz es => getP es j fun e => Nat.ble (t0 + siz P t) (cellsOf e).length = true ∧
          lnorm (splice (cellsOf e) t0 (cellsOf v')) fun cs => mkElemW e cs fun e' => eqL (es.set j e') fun es' => eset tab' i (.row .plain sz es') fun tab'' => k ts tab''
      | _ => False
    | .row .nest sz es => mov1 v tab fun v' tab' => idxP (j : Int) es.length (t0 = 0 ∧
        eqL (es.set j v') fun es' => eset tab' i (.row .nest sz es') fun tab'' => k (ts.map (kill3 i)) tab'')
    | .dead => False
  | .psub i j j' t0 => match ent tab i with
    | .row .nest sz es => match v with
      | .int kd n => optP es j fun o => match o with
        | some (.sl sz' es') => idxP (j' : Int) es'.length (t0 = 0 ∧ sz' = 1 ∧
            eqL (es'.set j' (.int kd n)) fun es2 => eqL (es.set j (.sl sz' es2)) fun es3 => eset tab i (.row .nest sz es3) fun tab' => k ts tab')
        | _ => False
      | _ => False
    | _ => False
  | _ => False
/-- A slice's elements as they stand, for reading. -/
def elems (v : AV) (tab : List Ent) (k : Nat → List AV → Prop) : Prop :=
  match v with
  | .sl sz es => k sz es
  | .loc i => match ent tab i with
    | .row _ sz es => k sz es
    | .dead => False
  | .part i off len => match ent tab i with
    | .row _ sz es => k sz ((es.drop off).take len)
    | .dead => False
  | .sub i j => match ent tab i with
    | .row .nest _ es => optP es j fun o => match o with
      | some (.sl sz' es') => k sz' es'
      | _ => False
    | _ => False
  | _ => False
/-- A truth that is not known, but for what it brings. -/
inductive anyP (c : Prop → Prop) (K : (p : Prop) → Decidable p → Prop) : Prop
  | mk (h : ∀ p d, c p → K p d) : anyP c K
def isNil (x : AV) (tab : List Ent) (k : (p : Prop) → Decidable p → Prop) : Prop :=
  match x with
  | .nilsl => k True (.isTrue trivial)
  | .emp => anyP (fun _ => True) k
  | v => elems v tab fun _ es => anyP (fun p => p → es = []) k
def nilW (op : BinOp) (x : AV) (tab : List Ent) (k : AV → Prop) : Prop :=
  match op with
  | .eql => isNil x tab fun p d => k (.prop p d)
  | .neq => isNil x tab fun p d => k (.prop (¬ p) (instDecidableNot (dp := d)))
  | _ => False
/-- Equality of cells, and of structs of cells. -/
def cellEq (P : Program) (t : TypeId) (x y : AV) (k : (p : Prop) → Decidable p → Prop) : Prop :=
  match und P t with
  | some (.int _) => match x with
    | .int kd a => match y with
      | .int kd' b => match sameKind kd kd' with
        | true => k (a = b) (Int.instDecidableEq a b)
        | false => False
      | _ => False
    | _ => False
  | some .string => match x with
    | .str s => match y with
      | .str s' => k (s = s') inferInstance
      | _ => False
    | _ => False
  | some .bool => asP x fun p d => asP y fun q e => k (p ↔ q) (@instDecidableIff p q d e)
  | _ => False
def fieldsEq (P : Program) : List Field → List AV → List AV → ((p : Prop) → Decidable p → Prop) → Prop
  | [], _, _, k => k True (.isTrue trivial)
  | f :: fs, xs, ys, k => partW P f.type (.agg xs) f.offset fun x => partW P f.type (.agg ys) f.offset fun y => cellEq P f.type x y fun p d => match fs with
    | [] => k p d
    | _ :: _ => fieldsEq P fs xs ys fun q e => k (p ∧ q) (@instDecidableAnd p q d e)
def stOk (P : Program) (t : TypeId) : Bool := match P.stoodInHeld t with
  | true => false
  | false => match P.eqGuardType P.depth t with
    | true => false
    | false => match P.underlying t with
      | some (.struct fs) => fs.toList.all fun f => f.name != "_"
      | _ => false
/-- What is checked once by computing. -/
structure stP (ok : Bool) (K : Prop) : Prop where
  h : ok = true
  hk : K
def structW (P : Program) (t : TypeId) (op : BinOp) (xs ys : List AV) (k : AV → Prop) : Prop :=
  match und P t with
  | some (.struct fs) => stP (stOk P t) (fieldsEq P fs.toList xs ys fun p d => match op with
    | .eql => k (.prop p d)
    | .neq => k (.prop (¬ p) (instDecidableNot (dp := d)))
    | _ => False)
  | _ => False
/-- Operators; a slice may be compared with nil, a struct with a struct. -/
def binN (P : Program) (t : TypeId) (op : BinOp) (x y : AV) (tab : List Ent) (k : AV → Prop) : Prop :=
  match y with
  | .nilsl => match und P t with
    | some (.slice _) => nilW op x tab k
    | _ => False
  | .agg ys => match x with
    | .agg xs => structW P t op xs ys k
    | _ => False
  | y => binW P t op x y k
def big : Nat := 1099511627776
/-- `len`, told as a number of one's own. -/
def lenW (v : AV) (tab : List Ent) (k : AV → Prop) : Prop :=
  match v with
  | .nilsl => k (.int .i64 0)
  | .emp => k (.int .i64 0)
  | .part i _ len => match ent tab i with
    | .row _ _ _ => k (.int .i64 (len : Int))
    | .dead => False
  | v => elems v tab fun _ es => lenP es fun n => k (.int .i64 (n : Int))
def kindOf (nest : Bool) (P : Program) (elem : TypeId) : Kind :=
  match nest with
  | true => match isslice P elem with
    | true => match Nat.beq (siz P elem) 1 with
      | true => .nest
      | false => .plain
    | false => .plain
  | false => .plain
/-- A struct that holds a slice. -/
def hasSl (P : Program) (t : TypeId) : Bool :=
  match und P t with
  | some (.struct fs) => fs.toList.any fun fd => isslice P fd.type
  | _ => false
/-- The kind of a row that is listed: structs that hold slices stand in it as in variables, where nothing may be frozen. -/
def kindB (fz nest : Bool) (P : Program) (elem : TypeId) : Kind :=
  match fz with
  | true => kindOf nest P elem
  | false => match hasSl P elem with
    | true => .var
    | false => kindOf nest P elem
/-- The source of an append to a plain row: elements to be put behind. -/
def srcW (P : Program) (t2 : TypeId) (x : AV) (sz : Nat) (tab : List Ent) (k : List AV → Prop) : Prop :=
  match und P t2 with
  | some .string => match x with
    | .str s => sz = 1 ∧ k (s.map fun b => .int .u8 b.toNat)
    | _ => False
  | some (.slice _) => match x with
    | .nilsl => k []
    | .emp => k []
    | .sl sz' es => sz' = sz ∧ k es
    | .loc i => match ent tab i with
      | .row .plain sz' es => sz' = sz ∧ k es
      | _ => False
    | .part i off len => match ent tab i with
      | .row .plain sz' es => sz' = sz ∧ eqL ((es.drop off).take len) k
      | _ => False
    | .sub i j => match ent tab i with
      | .row .nest _ es => optP es j fun o => match o with
        | some (.sl sz' es') => sz' = sz ∧ k es'
        | _ => False
      | _ => False
    | _ => False
  | _ => False
/-- The source of an append to a nested row: it is given up. -/
def srcN (P : Program) (t2 : TypeId) (x : AV) (tab : List Ent) (k : List AV → List Ent → Prop) : Prop :=
  match und P t2 with
  | some (.slice _) => match x with
    | .nilsl => k [] tab
    | .emp => k [] tab
    | .loc i => match ent tab i with
      | .row .nest _ es => eset tab i .dead fun tab' => k es tab'
      | _ => False
    | _ => False
  | _ => False
/-- Is it a slice of this row? -/
def partOf (i : Nat) : AV → Bool
  | .part j _ _ => Nat.beq i j
  | _ => false
def appendW (nest : Bool) (P : Program) (t t2 : TypeId) (s x : AV) (tab : List Ent) (k : AV → List Ent → Prop) : Prop :=
  match und P t with
  | some (.slice elem) => Nat.blt 0 (siz P elem) = true ∧ Nat.ble (byt P elem) 64 = true ∧ zer P elem fun z => elemOk (siz P elem) z = true ∧
    match s with
    | .nilsl => match kindOf nest P elem with
      | .nest => srcN P t2 x tab fun xs tab' => leP xs.length big <| snoc tab' (.row .nest (siz P elem) xs) fun n tab'' => k (.loc n) tab''
      | _ => srcW P t2 x (siz P elem) tab fun xs => leP xs.length big <| snoc tab (.row .plain (siz P elem) xs) fun n tab'' => k (.loc n) tab''
    | .emp => match kindOf nest P elem with
      | .nest => srcN P t2 x tab fun xs tab' => leP xs.length big <| snoc tab' (.row .nest (siz P elem) xs) fun n tab'' => k (.loc n) tab''
      | _ => srcW P t2 x (siz P elem) tab fun xs => leP xs.length big <| snoc tab (.row .plain (siz P elem) xs) fun n tab'' => k (.loc n) tab''
    | .loc i => match ent tab i with
      | .row .plain sz es => siz P elem = sz ∧ srcW P t2 x sz tab fun xs => leP (es.length + xs.length) big <|
          eqL (es ++ xs) fun es2 => eset tab i .dead fun tab' => snoc tab' (.row .plain sz es2) fun n tab'' => k (.loc n) tab''
      | .row .nest sz es => siz P elem = sz ∧ srcN P t2 x tab fun xs tab' => leP (es.length + xs.length) big <|
          match ent tab' i with
          | .row .nest _ _ => eqL (es ++ xs) fun es2 => eset tab' i .dead fun tab'' => snoc tab'' (.row .nest sz es2) fun n tab3 => k (.loc n) tab3
          | _ => False
      | _ => False
    | .part i off len => match ent tab i with
      | .row .plain sz es => siz P elem = sz ∧ off = 0 ∧ srcW P t2 x sz tab fun xs => match partOf i x with
        | true => lenP xs fun n => leP (len + n) es.length <| eqL (es.take len ++ xs ++ es.drop (len + n)) fun es2 => eset tab i (.row .plain sz es2) fun tab' => k (.part i 0 (len + n)) tab'
        | false => leP (es.length + xs.length) big <|
          eqL (es.take len ++ xs) fun es2 => eset tab i .dead fun tab' => snoc tab' (.row .plain sz es2) fun n tab'' => k (.loc n) tab''
      | _ => False
    | .sub i j => match ent tab i with
      | .row .nest sz es => optP es j fun o => match o with
        | some (.sl sz' es') => siz P elem = sz' ∧ srcW P t2 x sz' tab fun xs => leP (es'.length + xs.length) big <|
            eqL (es.set j .unk) fun es3 => eqL (es' ++ xs) fun es2 => eset tab i (.row .nest sz es3) fun tab' => snoc tab' (.row .plain sz' es2) fun n tab'' => k (.loc n) tab''
        | _ => False
      | _ => False
    | _ => False
  | _ => False
def bnd (ts : List AV) (o : Option Operand) (k : Option Int → Prop) : Prop :=
  match o with
  | none => k none
  | some o => ev ts o fun v => match v with | .int _ n => k (some n) | _ => False
/-- Bounds of a slice expression at a length. -/
def bnds (lo hi : Option Int) (len : Nat) (k : Nat → Nat → Prop) : Prop :=
  match lo with
  | none => match hi with
    | none => k 0 len
    | some h => idxN h (len + 1) fun h => k 0 h
  | some l => match hi with
    | none => idxN l (len + 1) fun l => k l len
    | some h => idxN h (len + 1) fun h => idxN l (h + 1) fun l => k l h
def sliceW (P : Program) (t : TypeId) (x : AV) (lo hi : Option Int) (tab : List Ent) (k : AV → Prop) : Prop :=
  match und P t with
  | some .string => match x with
    | .str s => bnds lo hi s.length fun l h => eqS ((s.take h).drop l) fun u => k (.str u)
    | _ => False
  | some (.slice elem) => match x with
    | .sl sz es => siz P elem = sz ∧ Nat.blt 0 sz = true ∧ bnds lo hi es.length fun l h => eqL ((es.take h).drop l) fun es' => k (.sl sz es')
    | .nilsl => Nat.blt 0 (siz P elem) = true ∧ bnds lo hi 0 fun _ _ => k .nilsl
    | .emp => Nat.blt 0 (siz P elem) = true ∧ bnds lo hi 0 fun _ _ => k .emp
    | .loc i => match ent tab i with
      | .row _ sz es => siz P elem = sz ∧ Nat.blt 0 sz = true ∧ match lo with
        | none => match hi with
          | none => k (.loc i)
          | some _ => bnds lo hi es.length fun l h => k (.part i l (h - l))
        | some _ => bnds lo hi es.length fun l h => k (.part i l (h - l))
      | .dead => False
    | .part i off len => match ent tab i with
      | .row _ sz es => siz P elem = sz ∧ Nat.blt 0 sz = true ∧ match hi with
        | none => bnds lo none len fun l h => k (.part i (off + l) (h - l))
        | some n => bnds lo (some n) (max len (es.length - off)) fun l h => k (.part i (off + l) (h - l))
      | .dead => False
    | _ => False
  | _ => False
/-- s[l:h:m], of which nothing is told. -/
def slice3 (x : AV) (l : Int) (hi mx : Option Int) (tab : List Ent) (k : AV → Prop) : Prop :=
  match hi with
  | some h => match mx with
    | some m => match x with
      | .loc i => match ent tab i with
        | .row _ _ es => idxN m (es.length + 1) fun m => idxN h (m + 1) fun h => idxN l (h + 1) fun _ => k .unk
        | .dead => False
      | _ => False
    | none => False
  | none => False
/-- s[:0:0] -/
def slice0 (P : Program) (t : TypeId) (x : AV) (lo hi mx : Option Int) (tab : List Ent) (k : AV → Prop) : Prop :=
  match und P t with
  | some (.slice elem) => Nat.blt 0 (siz P elem) = true ∧ match lo with
    | some l => slice3 x l hi mx tab k
    | none => lo = none ∧ hi = some 0 ∧ mx = some 0 ∧ match x with
      | .nilsl => k .nilsl
      | .emp => k .emp
      | .sl _ _ => k .emp
      | .loc i => match ent tab i with
        | .row _ _ _ => k .emp
        | .dead => False
      | .part i _ _ => match ent tab i with
        | .row _ _ _ => k .emp
        | .dead => False
      | _ => False
  | _ => False
def indexAddrW (P : Program) (t : TypeId) (x i : AV) (tab : List Ent) (k : AV → Prop) : Prop :=
  match i with
  | .int _ n => match und P t with
    | some (.slice elem) => match x with
      | .sl sz es => siz P elem = sz ∧ Nat.blt 0 sz = true ∧ idxN n es.length fun m => k (.pim sz es m 0)
      | .loc i => match ent tab i with
        | .row _ sz es => siz P elem = sz ∧ Nat.blt 0 sz = true ∧ idxN n es.length fun m => k (.prow i m 0)
        | .dead => False
      | .part i off len => match ent tab i with
        | .row _ sz _ => siz P elem = sz ∧ Nat.blt 0 sz = true ∧ idxN n len fun m => k (.prow i (off + m) 0)
        | .dead => False
      | .sub i j => match ent tab i with
        | .row .nest _ es => optP es j fun o => match o with
          | some (.sl sz' es') => siz P elem = sz' ∧ Nat.blt 0 sz' = true ∧ idxN n es'.length fun m => k (.psub i j m 0)
          | _ => False
        | _ => False
      | _ => False
    | some (.array len elem) => match x with
      | .prow i j t0 => match ent tab i with
        | .row _ _ _ => Nat.blt 0 (siz P elem) = true ∧ idxN n len fun m => k (.prow i j (t0 + m * siz P elem))
        | .dead => False
      | .pim sz es j t0 => Nat.blt 0 (siz P elem) = true ∧ idxN n len fun m => k (.pim sz es j (t0 + m * siz P elem))
      | _ => False
    | _ => False
  | _ => False
def indexW (P : Program) (t : TypeId) (x i : AV) (k : AV → Prop) : Prop :=
  match i with
  | .int _ n => match x with
    | .str s => match und P t with
      | some .string => idxN n s.length fun m => k (.int .u8 ((s.getD m 0).toNat : Int))
      | _ => False
    | .agg cs => match und P t with
      | some (.array len elem) => Nat.blt 0 (siz P elem) = true ∧ idxN n len fun m => partW P elem (.agg cs) (m * siz P elem) k
      | _ => False
    | _ => False
  | _ => False
def fieldOff (P : Program) (s : TypeId) (f : Nat) (k : TypeId → Nat → Prop) : Prop :=
  match und P s with
  | some (.struct fs) => match nth fs.toList f with
    | some fd => k fd.type fd.offset
    | none => False
  | _ => False
def fieldAddrW (P : Program) (s : TypeId) (x : AV) (f : Nat) (tab : List Ent) (k : AV → Prop) : Prop :=
  fieldOff P s f fun ty off => Nat.blt 0 (siz P ty) = true ∧ match x with
    | .prow i j t => match ent tab i with
      | .row _ _ _ => k (.prow i j (t + off))
      | .dead => False
    | .pim sz es j t => k (.pim sz es j (t + off))
    | .psub i j j' t => match ent tab i with
      | .row .nest _ es => optP es j fun o => match o with
        | some (.sl _ _) => k (.psub i j j' (t + off))
        | _ => False
      | _ => False
    | _ => False
def fieldW (P : Program) (s : TypeId) (x : AV) (f : Nat) (k : AV → Prop) : Prop :=
  fieldOff P s f fun ty off => match x with
    | .agg cs => partW P ty (.agg cs) off k
    | _ => False
/-- A part that takes as many cells as it is told to. -/
def okB (tab : List Ent) (v : AV) : Bool :=
  match v with
  | .agg _ => true
  | v => okSt1 tab v
noncomputable def fillS (fs : List Field) (P : Program) (tab : List Ent) (ps : List (Nat × AV)) : List AV → (List AV → Prop) → Prop :=
  List.rec (motive := fun _ => List AV → (List AV → Prop) → Prop) (fun cs k => k cs) (fun iv _ ih cs k => match nth fs iv.1 with
    | some fd => okB tab iv.2 = true ∧ Nat.beq (cellsOf iv.2).length (siz P fd.type) = true ∧ Nat.ble (fd.offset + (cellsOf iv.2).length) cs.length = true ∧ lnorm (splice cs fd.offset (cellsOf iv.2)) fun cs' => ih cs' k
    | none => False) ps
noncomputable def fillA (sz : Nat) (tab : List Ent) (ps : List (Nat × AV)) : List AV → (List AV → Prop) → Prop :=
  List.rec (motive := fun _ => List AV → (List AV → Prop) → Prop) (fun cs k => k cs) (fun iv _ ih cs k =>
    okB tab iv.2 = true ∧ Nat.beq (cellsOf iv.2).length sz = true ∧ Nat.ble (iv.1 * sz + (cellsOf iv.2).length) cs.length = true ∧ lnorm (splice cs (iv.1 * sz) (cellsOf iv.2)) fun cs' => ih cs' k) ps
def fieldsOk (P : Program) : List Field → Bool
  | [] => true
  | f :: fs => match tinfo P f.type with
    | some _ => fieldsOk P fs
    | none => false
def evp (ts : List AV) : List (Nat × Operand) → (List (Nat × AV) → Prop) → Prop
  | [], k => k []
  | (i, o) :: os, k => ev ts o fun v => evp ts os fun vs => k ((i, v) :: vs)
noncomputable def buildW (P : Program) (t : TypeId) (parts : List (Nat × AV)) (tab : List Ent) (k : AV → Prop) : Prop :=
  zer P t fun z => match und P t with
    | some (.struct fs) => fieldsOk P fs.toList = true ∧ fillS fs.toList P tab parts (cellsOf z) fun cs => k (.agg cs)
    | some (.array _ elem) => Nat.blt 0 (siz P elem) = true ∧ fillA (siz P elem) tab parts (cellsOf z) fun cs => k (.agg cs)
    | _ => False
def reps : Nat → AV → List AV
  | 0, _ => []
  | n + 1, v => v :: reps n v
/-- The elements of a slice literal, put into its row n one by one. -/
noncomputable def putsW (fz : Bool) (n : Nat) (ps : List (Nat × AV)) : List Ent → (List Ent → Prop) → Prop :=
  List.rec (motive := fun _ => List Ent → (List Ent → Prop) → Prop) (fun tab k => k tab) (fun iv _ ih tab k => match ent tab n with
    | .row .nest _ _ => mov1 iv.2 tab fun v' tab' => match ent tab' n with
      | .row .nest sz es => lset es iv.1 v' fun es' => eset tab' n (.row .nest sz es') fun tab'' => ih tab'' k
      | _ => False
    | .row .plain sz0 _ => Nat.beq (cellsOf iv.2).length sz0 = true ∧ frz2 fz iv.2 tab fun v' tab' => match ent tab' n with
      | .row .plain sz es => lset es iv.1 v' fun es' => eset tab' n (.row .plain sz es') fun tab'' => ih tab'' k
      | _ => False
    | .row .var sz es => Nat.beq (cellsOf iv.2).length sz = true ∧ okSt tab iv.2 = true ∧ lset es iv.1 iv.2 fun es' => eset tab n (.row .var sz es') fun tab'' => ih tab'' k
    | _ => False) ps
/-- Zero elements are known. -/
def zeroOk (kd : Kind) (z : AV) : Bool :=
  match kd with
  | .nest => match z with
    | .nilsl => true
    | _ => false
  | .var => okVar z && (cellsOf z).all okCell
  | .plain => (cellsOf z).all okCell
noncomputable def buildSliceW (nest fz : Bool) (P : Program) (t : TypeId) (len : Nat) (parts : List (Nat × AV)) (tab : List Ent) (k : AV → List Ent → Prop) : Prop :=
  match und P t with
  | some (.slice elem) => Nat.blt 0 (siz P elem) = true ∧ match len with
    | 0 => parts = [] ∧ k .emp tab
    | len + 1 => Nat.ble ((len + 1) * siz P elem) 16777216 = true ∧ zer P elem fun z => elemOk (siz P elem) z = true ∧ zeroOk (kindB fz nest P elem) z = true ∧
        lnorm (reps (len + 1) z) fun zs => snoc tab (.row (kindB fz nest P elem) (siz P elem) zs) fun n tab' => putsW fz n parts tab' fun tab'' => k (.loc n) tab''
  | _ => False
/-- A new nested row's element: an empty slice. -/
def nz (P : Program) (kd : Kind) (elem : TypeId) (z : AV) : AV :=
  match kd with
  | .nest => match und P elem with
    | some (.slice e2) => .sl (siz P e2) []
    | _ => z
  | _ => z
def makeSliceW (nest : Bool) (P : Program) (t : TypeId) (len cap : AV) (tab : List Ent) (k : AV → List Ent → Prop) : Prop :=
  match und P t with
  | some (.slice elem) => match len with
    | .int _ l => match cap with
      | .int _ c => Nat.blt 0 (siz P elem) = true ∧ Nat.ble (byt P elem) 64 = true ∧ idxN l (c.toNat + 1) fun l => idxP c (big + 1) (zer P elem fun z => elemOk (siz P elem) z = true ∧ zeroOk (kindOf nest P elem) z = true ∧
          eqL (List.replicate l (nz P (kindOf nest P elem) elem z)) fun es => snoc tab (.row (kindOf nest P elem) (siz P elem) es) fun n tab' => k (.loc n) tab')
      | _ => False
    | _ => False
  | _ => False
/-- Zeros are put into a slice of a row. -/
def clearW (P : Program) (t : TypeId) (x : AV) (tab : List Ent) (k : AV → List Ent → Prop) : Prop :=
  match und P t with
  | some (.slice elem) => match x with
    | .part i off len => match ent tab i with
      | .row .plain sz es => siz P elem = sz ∧ Nat.blt 0 sz = true ∧ zer P elem fun z => elemOk sz z = true ∧ zeroOk .plain z = true ∧
          eqL (es.take off ++ List.replicate len z ++ es.drop (off + len)) fun es2 => eset tab i (.row .plain sz es2) fun tab' => k (.tuple []) tab'
      | _ => False
    | _ => False
  | _ => False
def convW (P : Program) (src dst : TypeId) (x : AV) (k : AV → Prop) : Prop :=
  match und P src with
  | none => False
  | some _ => match und P dst with
    | some (.int kd) => match x with
      | .int _ n => num kd (kd.wrap n) k
      | _ => False
    | some .string => match x with
      | .str s => k (.str s)
      | _ => False
    | _ => False
/-- A list of bytes, told as a text. -/
inductive bytesP (es : List AV) (K : List UInt8 → Prop) : Prop
  | mk (bs : List UInt8) (h : es = bs.map fun b => .int .u8 (b.toNat : Int)) (hk : K bs) : bytesP es K
/-- Conversions; one between texts and bytes makes a row, or reads one. -/
def convN (P : Program) (src dst : TypeId) (x : AV) (tab : List Ent) (k : AV → List Ent → Prop) : Prop :=
  match x with
  | .str s => match und P dst with
    | some (.slice e) => match und P src with
      | some .string => match und P e with
        | some (.int .u8) => eqL (s.map fun b => .int .u8 (b.toNat : Int)) fun es => snoc tab (.row .plain 1 es) fun n tab' => k (.loc n) tab'
        | _ => False
      | _ => False
    | _ => convW P src dst (.str s) fun v => k v tab
  | .loc i => match und P dst with
    | some .string => match und P src with
      | some (.slice e) => match und P e with
        | some (.int .u8) => match ent tab i with
          | .row .plain sz es => sz = 1 ∧ bytesP es fun bs => k (.str bs) tab
          | _ => False
        | _ => False
      | _ => False
    | _ => False
  | x => convW P src dst x fun v => k v tab
/-- References that a contract's result bears, told in the caller's numbers: the rows in σ first, new ones behind the table. -/
def bkN (σ : List Nat) (n p : Nat) : Nat := match nth σ p with | some i => i | none => n + (p - σ.length)
def bk3 (σ : List Nat) (n : Nat) : AV → AV := mv3 (fun p => some (bkN σ n p)) lost
def bkT (σ : List Nat) (n : Nat) : List Ent → List Ent
  | [] => []
  | e :: es => mvE (fun p => some (bkN σ n p)) lost e :: bkT σ n es
/-- The entries that were handed over, as they are now. -/
def backT : List Nat → List Ent → List Ent → (List Ent → List Ent → Prop) → Prop
  | [], ms, tab, k => k ms tab
  | _ :: _, [], _, _ => False
  | i :: σ, m :: ms, tab, k => eset tab i m fun tab' => backT σ ms tab' k
def isRef : AV → Bool
  | .loc _ => true
  | .part _ _ _ => true
  | .prow _ _ _ => true
  | .sub _ _ => true
  | .psub _ _ _ _ => true
  | _ => false
/-- All references are to rows that are handed over. -/
def refIn1 (σ : List Nat) (v : AV) : Bool := match refOf v with
  | some i => match idx σ i with
    | some _ => true
    | none => false
  | none => true
def refIn2 (σ : List Nat) : AV → Bool
  | .agg cs => cs.all (refIn1 σ)
  | .fn _ a b => a.all (refIn1 σ) && b.all (refIn1 σ)
  | v => refIn1 σ v
def refIn3 (σ : List Nat) : AV → Bool
  | .tuple vs => vs.all (refIn2 σ)
  | .ifc _ v => refIn2 σ v
  | v => refIn2 σ v
def refInE (σ : List Nat) : Ent → Bool
  | .row .var _ es => es.all (refIn2 σ)
  | _ => true
structure Closed (σ : List Nat) (args : List AV) (tab : List Ent) : Prop where
  args : args.all (refIn3 σ) = true
  rows : (σ.all fun i => refInE σ (ent tab i)) = true
def hasRef : AV → Bool
  | .agg cs => cs.any isRef
  | .fn _ a b => a.any isRef || b.any isRef
  | .ifc _ _ => true
  | .tuple _ => true
  | v => isRef v
/-- References to the slices in the elements of handed rows are given up. -/
def kls1 (σ : List Nat) : AV → AV
  | .sub i j => match idx σ i with | some _ => .unk | none => .sub i j
  | .psub i j k t => match idx σ i with | some _ => .unk | none => .psub i j k t
  | .agg _ => .unk
  | .fn _ _ _ => .unk
  | .ifc _ _ => .unk
  | .tuple _ => .unk
  | v => v
def kls2 (σ : List Nat) : AV → AV
  | .agg cs => .agg (cs.map (kls1 σ))
  | .fn f a b => .fn f (a.map (kls1 σ)) (b.map (kls1 σ))
  | v => kls1 σ v
def kls3 (σ : List Nat) : AV → AV
  | .tuple vs => .tuple (vs.map (kls2 σ))
  | .ifc t v => .ifc t (kls2 σ v)
  | v => kls2 σ v
def klsT (σ : List Nat) (ts : List AV) : List AV := match σ with
  | [] => ts
  | σ => ts.map (kls3 σ)
/-- A value, run to its end. -/
def vf1 (v : AV) (k : AV → Prop) : Prop := match v with
  | .unk => k .unk
  | .tt => k .tt
  | .ff => k .ff
  | .prop p d => k (.prop p d)
  | .int kd n => k (.int kd n)
  | .str s => k (.str s)
  | .nilsl => k .nilsl
  | .emp => k .emp
  | .sl sz es => k (.sl sz es)
  | .pim sz es j t => k (.pim sz es j t)
  | .loc i => k (.loc i)
  | .part i o l => k (.part i o l)
  | .prow i j t => k (.prow i j t)
  | .sub i j => k (.sub i j)
  | .psub i j l t => k (.psub i j l t)
  | .nilptr => k .nilptr
  | .nilfn => k .nilfn
  | .nilif => k .nilif
  | .agg cs => k (.agg cs)
  | .fn f a b => k (.fn f a b)
  | .ifc t v => k (.ifc t v)
  | .tuple vs => k (.tuple vs)
def vfL (f : AV → (AV → Prop) → Prop) : List AV → (List AV → Prop) → Prop
  | [], k => k []
  | x :: xs, k => f x fun y => vfL f xs fun ys => k (y :: ys)
def vf2 (v : AV) (k : AV → Prop) : Prop := match v with
  | .agg cs => vfL vf1 cs fun cs' => k (.agg cs')
  | .fn f a b => vfL vf1 a fun a' => vfL vf1 b fun b' => k (.fn f a' b')
  | v => vf1 v k
def vf3 (v : AV) (k : AV → Prop) : Prop := match v with
  | .tuple vs => vfL vf2 vs fun vs' => k (.tuple vs')
  | .ifc t v => vf2 v fun v' => k (.ifc t v')
  | v => vf2 v k
def ef (e : Ent) (k : Ent → Prop) : Prop := match e with
  | .dead => k .dead
  | .row .var sz es => vfL vf2 es fun es' => k (.row .var sz es')
  | .row .plain sz es => k (.row .plain sz es)
  | .row .nest sz es => k (.row .nest sz es)
def efL : List Ent → (List Ent → Prop) → Prop
  | [], k => k []
  | x :: xs, k => ef x fun y => efL xs fun ys => k (y :: ys)
def klsF (σ : List Nat) (ts : List AV) (k : List AV → Prop) : Prop := match σ with
  | [] => k ts
  | σ => vfL vf3 (ts.map (kls3 σ)) k
/-- The p-th argument is the slice in the j-th element of a nested row, which reads as e. -/
def subAt (σ : List Nat) (tab : List Ent) (args : List AV) (p : Nat) (e : AV) : Prop := ∃ i j, nth args p = some (.sub i j) ∧ idx σ i = none ∧ ∃ sz es sz' es', ent tab i = .row .nest sz es ∧ nth es j = some (.sl sz' es') ∧ e = .sl sz' es'
def subL (σ : List Nat) (tab : List Ent) (args : List AV) : List (Nat × AV) → Prop
  | [] => True
  | (p, e) :: l => subAt σ tab args p e ∧ subL σ tab args l
def setP : List (Nat × AV) → List AV → List AV
  | [], xs => xs
  | (p, e) :: l, xs => setP l (xs.set p e)
/-- The slice in an element of a nested row becomes a row of its own. -/
def lift1 (i j n : Nat) : AV → AV
  | .sub i' j' => match Nat.beq i' i with
    | true => match Nat.beq j' j with
      | true => .loc n
      | false => .unk
    | false => .unk
  | .psub _ _ _ _ => .unk
  | .agg _ => .unk
  | .fn _ _ _ => .unk
  | .ifc _ _ => .unk
  | .tuple _ => .unk
  | v => v
/-- The table without some of its rows. -/
def hid : List Nat → List Ent → List Ent
  | [], t => t
  | i :: d, t => hid d (t.set i .dead)
inductive callX (C : Contracts) (f : FuncId) (args : List AV) (ts : List AV) (tab : List Ent) (k : AV → List AV → List Ent → Prop) : Prop
  | mk (σ : List Nat) (n : Nat) (r : AV) (muts : List Ent) (al : Bool) (hc : C f (args.map (ren3 σ tab)) (renT σ tab) (is r muts) al) (hn : tab.length = n) (h1 : nodupB σ = true) (h2 : snapOk σ 0 tab) (h3 : al = true → Closed σ args tab)
      (hk : efL (bkT σ n muts) fun ms => backT σ ms tab fun fresh tab' => vf3 (bk3 σ n r) fun r' => klsF σ ts fun ts' => lnorm (tab' ++ fresh) fun tab'' => k r' ts' tab'') : callX C f args ts tab k
  | mkT (l : List (Nat × AV)) (σ : List Nat) (hl : subL σ tab args l) (n : Nat) (r : AV) (muts : List Ent) (al : Bool) (hc : C f (setP l (args.map (ren3 σ tab))) (renT σ tab) (is r muts) al) (hn : tab.length = n) (h1 : nodupB σ = true) (h2 : snapOk σ 0 tab) (h3 : al = true → Closed σ args tab)
      (hk : efL (bkT σ n muts) fun ms => backT σ ms tab fun fresh tab' => vf3 (bk3 σ n r) fun r' => klsF σ ts fun ts' => lnorm (tab' ++ fresh) fun tab'' => k r' ts' tab'') : callX C f args ts tab k
  | mkH (d σ : List Nat) (n : Nat) (r : AV) (muts : List Ent) (al : Bool) (hc : C f (args.map (ren3 σ (hid d tab))) (renT σ (hid d tab)) (is r muts) al) (hn : tab.length = n) (h1 : nodupB σ = true) (h2 : snapOk σ 0 (hid d tab)) (h3 : al = true → Closed σ args (hid d tab))
      (hk : efL (bkT σ n muts) fun ms => backT σ ms tab fun fresh tab' => vf3 (bk3 σ n r) fun r' => klsF σ ts fun ts' => lnorm (tab' ++ fresh) fun tab'' => k r' ts' tab'') : callX C f args ts tab k
  | mkE (d σ : List Nat) (n : Nat) {α : Type} (p : α → Prop) (rf : α → AV) (mf : α → List Ent) (al : Bool) (hc : C f (args.map (ren3 σ (hid d tab))) (renT σ (hid d tab)) (some' p rf mf) al) (hn : tab.length = n) (h1 : nodupB σ = true) (h2 : snapOk σ 0 (hid d tab)) (h3 : al = true → Closed σ args (hid d tab))
      (hk : ∀ x, p x → efL (bkT σ n (mf x)) fun ms => backT σ ms tab fun fresh tab' => vf3 (bk3 σ n (rf x)) fun r' => klsF σ ts fun ts' => lnorm (tab' ++ fresh) fun tab'' => k r' ts' tab'') : callX C f args ts tab k
def lift0 : AV → AV
  | .sub _ _ => .unk
  | .psub _ _ _ _ => .unk
  | .agg _ => .unk
  | .fn _ _ _ => .unk
  | .ifc _ _ => .unk
  | .tuple _ => .unk
  | v => v
def liftL : List AV → (List AV → Prop) → Prop
  | [], k => k []
  | v :: vs, k => vf3 (lift0 v) fun v' => liftL vs fun vs' => k (v' :: vs')
def liftC (i j p : Nat) (args ts : List AV) (tab : List Ent) (k : List AV → List AV → List Ent → Prop) : Prop :=
  nth args p = some (.sub i j) ∧ match ent tab i with
  | .row .nest sz es => optP es j fun o => match o with
    | some (.sl sz' es') => eqL (es.set j .unk) fun es2 => eset tab i (.row .nest sz es2) fun tab' => snoc tab' (.row .plain sz' es') fun n tab'' =>
        liftL args fun args' => lnorm (args'.set p (.loc n)) fun args' => liftL ts fun ts' => k args' ts' tab''
    | _ => False
  | _ => False
/-- Own rows that are not in σ become trees. -/
def frzC (σ : List Nat) (args ts : List AV) (tab : List Ent) (k : List AV → List AV → List Ent → Prop) : Prop :=
  vfL vf3 (args.map (ren3 σ tab)) fun args' => vfL vf3 (ts.map (ren3 σ tab)) fun ts' => efL (renT σ tab) fun tab' => k args' ts' tab'
inductive callW (C : Contracts) (fz : Bool) (f : FuncId) (args : List AV) (ts : List AV) (tab : List Ent) (k : AV → List AV → List Ent → Prop) : Prop
  | mk (σ : List Nat) (n : Nat) (r : AV) (muts : List Ent) (al : Bool) (hc : C f (args.map (ren3 σ tab)) (renT σ tab) (is r muts) al) (hn : tab.length = n) (h1 : nodupB σ = true) (h2 : snapOk σ 0 tab) (h3 : al = true → Closed σ args tab)
      (hk : efL (bkT σ n muts) fun ms => backT σ ms tab fun fresh tab' => vf3 (bk3 σ n r) fun r' => klsF σ ts fun ts' => lnorm (tab' ++ fresh) fun tab'' => k r' ts' tab'') : callW C fz f args ts tab k
  | mkT (l : List (Nat × AV)) (σ : List Nat) (hl : subL σ tab args l) (n : Nat) (r : AV) (muts : List Ent) (al : Bool) (hc : C f (setP l (args.map (ren3 σ tab))) (renT σ tab) (is r muts) al) (hn : tab.length = n) (h1 : nodupB σ = true) (h2 : snapOk σ 0 tab) (h3 : al = true → Closed σ args tab)
      (hk : efL (bkT σ n muts) fun ms => backT σ ms tab fun fresh tab' => vf3 (bk3 σ n r) fun r' => klsF σ ts fun ts' => lnorm (tab' ++ fresh) fun tab'' => k r' ts' tab'') : callW C fz f args ts tab k
  | mkH (d σ : List Nat) (n : Nat) (r : AV) (muts : List Ent) (al : Bool) (hc : C f (args.map (ren3 σ (hid d tab))) (renT σ (hid d tab)) (is r muts) al) (hn : tab.length = n) (h1 : nodupB σ = true) (h2 : snapOk σ 0 (hid d tab)) (h3 : al = true → Closed σ args (hid d tab))
      (hk : efL (bkT σ n muts) fun ms => backT σ ms tab fun fresh tab' => vf3 (bk3 σ n r) fun r' => klsF σ ts fun ts' => lnorm (tab' ++ fresh) fun tab'' => k r' ts' tab'') : callW C fz f args ts tab k
  | mkE (d σ : List Nat) (n : Nat) {α : Type} (p : α → Prop) (rf : α → AV) (mf : α → List Ent) (al : Bool) (hc : C f (args.map (ren3 σ (hid d tab))) (renT σ (hid d tab)) (some' p rf mf) al) (hn : tab.length = n) (h1 : nodupB σ = true) (h2 : snapOk σ 0 (hid d tab)) (h3 : al = true → Closed σ args (hid d tab))
      (hk : ∀ x, p x → efL (bkT σ n (mf x)) fun ms => backT σ ms tab fun fresh tab' => vf3 (bk3 σ n (rf x)) fun r' => klsF σ ts fun ts' => lnorm (tab' ++ fresh) fun tab'' => k r' ts' tab'') : callW C fz f args ts tab k
  | frz (σ : List Nat) (hf : fz = true) (h1 : nodupB σ = true) (h2 : snapOk σ 0 tab) (h : frzC σ args ts tab fun args' ts' tab' => callX C f args' ts' tab' k) : callW C fz f args ts tab k
  | lift (i j p : Nat) (h : liftC i j p args ts tab fun args' ts' tab' => callX C f args' ts' tab' k) : callW C fz f args ts tab k
def intOfs : List AV → (List Int → Prop) → Prop
  | [], k => k []
  | .int .i64 n :: vs, k => intOfs vs fun ns => k (n :: ns)
  | _ :: _, _ => False
def builtinW (nest : Bool) (P : Program) (b : Builtin) (args : List AV) (argTypes : List TypeId) (tab : List Ent) (k : AV → List Ent → Prop) : Prop :=
  match b with
  | .len => match args with
    | [v] => match argTypes with
      | t :: _ => match und P t with
        | some (.array n _) => k (.int .i64 n) tab
        | some .string => match v with
          | .str s => lenS s fun n => k (.int .i64 (n : Int)) tab
          | _ => False
        | some (.slice _) => lenW v tab fun r => k r tab
        | _ => False
      | _ => False
    | _ => False
  | .append => match args with
    | [s, x] => match argTypes with
      | [t, t2] => appendW nest P t t2 s x tab k
      | _ => False
    | _ => False
  | .clear => match args with
    | [x] => match argTypes with
      | [t] => clearW P t x tab k
      | _ => False
    | _ => False
  | .max => intOfs args fun ns => match ns with
    | [a, b] => num .i64 (max a b) fun v => k v tab
    | _ => False
  | .min => intOfs args fun ns => match ns with
    | [a, b] => num .i64 (min a b) fun v => k v tab
    | _ => False
  | _ => False
noncomputable def opW (C : Contracts) (nest fz : Bool) (P : Program) (o : Op) (ts : List AV) (tab : List Ent) (k : AV → List AV → List Ent → Prop) : Prop :=
  match o with
  | .move x => ev ts x fun v => k v ts tab
  | .assign x => ev ts x fun v => k v ts tab
  | .pick c a b => ev ts c fun c => two c (ev ts a fun v => k v ts tab) (ev ts b fun v => k v ts tab)
  | .binOp op t x y _ => ev ts x fun a => ev ts y fun b => binN P t op a b tab fun v => k v ts tab
  | .unOp op _ x => ev ts x fun a => unW op a fun v => k v ts tab
  | .convert src dst x => ev ts x fun a => convN P src dst a tab fun v tab' => k v ts tab'
  | .alloc elem => zer P elem fun z => okSt tab z = true ∧ snoc tab (.row .var (cellsOf z).length [z]) fun n tab' => k (.prow n 0 0) ts tab'
  | .box elem x => ev ts x fun v => okSt tab v = true ∧ snoc tab (.row .var (cellsOf v).length [v]) fun n tab' => k (.prow n 0 0) ts tab'
  | .build t parts => evp ts parts.toList fun vs => buildW P t vs tab fun v => k v ts tab
  | .buildSlice t len parts => evp ts parts.toList fun vs => buildSliceW nest fz P t len vs tab fun v tab' => k v ts tab'
  | .load t p => ev ts p fun p => loadW P t p tab fun v => k v ts tab
  | .store t p x => ev ts p fun p => ev ts x fun v => storeW fz P t p v ts tab fun ts' tab' => k .unk ts' tab'
  | .nilCheck x => ev ts x fun v => match v with
    | .prow i _ _ => match ent tab i with
      | .row _ _ _ => k v ts tab
      | .dead => False
    | .pim _ _ _ _ => k v ts tab
    | .fn (.func _) _ _ => k v ts tab
    | _ => False
  | .makeFunc f a b => evs ts a.toList fun a => evs ts b.toList fun b => frzA fz a tab fun a' tab' => k (.fn f a' b) ts tab'
  | .makeSlice t l c => ev ts l fun l => ev ts c fun c => makeSliceW nest P t l c tab fun v tab' => k v ts tab'
  | .slice t x lo hi mx => ev ts x fun x => bnd ts lo fun lo => bnd ts hi fun hi => match mx with
    | none => sliceW P t x lo hi tab fun v => k v ts tab
    | some m => bnd ts (some m) fun m => slice0 P t x lo hi m tab fun v => k v ts tab
  | .fieldAddr s x f => ev ts x fun x => fieldAddrW P s x f tab fun v => k v ts tab
  | .field s x f => ev ts x fun x => fieldW P s x f fun v => k v ts tab
  | .indexAddr t x i => ev ts x fun x => ev ts i fun i => indexAddrW P t x i tab fun v => k v ts tab
  | .index t x i => ev ts x fun x => ev ts i fun i => indexW P t x i fun v => k v ts tab
  | .extract x i => ev ts x fun x => match x with
    | .tuple vs => lget vs i fun v => k v ts tab
    | _ => False
  | .call c => match c.callee with
    | .builtin b => evs ts c.args.toList fun vs => builtinW nest P b vs c.argTypes.toList tab fun v tab' => k v ts tab'
    | .value g => ev ts g fun g => evs ts c.args.toList fun vs => match g with
      | .fn (.func f) first caps => callW C fz f (first ++ (vs ++ caps)) ts tab k
      | _ => False
    | .invoke _ _ => False
  | _ => False

/-! ### regions -/
/-- Is the operation carried out? A bool that decides it is told as true or false from here on. -/
def guardW (ops : List Oper) (g : Option (Nat × Bool)) (ts : List AV) (k : Bool → List AV → Prop) : Prop :=
  match g with
  | none => k true ts
  | some (j, want) => match nth ops j with
    | some o => match o.dst with
      | some t => lget ts t fun v => match v with
        | .tt => k want ts
        | .ff => k (!want) ts
        | .tuple [] => k false ts
        | .prop p _ => twoP p (lset ts t .tt fun ts' => k want ts') (lset ts t .ff fun ts' => k (!want) ts')
        | _ => False
      | none => False
    | none => False
def putW (ts : List AV) (dst : Option Tmp) (v : AV) (k : List AV → Prop) : Prop :=
  match dst with
  | some d => lset ts d v k
  | none => k ts
noncomputable def operW (C : Contracts) (nest fz : Bool) (P : Program) (ops : List Oper) (o : Oper) (ts : List AV) (tab : List Ent) (k : List AV → List Ent → Prop) : Prop :=
  guardW ops o.guard ts fun yes ts => match yes with
    | true => opW C nest fz P o.op ts tab fun v ts' tab' => putW ts' o.dst v fun ts'' => k ts'' tab'
    | false => putW ts o.dst (.tuple []) fun ts' => k ts' tab
noncomputable def regW (C : Contracts) (nest fz : Bool) (P : Program) (ops l : List Oper) : List AV → List Ent → (List AV → List Ent → Prop) → Prop :=
  List.rec (motive := fun _ => List AV → List Ent → (List AV → List Ent → Prop) → Prop) (fun ts tab k => k ts tab)
    (fun o _ ih ts tab k => operW C nest fz P ops o ts tab fun ts' tab' => ih ts' tab' k) l

/-! ### regions whose order is drawn: first operations in whatever order, that write no memory told of in the table, and then some in their order -/
inductive callP (C : Contracts) (f : FuncId) (args : List AV) (tab : List Ent) (k : AV → Prop) : Prop
  | mk (r : AV) (muts : List Ent) (al : Bool) (hc : C f (args.map (ren3 [] tab)) [] (is r muts) al) (h1 : snapOk [] 0 tab) (h2 : al = true → args.any hasRef = false) (h3 : snapOk [] 0 muts) (hk : vf3 (ren3 [] muts r) k) : callP C f args tab k
def opP (C : Contracts) (P : Program) (o : Op) (ts : List AV) (tab : List Ent) (k : AV → Prop) : Prop :=
  match o with
  | .move x => ev ts x k
  | .assign x => ev ts x k
  | .binOp op t x y _ => ev ts x fun a => ev ts y fun b => binN P t op a b tab k
  | .unOp op _ x => ev ts x fun a => unW op a k
  | .convert src dst x => ev ts x fun a => convW P src dst a k
  | .load t p => ev ts p fun p => loadW P t p tab k
  | .slice t x lo hi none => ev ts x fun x => bnd ts lo fun lo => bnd ts hi fun hi => sliceW P t x lo hi tab k
  | .fieldAddr s x f => ev ts x fun x => fieldAddrW P s x f tab k
  | .field s x f => ev ts x fun x => fieldW P s x f k
  | .indexAddr t x i => ev ts x fun x => ev ts i fun i => indexAddrW P t x i tab k
  | .index t x i => ev ts x fun x => ev ts i fun i => indexW P t x i k
  | .extract x i => ev ts x fun x => match x with
    | .tuple vs => lget vs i k
    | _ => False
  | .call c => match c.callee with
    | .builtin .len => evs ts c.args.toList fun vs => builtinW false P .len vs c.argTypes.toList tab fun v _ => k v
    | .value g => ev ts g fun g => evs ts c.args.toList fun vs => match g with
      | .fn (.func f) first caps => callP C f (first ++ (vs ++ caps)) tab k
      | _ => False
    | _ => False
  | .build t parts => evp ts parts.toList fun vs => buildW P t vs tab k
  | _ => False
inductive exP (A : (AV → Prop) → Prop) (K : AV → Prop) : Prop
  | mk (v : AV) (h : A fun u => u = v) (hk : K v) : exP A K
inductive drawP (F : List Nat → Nat → Prop) (G : Prop) (T : Nat → Prop) : Prop
  | mk (n : Nat) (h : F [] n) : drawP F G T
  | mkL (late : List Nat) (n : Nat) (h : F late n) : drawP F G T
  | mkS (h : G) : drawP F G T
  | mkT (n : Nat) (h : T n) : drawP F G T
def operP (C : Contracts) (P : Program) (ops : List Oper) (o : Oper) (ts : List AV) (tab : List Ent) (k : List AV → Prop) : Prop :=
  guardW ops o.guard ts fun yes ts => match yes with
    | true => match o.op with
      | .pick c x y => ev ts c fun c => two c (ev ts x fun v => putW ts o.dst v k) (ev ts y fun v => putW ts o.dst v k)
      | op => exP (opP C P op ts tab) fun v => putW ts o.dst v k
    | false => putW ts o.dst (.tuple []) k
noncomputable def regP (C : Contracts) (P : Program) (ops : List Oper) (n : Nat) : List Oper → List AV → List Ent → (List AV → List Oper → Prop) → Prop :=
  Nat.rec (motive := fun _ => List Oper → List AV → List Ent → (List AV → List Oper → Prop) → Prop) (fun l ts _ k => k ts l)
    (fun _ ih l ts tab k => match l with
      | [] => k ts []
      | o :: rest => operP C P ops o ts tab fun ts' => ih rest ts' tab k) n
def tmpsOf : List Operand → List Nat
  | [] => []
  | .tmp t :: os => t :: tmpsOf os
  | _ :: os => tmpsOf os
def looks (ops : List Oper) (o : Oper) : List Nat :=
  match o.guard with
  | some (g, _) => match nth ops g with
    | some og => match og.dst with
      | some t => t :: tmpsOf o.op.operands.toList
      | none => tmpsOf o.op.operands.toList
    | none => tmpsOf o.op.operands.toList
  | none => tmpsOf o.op.operands.toList
/-- The numbers that come before an operation in every order. -/
def befores (o : Oper) : List Nat := (o.after.toList.filter fun e => Region.binds .any e).map (·.on)
def isIn : List Nat → Nat → Bool
  | [], _ => false
  | x :: xs, n => match Nat.beq x n with
    | true => true
    | false => isIn xs n
def dstIs (o : Oper) (t : Nat) : Bool := match o.dst with
  | some d => Nat.beq d t
  | none => false
/-- Operation i: looks at what is there before it; what it looks at and is written here is written before it in every order. -/
def okAt (ops : List Oper) (n i : Nat) (o : Oper) : Bool :=
  (befores o).all (fun j => Nat.blt j i) &&
  ((ops.take n).zipIdx).all fun (p, j) => match Nat.blt j i with
    | true => (looks ops o).all (fun t => !(dstIs p t) || isIn (befores o) j) && (match o.dst with | some d => !(dstIs p d) | none => true)
    | false => (looks ops o).all fun t => !(dstIs p t)
def headOk (ops : List Oper) (n : Nat) : Bool := ((ops.take n).zipIdx).all fun (o, i) => okAt ops n i o
def apartB (ops : List Oper) (x y : Oper) : Bool :=
  (match x.dst with
    | some d => !(isIn (looks ops y) d) && !(dstIs y d)
    | none => false) &&
  (match y.dst with
    | some d => !(isIn (looks ops x) d)
    | none => true)
def isSel (o : Oper) : Bool := match o.op with
  | .select .. => true
  | _ => false
def isMove (o : Oper) : Bool := match o.op with
  | .move .. => (match o.guard with
    | none => (match befores o with
      | [] => true
      | _ => false)
    | _ => false)
  | _ => false
/-- Operation i is a plain move that may as well come first. -/
def lateOk (ops : List Oper) (n i : Nat) : Bool := Nat.blt i n && (match nth ops i with
  | some o => isMove o && ops.zipIdx.all fun (p, j) => !(isSel p) && (Nat.beq j i || isIn (befores p) i || apartB ops o p)
  | none => false)
/-- Operations from n on: in their order, when all before n are done. -/
def tailOk (late : List Nat) (ops : List Oper) (n : Nat) : Bool :=
  (late.all fun i => lateOk ops n i) && (match ops.length - n with
    | 0 => true
    | _ => ((ops.take n).zipIdx).all fun (_, i) => isIn late i || ((ops.take (n + 1)).zipIdx).any fun (p, j) => Nat.blt i j && isIn (befores p) i) &&
  (ops.zipIdx).all fun (p, j) => match Nat.blt n j with
    | true => isIn (befores p) (j - 1) && (befores p).all (fun i => Nat.blt i j)
    | false => (befores p).all (fun i => Nat.blt i j)
noncomputable def drawW (C : Contracts) (nest fz : Bool) (P : Program) (ops : List Oper) (late : List Nat) (n : Nat) (ts : List AV) (tab : List Ent) (k : List AV → List Ent → Prop) : Prop :=
  Nat.ble n ops.length = true ∧ headOk ops n = true ∧ tailOk late ops n = true ∧ P.follows .mixedOrders = true ∧
    regP C P ops n ops ts tab fun ts' rest => regW C nest fz P ops rest ts' tab k

/-! ### regions whose order is drawn, second way: operations that only look float, the others come in their order -/
/-- An operation that only looks. -/
def opF (P : Program) (o : Op) (ts : List AV) (tab : List Ent) (k : AV → Prop) : Prop :=
  match o with
  | .move x => ev ts x k
  | .assign x => ev ts x k
  | .binOp op t x y _ => ev ts x fun a => ev ts y fun b => binN P t op a b tab k
  | .unOp op _ x => ev ts x fun a => unW op a k
  | .convert src dst x => ev ts x fun a => convW P src dst a k
  | .load t p => ev ts p fun p => loadW P t p tab k
  | .slice t x lo hi none => ev ts x fun x => bnd ts lo fun lo => bnd ts hi fun hi => sliceW P t x lo hi tab k
  | .fieldAddr s x f => ev ts x fun x => fieldAddrW P s x f tab k
  | .field s x f => ev ts x fun x => fieldW P s x f k
  | .indexAddr t x i => ev ts x fun x => ev ts i fun i => indexAddrW P t x i tab k
  | .index t x i => ev ts x fun x => ev ts i fun i => indexW P t x i k
  | .extract x i => ev ts x fun x => match x with
    | .tuple vs => lget vs i k
    | _ => False
  | .nilCheck x => ev ts x fun v => match v with
    | .prow i _ _ => match ent tab i with
      | .row _ _ _ => k v
      | .dead => False
    | .pim _ _ _ _ => k v
    | .fn (.func _) _ _ => k v
    | _ => False
  | .call c => match c.callee with
    | .builtin .len => evs ts c.args.toList fun vs => builtinW false P .len vs c.argTypes.toList tab fun v _ => k v
    | .builtin .max => evs ts c.args.toList fun vs => intOfs vs fun ns => match ns with
      | [a, b] => num .i64 (max a b) k
      | _ => False
    | .builtin .min => evs ts c.args.toList fun vs => intOfs vs fun ns => match ns with
      | [a, b] => num .i64 (min a b) k
      | _ => False
    | _ => False
  | .build t parts => evp ts parts.toList fun vs => buildW P t vs tab k
  | .makeFunc f a b => evs ts a.toList fun a => evs ts b.toList fun b => k (.fn f a b)
  | _ => False
def flKind : Op → Bool
  | .move _ => true
  | .assign _ => true
  | .binOp .. => true
  | .unOp .. => true
  | .convert .. => true
  | .load .. => true
  | .slice _ _ _ _ none => true
  | .fieldAddr .. => true
  | .field .. => true
  | .indexAddr .. => true
  | .index .. => true
  | .extract .. => true
  | .nilCheck .. => true
  | .call c => match c.callee with
    | .builtin .len => true
    | .builtin .max => true
    | .builtin .min => true
    | _ => false
  | .build .. => true
  | .makeFunc .. => true
  | _ => false
def isFl (o : Oper) : Bool := flKind o.op && (match o.dst with | some _ => true | none => false)
def mainsOf (ops : List Oper) : List Nat := (ops.zipIdx.filter fun p => !(isFl p.1)).map (·.2)
/-- The floating operations that may be carried out when these others are. -/
def availF (ops : List Oper) (done : List Nat) : List Nat := ops.zipIdx.foldl (fun acc p => match isFl p.1 && (befores p.1).all (fun b => isIn done b || isIn acc b) with
  | true => acc ++ [p.2]
  | false => acc) []
def closedB (ops : List Oper) (done av : List Nat) : Bool := ops.zipIdx.all fun p => !(isFl p.1 && (befores p.1).all (fun b => isIn done b || isIn av b)) || isIn av p.2
/-- What must have been before these. -/
def sureL (ops : List Oper) (done : List Nat) : List Nat := ops.zipIdx.reverse.foldl (fun acc p => match isIn done p.2 || isIn acc p.2 with
  | true => acc ++ befores p.1
  | false => acc) []
def surely (ops : List Oper) (done : List Nat) (i : Nat) : Bool := isIn (sureL ops done) i
/-- The floating operations that may be open; is it the first time? -/
def fltS (ops : List Oper) (done pa : List Nat) : List (Nat × Bool) := ((availF ops done).filter fun i => !(surely ops done i)).map fun i => (i, !(isIn pa i))
def ascB : List (Nat × Bool) → Bool
  | [] => true
  | x :: l => l.all (fun y => Nat.blt x.1 y.1) && ascB l
/-- Operation i is done whenever j may begin: a main operation before j comes after i. -/
def exB (ops : List Oper) (i j : Nat) : Bool := match nth ops j with
  | some q => (befores q).any fun m => (match nth ops m with | some o => !(isFl o) | none => false) && surely ops [m] i
  | none => false
/-- What x looks at y does not write, unless y comes before it. -/
def offB (ops : List Oper) (x y : Nat) : Bool := Nat.beq x y || match nth ops x with
  | some o => (match nth ops y with
    | some p => (match p.dst with | some d => !(isIn (looks ops o) d) || isIn (befores o) y | none => true)
    | none => true)
  | none => true
def okS (ops : List Oper) (done pa : List Nat) : Bool :=
  closedB ops done (availF ops done) && ascB (fltS ops done pa) && (fltS ops done pa).all (fun x => match nth ops x.1 with | some o => isFl o | none => false) && pa.all (isIn (availF ops done)) &&
    (fltS ops done pa).all (fun x => (fltS ops done pa).all fun y => offB ops x.1 y.1)
def chkS (ops : List Oper) : Bool :=
  (ops.zipIdx.all fun p => (match p.1.guard with | none => true | some _ => false) && !(isSel p.1) && (befores p.1).all (fun b => Nat.blt b p.2) && (match p.1.dst with | some d => !(isFl p.1) || !(isIn (looks ops p.1) d) | none => true) &&
    ops.zipIdx.all fun q => (match q.1.dst with | some d => (Nat.beq q.2 p.2 || ((!(isIn (looks ops p.1) d) || isIn (befores p.1) q.2 || exB ops p.2 q.2) && !(dstIs p.1 d))) | none => true))
def stageW (P : Program) (ops : List Oper) (l : List (Nat × Bool)) : List AV → List Ent → (List AV → Prop) → Prop :=
  List.rec (motive := fun _ => List AV → List Ent → (List AV → Prop) → Prop) (fun ts _ k => k ts)
    (fun p _ ih ts tab k => match nth ops p.1 with
      | some o => match o.dst with
        | some d => match p.2 with
          | true => exP (opF P o.op ts tab) fun v => lset ts d v fun ts' => ih ts' tab k
          | false => opF P o.op ts tab (fun v => lget ts d fun u => u = v) ∧ ih ts tab k
        | none => False
      | none => False) l
/-- The others that may be next. -/
def readyL (ops : List Oper) (ms done av : List Nat) : List Nat := ms.filter fun m => match nth ops m with | some o => (befores o).all fun b => isIn done b || isIn av b | none => true
def remL (ms : List Nat) (m : Nat) : List Nat := ms.filter fun q => !(Nat.beq q m)
structure BothP (a b : Prop) : Prop where
  l : a
  r : b
def conjL (f : Nat → Prop) : List Nat → Prop :=
  List.rec (motive := fun _ => Prop) True (fun m rest ih => match rest with | [] => f m | _ => BothP (f m) ih)
noncomputable def runS (C : Contracts) (nest fz : Bool) (P : Program) (ops : List Oper) (l : List Nat) : List Nat → List Nat → List Nat → List AV → List Ent → (List AV → List Ent → Prop) → Prop :=
  List.rec (motive := fun _ => List Nat → List Nat → List Nat → List AV → List Ent → (List AV → List Ent → Prop) → Prop)
    (fun ms done pa ts tab k => okS ops done pa = true ∧ stageW P ops (fltS ops done pa) ts tab fun ts' => match ms with
      | [] => k ts' tab
      | _ => False)
    (fun _ _ ih ms done pa ts tab k => okS ops done pa = true ∧ stageW P ops (fltS ops done pa) ts tab fun ts' => match ms with
      | [] => k ts' tab
      | _ => conjL (fun m => match nth ops m with
        | some o => opW C nest fz P o.op ts' tab fun v ts2 tab' => putW ts2 o.dst v fun ts3 => ih (remL ms m) (done ++ [m]) (availF ops done) ts3 tab' k
        | none => False) (readyL ops ms done (availF ops done))) l
noncomputable def drawS (C : Contracts) (nest fz : Bool) (P : Program) (ops : List Oper) (ts : List AV) (tab : List Ent) (k : List AV → List Ent → Prop) : Prop :=
  chkS ops = true ∧ P.follows .mixedOrders = true ∧ runS C nest fz P ops (mainsOf ops) (mainsOf ops) [] [] ts tab k

/-! ### regions whose order is drawn, third way: the first ones only look, the others run in every order that is left open -/
def readyT (ops : List Oper) (rem : List Nat) : List Nat := rem.filter fun m => match nth ops m with | some o => (befores o).all fun b => !(isIn rem b) | none => false
noncomputable def runT (C : Contracts) (nest fz : Bool) (P : Program) (ops : List Oper) (f : Nat) : List Nat → List AV → List Ent → (List AV → List Ent → Prop) → Prop :=
  Nat.rec (motive := fun _ => List Nat → List AV → List Ent → (List AV → List Ent → Prop) → Prop)
    (fun rem ts tab k => match rem with | [] => k ts tab | _ :: _ => False)
    (fun _ ih rem ts tab k => match rem with
      | [] => k ts tab
      | _ :: _ => conjL (fun m => match nth ops m with
        | some o => operW C nest fz P ops o ts tab fun ts' tab' => ih (remL rem m) ts' tab' k
        | none => False) (readyT ops rem)) f
def rangeT (k : Nat) : Nat → List Nat := Nat.rec (motive := fun _ => Nat → List Nat) (fun _ => []) (fun _ ih n => n :: ih (n + 1)) k
/-- What may as well come first: it looks at temporaries alone. -/
def latK (o : Oper) : Bool := (match o.dst with | some _ => true | none => false) && match o.op with
  | .move _ => true
  | .assign _ => true
  | .pick _ _ _ => true
  | .binOp _ _ _ _ _ => true
  | _ => false
def isBin (o : Oper) : Bool := match o.op with
  | .binOp _ _ _ _ _ => true
  | _ => false
def cloT (ops : List Oper) (p : Oper) (l : List Nat) : List Nat := l.foldr (fun i acc => match isIn (befores p) i || acc.any (fun m => match nth ops m with | some q => isIn (befores q) i | none => false) with
  | true => i :: acc
  | false => acc) []
/-- One of the others may come before it. -/
def needU (ops : List Oper) (n i : Nat) : Bool := ops.zipIdx.any fun p => Nat.ble n p.2 && !((befores p.1).any fun b => Nat.ble n b) && !(isIn (cloT ops p.1 (rangeT n 0)) i)
def latU (ops : List Oper) (n i : Nat) : Bool := (Nat.blt i n && needU ops n i) && match nth ops i with
  | some o => latK o && ops.zipIdx.all fun p => !(isSel p.1) && (Nat.beq p.2 i || isIn (befores p.1) i || isIn (befores o) p.2 || apartB ops o p.1)
  | none => false
def strs (a b : AV) : Bool := match a with
  | .str _ => match b with
    | .str _ => true
    | _ => false
  | _ => false
def isTup0 (v : AV) : Bool := match v with
  | .tuple [] => true
  | _ => false
def latV (ops : List Oper) (ts : List AV) (i : Nat) : Prop := match nth ops i with
  | some o => match o.dst with
    | some d => lget ts d fun v => match isTup0 v with
      | true => 0 = 0
      | false => match o.op with
        | .binOp _ _ x y _ => ev ts x fun a => ev ts y fun b => strs a b = true
        | _ => False
    | none => False
  | none => False
def latsV (ops : List Oper) (ts : List AV) (l : List Nat) : Prop := List.rec (motive := fun _ => Prop) (0 = 0) (fun i _ ih => latV ops ts i ∧ ih) l
def binL (ops : List Oper) (n : Nat) : List Nat := (rangeT n 0).filter fun i => latU ops n i && match nth ops i with | some o => isBin o | none => false
def tailT (ops : List Oper) (n : Nat) : Bool :=
  (ops.zipIdx).all fun (p, j) => (befores p).all (fun i => Nat.blt i j) && match Nat.blt j n with
    | true => true
    | false => (befores p).any (fun i => Nat.ble n i) || (rangeT n 0).all fun i => latU ops n i || isIn (cloT ops p (rangeT n 0)) i
noncomputable def drawT (C : Contracts) (nest fz : Bool) (P : Program) (ops : List Oper) (n : Nat) (ts : List AV) (tab : List Ent) (k : List AV → List Ent → Prop) : Prop :=
  Nat.ble n ops.length = true ∧ headOk ops n = true ∧ tailT ops n = true ∧ P.follows .mixedOrders = true ∧
    regP C P ops n ops ts tab fun ts' _ => latsV ops ts' (binL ops n) ∧ runT C nest fz P ops (ops.length - n) (rangeT (ops.length - n) n) ts' tab k

/-! ### code -/
structure LoopW (fz : Bool) (m : Nat) (b : (Ex → List AV → List Ent → Prop) → List AV → List Ent → Prop) (K : Ex → List AV → List Ent → Prop) (ts : List AV) (tab : List Ent) : Prop where
  h : ∀ R : List AV → List Ent → Prop, (∀ ts tab ts' tab', weak fz m ts tab ts' tab' → R ts' tab' → R ts tab) →
    (∀ ts tab, b (fun e ts' tab' => match e with | .normal => R ts' tab' | e => K e ts' tab') ts tab → R ts tab) → R ts tab
abbrev CodeP := (Ex → List AV → List Ent → Prop) → List AV → List Ent → Prop
def codeSeq (x y : CodeP) : CodeP := fun K ts tab => x (fun e ts tab => match e with | .normal => y K ts tab | e => K e ts tab) ts tab
noncomputable def codeReg (C : Contracts) (nest fz : Bool) (P : Program) (ops : Array Oper) (draw : Bool) : CodeP := fun K ts tab => match draw with
  | false => regW C nest fz P ops.toList ops.toList ts tab (K .normal)
  | true => drawP (fun late n => drawW C nest fz P ops.toList late n ts tab (K .normal)) (drawS C nest fz P ops.toList ts tab (K .normal)) (fun n => drawT C nest fz P ops.toList n ts tab (K .normal))
def codeCond (c : Operand) (x y : CodeP) : CodeP := fun K ts tab => ev ts c fun v => two v (x K ts tab) (y K ts tab)
def exN (id : Nat) (e : Ex) : Ex := match e with
  | .exit j => match Nat.beq j id with
    | true => .normal
    | false => .exit j
  | e => e
def codeBlock (id : Nat) (x : CodeP) : CodeP := fun K ts tab => x (fun e ts tab => K (exN id e) ts tab) ts tab
noncomputable def codeW (C : Contracts) (nest fz : Bool) (P : Program) (m : Nat) (c : Code) : CodeP :=
  Code.rec (motive := fun _ => CodeP) (fun K ts tab => K .normal ts tab) (fun _ ops draw => codeReg C nest fz P ops draw) (fun _ _ x y => codeSeq x y) (fun c _ _ x y => codeCond c x y)
    (fun id _ x => codeBlock id x) (fun _ x => LoopW fz m x) (fun _ _ _ _ _ _ _ _ _ => False) (fun id K ts tab => K (.exit id) ts tab) (fun _ _ _ _ _ => False)
    (fun _ K ts tab => K .normal ts tab) (fun _ _ _ _ => False) (fun K ts tab => K .ret ts tab) (fun _ _ _ _ => False) c

/-! ### functions -/
def resL (P : Program) (ts : List AV) (tab : List Ent) : List ResultVar → (List AV → Prop) → Prop
  | [], k => k []
  | .tmp t :: rs, k => lget ts t fun v => resL P ts tab rs fun vs => k (v :: vs)
  | .cell a t :: rs, k => lget ts a fun p => loadW P t p tab fun v => resL P ts tab rs fun vs => k (v :: vs)
def resW (P : Program) (ts : List AV) (tab : List Ent) (rs : List ResultVar) (k : AV → Prop) : Prop :=
  match rs with
  | [.tmp t] => lget ts t k
  | [.cell a t] => lget ts a fun p => loadW P t p tab k
  | rs => resL P ts tab rs fun vs => k (.tuple vs)
/-- Holds no memory. -/
def pure1 : AV → Bool
  | .unk => true
  | .sl _ _ => false
  | .pim _ _ _ _ => false
  | .agg _ => false
  | .fn _ _ _ => false
  | .ifc _ _ => false
  | .tuple _ => false
  | _ => true
def pure2 : AV → Bool
  | .agg cs => cs.all pure1
  | .fn _ a b => a.all pure1 && b.all pure1
  | v => pure1 v
def pure3 : AV → Bool
  | .tuple vs => vs.all pure2
  | .ifc _ v => pure2 v
  | v => pure2 v
def pureN : AV → Prop
  | .sl _ es => ∀ e ∈ es, pure2 e = true
  | v => pure1 v = true
def pureE : Ent → Prop
  | .dead => True
  | .row .nest _ es => ∀ e ∈ es, pureN e
  | .row _ _ es => ∀ e ∈ es, pure2 e = true
def pureT : List Ent → Prop
  | [] => True
  | e :: es => pureE e ∧ pureT es
inductive doneX (fz : Bool) (m : Nat) (r : AV) (muts' : List Ent) (al : Bool) (v : AV) (tab : List Ent) : Prop
  | mk (ext σ : List Nat) (h1 : upto m σ = true) (h2 : nodupB σ = true) (hl : le3 muts' (cut3 σ v) r) (ht : leT muts' (cutT σ (tab ++ newR ext)) muts') (hp : match al with | true => True | false => pure3 r = true ∧ pureT muts') : doneX fz m r muts' al v tab
  | fz (ext σ : List Nat) (h1 : upto m σ = true) (h2 : nodupB σ = true) (hf : fz = true) (hs : snapOk σ 0 (tab ++ newR ext)) (hl : le3 muts' (ren3 σ (tab ++ newR ext) v) r) (ht : leT muts' (renT σ (tab ++ newR ext)) muts') (hp : match al with | true => True | false => pure3 r = true ∧ pureT muts') : doneX fz m r muts' al v tab
/-- The slice in an element of a nested row, the result or the q-th part of it, becomes a row of its own. -/
def liftW (i j q : Nat) (v : AV) (tab : List Ent) (k : AV → List Ent → Prop) : Prop :=
  match ent tab i with
  | .row .nest sz es => optP es j fun o => match o with
    | some (.sl sz' es') => eqL (es.set j .unk) fun es2 => eset tab i (.row .nest sz es2) fun tab' => snoc tab' (.row .plain sz' es') fun n tab'' => match v with
      | .tuple vs => nth vs q = some (.sub i j) ∧ liftL vs fun vs' => lnorm (vs'.set q (.loc n)) fun vs' => k (.tuple vs') tab''
      | v => v = .sub i j ∧ k (.loc n) tab''
    | _ => False
  | _ => False
/-- Where a shortened slice stands: in the t-th cell of a variable, or of the result. -/
inductive CutP
  | cell (r t : Nat)
  | res (t : Nat)
/-- A row is cut to its first elements, of which this slice is told. -/
def cutRowW (x : Option AV) (tab : List Ent) (k : Nat → List Ent → Prop) : Prop :=
  match x with
  | some (.part i off n) => match ent tab i with
    | .row .plain sz es => off = 0 ∧ eqL (es.take n) fun es' => eset tab i .dead fun tab1 => snoc tab1 (.row .plain sz es') k
    | _ => False
  | _ => False
def cutW (p : CutP) (v : AV) (tab : List Ent) (k : AV → List Ent → Prop) : Prop :=
  match p with
  | .cell r t => match ent tab r with
    | .row .var sz [.agg cs] => cutRowW (nth cs t) tab fun q tab2 => lnorm (cs.set t (.loc q)) fun cs' => eset tab2 r (.row .var sz [.agg cs']) fun tab3 => k v tab3
    | _ => False
  | .res t => match v with
    | .agg cs => cutRowW (nth cs t) tab fun q tab2 => lnorm (cs.set t (.loc q)) fun cs' => k (.agg cs') tab2
    | _ => False
inductive doneV (fz : Bool) (m : Nat) (r : AV) (muts' : List Ent) (al : Bool) (v : AV) (tab : List Ent) : Prop
  | mk (ext σ : List Nat) (h1 : upto m σ = true) (h2 : nodupB σ = true) (hl : le3 muts' (cut3 σ v) r) (ht : leT muts' (cutT σ (tab ++ newR ext)) muts') (hp : match al with | true => True | false => pure3 r = true ∧ pureT muts') : doneV fz m r muts' al v tab
  | fz (ext σ : List Nat) (h1 : upto m σ = true) (h2 : nodupB σ = true) (hf : fz = true) (hs : snapOk σ 0 (tab ++ newR ext)) (hl : le3 muts' (ren3 σ (tab ++ newR ext) v) r) (ht : leT muts' (renT σ (tab ++ newR ext)) muts') (hp : match al with | true => True | false => pure3 r = true ∧ pureT muts') : doneV fz m r muts' al v tab
  | lift (i j q : Nat) (h : liftW i j q v tab fun v' tab' => doneX fz m r muts' al v' tab') : doneV fz m r muts' al v tab
  | cut (p : CutP) (h : cutW p v tab fun v' tab' => doneX fz m r muts' al v' tab') : doneV fz m r muts' al v tab
/-- Some result. -/
inductive doneE (fz : Bool) (m : Nat) {α : Type} (p : α → Prop) (rf : α → AV) (mf : α → List Ent) (al : Bool) (v : AV) (tab : List Ent) : Prop
  | mk (x : α) (hx : p x) (h : doneV fz m (rf x) (mf x) al v tab) : doneE fz m p rf mf al v tab
/-- What a body's end must say. -/
def Ends (fz : Bool) (m : Nat) (Q : AV → List Ent → Prop) (al : Bool) (D : AV → List Ent → Prop) : Prop := ∀ v tab, D v tab → ∃ r muts', Q r muts' ∧ doneV fz m r muts' al v tab
def doneW (P : Program) (fn : Func) (D : AV → List Ent → Prop) (ts : List AV) (tab : List Ent) : Prop :=
  resW P ts tab fn.results.toList fun v => D v tab
noncomputable def bodyD (C : Contracts) (nest fz : Bool) (P : Program) (fn : Func) (args : List AV) (muts : List Ent) (D : AV → List Ent → Prop) : Prop :=
  (fz = true → muts = []) ∧ match fn.body with
  | some c => lnorm (args ++ List.replicate (fn.ntmps - args.length) .unk) fun ts => codeW C nest fz P muts.length c (fun e ts tab => match e with
      | .normal => doneW P fn D ts tab
      | .ret => doneW P fn D ts tab
      | _ => False) ts muts
  | none => False
end Sx

/- What an abstract state says of a frame and of memory, and what keeps it. -/
namespace Sx
open Go Go.RowKit

/-- Which entry (and which of its elements) owns a block; where an entry's block is. -/
structure Env where
  O : Nat → Option (Nat × Option Nat)
  L : Nat → Nat

def unfr (cs : Array Value) (fr : Nat × Nat) : Prop := ∀ j, j < cs.size → (decide (fr.1 ≤ j) && decide (j < fr.2)) = false
def elemsOk (sz : Nat) (es : List AV) : Prop := ∀ e ∈ es, (cellsOf e).length = sz
def cellsOk (es : List AV) : Prop := ∀ e ∈ es, ∀ v ∈ cellsOf e, okCell v = true

/-- Trees over memory that is not written. -/
inductive Rep (Z : Nat → Prop) (w : World) : AV → Value → Prop
  | unk (c : Value) : Rep Z w .unk c
  | tt : Rep Z w .tt (.bool true)
  | ff : Rep Z w .ff (.bool false)
  | prop (p : Prop) (d : Decidable p) : Rep Z w (.prop p d) (.bool (@decide p d))
  | int (k : IntKind) (n : Int) : Rep Z w (.int k n) (.int k n)
  | str (s : List UInt8) (b : ByteArray) : b.data.toList = s → Rep Z w (.str s) (.string b)
  | nilsl : Rep Z w .nilsl (.slice none 0 0)
  | emp (a : Option Addr) : Rep Z w .emp (.slice a 0 0)
  | sl0 (sz : Nat) (a : Option Addr) (cap : Nat) : Rep Z w (.sl sz []) (.slice a 0 cap)
  | sl (sz : Nat) (es : List AV) (b o cap : Nat) (val : Nat → Value) : es.length ≤ cap → elemsOk sz es → cellsOk es →
      (∀ (j t : Nat) (e v : AV), es[j]? = some e → (cellsOf e)[t]? = some v → Z b) →
      (∀ (j t : Nat) (e v : AV), es[j]? = some e → (cellsOf e)[t]? = some v → w.cell? ⟨b, o + j * sz + t, none⟩ = some (val (j * sz + t))) →
      (∀ (j t : Nat) (e v : AV), es[j]? = some e → (cellsOf e)[t]? = some v → Rep Z w v (val (j * sz + t))) →
      Rep Z w (.sl sz es) (.slice (some ⟨b, o, none⟩) es.length cap)
  | pim (sz : Nat) (es : List AV) (j0 t0 : Nat) (b o : Nat) (val : Nat → Value) : elemsOk sz es → cellsOk es →
      (∀ (j t : Nat) (e v : AV), es[j]? = some e → (cellsOf e)[t]? = some v → Z b) →
      (∀ (j t : Nat) (e v : AV), es[j]? = some e → (cellsOf e)[t]? = some v → w.cell? ⟨b, o + j * sz + t, none⟩ = some (val (j * sz + t))) →
      (∀ (j t : Nat) (e v : AV), es[j]? = some e → (cellsOf e)[t]? = some v → Rep Z w v (val (j * sz + t))) →
      Rep Z w (.pim sz es j0 t0) (.pointer (some ⟨b, o + j0 * sz + t0, none⟩))
  | nilptr : Rep Z w .nilptr (.pointer none)
  | nilfn : Rep Z w .nilfn .nilFunc
  | nilif : Rep Z w .nilif .nilIface
  | agg (cs : List AV) (vs : List Value) : cs.length = vs.length → (∀ (i : Nat) (c : AV) (v : Value), cs[i]? = some c → vs[i]? = some v → Rep Z w c v) → Rep Z w (.agg cs) (.agg vs.toArray)
  | fn (f : Fn) (a b : List AV) (va vb : List Value) : a.length = va.length → b.length = vb.length →
      (∀ (i : Nat) (c : AV) (v : Value), a[i]? = some c → va[i]? = some v → Rep Z w c v) → (∀ (i : Nat) (c : AV) (v : Value), b[i]? = some c → vb[i]? = some v → Rep Z w c v) → Rep Z w (.fn f a b) (.func f va.toArray vb.toArray)
  | ifc (t : TypeId) (v : AV) (c : Value) : Rep Z w v c → Rep Z w (.ifc t v) (.iface t c)
  | tuple (cs : List AV) (vs : List Value) : cs.length = vs.length → (∀ (i : Nat) (c : AV) (v : Value), cs[i]? = some c → vs[i]? = some v → Rep Z w c v) → Rep Z w (.tuple cs) (.tuple vs.toArray)

theorem cell_block {w w' : World} {a : Addr} (h : w'.heap[a.block]? = w.heap[a.block]?) : w'.cell? a = w.cell? a := World.cell?_of_block h
theorem cell_lt {w : World} {a : Addr} {v : Value} (h : w.cell? a = some v) : a.block < w.heap.size := World.block_lt_of_cell? w a h

theorem Rep.mono {Z Z' : Nat → Prop} {w w' : World} (h : ∀ b, Z b → b < w.heap.size → Z' b ∧ w'.heap[b]? = w.heap[b]?) {v : AV} {c : Value} (r : Rep Z w v c) : Rep Z' w' v c := by
  induction r with
  | unk c => exact .unk c
  | tt => exact .tt
  | ff => exact .ff
  | prop p d => exact .prop p d
  | int k n => exact .int k n
  | str s b hb => exact .str s b hb
  | nilsl => exact .nilsl
  | emp a => exact .emp a
  | sl0 sz a cap => exact .sl0 sz a cap
  | sl sz es b o cap val hl he hk hz hc _ ih =>
    refine .sl sz es b o cap val hl he hk (fun j t e v h1 h2 => (h b (hz j t e v h1 h2) (cell_lt (hc j t e v h1 h2))).1) (fun j t e v h1 h2 => ?_) ih
    rw [cell_block (h b (hz j t e v h1 h2) (cell_lt (hc j t e v h1 h2))).2]
    exact hc j t e v h1 h2
  | pim sz es j0 t0 b o val he hk hz hc _ ih =>
    refine .pim sz es j0 t0 b o val he hk (fun j t e v h1 h2 => (h b (hz j t e v h1 h2) (cell_lt (hc j t e v h1 h2))).1) (fun j t e v h1 h2 => ?_) ih
    rw [cell_block (h b (hz j t e v h1 h2) (cell_lt (hc j t e v h1 h2))).2]
    exact hc j t e v h1 h2
  | nilptr => exact .nilptr
  | nilfn => exact .nilfn
  | nilif => exact .nilif
  | agg cs vs hl _ ih => exact .agg cs vs hl ih
  | fn f a b va vb h1 h2 _ _ i1 i2 => exact .fn f a b va vb h1 h2 i1 i2
  | ifc t v c _ ih => exact .ifc t v c ih
  | tuple cs vs hl _ ih => exact .tuple cs vs hl ih

/-- A slice value over block b, which `own` owns: len elements from element off on; a slice without room is told of no block. -/
def SlOf (E : Env) (w : World) (own : Nat × Option Nat) (b sz off len : Nat) (c : Value) : Prop :=
  ∃ a cap, c = .slice a len cap ∧ len ≤ cap ∧ (cap = 0 ∨ (a = some ⟨b, off * sz, none⟩ ∧ E.O b = some own ∧
    ∃ cs ty fr, w.heap[b]? = some (.cells cs ty fr) ∧ unfr cs fr ∧ (off + cap) * sz ≤ cs.size))

/-- The row in block b, which `own` owns, has these elements. -/
def RowOK (E : Env) (w : World) (own : Nat × Option Nat) (b sz : Nat) (es : List AV) (Cell : Nat → AV → Value → Prop) : Prop :=
  E.O b = some own ∧ ∃ cs ty fr, w.heap[b]? = some (.cells cs ty fr) ∧ unfr cs fr ∧ es.length * sz ≤ cs.size ∧
    ∀ (j t : Nat) (e v : AV), es[j]? = some e → (cellsOf e)[t]? = some v → ∃ c, cs[j * sz + t]? = some c ∧ Cell j v c

/-- A nested row's element: an own row. -/
def OwnCell (E : Env) (Z : Nat → Prop) (w : World) (i j : Nat) (v : AV) (c : Value) : Prop :=
  match v with
  | .sl sz es => ∃ b, SlOf E w (i, some j) b sz 0 es.length c ∧ elemsOk sz es ∧ cellsOk es ∧ (es ≠ [] → RowOK E w (i, some j) b sz es fun _ v c => Rep Z w v c)
  | .nilsl => c = .slice none 0 0
  | .emp => ∃ a, c = .slice a 0 0
  | .unk => c.oneCell' = true
  | _ => False

/-- A slice from element off on reaches over n elements of its row. -/
def Room (off n : Nat) (c : Value) : Prop := ∀ a l cap, c = .slice a l cap → n ≤ off + cap
inductive V (E : Env) (Z : Nat → Prop) (tab : List Ent) (w : World) : AV → Value → Prop
  | imm {v : AV} {c : Value} : Rep Z w v c → V E Z tab w v c
  | loc (i : Nat) (c : Value) : i < tab.length → (∀ k sz es, ent tab i = .row k sz es → SlOf E w (i, none) (E.L i) sz 0 es.length c) → V E Z tab w (.loc i) c
  | part (i off len : Nat) (c : Value) : i < tab.length → (∀ k sz es, ent tab i = .row k sz es → (SlOf E w (i, none) (E.L i) sz off len c ∧ off + len ≤ es.length) ∧ Room off es.length c) → V E Z tab w (.part i off len) c
  | prow (i j t : Nat) (c : Value) : i < tab.length → (∀ k sz es, ent tab i = .row k sz es → c = .pointer (some ⟨E.L i, j * sz + t, none⟩)) → V E Z tab w (.prow i j t) c
  | sub (i j : Nat) (c : Value) : i < tab.length → (∀ (sz : Nat) (es : List AV) (sz' : Nat) (es' : List AV), ent tab i = .row .nest sz es → es[j]? = some (.sl sz' es') →
      ∃ cs ty fr, w.heap[E.L i]? = some (.cells cs ty fr) ∧ cs[j]? = some c) → V E Z tab w (.sub i j) c
  | psub (i j j' t : Nat) (c : Value) : i < tab.length → (∀ (sz : Nat) (es : List AV) (sz' : Nat) (es' : List AV), ent tab i = .row .nest sz es → es[j]? = some (.sl sz' es') →
      ∃ cs ty fr b n cap, w.heap[E.L i]? = some (.cells cs ty fr) ∧ cs[j]? = some (.slice (some ⟨b, 0, none⟩) n cap) ∧ c = .pointer (some ⟨b, j' * sz' + t, none⟩)) → V E Z tab w (.psub i j j' t) c
  | agg (cs : List AV) (vs : List Value) : cs.length = vs.length → (∀ (i : Nat) (c : AV) (v : Value), cs[i]? = some c → vs[i]? = some v → V E Z tab w c v) → V E Z tab w (.agg cs) (.agg vs.toArray)
  | fn (f : Fn) (a b : List AV) (va vb : List Value) : a.length = va.length → b.length = vb.length →
      (∀ (i : Nat) (c : AV) (v : Value), a[i]? = some c → va[i]? = some v → V E Z tab w c v) → (∀ (i : Nat) (c : AV) (v : Value), b[i]? = some c → vb[i]? = some v → V E Z tab w c v) → V E Z tab w (.fn f a b) (.func f va.toArray vb.toArray)
  | ifc (t : TypeId) (v : AV) (c : Value) : V E Z tab w v c → V E Z tab w (.ifc t v) (.iface t c)
  | tuple (cs : List AV) (vs : List Value) : cs.length = vs.length → (∀ (i : Nat) (c : AV) (v : Value), cs[i]? = some c → vs[i]? = some v → V E Z tab w c v) → V E Z tab w (.tuple cs) (.tuple vs.toArray)

def CellOK (E : Env) (Z : Nat → Prop) (tab : List Ent) (w : World) (i : Nat) (k : Kind) (j : Nat) (v : AV) (c : Value) : Prop :=
  match k with
  | .var => V E Z tab w v c
  | .plain => Rep Z w v c
  | .nest => OwnCell E Z w i j v c
/-- What an entry says. A row without elements need not have a block. -/
def EntOK (E : Env) (Z : Nat → Prop) (tab : List Ent) (w : World) (i : Nat) : Ent → Prop
  | .dead => True
  | .row k sz es => elemsOk sz es ∧ (k = .nest → sz = 1) ∧ (k = .plain → cellsOk es) ∧ (k = .var → ∀ e ∈ es, okVar e = true) ∧ (es ≠ [] → RowOK E w (i, none) (E.L i) sz es (CellOK E Z tab w i k))

/-! ### what keeps it -/
/-- No reference to the slices in an element of these entries. -/
inductive Free (X : Nat → Prop) : AV → Prop
  | simple (v : AV) : okVar1 v = true → Free X v
  | sub (i j : Nat) : ¬ X i → Free X (.sub i j)
  | psub (i j k t : Nat) : ¬ X i → Free X (.psub i j k t)
  | agg (cs : List AV) : (∀ c ∈ cs, Free X c) → Free X (.agg cs)
  | fn (f : Fn) (a b : List AV) : (∀ c ∈ a, Free X c) → (∀ c ∈ b, Free X c) → Free X (.fn f a b)
  | ifc (t : TypeId) (v : AV) : Free X v → Free X (.ifc t v)
  | tuple (cs : List AV) : (∀ c ∈ cs, Free X c) → Free X (.tuple cs)
structure Pres (X : Nat → Prop) (E : Env) (Z : Nat → Prop) (tab : List Ent) (w : World) (E' : Env) (Z' : Nat → Prop) (tab' : List Ent) (w' : World) : Prop where
  len : tab.length ≤ tab'.length
  imm : ∀ b, Z b → b < w.heap.size → Z' b ∧ w'.heap[b]? = w.heap[b]?
  row : ∀ i, i < tab.length → ∀ k sz es', ent tab' i = .row k sz es' → E'.L i = E.L i ∧ ∃ es, ent tab i = .row k sz es ∧ es.length = es'.length
  blk : ∀ i, i < tab.length → ∀ k sz es', ent tab' i = .row k sz es' → E.O (E.L i) = some (i, none) → E'.O (E.L i) = some (i, none) ∧
    ∀ cs ty fr, w.heap[E.L i]? = some (.cells cs ty fr) → ∃ cs' ty', w'.heap[E.L i]? = some (.cells cs' ty' fr) ∧ cs'.size = cs.size
  nest : ∀ i, i < tab.length → ¬ X i → ∀ sz es', ent tab' i = .row .nest sz es' → ∀ (j sz' : Nat) (es1 : List AV), es'[j]? = some (.sl sz' es1) →
    ∃ es es2, ent tab i = .row .nest sz es ∧ es[j]? = some (.sl sz' es2) ∧
      ∀ cs ty fr c, w.heap[E.L i]? = some (.cells cs ty fr) → cs[j]? = some c → ∃ cs' ty' fr', w'.heap[E.L i]? = some (.cells cs' ty' fr') ∧ cs'[j]? = some c

theorem SlOf.keep {E E' : Env} {w w' : World} {own : Nat × Option Nat} {b sz off len : Nat} {c : Value} (h : SlOf E w own b sz off len c)
    (hk : E.O b = some own → E'.O b = some own ∧ ∀ cs ty fr, w.heap[b]? = some (.cells cs ty fr) → ∃ cs' ty', w'.heap[b]? = some (.cells cs' ty' fr) ∧ cs'.size = cs.size) : SlOf E' w' own b sz off len c := by
  obtain ⟨a, cap, hc, hl, h⟩ := h
  refine ⟨a, cap, hc, hl, h.imp id fun ⟨ha, ho, cs, ty, fr, hh, hu, hs⟩ => ?_⟩
  obtain ⟨ho', hb⟩ := hk ho
  obtain ⟨cs', ty', hh', hz⟩ := hb cs ty fr hh
  exact ⟨ha, ho', cs', ty', fr, hh', fun j hj => hu j (by omega), by omega⟩

theorem mem_of_get {α : Type _} {l : List α} {i : Nat} {x : α} (h : l[i]? = some x) : x ∈ l := List.mem_of_getElem? h
theorem V.pres {X : Nat → Prop} {E : Env} {Z : Nat → Prop} {tab : List Ent} {w : World} {E' : Env} {Z' : Nat → Prop} {tab' : List Ent} {w' : World}
    (p : Pres X E Z tab w E' Z' tab' w') {v : AV} {c : Value} (h : V E Z tab w v c) (hf : (∀ i, ¬ X i) ∨ Free X v) : V E' Z' tab' w' v c := by
  induction h with
  | imm r => exact .imm (r.mono p.imm)
  | loc i c hi h =>
    refine .loc i c (Nat.lt_of_lt_of_le hi p.len) fun k sz es' he => ?_
    obtain ⟨hL, es, h1, h2⟩ := p.row i hi k sz es' he
    rw [hL, ← h2]
    exact (h k sz es h1).keep fun ho => p.blk i hi k sz es' he ho
  | part i off len c hi h =>
    refine .part i off len c (Nat.lt_of_lt_of_le hi p.len) fun k sz es' he => ?_
    obtain ⟨hL, es, h1, h2⟩ := p.row i hi k sz es' he
    rw [hL, ← h2]
    exact ⟨⟨(h k sz es h1).1.1.keep fun ho => p.blk i hi k sz es' he ho, (h k sz es h1).1.2⟩, (h k sz es h1).2⟩
  | prow i j t c hi h =>
    refine .prow i j t c (Nat.lt_of_lt_of_le hi p.len) fun k sz es' he => ?_
    obtain ⟨hL, es, h1, h2⟩ := p.row i hi k sz es' he
    rw [hL]
    exact h k sz es h1
  | sub i j c hi h =>
    have hx : ¬ X i := hf.elim (fun h => h i) fun h => by
      cases h with
      | simple _ h => cases h
      | sub _ _ h => exact h
    refine .sub i j c (Nat.lt_of_lt_of_le hi p.len) fun sz es1 sz' es' he hj => ?_
    obtain ⟨hL, _⟩ := p.row i hi _ _ _ he
    obtain ⟨es, es2, h1, h2, h3⟩ := p.nest i hi hx sz es1 he j sz' es' hj
    obtain ⟨cs, ty, fr, hh, hc⟩ := h sz es sz' es2 h1 h2
    rw [hL]
    exact h3 cs ty fr c hh hc
  | psub i j j' t c hi h =>
    have hx : ¬ X i := hf.elim (fun h => h i) fun h => by
      cases h with
      | simple _ h => cases h
      | psub _ _ _ _ h => exact h
    refine .psub i j j' t c (Nat.lt_of_lt_of_le hi p.len) fun sz es1 sz' es' he hj => ?_
    obtain ⟨hL, _⟩ := p.row i hi _ _ _ he
    obtain ⟨es, es2, h1, h2, h3⟩ := p.nest i hi hx sz es1 he j sz' es' hj
    obtain ⟨cs, ty, fr, b, n, cap, hh, hc, e⟩ := h sz es sz' es2 h1 h2
    obtain ⟨cs', ty', fr', hh', hc'⟩ := h3 cs ty fr _ hh hc
    rw [hL]
    exact ⟨cs', ty', fr', b, n, cap, hh', hc', e⟩
  | agg cs vs hl _ ih =>
    refine .agg cs vs hl fun i c v h1 h2 => ih i c v h1 h2 (hf.imp id fun h => ?_)
    cases h with
    | simple _ h => cases h
    | agg _ h => exact h c (mem_of_get h1)
  | fn f a b va vb h1 h2 _ _ i1 i2 =>
    refine .fn f a b va vb h1 h2 (fun i c v e1 e2 => i1 i c v e1 e2 (hf.imp id fun h => ?_)) (fun i c v e1 e2 => i2 i c v e1 e2 (hf.imp id fun h => ?_))
    · cases h with
      | simple _ h => cases h
      | fn _ _ _ h _ => exact h c (mem_of_get e1)
    · cases h with
      | simple _ h => cases h
      | fn _ _ _ _ h => exact h c (mem_of_get e1)
  | ifc t v c _ ih =>
    refine .ifc t v c (ih (hf.imp id fun h => ?_))
    cases h with
    | simple _ h => cases h
    | ifc _ _ h => exact h
  | tuple cs vs hl _ ih =>
    refine .tuple cs vs hl fun i c v h1 h2 => ih i c v h1 h2 (hf.imp id fun h => ?_)
    cases h with
    | simple _ h => cases h
    | tuple _ h => exact h c (mem_of_get h1)

theorem RowOK.keep {E E' : Env} {w w' : World} {own : Nat × Option Nat} {b sz : Nat} {es : List AV} {Cell Cell' : Nat → AV → Value → Prop} (h : RowOK E w own b sz es Cell)
    (hk : E.O b = some own → E'.O b = some own ∧ w'.heap[b]? = w.heap[b]?) (hc : ∀ j v c, Cell j v c → Cell' j v c) : RowOK E' w' own b sz es Cell' := by
  obtain ⟨ho, cs, ty, fr, hh, hu, hs, hcell⟩ := h
  obtain ⟨ho', hb⟩ := hk ho
  exact ⟨ho', cs, ty, fr, hb.trans hh, hu, hs, fun j t e v h1 h2 => let ⟨c, h3, h4⟩ := hcell j t e v h1 h2; ⟨c, h3, hc j v c h4⟩⟩

/-- What an entry's blocks held, they hold. -/
def Kept (E : Env) (w : World) (E' : Env) (w' : World) (i : Nat) : Prop :=
  E'.L i = E.L i ∧ ∀ b x, E.O b = some (i, x) → E'.O b = some (i, x) ∧ w'.heap[b]? = w.heap[b]?

theorem OwnCell.keep {E E' : Env} {Z Z' : Nat → Prop} {w w' : World} {i j : Nat} {v : AV} {c : Value} (h : OwnCell E Z w i j v c)
    (hm : ∀ b, Z b → b < w.heap.size → Z' b ∧ w'.heap[b]? = w.heap[b]?)
    (hk : ∀ b, E.O b = some (i, some j) → E'.O b = some (i, some j) ∧ w'.heap[b]? = w.heap[b]?) : OwnCell E' Z' w' i j v c := by
  cases v with
  | sl sz es =>
    obtain ⟨b, h1, h2, h4, h3⟩ := h
    exact ⟨b, h1.keep fun ho => ⟨(hk b ho).1, fun cs ty fr hh => ⟨cs, ty, (hk b ho).2.trans hh, rfl⟩⟩, h2, h4, fun hne => (h3 hne).keep (fun ho => hk b ho) fun _ _ _ r => r.mono hm⟩
  | _ => exact h

theorem okVar_cell {e v : AV} (h : okVar e = true) (hm : v ∈ cellsOf e) : okVar1 v = true := by
  unfold okVar at h
  split at h
  · exact List.all_eq_true.1 h v hm
  · rename_i hn
    have : cellsOf e = [e] := by
      unfold cellsOf
      split
      · exact (hn _ rfl).elim
      · rfl
    rw [this] at hm
    simp at hm
    subst hm
    exact h
theorem EntOK.pres {X : Nat → Prop} {E : Env} {Z : Nat → Prop} {tab : List Ent} {w : World} {E' : Env} {Z' : Nat → Prop} {tab' : List Ent} {w' : World}
    (p : Pres X E Z tab w E' Z' tab' w') {i : Nat} (hk : Kept E w E' w' i) {e : Ent} (h : EntOK E Z tab w i e) : EntOK E' Z' tab' w' i e := by
  cases e with
  | dead => trivial
  | row k sz es =>
    obtain ⟨h1, h2, hp, hv, h3⟩ := h
    refine ⟨h1, h2, hp, hv, fun hne => ?_⟩
    have := h3 hne
    rw [hk.1]
    cases k with
    | var =>
      obtain ⟨ho, cs, ty, fr, hh, hu, hs, hcell⟩ := this
      obtain ⟨ho', hb⟩ := hk.2 _ _ ho
      exact ⟨ho', cs, ty, fr, hb.trans hh, hu, hs, fun j t e v e1 e2 =>
        let ⟨c, e3, e4⟩ := hcell j t e v e1 e2; ⟨c, e3, V.pres p e4 (.inr (.simple v (okVar_cell (hv rfl e (mem_of_get e1)) (mem_of_get e2))))⟩⟩
    | plain => exact this.keep (fun ho => hk.2 _ _ ho) fun j v c hc => Rep.mono p.imm hc
    | nest => exact this.keep (fun ho => hk.2 _ _ ho) fun j v c hc => OwnCell.keep hc p.imm fun b hb => hk.2 b _ hb
end Sx

/- The satisfaction of an abstract state, and the soundness of what reads no memory: lists, operands, numbers, strings, bools. -/
namespace Sx
open Go Go.RowKit

/-! ### lists -/
theorem idxP.o {n : Int} {len : Nat} {K : Prop} (h : idxP n len K) : 0 ≤ n ∧ n < (len : Int) ∧ K := let ⟨a, b, c⟩ := h; ⟨a, b, c⟩
theorem idxP.le {n : Int} {len : Nat} {K : Prop} (h : idxP n (len + 1) K) : 0 ≤ n ∧ n ≤ (len : Int) ∧ K := let ⟨a, b, c⟩ := h; ⟨a, by omega, c⟩
theorem idxN.o {n : Int} {len : Nat} {K : Nat → Prop} (h : idxN n len K) : 0 ≤ n ∧ n < (len : Int) ∧ K n.toNat := let ⟨_, a, b, e, c⟩ := h; ⟨a, b, e ▸ c⟩
theorem idxN.le {n : Int} {len : Nat} {K : Nat → Prop} (h : idxN n (len + 1) K) : 0 ≤ n ∧ n ≤ (len : Int) ∧ K n.toNat := let ⟨_, a, b, e, c⟩ := h; ⟨a, by omega, e ▸ c⟩
theorem optP.o {es : List AV} {j : Nat} {K : Option AV → Prop} (h : optP es j K) : K (nth es j) := let ⟨_, e, c⟩ := h; e ▸ c
theorem eqL.o {es : List AV} {K : List AV → Prop} (h : eqL es K) : K es := let ⟨_, e, c⟩ := h; e ▸ c
theorem eqS.o {s : List UInt8} {K : List UInt8 → Prop} (h : eqS s K) : K s := let ⟨_, e, c⟩ := h; e ▸ c
theorem blt_lt {n : Nat} (h : Nat.blt 0 n = true) : 0 < n := by simpa using h
theorem putsW_cons {fz : Bool} {n i : Nat} {v : AV} {rest : List (Nat × AV)} {tab : List Ent} {k : List Ent → Prop} : putsW fz n ((i, v) :: rest) tab k = match ent tab n with
    | .row .nest _ _ => mov1 v tab fun v' tab' => match ent tab' n with
      | .row .nest sz es => lset es i v' fun es' => eset tab' n (.row .nest sz es') fun tab'' => putsW fz n rest tab'' k
      | _ => False
    | .row .plain sz0 _ => Nat.beq (cellsOf v).length sz0 = true ∧ frz2 fz v tab fun v' tab' => match ent tab' n with
      | .row .plain sz es => lset es i v' fun es' => eset tab' n (.row .plain sz es') fun tab'' => putsW fz n rest tab'' k
      | _ => False
    | .row .var sz es => Nat.beq (cellsOf v).length sz = true ∧ okSt tab v = true ∧ lset es i v fun es' => eset tab n (.row .var sz es') fun tab'' => putsW fz n rest tab'' k
    | _ => False := rfl
theorem fillS_cons {fs : List Field} {P : Program} {tab : List Ent} {i : Nat} {v : AV} {rest : List (Nat × AV)} {cs : List AV} {k : List AV → Prop} : fillS fs P tab ((i, v) :: rest) cs k = match nth fs i with
    | some fd => okB tab v = true ∧ Nat.beq (cellsOf v).length (siz P fd.type) = true ∧ Nat.ble (fd.offset + (cellsOf v).length) cs.length = true ∧ lnorm (splice cs fd.offset (cellsOf v)) fun cs' => fillS fs P tab rest cs' k
    | none => False := rfl
theorem fillA_cons {sz : Nat} {tab : List Ent} {i : Nat} {v : AV} {rest : List (Nat × AV)} {cs : List AV} {k : List AV → Prop} : fillA sz tab ((i, v) :: rest) cs k =
    (okB tab v = true ∧ Nat.beq (cellsOf v).length sz = true ∧ Nat.ble (i * sz + (cellsOf v).length) cs.length = true ∧ lnorm (splice cs (i * sz) (cellsOf v)) fun cs' => fillA sz tab rest cs' k) := rfl
theorem regW_cons {C : Contracts} {nest fz : Bool} {P : Program} {ops : List Oper} {o : Oper} {rest : List Oper} {ts : List AV} {tab : List Ent} {k : List AV → List Ent → Prop} : regW C nest fz P ops (o :: rest) ts tab k =
    operW C nest fz P ops o ts tab fun ts' tab' => regW C nest fz P ops rest ts' tab' k := rfl
theorem lnorm_iff {α : Type _} : ∀ {l : List α} {k : List α → Prop}, lnorm l k → k l
  | [], _, h => h
  | _ :: xs, _, h => lnorm_iff (l := xs) h
theorem vf1_iff {v : AV} {k : AV → Prop} (h : vf1 v k) : k v := by cases v <;> exact h
theorem vfL_iff {f : AV → (AV → Prop) → Prop} (hf : ∀ v k, f v k → k v) : ∀ {l : List AV} {k : List AV → Prop}, vfL f l k → k l
  | [], _, h => h
  | x :: xs, k, h => vfL_iff hf (l := xs) (k := fun ys => k (x :: ys)) (hf x _ h)
theorem vf2_iff {v : AV} {k : AV → Prop} (h : vf2 v k) : k v := by
  cases v with
  | agg cs => exact vfL_iff (fun _ _ => vf1_iff) (l := cs) (k := fun cs => k (.agg cs)) h
  | fn f a b => exact vfL_iff (fun _ _ => vf1_iff) (l := b) (k := fun b => k (.fn f a b)) (vfL_iff (fun _ _ => vf1_iff) (l := a) (k := fun a => vfL vf1 b fun b => k (.fn f a b)) h)
  | _ => exact h
theorem vf3_iff {v : AV} {k : AV → Prop} (h : vf3 v k) : k v := by
  cases v with
  | tuple vs => exact vfL_iff (fun _ _ => vf2_iff) (l := vs) (k := fun cs => k (.tuple cs)) h
  | ifc t v => exact vf2_iff (k := fun v => k (.ifc t v)) h
  | _ => exact vf2_iff h
theorem ef_iff {e : Ent} {k : Ent → Prop} (h : ef e k) : k e := by
  cases e with
  | dead => exact h
  | row kd sz es => cases kd with
    | var => exact vfL_iff (fun _ _ => vf2_iff) (l := es) (k := fun es => k (.row .var sz es)) h
    | plain => exact h
    | nest => exact h
theorem efL_iff : ∀ {l : List Ent} {k : List Ent → Prop}, efL l k → k l
  | [], _, h => h
  | x :: xs, k, h => efL_iff (l := xs) (k := fun ys => k (x :: ys)) (ef_iff h)
theorem klsF_iff {σ : List Nat} {ts : List AV} {k : List AV → Prop} (h : klsF σ ts k) : k (klsT σ ts) := by
  cases σ with
  | nil => exact h
  | cons i σ => exact vfL_iff (fun _ _ => vf3_iff) (l := ts.map (kls3 (i :: σ))) h
theorem nth_eq {α : Type _} (l : List α) (n : Nat) : nth l n = l[n]? := by
  induction l generalizing n with
  | nil => rfl
  | cons x xs ih => cases n with
    | zero => rfl
    | succ n => simpa [nth] using ih n
theorem lget_spec {l : List AV} {n : Nat} {k : AV → Prop} (h : lget l n k) : ∃ v, l[n]? = some v ∧ k v := by
  induction l generalizing n with
  | nil => exact h.elim
  | cons x xs ih => cases n with
    | zero => exact ⟨x, rfl, h⟩
    | succ n => simpa using ih h
theorem lset_spec {l : List AV} {n : Nat} {v : AV} {k : List AV → Prop} (h : lset l n v k) : n < l.length ∧ k (l.set n v) := by
  induction l generalizing n k with
  | nil => exact h.elim
  | cons x xs ih => cases n with
    | zero => exact ⟨by simp, h⟩
    | succ n => have := ih (k := fun ys => k (x :: ys)) h; exact ⟨by simp; omega, this.2⟩
theorem eset_spec {l : List Ent} {n : Nat} {v : Ent} {k : List Ent → Prop} (h : eset l n v k) : n < l.length ∧ k (l.set n v) := by
  induction l generalizing n k with
  | nil => exact h.elim
  | cons x xs ih => cases n with
    | zero => exact ⟨by simp, h⟩
    | succ n => have := ih (k := fun ys => k (x :: ys)) h; exact ⟨by simp; omega, this.2⟩
theorem snoc_spec {l : List Ent} {e : Ent} {k : Nat → List Ent → Prop} (h : snoc l e k) : k l.length (l ++ [e]) := by
  induction l generalizing k with
  | nil => exact h
  | cons x xs ih => exact ih (k := fun n ys => k (n + 1) (x :: ys)) h
theorem ent_eq (tab : List Ent) (i : Nat) : ent tab i = (tab[i]?).getD .dead := by
  unfold ent; rw [nth_eq]; cases tab[i]? <;> rfl
theorem ent_lt {tab : List Ent} {i : Nat} {k : Kind} {sz : Nat} {es : List AV} (h : ent tab i = .row k sz es) : i < tab.length := by
  rw [ent_eq] at h
  rcases Nat.lt_or_ge i tab.length with h' | h'
  · exact h'
  · rw [List.getElem?_eq_none h'] at h; cases h
theorem ent_set {tab : List Ent} {i j : Nat} {e : Ent} (hi : i < tab.length) : ent (tab.set i e) j = if j = i then e else ent tab j := by
  rw [ent_eq, ent_eq, List.getElem?_set]
  by_cases h : j = i
  · subst h; simp [hi]
  · rw [if_neg (fun e => h e.symm), if_neg h]
theorem ent_snoc {tab : List Ent} {e : Ent} {j : Nat} : ent (tab ++ [e]) j = if j = tab.length then e else ent tab j := by
  rw [ent_eq, ent_eq]
  by_cases h : j = tab.length
  · subst h; simp
  · rw [if_neg h]
    rcases Nat.lt_or_ge j tab.length with h' | h'
    · rw [List.getElem?_append_left h']
    · rw [List.getElem?_eq_none (by simp; omega), List.getElem?_eq_none h']

/-! ### types -/
section
variable {P : Program}
theorem tinfo_ok {t : TypeId} {i : TypeInfo} (h : tinfo P t = some i) : P.info? t = some i := by
  unfold tinfo at h
  rw [nth_eq, Array.getElem?_toList] at h
  have hlt : t < P.types.size := by
    rcases Nat.lt_or_ge t P.types.size with h' | h'
    · exact h'
    · rw [Array.getElem?_eq_none h'] at h; cases h
  unfold Tables.info?
  rw [if_pos hlt]
  exact h
theorem und_ok {t : TypeId} {d : TypeDesc} (h : und P t = some d) : P.underlying t = some d := by
  unfold und at h
  unfold Program.underlying
  cases hi : tinfo P t with
  | none => rw [hi] at h; cases h
  | some i =>
    rw [hi] at h
    rw [tinfo_ok hi]
    obtain ⟨desc⟩ := i
    cases desc with
    | named n u =>
      simp only at h ⊢
      cases hu : tinfo P u with
      | none => rw [hu] at h; cases h
      | some j => rw [hu] at h; rw [tinfo_ok hu]; exact h
    | _ => exact h
theorem und_tinfo {t : TypeId} {d : TypeDesc} (h : und P t = some d) : ∃ i, tinfo P t = some i := by
  unfold und at h
  cases hi : tinfo P t with
  | none => rw [hi] at h; cases h
  | some i => exact ⟨i, rfl⟩
theorem siz_tinfo {t : TypeId} (h : 0 < siz P t) : ∃ i, tinfo P t = some i := by
  unfold siz at h
  cases hi : tinfo P t with
  | none => rw [hi] at h; cases h
  | some i => exact ⟨i, rfl⟩
theorem run_siz {t : TypeId} {i : TypeInfo} (h : tinfo P t = some i) (w : World) : (Go.sizeOf t).run P w = .ok (siz P t) w := by
  rw [run_sizeOf w (tinfo_ok h)]
  unfold siz Program.cellsOf
  rw [h, tinfo_ok h]; rfl
theorem run_und {t : TypeId} {d : TypeDesc} (h : und P t = some d) (w : World) : (underlying t).run P w = .ok d w := run_underlying (und_ok h) w
theorem run_isagg {t : TypeId} {b : Bool} (h : isagg P t = some b) (w : World) : (isAgg t).run P w = .ok b w := by
  unfold isagg at h
  cases hu : und P t with
  | none => rw [hu] at h; cases h
  | some d =>
    rw [hu] at h
    unfold isAgg
    simp only [Sem.run_bind, run_und hu, Result.andThen]
    cases d <;> simp_all
theorem isagg_tinfo {t : TypeId} {b : Bool} (h : isagg P t = some b) : ∃ i, tinfo P t = some i := by
  unfold isagg at h
  cases hu : und P t with
  | none => rw [hu] at h; cases h
  | some d => exact und_tinfo hu
end

/-! ### values -/
section
variable {E : Env} {Z : Nat → Prop} {tab : List Ent} {w : World} {c : Value}
theorem V.int_inv {k : IntKind} {n : Int} (h : V E Z tab w (.int k n) c) : c = .int k n := by
  cases h with | imm r => cases r; rfl
theorem V.str_inv {s : List UInt8} (h : V E Z tab w (.str s) c) : ∃ b, c = .string b ∧ b.data.toList = s := by
  cases h with | imm r => cases r with | str _ b hb => exact ⟨b, rfl, hb⟩
theorem V.tt_inv (h : V E Z tab w .tt c) : c = .bool true := by
  cases h with | imm r => cases r; rfl
theorem V.ff_inv (h : V E Z tab w .ff c) : c = .bool false := by
  cases h with | imm r => cases r; rfl
theorem V.prop_inv {p : Prop} {d : Decidable p} (h : V E Z tab w (.prop p d) c) : c = .bool (@decide p d) := by
  cases h with | imm r => cases r; rfl
theorem V.nilsl_inv (h : V E Z tab w .nilsl c) : c = .slice none 0 0 := by
  cases h with | imm r => cases r; rfl
theorem V.emp_inv (h : V E Z tab w .emp c) : ∃ a, c = .slice a 0 0 := by
  cases h with | imm r => cases r with | emp a => exact ⟨a, rfl⟩
theorem V.agg_inv {cs : List AV} (h : V E Z tab w (.agg cs) c) : ∃ vs : List Value, c = .agg vs.toArray ∧ cs.length = vs.length ∧ ∀ (i : Nat) (x : AV) (v : Value), cs[i]? = some x → vs[i]? = some v → V E Z tab w x v := by
  cases h with
  | imm r => cases r with | agg _ vs hl h => exact ⟨vs, rfl, hl, fun i x v h1 h2 => .imm (h i x v h1 h2)⟩
  | agg _ vs hl h => exact ⟨vs, rfl, hl, h⟩
theorem V.tuple_inv {cs : List AV} (h : V E Z tab w (.tuple cs) c) : ∃ vs : List Value, c = .tuple vs.toArray ∧ cs.length = vs.length ∧ ∀ (i : Nat) (x : AV) (v : Value), cs[i]? = some x → vs[i]? = some v → V E Z tab w x v := by
  cases h with
  | imm r => cases r with | tuple _ vs hl h => exact ⟨vs, rfl, hl, fun i x v h1 h2 => .imm (h i x v h1 h2)⟩
  | tuple _ vs hl h => exact ⟨vs, rfl, hl, h⟩
theorem V.fn_inv {f : Fn} {a b : List AV} (h : V E Z tab w (.fn f a b) c) : ∃ va vb : List Value, c = .func f va.toArray vb.toArray ∧ a.length = va.length ∧ b.length = vb.length ∧
    (∀ (i : Nat) (x : AV) (v : Value), a[i]? = some x → va[i]? = some v → V E Z tab w x v) ∧ ∀ (i : Nat) (x : AV) (v : Value), b[i]? = some x → vb[i]? = some v → V E Z tab w x v := by
  cases h with
  | imm r => cases r with | fn _ _ _ va vb h1 h2 h3 h4 => exact ⟨va, vb, rfl, h1, h2, fun i x v e1 e2 => .imm (h3 i x v e1 e2), fun i x v e1 e2 => .imm (h4 i x v e1 e2)⟩
  | fn _ _ _ va vb h1 h2 h3 h4 => exact ⟨va, vb, rfl, h1, h2, h3, h4⟩
theorem V.loc_inv {i : Nat} (h : V E Z tab w (.loc i) c) : i < tab.length ∧ ∀ k sz es, ent tab i = .row k sz es → SlOf E w (i, none) (E.L i) sz 0 es.length c := by
  cases h with
  | imm r => cases r
  | loc _ _ h1 h2 => exact ⟨h1, h2⟩
theorem V.part_room {i off len : Nat} (h : V E Z tab w (.part i off len) c) : ∀ k sz es, ent tab i = .row k sz es → Room off es.length c := by
  cases h with
  | imm r => cases r
  | part _ _ _ _ h1 h2 => exact fun k sz es h => (h2 k sz es h).2
theorem V.part_inv {i off len : Nat} (h : V E Z tab w (.part i off len) c) : i < tab.length ∧ ∀ k sz es, ent tab i = .row k sz es → SlOf E w (i, none) (E.L i) sz off len c ∧ off + len ≤ es.length := by
  cases h with
  | imm r => cases r
  | part _ _ _ _ h1 h2 => exact ⟨h1, fun k sz es h => (h2 k sz es h).1⟩
theorem V.prow_inv {i j t : Nat} (h : V E Z tab w (.prow i j t) c) : i < tab.length ∧ ∀ k sz es, ent tab i = .row k sz es → c = .pointer (some ⟨E.L i, j * sz + t, none⟩) := by
  cases h with
  | imm r => cases r
  | prow _ _ _ _ h1 h2 => exact ⟨h1, h2⟩
theorem V.sub_inv {i j : Nat} (h : V E Z tab w (.sub i j) c) : i < tab.length ∧ ∀ (sz : Nat) (es : List AV) (sz' : Nat) (es' : List AV), ent tab i = .row .nest sz es → es[j]? = some (.sl sz' es') →
      ∃ cs ty fr, w.heap[E.L i]? = some (.cells cs ty fr) ∧ cs[j]? = some c := by
  cases h with
  | imm r => cases r
  | sub _ _ _ h1 h2 => exact ⟨h1, h2⟩
theorem V.psub_inv {i j j' t : Nat} (h : V E Z tab w (.psub i j j' t) c) : i < tab.length ∧ ∀ (sz : Nat) (es : List AV) (sz' : Nat) (es' : List AV), ent tab i = .row .nest sz es → es[j]? = some (.sl sz' es') →
      ∃ cs ty fr b n cap, w.heap[E.L i]? = some (.cells cs ty fr) ∧ cs[j]? = some (.slice (some ⟨b, 0, none⟩) n cap) ∧ c = .pointer (some ⟨b, j' * sz' + t, none⟩) := by
  cases h with
  | imm r => cases r
  | psub _ _ _ _ _ h1 h2 => exact ⟨h1, h2⟩
theorem V.rep_inv {v : AV} (h : V E Z tab w v c) (hv : match v with | .sl _ _ => True | .pim _ _ _ _ => True | .nilptr => True | .nilfn => True | .nilif => True | _ => False) : Rep Z w v c := by
  cases h with
  | imm r => exact r
  | _ => exact hv.elim
theorem Rep.ofVal1 (Z : Nat → Prop) (w : World) (v : Value) : Rep Z w (ofVal1 v) v := by
  unfold Sx.ofVal1
  split
  · exact .tt
  · exact .ff
  · exact .int _ _
  · exact .str _ _ rfl
  · exact .nilsl
  · exact .nilptr
  · exact .nilfn
  · exact .nilif
  · exact .unk _
theorem Rep.ofVal (Z : Nat → Prop) (w : World) (v : Value) : Rep Z w (ofVal v) v := by
  unfold Sx.ofVal
  split
  · rename_i cs
    have := Rep.agg (Z := Z) (w := w) (cs.toList.map Sx.ofVal1) cs.toList (by simp) fun i c v h1 h2 => by
      rw [List.getElem?_map, h2] at h1
      cases h1
      exact Rep.ofVal1 Z w v
    simpa using this
  · exact Rep.ofVal1 Z w _
end

/-! ### the state -/
structure Ctx where
  w0 : World
  O0 : Nat → Option (Nat × Option Nat)
  L0 : Nat → Nat
  muts : List Ent
  ZA : Nat → Prop
def zone (Γ : Ctx) (E : Env) (b : Nat) : Prop := E.O b = none ∧ (b < Γ.w0.heap.size → Γ.ZA b)
structure Sat (Γ : Ctx) (E : Env) (ts : List AV) (tab : List Ent) (a : Act) (w : World) : Prop where
  dfr : a.defers = []
  len : a.tmps.size = ts.length
  vals : ∀ (i : Nat) (v : AV) (c : Value), ts[i]? = some v → a.tmps[i]? = some c → V E (zone Γ E) tab w v c
  ents : ∀ i, EntOK E (zone Γ E) tab w i (ent tab i)
  own : ∀ b x, E.O b = some x → b < w.heap.size
  os : w.os = Γ.w0.os
  tape : w.tape = Γ.w0.tape
  output : w.output = Γ.w0.output
  size : Γ.w0.heap.size ≤ w.heap.size
  frame : ∀ b, b < Γ.w0.heap.size → Γ.O0 b = none → E.O b = none ∧ w.heap[b]? = Γ.w0.heap[b]?
  mt : ∀ i, i < Γ.muts.length → i < tab.length ∧ ∀ k sz es, ent tab i = .row k sz es → E.L i = Γ.L0 i ∧ (∃ es0, ent Γ.muts i = .row k sz es0 ∧ es0.length = es.length) ∧
    (Γ.O0 (Γ.L0 i) = some (i, none) → E.O (E.L i) = some (i, none) ∧ ∀ cs ty fr, Γ.w0.heap[E.L i]? = some (.cells cs ty fr) → ∃ cs' ty', w.heap[E.L i]? = some (.cells cs' ty' fr) ∧ cs'.size = cs.size)

section
variable {Γ : Ctx} {E : Env} {ts : List AV} {tab : List Ent} {a : Act} {w : World}
theorem ev_sound {o : Operand} {k : AV → Prop} (h : ev ts o k) (s : Sat Γ E ts tab a w) : ∃ v, k v ∧ V E (zone Γ E) tab w v (a.eval o) := by
  cases o with
  | tmp t =>
    obtain ⟨v, h1, h2⟩ := lget_spec h
    refine ⟨v, h2, ?_⟩
    have hlt : t < ts.length := (List.getElem?_eq_some_iff.1 h1).1
    have hlt' : t < a.tmps.size := by rw [s.len]; exact hlt
    have : a.eval (.tmp t) = a.tmps[t] := by simp [Act.eval, Array.getD, hlt']
    rw [this]
    exact s.vals t v _ h1 (by simp [hlt'])
  | const v => exact ⟨_, h, .imm (Rep.ofVal _ _ v)⟩
  | global g => exact h.elim
  | func f => exact ⟨_, h, .imm (.fn (.func f) [] [] [] [] rfl rfl (fun _ _ _ h => by cases h) (fun _ _ _ h => by cases h))⟩
def Vs (E : Env) (Z : Nat → Prop) (tab : List Ent) (w : World) (vs : List AV) (cs : List Value) : Prop :=
  vs.length = cs.length ∧ ∀ (i : Nat) (v : AV) (c : Value), vs[i]? = some v → cs[i]? = some c → V E Z tab w v c
theorem Vs.nil {E : Env} {Z : Nat → Prop} {tab : List Ent} {w : World} : Vs E Z tab w [] [] := ⟨rfl, fun _ _ _ h => by cases h⟩
theorem Vs.cons {E : Env} {Z : Nat → Prop} {tab : List Ent} {w : World} {v : AV} {c : Value} {vs : List AV} {cs : List Value} (h : V E Z tab w v c) (hs : Vs E Z tab w vs cs) : Vs E Z tab w (v :: vs) (c :: cs) := by
  refine ⟨by simp [hs.1], fun i x y h1 h2 => ?_⟩
  cases i with
  | zero => simp at h1 h2; subst h1; subst h2; exact h
  | succ i => exact hs.2 i x y (by simpa using h1) (by simpa using h2)
theorem Vs.cons_inv {E : Env} {Z : Nat → Prop} {tab : List Ent} {w : World} {v : AV} {vs : List AV} {cs : List Value} (h : Vs E Z tab w (v :: vs) cs) : ∃ c cs', cs = c :: cs' ∧ V E Z tab w v c ∧ Vs E Z tab w vs cs' := by
  cases cs with
  | nil => have := h.1; simp at this
  | cons c cs' => exact ⟨c, cs', rfl, h.2 0 v c rfl rfl, by have := h.1; simpa using this, fun i x y h1 h2 => h.2 (i + 1) x y (by simpa using h1) (by simpa using h2)⟩
theorem Vs.nil_inv {E : Env} {Z : Nat → Prop} {tab : List Ent} {w : World} {cs : List Value} (h : Vs E Z tab w [] cs) : cs = [] := by
  have := h.1; simpa using this.symm
theorem Vs.append {E : Env} {Z : Nat → Prop} {tab : List Ent} {w : World} {v1 v2 : List AV} {c1 c2 : List Value} (h1 : Vs E Z tab w v1 c1) (h2 : Vs E Z tab w v2 c2) : Vs E Z tab w (v1 ++ v2) (c1 ++ c2) := by
  induction v1 generalizing c1 with
  | nil => rw [h1.nil_inv]; exact h2
  | cons v vs ih => obtain ⟨c, cs', rfl, hv, hs⟩ := h1.cons_inv; exact .cons hv (ih hs)
theorem evs_sound {os : List Operand} {k : List AV → Prop} (h : evs ts os k) (s : Sat Γ E ts tab a w) : ∃ vs, k vs ∧ Vs E (zone Γ E) tab w vs (os.map a.eval) := by
  induction os generalizing k with
  | nil => exact ⟨[], h, .nil⟩
  | cons o os ih =>
    obtain ⟨v, h1, h2⟩ := ev_sound h s
    obtain ⟨vs, h3, h4⟩ := ih (k := fun vs => k (v :: vs)) h1
    exact ⟨v :: vs, h3, .cons h2 h4⟩
end

/-! ### numbers, strings, bools -/
section
variable {E : Env} {Z : Nat → Prop} {tab : List Ent} {P : Program} {w : World}
theorem num_sound {k : IntKind} {n : Int} {K : AV → Prop} (h : num k n K) : K (.int k n) := by
  obtain ⟨m, rfl, h⟩ := h; exact h
theorem two_sound {v : AV} {y n : Prop} {c : Value} (h : two v y n) (hv : V E Z tab w v c) : ∃ b, c = .bool b ∧ (b = true → y) ∧ (b = false → n) := by
  unfold two at h
  split at h
  · exact ⟨true, hv.tt_inv, fun _ => h, nofun⟩
  · exact ⟨false, hv.ff_inv, nofun, fun _ => h⟩
  · rename_i p d
    exact ⟨_, hv.prop_inv, fun e => h.1 (of_decide_eq_true e), fun e => h.2 (of_decide_eq_false e)⟩
  · exact h.elim
theorem asP_sound {v : AV} {k : (p : Prop) → Decidable p → Prop} {c : Value} (h : asP v k) (hv : V E Z tab w v c) : ∃ p d, c = .bool (@decide p d) ∧ k p d := by
  unfold asP at h
  split at h
  · exact ⟨True, .isTrue trivial, hv.tt_inv, h⟩
  · exact ⟨False, .isFalse id, hv.ff_inv, h⟩
  · exact ⟨_, _, hv.prop_inv, h⟩
  · exact h.elim
theorem bool_of {p : Prop} [Decidable p] {b : Bool} (h : b = decide p) : Rep Z w (pr p) (.bool b) := by subst h; exact .prop p _
theorem intW_sound {op : BinOp} {kd : IntKind} {x y : Int} {k : AV → Prop} (h : intW op kd x y k) (t : TypeId) (hs : op ≠ .shl) (hs' : op ≠ .shr) : ∃ v c, (binOp op t (.int kd x) (.int kd y)).run P w = .ok c w ∧ k v ∧ Rep Z w v c := by
  cases op with
  | add => exact ⟨_, _, by simp [binOp, Op.intArith], num_sound h, .int _ _⟩
  | sub => exact ⟨_, _, by simp [binOp, Op.intArith], num_sound h, .int _ _⟩
  | mul => exact ⟨_, _, by simp [binOp, Op.intArith], num_sound h, .int _ _⟩
  | quo => exact ⟨_, _, by simp [binOp, Op.intDiv, h.1], num_sound h.2, .int _ _⟩
  | rem => exact ⟨_, _, by simp [binOp, Op.intDiv, h.1], num_sound h.2, .int _ _⟩
  | and => exact ⟨_, _, by simp only [binOp, Op.intBits]; simp only [ne_eq, not_true_eq_false, if_false]; rfl, num_sound h, .int _ _⟩
  | or => exact ⟨_, _, by simp only [binOp, Op.intBits]; simp only [ne_eq, not_true_eq_false, if_false]; rfl, num_sound h, .int _ _⟩
  | xor => exact ⟨_, _, by simp only [binOp, Op.intBits]; simp only [ne_eq, not_true_eq_false, if_false]; rfl, num_sound h, .int _ _⟩
  | andNot => exact ⟨_, _, by simp only [binOp, Op.intBits]; simp only [ne_eq, not_true_eq_false, if_false]; rfl, num_sound h, .int _ _⟩
  | eql => exact ⟨_, _, by simp [binOp, Op.intCmp]; rfl, h, bool_of (by rw [Bool.eq_iff_iff]; simp)⟩
  | neq => exact ⟨_, _, by simp [binOp, Op.intCmp]; rfl, h, bool_of (by rw [Bool.eq_iff_iff]; simp)⟩
  | lss => exact ⟨_, _, by simp [binOp, Op.intCmp], h, bool_of rfl⟩
  | leq => exact ⟨_, _, by simp [binOp, Op.intCmp], h, bool_of rfl⟩
  | gtr => exact ⟨_, _, by simp [binOp, Op.intCmp], h, bool_of rfl⟩
  | geq => exact ⟨_, _, by simp [binOp, Op.intCmp], h, bool_of rfl⟩
  | shl => exact (hs rfl).elim
  | shr => exact (hs' rfl).elim
end
end Sx

/- Soundness of strings, bools, and of what reads memory. -/
namespace Sx
open Go Go.RowKit
section
variable {E : Env} {Z : Nat → Prop} {tab : List Ent} {P : Program} {w : World}
theorem strW_sound {op : BinOp} {x y : ByteArray} {k : AV → Prop} (h : strW op x.data.toList y.data.toList k) (t : TypeId) : ∃ v c, (binOp op t (.string x) (.string y)).run P w = .ok c w ∧ k v ∧ Rep Z w v c := by
  have hb : ∀ op, binOp op t (.string x) (.string y) = Op.stringOp op x y := by intro op; cases op <;> rfl
  rw [hb]
  have e1 : x.toList = x.data.toList := ByteArray.toList_eq x
  have e2 : y.toList = y.data.toList := ByteArray.toList_eq y
  cases op with
  | add =>
    obtain ⟨h1, h2⟩ := h
    have hs : ¬ (((x.size + y.size : Nat) : Int) > IntKind.i64.max) := by
      have a1 : x.size = x.data.toList.length := by simp
      have a2 : y.size = y.data.toList.length := by simp
      rw [a1, a2]
      have : IntKind.i64.max = 9223372036854775807 := by decide
      rw [this]; omega
    exact ⟨_, .string (x ++ y), by simp only [Op.stringOp]; rw [if_neg hs]; rfl, h2.o, .str _ _ (by simp)⟩
  | eql => exact ⟨_, .bool (decide (x.data.toList = y.data.toList)), by simp only [Op.stringOp, Sem.run_pure]; rw [e1, e2]; congr 2; rw [Bool.eq_iff_iff]; simp, h, .prop _ _⟩
  | neq => exact ⟨_, .bool (decide (¬ x.data.toList = y.data.toList)), by simp only [Op.stringOp, Sem.run_pure]; rw [e1, e2]; congr 2; rw [Bool.eq_iff_iff]; simp, h, .prop _ _⟩
  | lss => exact ⟨_, .bool (decide (Op.bytesLess x.data.toList y.data.toList = true)), by simp only [Op.stringOp, Sem.run_pure]; rw [e1, e2]; congr 2; rw [Bool.eq_iff_iff]; simp, h, .prop _ _⟩
  | leq => exact ⟨_, .bool (decide (Op.bytesLess x.data.toList y.data.toList = true ∨ x.data.toList = y.data.toList)), by simp only [Op.stringOp, Sem.run_pure]; rw [e1, e2]; congr 2; rw [Bool.eq_iff_iff]; simp, h, .prop _ _⟩
  | gtr => exact ⟨_, .bool (decide (¬ (Op.bytesLess x.data.toList y.data.toList = true ∨ x.data.toList = y.data.toList))), by simp only [Op.stringOp, Sem.run_pure]; rw [e1, e2]; congr 2; rw [Bool.eq_iff_iff]; simp, h, .prop _ _⟩
  | geq => exact ⟨_, .bool (decide (¬ Op.bytesLess x.data.toList y.data.toList = true)), by simp only [Op.stringOp, Sem.run_pure]; rw [e1, e2]; congr 2; rw [Bool.eq_iff_iff]; simp, h, .prop _ _⟩
  | _ => exact h.elim
theorem boolW_sound {op : BinOp} {x y : AV} {cx cy : Value} {k : AV → Prop} {t : TypeId} (h : boolW P t op x y k) (hx : V E Z tab w x cx) (hy : V E Z tab w y cy) :
    ∃ v c, (binOp op t cx cy).run P w = .ok c w ∧ k v ∧ Rep Z w v c := by
  unfold boolW at h
  split at h
  · rename_i hu
    have hu := und_ok hu
    split at h
    · obtain ⟨p, d, rfl, h⟩ := asP_sound h hx
      obtain ⟨q, e, rfl, h⟩ := asP_sound h hy
      exact ⟨_, .bool (decide (p ↔ q)), by rw [run_eql_bool w t _ _ hu]; congr 2; by_cases p <;> by_cases q <;> simp [*], h, .prop _ _⟩
    · obtain ⟨p, d, rfl, h⟩ := asP_sound h hx
      obtain ⟨q, e, rfl, h⟩ := asP_sound h hy
      exact ⟨_, .bool (decide (¬ (p ↔ q))), by rw [run_neq_bool w t _ _ hu]; congr 2; by_cases p <;> by_cases q <;> simp [*], h, .prop _ _⟩
    · exact h.elim
  · exact h.elim
theorem sameKind_eq {a b : IntKind} (h : sameKind a b = true) : a = b := by cases a <;> cases b <;> first | rfl | cases h
theorem binW_sound {op : BinOp} {x y : AV} {cx cy : Value} {k : AV → Prop} {t : TypeId} (h : binW P t op x y k) (hx : V E Z tab w x cx) (hy : V E Z tab w y cy) :
    ∃ v c, (binOp op t cx cy).run P w = .ok c w ∧ k v ∧ Rep Z w v c := by
  unfold binW at h
  split at h
  · rename_i kd n
    split at h
    · rename_i kd' m
      rw [hx.int_inv, hy.int_inv]
      split at h
      · exact ⟨_, _, by simp [binOp, Op.shift, Int.not_lt.2 h.1], num_sound h.2, .int _ _⟩
      · exact ⟨_, _, by simp [binOp, Op.shift, Int.not_lt.2 h.1], num_sound h.2, .int _ _⟩
      · rename_i h1 h2
        split at h
        · rename_i hk
          rw [← sameKind_eq hk]
          exact intW_sound h t h1 h2
        · exact h.elim
    · exact h.elim
  · rename_i s
    split at h
    · rename_i s'
      obtain ⟨b, rfl, rfl⟩ := hx.str_inv
      obtain ⟨b', rfl, rfl⟩ := hy.str_inv
      exact strW_sound h t
    · exact h.elim
  · exact boolW_sound h hx hy
theorem unW_sound {op : UnOp} {x : AV} {cx : Value} {k : AV → Prop} (h : unW op x k) (hx : V E Z tab w x cx) :
    ∃ v c, (Op.unary op cx).run P w = .ok c w ∧ k v ∧ Rep Z w v c := by
  cases op with
  | not =>
    unfold unW at h
    dsimp only at h
    split at h
    · rw [hx.tt_inv]; exact ⟨_, _, by simp [Op.unary], h, .ff⟩
    · rw [hx.ff_inv]; exact ⟨_, _, by simp [Op.unary], h, .tt⟩
    · rename_i p d
      rw [hx.prop_inv]
      exact ⟨_, .bool (!@decide p d), by simp only [Op.unary, Sem.run_pure], h, by
        have : (!@decide p d) = @decide (¬ p) (instDecidableNot (dp := d)) := by by_cases hp : p <;> simp [hp]
        rw [this]; exact .prop _ _⟩
    · exact h.elim
  | neg =>
    unfold unW at h
    dsimp only at h
    split at h
    · rw [hx.int_inv]; exact ⟨_, .int _ _, by simp only [Op.unary, Op.intArith, Sem.run_pure], num_sound h, .int _ _⟩
    · exact h.elim
  | _ => exact h.elim
/-! the guard of comparisons: no interface value, no struct -/
theorem eqGuard_ok {op : BinOp} {t : TypeId} {x y : Operand} {a b : Value} (ha : (∀ cs, a ≠ .agg cs) ∧ a ≠ .nilIface) : (eqGuard op t x y a b).run P w = .ok () w := by
  unfold eqGuard
  cases op <;> first
    | (simp; done)
    | (cases a <;> cases b <;> simp_all)
end
end Sx

/- Soundness of loads, indices, fields, slice expressions. -/
namespace Sx
open Go Go.RowKit
theorem addr_add (b o n : Nat) : (⟨b, o, none⟩ : Addr).add n = ⟨b, o + n, none⟩ := by
  unfold Addr.add
  split
  · rename_i h; subst h; rfl
  · rfl
theorem choose_list {α : Type _} (p : Nat → α → Prop) : ∀ n, (∀ i, i < n → ∃ c, p i c) → ∃ cs : List α, cs.length = n ∧ ∀ (i : Nat) (c : α), cs[i]? = some c → p i c
  | 0, _ => ⟨[], rfl, fun i c h => by cases h⟩
  | n + 1, h => by
    obtain ⟨cs, hl, hc⟩ := choose_list p n fun i hi => h i (by omega)
    obtain ⟨c, hn⟩ := h n (by omega)
    refine ⟨cs ++ [c], by simp [hl], fun i x hx => ?_⟩
    rcases Nat.lt_or_ge i n with hi | hi
    · rw [List.getElem?_append_left (by omega)] at hx; exact hc i x hx
    · rw [List.getElem?_append_right (by omega), hl] at hx
      cases hin : i - n with
      | zero => rw [hin] at hx; simp at hx; subst hx; have : i = n := by omega
                subst this; exact hn
      | succ m => rw [hin] at hx; simp at hx
section
variable {E : Env} {Z : Nat → Prop} {tab : List Ent} {P : Program} {w : World}
theorem load_cells {X : AV → Value → Prop} {cs : List AV} {b o : Nat} (hc : ∀ (i : Nat) (v : AV), cs[i]? = some v → ∃ c, w.cell? ⟨b, o + i, none⟩ = some c ∧ X v c) :
    ∃ vs : List Value, (loadCells ⟨b, o, none⟩ cs.length).run P w = .ok vs.toArray w ∧ cs.length = vs.length ∧ ∀ (i : Nat) (v : AV) (c : Value), cs[i]? = some v → vs[i]? = some c → X v c := by
  obtain ⟨vs, hl, h⟩ := choose_list (fun i c => w.cell? ⟨b, o + i, none⟩ = some c ∧ ∀ v, cs[i]? = some v → X v c) cs.length fun i hi => by
    obtain ⟨c, h1, h2⟩ := hc i cs[i] (by simp [hi])
    exact ⟨c, h1, fun v hv => by rw [List.getElem?_eq_getElem hi] at hv; cases hv; exact h2⟩
  refine ⟨vs, ?_, hl.symm, fun i v c h1 h2 => (h i c h2).2 v h1⟩
  rw [← hl]
  exact run_loadCells_list w _ vs fun j v hv => by rw [addr_add]; exact (h j v hv).1
theorem nth_some {α : Type _} {l : List α} {n : Nat} {x : α} (h : nth l n = some x) : l[n]? = some x := by rwa [nth_eq] at h
theorem cut_get {cs : List AV} {t n i : Nat} {v : AV} (h : (cut cs t n)[i]? = some v) : cs[t + i]? = some v := by
  unfold cut at h
  rw [List.getElem?_take] at h
  split at h
  · rwa [List.getElem?_drop] at h
  · cases h
/-- X: what an abstract cell says of a concrete one. -/
theorem part_sound {X : AV → Value → Prop} (hX : ∀ (cs : List AV) (vs : List Value), cs.length = vs.length → (∀ (i : Nat) (v : AV) (c : Value), cs[i]? = some v → vs[i]? = some c → X v c) → X (.agg cs) (.agg vs.toArray))
    {t : TypeId} {e : AV} {t0 b o : Nat} {k : AV → Prop} (h : partW P t e t0 k) (hc : ∀ (i : Nat) (v : AV), (cellsOf e)[i]? = some v → ∃ c, w.cell? ⟨b, o + i, none⟩ = some c ∧ X v c) :
    ∃ v c, (loadVar t ⟨b, o + t0, none⟩).run P w = .ok c w ∧ k v ∧ X v c := by
  have agg : ∀ n, isagg P t = some true → t0 + n ≤ (cellsOf e).length → siz P t = n → k (.agg (cut (cellsOf e) t0 n)) → ∃ v c, (loadVar t ⟨b, o + t0, none⟩).run P w = .ok c w ∧ k v ∧ X v c := by
    intro n ha hn hs hk
    obtain ⟨i, hi⟩ := isagg_tinfo ha
    obtain ⟨vs, h1, h2, h3⟩ := load_cells (P := P) (w := w) (X := X) (cs := cut (cellsOf e) t0 n) (b := b) (o := o + t0) fun i v hv => by
      have := hc (t0 + i) v (cut_get hv)
      rwa [← Nat.add_assoc] at this
    refine ⟨_, .agg vs.toArray, ?_, hk, hX _ vs h2 h3⟩
    have hl : (cut (cellsOf e) t0 n).length = n := by unfold cut; simp; omega
    rw [hl] at h1
    simp only [loadVar, Sem.run_bind, run_isagg ha, Result.andThen, if_true, run_siz hi, hs, h1, Sem.run_pure]
  unfold partW at h
  cases ha : isagg P t with
  | none => rw [ha] at h; exact h.elim
  | some b' =>
    rw [ha] at h
    cases b' with
    | false =>
      obtain ⟨v, h1, h2⟩ := lget_spec h
      obtain ⟨c, h3, h4⟩ := hc t0 v h1
      exact ⟨v, c, by simp [loadVar, run_isagg ha, h3], h2, h4⟩
    | true =>
      dsimp only at h
      split at h
      · split at h
        · rename_i hb
          have hs : siz P t = (cellsOf e).length := Nat.eq_of_beq_eq_true hb
          refine agg (cellsOf e).length ha (by omega) hs ?_
          have : cut (cellsOf e) 0 (cellsOf e).length = cellsOf e := by unfold cut; simp
          rw [this]; exact h
        · exact agg _ ha (by omega) rfl h.2
      · exact agg _ ha h.1 rfl h.2
theorem Sat.row {Γ : Ctx} {ts : List AV} {a : Act} (s : Sat Γ E ts tab a w) {i : Nat} {k : Kind} {sz : Nat} {es : List AV} (h : ent tab i = .row k sz es) :
    elemsOk sz es ∧ (k = .nest → sz = 1) ∧ (es ≠ [] → RowOK E w (i, none) (E.L i) sz es (CellOK E (zone Γ E) tab w i k)) := by
  have := s.ents i
  rw [h] at this
  exact ⟨this.1, this.2.1, this.2.2.2.2⟩
theorem cell_of {b : Nat} {cs : Array Value} {ty : TypeId} {fr : Nat × Nat} (h : w.heap[b]? = some (.cells cs ty fr)) (o : Nat) : w.cell? ⟨b, o, none⟩ = cs[o]? := by
  simp [World.cell?, h]
theorem ne_nil_of_get {α : Type _} {l : List α} {i : Nat} {x : α} (h : l[i]? = some x) : l ≠ [] := by
  intro e; subst e; simp at h
theorem loadW_sound {Γ : Ctx} {ts : List AV} {a : Act} {t : TypeId} {p : AV} {pc : Value} {k : AV → Prop} (h : loadW P t p tab k) (s : Sat Γ E ts tab a w) (hp : V E (zone Γ E) tab w p pc) :
    ∃ v c, (Instr.loadAt t pc).run P w = .ok c w ∧ k v ∧ V E (zone Γ E) tab w v c := by
  unfold loadW at h
  split at h
  · rename_i i j t0
    obtain ⟨_, hpc⟩ := hp.prow_inv
    split at h
    · -- nest
      rename_i sz es he
      obtain ⟨_, hsz, hr⟩ := s.row he
      cases hsl : isslice P t with
      | false => rw [hsl] at h; exact h.elim
      | true =>
        rw [hsl] at h
        dsimp only at h
        split at h
        · obtain ⟨e, h1, h⟩ := h
          have h1 := nth_some h1
          have := hpc _ _ _ he
          subst this
          have hsz := hsz rfl
          subst hsz
          obtain ⟨ho, cs, ty, fr, hh, hu, hs, hc⟩ := hr (ne_nil_of_get h1)
          have hag : isagg P t = some false := by
            unfold isslice at hsl
            unfold isagg
            split at hsl
            · rename_i hu'; rw [hu']
            · cases hsl
          split at h
          · rename_i sz' es'
            obtain ⟨c, h3, h4⟩ := hc j 0 _ _ h1 rfl
            refine ⟨_, c, ?_, h, .sub i j c (ent_lt he) fun _ _ _ _ _ _ => ⟨cs, ty, fr, hh, by simpa using h3⟩⟩
            have h3' := h3
            simp only [Nat.mul_one, Nat.add_zero] at h3'
            simp [Instr.loadAt, Instr.sureAddr, loadVar, run_isagg hag, cell_of hh, h3']
          · obtain ⟨c, h3, h4⟩ := hc j 0 _ _ h1 rfl
            have h4 : c = .slice none 0 0 := h4
            subst h4
            refine ⟨_, _, ?_, h, .imm .nilsl⟩
            have h3' := h3
            simp only [Nat.mul_one, Nat.add_zero] at h3'
            simp [Instr.loadAt, Instr.sureAddr, loadVar, run_isagg hag, cell_of hh, h3']
          · obtain ⟨c, h3, h4⟩ := hc j 0 _ _ h1 rfl
            obtain ⟨a', rfl⟩ : ∃ a', c = .slice a' 0 0 := h4
            refine ⟨_, _, ?_, h, .imm (.emp a')⟩
            have h3' := h3
            simp only [Nat.mul_one, Nat.add_zero] at h3'
            simp [Instr.loadAt, Instr.sureAddr, loadVar, run_isagg hag, cell_of hh, h3']
          · exact h.elim
        · exact h.elim
    · rename_i sz es he
      obtain ⟨e, h1, h⟩ := lget_spec h
      obtain ⟨_, _, hr⟩ := s.row he
      have := hpc _ _ _ he
      subst this
      obtain ⟨ho, cs, ty, fr, hh, hu, hs, hc⟩ := hr (ne_nil_of_get h1)
      obtain ⟨v, c, h3, h4, h5⟩ := part_sound (w := w) (X := V E (zone Γ E) tab w) (fun cs vs hl h => .agg cs vs hl h) (b := E.L i) (o := j * sz) h fun i' v hv => by
        obtain ⟨c, h3, h4⟩ := hc j i' e v h1 hv
        exact ⟨c, by rw [cell_of hh]; exact h3, h4⟩
      exact ⟨v, c, by simpa [Instr.loadAt, Instr.sureAddr] using h3, h4, h5⟩
    · rename_i k' sz es hn1 hn2 he
      obtain ⟨e, h1, h⟩ := h
      have h1 := nth_some h1
      obtain ⟨_, _, hr⟩ := s.row he
      have := hpc _ _ _ he
      subst this
      obtain ⟨ho, cs, ty, fr, hh, hu, hs, hc⟩ := hr (ne_nil_of_get h1)
      cases k' with
      | nest => exact (hn1 rfl).elim
      | var => exact (hn2 rfl).elim
      | plain =>
        obtain ⟨v, c, h3, h4, h5⟩ := part_sound (w := w) (X := Rep (zone Γ E) w) (fun cs vs hl h => .agg cs vs hl fun i v c h1 h2 => h i v c h1 h2) (b := E.L i) (o := j * sz) h fun i' v hv => by
          obtain ⟨c, h3, h4⟩ := hc j i' e v h1 hv
          exact ⟨c, by rw [cell_of hh]; exact h3, h4⟩
        exact ⟨v, c, by simpa [Instr.loadAt, Instr.sureAddr] using h3, h4, .imm h5⟩
    · exact h.elim
  · rename_i sz es j t0
    obtain ⟨e, h1, h⟩ := h
    have h1 := nth_some h1
    cases hp.rep_inv trivial with
    | pim _ _ _ _ b o val he hk hz hcell hrep =>
      obtain ⟨v, c, h3, h4, h5⟩ := part_sound (w := w) (X := Rep (zone Γ E) w) (fun cs vs hl h => .agg cs vs hl fun i v c h1 h2 => h i v c h1 h2) (b := b) (o := o + j * sz) h fun i' v hv =>
        ⟨_, hcell j i' e v h1 hv, hrep j i' e v h1 hv⟩
      exact ⟨v, c, by simpa [Instr.loadAt, Instr.sureAddr] using h3, h4, .imm h5⟩
  · rename_i i j j' t0
    obtain ⟨_, hpc⟩ := hp.psub_inv
    split at h
    · rename_i sz es he
      replace h := optP.o h
      split at h
      · rename_i sz' es' hj
        have hj := nth_some hj
        obtain ⟨e, h1, h⟩ := h
        have h1 := nth_some h1
        obtain ⟨cs, ty, fr, b, n, cap, hh, hcj, rfl⟩ := hpc _ _ _ _ he hj
        obtain ⟨_, hsz, hr⟩ := s.row he
        have hsz := hsz rfl
        subst hsz
        obtain ⟨ho, cs2, ty2, fr2, hh2, hu, hs, hc⟩ := hr (ne_nil_of_get hj)
        obtain ⟨c, h3, h4⟩ := hc j 0 _ _ hj rfl
        rw [hh] at hh2; cases hh2
        simp at h3
        rw [hcj] at h3; cases h3
        obtain ⟨b2, ⟨a2, cap2, hc2, hl2, hx⟩, heo, hko, hro⟩ := h4
        cases hc2
        have hro := hro (ne_nil_of_get h1)
        have hb2 : b2 = b := by
          rcases hx with hx | ⟨hx, _⟩
          · have : es' = [] := by cases es' with | nil => rfl | cons _ _ => simp at hl2; omega
            exact (ne_nil_of_get h1 this).elim
          · simp at hx; exact hx.symm
        subst hb2
        obtain ⟨_, cs3, ty3, fr3, hh3, _, _, hc3⟩ := hro
        obtain ⟨v, c, h3, h4, h5⟩ := part_sound (w := w) (X := Rep (zone Γ E) w) (fun cs vs hl h => .agg cs vs hl fun i v c h1 h2 => h i v c h1 h2) (b := b2) (o := j' * sz') h fun i' v hv => by
          obtain ⟨c, h3, h4⟩ := hc3 j' i' e v h1 hv
          exact ⟨c, by rw [cell_of hh3]; exact h3, h4⟩
        exact ⟨v, c, by simpa [Instr.loadAt, Instr.sureAddr] using h3, h4, .imm h5⟩
      · exact h.elim
    · exact h.elim
  · exact h.elim
end
end Sx

/- Soundness of slice expressions, indices, fields. -/
namespace Sx
open Go Go.RowKit
section
variable {E : Env} {tab : List Ent} {P : Program} {w : World} {Γ : Ctx} {ts : List AV} {a : Act}
/-- A bound as it stands in the frame. -/
def OptV : Option Int → Option Value → Prop
  | none, none => True
  | some n, some (.int _ m) => m = n
  | _, _ => False
theorem bnd_sound {o : Option Operand} {k : Option Int → Prop} (h : bnd ts o k) (s : Sat Γ E ts tab a w) : ∃ n, k n ∧ OptV n (o.map a.eval) := by
  cases o with
  | none => exact ⟨none, h, trivial⟩
  | some o =>
    obtain ⟨v, h1, h2⟩ := ev_sound (o := o) h s
    split at h1
    · rename_i kd n
      refine ⟨some n, h1, ?_⟩
      have := h2.int_inv
      simp only [Option.map_some, this, OptV]
    · exact h1.elim
theorem bound_run {kd : IntKind} {n : Int} {y : Nat} (code : BoundsCode) (h0 : 0 ≤ n) (h1 : n ≤ (y : Int)) : (Instr.sliceBound (.int kd n) y code).run P w = .ok n.toNat w := by
  simp [Instr.sliceBound, asIntOf, h0, h1]
theorem bnds_sound {lo hi : Option Int} {lov hiv : Option Value} {len cap : Nat} {k : Nat → Nat → Prop} (b : Bool) (h : bnds lo hi len k) (hl : OptV lo lov) (hh : OptV hi hiv) (hc : len ≤ cap) :
    ∃ l h, (Instr.sliceBounds b len cap lov hiv none).run P w = .ok (l, h, cap) w ∧ l ≤ h ∧ h ≤ len ∧ k l h := by
  unfold bnds at h
  split at h
  · cases lov with
    | some _ => exact hl.elim
    | none =>
      split at h
      · cases hiv with
        | some _ => exact hh.elim
        | none => exact ⟨0, len, by simp [Instr.sliceBounds], by omega, by omega, h⟩
      · rename_i n
        cases hiv with
        | none => exact hh.elim
        | some v =>
          cases v <;> first | exact hh.elim | skip
          rename_i kd m
          have : m = n := hh
          subst this
          have h := h.le
          exact ⟨0, m.toNat, by simp [Instr.sliceBounds, bound_run (w := w) (P := P) (y := cap) _ h.1 (by omega)], by omega, by omega, h.2.2⟩
  · rename_i l
    cases lov with
    | none => exact hl.elim
    | some v =>
      cases v <;> first | exact hl.elim | skip
      rename_i kd m
      have : m = l := hl
      subst this
      split at h
      · cases hiv with
        | some _ => exact hh.elim
        | none =>
          have h := h.le
          exact ⟨m.toNat, len, by simp [Instr.sliceBounds, bound_run (w := w) (P := P) (y := len) _ h.1 h.2.1], by omega, by omega, h.2.2⟩
      · rename_i n
        cases hiv with
        | none => exact hh.elim
        | some v =>
          cases v <;> first | exact hh.elim | skip
          rename_i kd' m'
          have : m' = n := hh
          subst this
          obtain ⟨q1, q2, q345⟩ := h.le
          obtain ⟨q3, q4, q5⟩ := q345.le
          exact ⟨m.toNat, m'.toNat, by simp [Instr.sliceBounds, bound_run (w := w) (P := P) (y := cap) _ q1 (by omega), bound_run (w := w) (P := P) (y := m'.toNat) (n := m) _ q3 (by omega)], by omega, by omega, q5⟩
theorem bnds_sound2 {lo : Option Int} {n : Int} {lov hiv : Option Value} {len cap len2 : Nat} {k : Nat → Nat → Prop} (b : Bool) (h : bnds lo (some n) len k) (hl : OptV lo lov) (hh : OptV (some n) hiv) (hc : len ≤ cap) :
    ∃ l h, (Instr.sliceBounds b len2 cap lov hiv none).run P w = .ok (l, h, cap) w ∧ l ≤ h ∧ h ≤ len ∧ k l h := by
  unfold bnds at h
  cases hiv with
  | none => exact hh.elim
  | some v =>
    cases v <;> first | exact hh.elim | skip
    rename_i kd' m'
    have : m' = n := hh
    subst this
    split at h
    · cases lov with
      | some _ => exact hl.elim
      | none =>
        have h := h.le
        exact ⟨0, m'.toNat, by simp [Instr.sliceBounds, bound_run (w := w) (P := P) (y := cap) _ h.1 (by omega)], by omega, by omega, h.2.2⟩
    · rename_i l
      cases lov with
      | none => exact hl.elim
      | some v =>
        cases v <;> first | exact hl.elim | skip
        rename_i kd m
        have : m = l := hl
        subst this
        obtain ⟨q1, q2, q345⟩ := h.le
        obtain ⟨q3, q4, q5⟩ := q345.le
        exact ⟨m.toNat, m'.toNat, by simp [Instr.sliceBounds, bound_run (w := w) (P := P) (y := cap) _ q1 (by omega), bound_run (w := w) (P := P) (y := m'.toNat) (n := m) _ q3 (by omega)], by omega, by omega, q5⟩
theorem SlOf.slice {own : Nat × Option Nat} {b sz off len l h : Nat} {a : Option Addr} {cap : Nat} (hs : SlOf E w own b sz off len (.slice a len cap)) (hl : l ≤ h) (hh : h ≤ len) :
    SlOf E w own b sz (off + l) (h - l) (.slice (if cap = l then a else a.map (·.add (l * sz))) (h - l) (cap - l)) := by
  obtain ⟨a', cap', hc, hle, hx⟩ := hs
  cases hc
  refine ⟨_, _, rfl, by omega, ?_⟩
  rcases hx with rfl | ⟨rfl, ho, cs, ty, fr, hb, hu, hr⟩
  · exact .inl (by omega)
  · by_cases e : cap = l
    · exact .inl (by omega)
    · rw [if_neg e]
      refine .inr ⟨?_, ho, cs, ty, fr, hb, hu, ?_⟩
      · rw [Option.map_some, addr_add, Nat.add_mul]
      · rw [show off + l + (cap - l) = off + cap by omega]; exact hr
theorem SlOf.reslice {own : Nat × Option Nat} {b sz off len l h : Nat} {a : Option Addr} {cap : Nat} (hs : SlOf E w own b sz off len (.slice a len cap)) (hl : l ≤ h) (hh : h ≤ cap) :
    SlOf E w own b sz (off + l) (h - l) (.slice (if cap = l then a else a.map (·.add (l * sz))) (h - l) (cap - l)) := by
  obtain ⟨a', cap', hc, hle, hx⟩ := hs
  cases hc
  refine ⟨_, _, rfl, by omega, ?_⟩
  rcases hx with rfl | ⟨rfl, ho, cs, ty, fr, hb, hu, hr⟩
  · exact .inl (by omega)
  · by_cases e : cap = l
    · exact .inl (by omega)
    · rw [if_neg e]
      refine .inr ⟨?_, ho, cs, ty, fr, hb, hu, ?_⟩
      · rw [Option.map_some, addr_add, Nat.add_mul]
      · rw [show off + l + (cap - l) = off + cap by omega]; exact hr
theorem Rep.slice {Z : Nat → Prop} {sz : Nat} {es : List AV} {a : Option Addr} {len cap l h : Nat} (hr : Rep Z w (.sl sz es) (.slice a len cap)) (hl : l ≤ h) (hh : h ≤ es.length) :
    Rep Z w (.sl sz ((es.take h).drop l)) (.slice (if cap = l then a else a.map (·.add (l * sz))) (h - l) (cap - l)) := by
  have hlen : ((es.take h).drop l).length = h - l := by simp; omega
  by_cases he : h = l
  · subst he
    have : (es.take h).drop h = [] := by simp
    rw [this, Nat.sub_self]
    exact .sl0 _ _ _
  cases hr with
  | sl0 => simp at hh; omega
  | sl _ _ b o _ val hle heo hk hz hc hv =>
    rw [if_neg (by omega), Option.map_some, addr_add]
    have get : ∀ {j : Nat} {e : AV}, ((es.take h).drop l)[j]? = some e → es[l + j]? = some e := by
      intro j e hj
      rw [List.getElem?_drop, List.getElem?_take] at hj
      split at hj
      · exact hj
      · cases hj
    have key := Rep.sl (Z := Z) (w := w) sz ((es.take h).drop l) b (o + l * sz) (cap - l) (fun x => val (l * sz + x)) (by omega) (fun e hm => heo e (List.mem_of_mem_take (List.mem_of_mem_drop hm))) (fun e hm => hk e (List.mem_of_mem_take (List.mem_of_mem_drop hm)))
      (fun j t e v h1 h2 => hz _ t e v (get h1) h2)
      (fun j t e v h1 h2 => by
        have := hc _ t e v (get h1) h2
        rw [show o + l * sz + j * sz + t = o + (l + j) * sz + t by rw [Nat.add_mul]; omega]
        rw [this]
        congr 2
        rw [Nat.add_mul]; omega)
      (fun j t e v h1 h2 => by
        have := hv _ t e v (get h1) h2
        rw [show l * sz + (j * sz + t) = (l + j) * sz + t by rw [Nat.add_mul]; omega]
        exact this)
    rw [hlen] at key
    exact key
theorem sliceW_sound {t : TypeId} {x : AV} {c : Value} {lo hi : Option Int} {lov hiv : Option Value} {k : AV → Prop} (h : sliceW P t x lo hi tab k) (hx : V E (zone Γ E) tab w x c) (hl : OptV lo lov) (hh : OptV hi hiv) :
    ∃ v c', (Instr.sliceAt t c lov hiv none).run P w = .ok c' w ∧ k v ∧ V E (zone Γ E) tab w v c' := by
  unfold sliceW at h
  split at h
  · rename_i hu
    split at h
    · obtain ⟨b, rfl, rfl⟩ := hx.str_inv
      obtain ⟨l, h', hr, h1, h2, h3⟩ := bnds_sound (P := P) (w := w) (cap := b.size) false h hl hh (by simp)
      refine ⟨_, .string (b.extract l h'), ?_, h3.o, .imm (.str _ _ ?_)⟩
      · simp only [Array.length_toList] at hr
        have e : b.data.size = b.size := rfl
        rw [e] at hr
        simp [Instr.sliceAt, run_und hu, Instr.slice, hr]
      · simp [ByteArray.data_extract, List.drop_take]
    · exact h.elim
  · rename_i elem hu
    have key : ∀ {a' : Option Addr} {len cap sz : Nat} (_ : 0 < siz P elem) (_ : siz P elem = sz) {k' : Nat → Nat → Prop} (_ : bnds lo hi len k') (_ : len ≤ cap),
        ∃ l h', (Instr.sliceAt t (.slice a' len cap) lov hiv none).run P w = .ok (.slice (if cap = l then a' else a'.map (·.add (l * sz))) (h' - l) (cap - l)) w ∧ l ≤ h' ∧ h' ≤ len ∧ k' l h' := by
      intro a' len cap sz hp hs k' hb hle
      obtain ⟨l, h', hr, h1, h2, h3⟩ := bnds_sound (P := P) (w := w) (cap := cap) true hb hl hh hle
      obtain ⟨i, hi⟩ := siz_tinfo hp
      exact ⟨l, h', by simp [Instr.sliceAt, run_und hu, Instr.slice, hr, run_siz hi, hs], h1, h2, h3⟩
    have key2 : ∀ {a' : Option Addr} {len cap sz L : Nat} {n : Int} (_ : 0 < siz P elem) (_ : siz P elem = sz) {k' : Nat → Nat → Prop} (_ : bnds lo (some n) L k') (_ : L ≤ cap) (_ : OptV (some n) hiv),
        ∃ l h', (Instr.sliceAt t (.slice a' len cap) lov hiv none).run P w = .ok (.slice (if cap = l then a' else a'.map (·.add (l * sz))) (h' - l) (cap - l)) w ∧ l ≤ h' ∧ h' ≤ L ∧ k' l h' := by
      intro a' len cap sz L n hp hs k' hb hle hh
      obtain ⟨l, h', hr, h1, h2, h3⟩ := bnds_sound2 (P := P) (w := w) (cap := cap) (len2 := len) true hb hl hh hle
      obtain ⟨i, hi⟩ := siz_tinfo hp
      exact ⟨l, h', by simp [Instr.sliceAt, run_und hu, Instr.slice, hr, run_siz hi, hs], h1, h2, h3⟩
    split at h
    · obtain ⟨hs, hp, h⟩ := h
      have hp := blt_lt hp
      have hr := hx.rep_inv trivial
      obtain ⟨a', cap, rfl, hle⟩ : ∃ a' cap, c = .slice a' ‹List AV›.length cap ∧ ‹List AV›.length ≤ cap := by
        cases hr with
        | sl0 _ a' cap => exact ⟨a', cap, rfl, Nat.zero_le _⟩
        | sl _ _ b o cap val hle => exact ⟨_, cap, rfl, hle⟩
      obtain ⟨l, h', q1, q2, q3, q4⟩ := key (by omega) hs h hle
      exact ⟨_, _, q1, q4.o, .imm (hr.slice q2 q3)⟩
    · have := hx.nilsl_inv
      subst this
      obtain ⟨l, h', q1, q2, q3, q4⟩ := key (blt_lt h.1) rfl h.2 (Nat.zero_le _)
      have : h' = 0 := by omega
      have : l = 0 := by omega
      subst this; subst h'
      exact ⟨_, _, q1, q4, .imm (by simpa using Rep.nilsl)⟩
    · obtain ⟨a', rfl⟩ := hx.emp_inv
      obtain ⟨l, h', q1, q2, q3, q4⟩ := key (blt_lt h.1) rfl h.2 (Nat.zero_le _)
      have : h' = 0 := by omega
      have : l = 0 := by omega
      subst this; subst h'
      exact ⟨_, _, q1, q4, .imm (by simpa using Rep.emp a')⟩
    · rename_i i
      split at h
      · rename_i kd sz es he
        obtain ⟨hs, hp, h⟩ := h
        have hp := blt_lt hp
        obtain ⟨hit, hv⟩ := hx.loc_inv
        have hsl := hv _ _ _ he
        obtain ⟨a', cap, rfl, hle, hx'⟩ := hsl
        have cse : ∀ (_ : bnds lo hi es.length fun l h => k (.part i l (h - l))), ∃ v c', (Instr.sliceAt t (.slice a' es.length cap) lov hiv none).run P w = .ok c' w ∧ k v ∧ V E (zone Γ E) tab w v c' := by
          intro h
          obtain ⟨l, h', q1, q2, q3, q4⟩ := key (by omega) hs h hle
          refine ⟨_, _, q1, q4, .part i l (h' - l) _ hit fun k2 sz2 es2 he2 => ?_⟩
          rw [he] at he2; cases he2
          have := SlOf.slice (E := E) (w := w) (hv _ _ _ he) q2 q3
          rw [Nat.zero_add] at this
          exact ⟨⟨this, by omega⟩, fun _ _ _ e => by cases e; omega⟩
        split at h
        · split at h
          · obtain ⟨l, h', q1, q2, q3, q4⟩ := key (k' := fun l h' => l = 0 ∧ h' = es.length) (by omega) hs ⟨rfl, rfl⟩ hle
            obtain ⟨rfl, rfl⟩ := q4
            refine ⟨_, _, q1, h, .loc i _ hit fun k2 sz2 es2 he2 => ?_⟩
            rw [he] at he2; cases he2
            exact SlOf.slice (E := E) (w := w) (l := 0) (hv _ _ _ he) (Nat.zero_le _) (Nat.le_refl _)
          · exact cse h
        · exact cse h
      · exact h.elim
    · rename_i i off len
      split at h
      · rename_i kd sz es he
        obtain ⟨hs, hp, h⟩ := h
        have hp := blt_lt hp
        obtain ⟨hit, hv⟩ := hx.part_inv
        obtain ⟨hsl, hol⟩ := hv _ _ _ he
        have hrm := hx.part_room _ _ _ he
        obtain ⟨a', cap, rfl, hle, hx'⟩ := id hsl
        have hcap := hrm _ _ _ rfl
        split at h
        · obtain ⟨l, h', q1, q2, q3, q4⟩ := key (by omega) hs h hle
          refine ⟨_, _, q1, q4, .part i (off + l) (h' - l) _ hit fun k2 sz2 es2 he2 => ?_⟩
          rw [he] at he2; cases he2
          exact ⟨⟨SlOf.slice (E := E) (w := w) hsl q2 q3, by omega⟩, fun _ _ _ e => by cases e; omega⟩
        · rename_i hn
          obtain ⟨l, h', q1, q2, q3, q4⟩ := key2 (L := max len (es.length - off)) (cap := cap) (by omega) hs h (by omega) hh
          refine ⟨_, _, q1, q4, .part i (off + l) (h' - l) _ hit fun k2 sz2 es2 he2 => ?_⟩
          rw [he] at he2; cases he2
          exact ⟨⟨SlOf.reslice (E := E) (w := w) hsl q2 (by omega), by omega⟩, fun _ _ _ e => by cases e; omega⟩
      · exact h.elim
    · exact h.elim
  · exact h.elim
end
end Sx

/- Soundness of indices, fields, lengths, s[:0:0]. -/
namespace Sx
open Go Go.RowKit
def cutV (vs : List Value) (t n : Nat) : List Value := (vs.drop t).take n
section
variable {E : Env} {tab : List Ent} {P : Program} {w : World} {Γ : Ctx} {ts : List AV} {a : Act}
theorem slice0_sound {t : TypeId} {x : AV} {c : Value} {lo hi mx : Option Int} {lov hiv mxv : Option Value} {k : AV → Prop} (h : slice0 P t x lo hi mx tab k) (hx : V E (zone Γ E) tab w x c) (hl : OptV lo lov) (hh : OptV hi hiv) (hm : OptV mx mxv) :
    ∃ v c', (Instr.sliceAt t c lov hiv mxv).run P w = .ok c' w ∧ k v ∧ V E (zone Γ E) tab w v c' := by
  unfold slice0 at h
  split at h
  · rename_i elem hu
    obtain ⟨hp, h⟩ := h
    obtain ⟨i, hi⟩ := siz_tinfo (blt_lt hp)
    split at h
    · rename_i l
      unfold slice3 at h
      split at h
      · rename_i hn
        split at h
        · rename_i mn
          split at h
          · rename_i i0
            split at h
            · rename_i kd sz es he
              obtain ⟨a', cap, rfl, hle, _⟩ := hx.loc_inv.2 _ _ _ he
              cases lov with
              | none => exact hl.elim
              | some lv =>
              cases hiv with
              | none => exact hh.elim
              | some hv =>
              cases mxv with
              | none => exact hm.elim
              | some mv =>
              cases lv <;> first | exact hl.elim | skip
              cases hv <;> first | exact hh.elim | skip
              cases mv <;> first | exact hm.elim | skip
              rename_i k0 m0 k1 m1 k2 m2
              have e0 : m0 = l := hl
              have e1 : m1 = hn := hh
              have e2 : m2 = mn := hm
              subst e0; subst e1; subst e2
              obtain ⟨q1, q2, h⟩ := h.le
              obtain ⟨q3, q4, h⟩ := h.le
              obtain ⟨q5, q6, h⟩ := h.le
              refine ⟨.unk, .slice (if m2.toNat = m0.toNat then a' else a'.map (·.add (m0.toNat * siz P elem))) (m1.toNat - m0.toNat) (m2.toNat - m0.toNat), ?_, h, .imm (.unk _)⟩
              have b2 : ∀ code, (Instr.sliceBound (.int k2 m2) cap code).run P w = .ok m2.toNat w := fun code => bound_run code (by omega) (by omega)
              have b1 : ∀ code, (Instr.sliceBound (.int k1 m1) m2.toNat code).run P w = .ok m1.toNat w := fun code => bound_run code (by omega) (by omega)
              have b0 : ∀ code, (Instr.sliceBound (.int k0 m0) m1.toNat code).run P w = .ok m0.toNat w := fun code => bound_run code (by omega) (by omega)
              simp [Instr.sliceAt, run_und hu, Instr.slice, Instr.sliceBounds, b0, b1, b2, run_siz hi]
            · exact h.elim
          · exact h.elim
        · exact h.elim
      · exact h.elim
    obtain ⟨_, rfl, rfl, h⟩ := h
    cases lov with
    | some _ => exact hl.elim
    | none =>
    cases hiv with
    | none => exact hh.elim
    | some hv =>
    cases mxv with
    | none => exact hm.elim
    | some mv =>
    cases hv <;> first | exact hh.elim | skip
    cases mv <;> first | exact hm.elim | skip
    rename_i k1 m1 k2 m2
    have e1 : m1 = 0 := hh
    have e2 : m2 = 0 := hm
    subst e1; subst e2
    have key : ∀ (a' : Option Addr) (len cap : Nat), ∃ a2, (Instr.sliceAt t (.slice a' len cap) none (some (.int k1 0)) (some (.int k2 0))).run P w = .ok (.slice a2 0 0) w := by
      intro a' len cap
      have b1 : ∀ y code, (Instr.sliceBound (.int k1 0) y code).run P w = .ok 0 w := fun y code => bound_run code (by omega) (by omega)
      have b2 : ∀ y code, (Instr.sliceBound (.int k2 0) y code).run P w = .ok 0 w := fun y code => bound_run code (by omega) (by omega)
      exact ⟨a', by simp [Instr.sliceAt, run_und hu, Instr.slice, Instr.sliceBounds, b1, b2, run_siz hi]⟩
    have fin : ∀ (a' : Option Addr) (len cap : Nat), k .emp → ∃ v c', (Instr.sliceAt t (.slice a' len cap) none (some (.int k1 0)) (some (.int k2 0))).run P w = .ok c' w ∧ k v ∧ V E (zone Γ E) tab w v c' := by
      intro a' len cap hk
      obtain ⟨a2, h2⟩ := key a' len cap
      exact ⟨_, _, h2, hk, .imm (.emp a2)⟩
    split at h
    · have := hx.nilsl_inv
      subst this
      refine ⟨_, .slice none 0 0, ?_, h, .imm .nilsl⟩
      have b1 : ∀ y code, (Instr.sliceBound (.int k1 0) y code).run P w = .ok 0 w := fun y code => bound_run code (by omega) (by omega)
      have b2 : ∀ y code, (Instr.sliceBound (.int k2 0) y code).run P w = .ok 0 w := fun y code => bound_run code (by omega) (by omega)
      simp [Instr.sliceAt, run_und hu, Instr.slice, Instr.sliceBounds, b1, b2, run_siz hi]
    · obtain ⟨a', rfl⟩ := hx.emp_inv
      exact fin _ _ _ h
    · cases hx.rep_inv trivial <;> exact fin _ _ _ h
    · split at h
      · rename_i he
        obtain ⟨a', cap, rfl, _⟩ := hx.loc_inv.2 _ _ _ he
        exact fin _ _ _ h
      · exact h.elim
    · split at h
      · rename_i he
        obtain ⟨⟨a', cap, rfl, _⟩, _⟩ := hx.part_inv.2 _ _ _ he
        exact fin _ _ _ h
      · exact h.elim
    · exact h.elim
  · exact h.elim
/-! ### parts of a struct or array as a value -/
theorem part_val {Z : Nat → Prop} {t : TypeId} {cs : List AV} {vs : List Value} {t0 : Nat} {k : AV → Prop} (h : partW P t (.agg cs) t0 k) (hl : cs.length = vs.length) (hv : ∀ (i : Nat) (x : AV) (v : Value), cs[i]? = some x → vs[i]? = some v → V E Z tab w x v) :
    ∃ v c, (Go.part t vs.toArray t0).run P w = .ok c w ∧ k v ∧ V E Z tab w v c := by
  have agg : ∀ n, isagg P t = some true → t0 + n ≤ cs.length → siz P t = n → k (.agg (cut cs t0 n)) → ∃ v c, (Go.part t vs.toArray t0).run P w = .ok c w ∧ k v ∧ V E Z tab w v c := by
    intro n ha hn hs hk
    obtain ⟨i, hi⟩ := isagg_tinfo ha
    refine ⟨_, .agg (cutV vs t0 n).toArray, ?_, hk, .agg _ _ ?_ ?_⟩
    · simp [Go.part, run_isagg ha, run_siz hi, hs, cutV]
    · simp [cut, cutV]; omega
    · intro i x v h1 h2
      refine hv (t0 + i) x v (cut_get h1) ?_
      unfold cutV at h2
      rw [List.getElem?_take] at h2
      split at h2
      · rwa [List.getElem?_drop] at h2
      · cases h2
  unfold partW at h
  cases ha : isagg P t with
  | none => rw [ha] at h; exact h.elim
  | some b' =>
    rw [ha] at h
    cases b' with
    | false =>
      obtain ⟨v, h1, h2⟩ := lget_spec h
      have hlt : t0 < vs.length := by rw [← hl]; exact (List.getElem?_eq_some_iff.1 h1).1
      exact ⟨v, vs[t0], by simp [Go.part, run_isagg ha, hlt], h2, hv t0 v _ h1 (by simp [hlt])⟩
    | true =>
      dsimp only at h
      split at h
      · split at h
        · rename_i hb
          have hs : siz P t = cs.length := Nat.eq_of_beq_eq_true hb
          refine agg cs.length ha (by omega) hs ?_
          have : cut cs 0 cs.length = cs := by unfold cut; simp
          rw [this]; exact h
        · exact agg _ ha (by have := h.1; simp only [cellsOf] at this; omega) rfl h.2
      · exact agg _ ha h.1 rfl h.2
theorem fieldOff_sound {s : TypeId} {f : Nat} {k : TypeId → Nat → Prop} (h : fieldOff P s f k) : ∃ fs fd, und P s = some (.struct fs) ∧ fs[f]? = some fd ∧ k fd.type fd.offset := by
  unfold fieldOff at h
  split at h
  · rename_i fs hu
    split at h
    · rename_i fd hf
      rw [nth_eq, Array.getElem?_toList] at hf
      exact ⟨fs, fd, hu, hf, h⟩
    · exact h.elim
  · exact h.elim
theorem fieldW_sound {s : TypeId} {x : AV} {c : Value} {f : Nat} {k : AV → Prop} (h : fieldW P s x f k) (hx : V E (zone Γ E) tab w x c) :
    ∃ v c', (Instr.field s c f).run P w = .ok c' w ∧ k v ∧ V E (zone Γ E) tab w v c' := by
  obtain ⟨fs, fd, hu, hf, h⟩ := fieldOff_sound h
  split at h
  · obtain ⟨vs, rfl, hl, hv⟩ := hx.agg_inv
    obtain ⟨v, c, h1, h2, h3⟩ := part_val h hl hv
    exact ⟨v, c, by simp [Instr.field, run_und hu, hf, asAgg, h1], h2, h3⟩
  · exact h.elim
theorem fieldAddrW_sound {s : TypeId} {x : AV} {c : Value} {f : Nat} {k : AV → Prop} (h0 : fieldAddrW P s x f tab k) (hx : V E (zone Γ E) tab w x c) :
    ∃ v c', (Instr.fieldAt s c f).run P w = .ok c' w ∧ k v ∧ V E (zone Γ E) tab w v c' := by
  obtain ⟨fs, fd, hu, hf, hp0, h⟩ := fieldOff_sound h0
  have hp : 0 < siz P fd.type := by simpa using hp0
  obtain ⟨i, hi⟩ := siz_tinfo hp
  have key : ∀ b o, (Instr.fieldAt s (.pointer (some ⟨b, o, none⟩)) f).run P w = .ok (.pointer (some ⟨b, o + fd.offset, none⟩)) w := by
    intro b o
    simp [Instr.fieldAt, run_und hu, hf, Instr.sureAddr, fieldPlace, run_siz hi, Nat.pos_iff_ne_zero.1 hp, addr_add]
  split at h
  · rename_i i j t
    split at h
    · rename_i he
      obtain ⟨hit, hv⟩ := hx.prow_inv
      rw [hv _ _ _ he]
      exact ⟨_, _, key _ _, h, .prow i j _ _ hit fun k2 sz2 es2 he2 => by rw [he] at he2; cases he2; rw [Nat.add_assoc]⟩
    · exact h.elim
  · cases hx.rep_inv trivial with
    | pim _ _ _ _ b o val he hk hz hc hr =>
      refine ⟨_, _, key _ _, h, .imm ?_⟩
      rw [Nat.add_assoc]
      exact .pim _ _ _ _ b o val he hk hz hc hr
  · rename_i i j j' t
    split at h
    · rename_i he
      replace h := optP.o h
      split at h
      · rename_i sz' es' hj
        obtain ⟨hit, hv⟩ := hx.psub_inv
        obtain ⟨cs, ty, fr, b, n, cap, hh, hc, rfl⟩ := hv _ _ _ _ he (nth_some hj)
        exact ⟨_, _, key _ _, h, .psub i j j' _ _ hit fun sz2 es2 sz3 es3 he2 hj2 => by
          rw [he] at he2; cases he2
          rw [nth_some hj] at hj2; cases hj2
          exact ⟨cs, ty, fr, b, n, cap, hh, hc, by rw [Nat.add_assoc]⟩⟩
      · exact h.elim
    · exact h.elim
  · exact h.elim
theorem indexW_sound {t : TypeId} {x i : AV} {c ci : Value} {k : AV → Prop} (h : indexW P t x i k) (hx : V E (zone Γ E) tab w x c) (hi : V E (zone Γ E) tab w i ci) :
    ∃ v c', (Instr.index t c ci).run P w = .ok c' w ∧ k v ∧ V E (zone Γ E) tab w v c' := by
  unfold indexW at h
  split at h
  · rename_i kd n
    rw [hi.int_inv]
    split at h
    · rename_i s
      split at h
      · rename_i hu
        obtain ⟨h0, h1, h⟩ := h.o
        obtain ⟨b, rfl, rfl⟩ := hx.str_inv
        have hlt : n.toNat < b.size := by
          have e : b.data.toList.length = b.size := by simp
          omega
        refine ⟨_, .int .u8 (((b.data.toList.getD n.toNat 0).toNat : Int)), ?_, h, .imm (.int _ _)⟩
        simp [Instr.index, asIntOf, run_und hu, h0, hlt]
        rfl
      · exact h.elim
    · rename_i cs
      split at h
      · rename_i len elem hu
        obtain ⟨hp, h⟩ := h
        obtain ⟨h0, h1, h⟩ := h.o
        obtain ⟨i, hi⟩ := siz_tinfo (blt_lt hp)
        obtain ⟨vs, rfl, hl, hv⟩ := hx.agg_inv
        obtain ⟨v, c, h2, h3, h4⟩ := part_val h hl hv
        exact ⟨v, c, by simp [Instr.index, asIntOf, run_und hu, h0, h1, run_siz hi, h2], h3, h4⟩
      · exact h.elim
    · exact h.elim
  · exact h.elim
theorem indexAddrW_sound {t : TypeId} {x i : AV} {c ci : Value} {k : AV → Prop} (h : indexAddrW P t x i tab k) (s : Sat Γ E ts tab a w) (hx : V E (zone Γ E) tab w x c) (hi : V E (zone Γ E) tab w i ci) :
    ∃ v c', (Instr.indexAt t c ci).run P w = .ok c' w ∧ k v ∧ V E (zone Γ E) tab w v c' := by
  unfold indexAddrW at h
  split at h
  · rename_i kd n
    rw [hi.int_inv]
    split at h
    · rename_i elem hu
      have key : ∀ {b o len cap : Nat} (_ : 0 < siz P elem) (_ : 0 ≤ n) (_ : n < (len : Int)), (Instr.indexAt t (.slice (some ⟨b, o, none⟩) len cap) (.int kd n)).run P w = .ok (.pointer (some ⟨b, o + n.toNat * siz P elem, none⟩)) w := by
        intro b o len cap hp h0 h1
        obtain ⟨i, hi⟩ := siz_tinfo hp
        simp [Instr.indexAt, asIntOf, run_und hu, h0, h1, run_siz hi, addr_add]
      split at h
      · rename_i sz es
        obtain ⟨hs, hp, h⟩ := h
        have hp := blt_lt hp
        obtain ⟨h0, h1, h⟩ := h.o
        cases hx.rep_inv trivial with
        | sl0 => simp at h1; omega
        | sl _ _ b o cap val hle he hk hz hc hr =>
          refine ⟨_, _, key (by omega) h0 h1, h, .imm ?_⟩
          rw [hs]
          exact .pim sz es n.toNat 0 b o val he hk hz hc hr
      · rename_i i
        split at h
        · rename_i kd' sz es he
          obtain ⟨hs, hp, h⟩ := h
          have hp := blt_lt hp
          obtain ⟨h0, h1, h⟩ := h.o
          obtain ⟨hit, hv⟩ := hx.loc_inv
          obtain ⟨a', cap, rfl, hle, hx'⟩ := hv _ _ _ he
          rcases hx' with hx' | ⟨rfl, _⟩
          · omega
          · refine ⟨_, _, key (by omega) h0 h1, h, .prow i n.toNat 0 _ hit fun k2 sz2 es2 he2 => ?_⟩
            rw [he] at he2; cases he2
            rw [hs]; simp
        · exact h.elim
      · rename_i i off len
        split at h
        · rename_i kd' sz es he
          obtain ⟨hs, hp, h⟩ := h
          have hp := blt_lt hp
          obtain ⟨h0, h1, h⟩ := h.o
          obtain ⟨hit, hv⟩ := hx.part_inv
          obtain ⟨⟨a', cap, rfl, hle, hx'⟩, _⟩ := hv _ _ _ he
          rcases hx' with hx' | ⟨rfl, _⟩
          · omega
          · refine ⟨_, _, key (by omega) h0 h1, h, .prow i (off + n.toNat) 0 _ hit fun k2 sz2 es2 he2 => ?_⟩
            rw [he] at he2; cases he2
            rw [hs, Nat.add_mul]; simp
        · exact h.elim
      · rename_i i j
        split at h
        · rename_i sz es he
          replace h := optP.o h
          split at h
          · rename_i sz' es' hj
            have hj := nth_some hj
            obtain ⟨hs, hp, h⟩ := h
            have hp := blt_lt hp
            obtain ⟨h0, h1, h⟩ := h.o
            obtain ⟨hit, hv⟩ := hx.sub_inv
            obtain ⟨cs, ty, fr, hh, hcj⟩ := hv _ _ _ _ he hj
            obtain ⟨_, hsz, hr⟩ := s.row he
            have hsz := hsz rfl
            subst hsz
            obtain ⟨ho, cs2, ty2, fr2, hh2, hu2, hs2, hc⟩ := hr (ne_nil_of_get hj)
            obtain ⟨c2, h3, h4⟩ := hc j 0 _ _ hj rfl
            rw [hh] at hh2; cases hh2
            simp at h3
            rw [hcj] at h3; cases h3
            obtain ⟨b2, ⟨a2, cap2, rfl, hl2, hx'⟩, heo, hko, hro⟩ := h4
            rcases hx' with hx' | ⟨rfl, _⟩
            · omega
            · rw [Nat.zero_mul] at *
              refine ⟨_, _, key (by omega) h0 h1, h, .psub i j n.toNat 0 _ hit fun sz3 es3 sz4 es4 he3 hj3 => ?_⟩
              rw [he] at he3; cases he3
              rw [hj] at hj3; cases hj3
              exact ⟨cs, ty, fr, b2, _, _, hh, hcj, by rw [hs]; simp⟩
          · exact h.elim
        · exact h.elim
      · exact h.elim
    · rename_i len elem hu
      have key : ∀ {b o : Nat} (_ : 0 < siz P elem) (_ : 0 ≤ n) (_ : n < (len : Int)), (Instr.indexAt t (.pointer (some ⟨b, o, none⟩)) (.int kd n)).run P w = .ok (.pointer (some ⟨b, o + n.toNat * siz P elem, none⟩)) w := by
        intro b o hp h0 h1
        obtain ⟨i, hi⟩ := siz_tinfo hp
        simp [Instr.indexAt, asIntOf, run_und hu, Instr.sureAddr, h0, h1, run_siz hi, addr_add]
      split at h
      · rename_i i j t0
        split at h
        · rename_i he
          obtain ⟨hp, h⟩ := h
          have hp := blt_lt hp
          obtain ⟨h0, h1, h⟩ := h.o
          obtain ⟨hit, hv⟩ := hx.prow_inv
          rw [hv _ _ _ he]
          exact ⟨_, _, key hp h0 h1, h, .prow i j _ _ hit fun k2 sz2 es2 he2 => by rw [he] at he2; cases he2; rw [Nat.add_assoc]⟩
        · exact h.elim
      · obtain ⟨hp, h⟩ := h
        have hp := blt_lt hp
        obtain ⟨h0, h1, h⟩ := h.o
        cases hx.rep_inv trivial with
        | pim _ _ _ _ b o val he hk hz hc hr =>
          refine ⟨_, _, key hp h0 h1, h, .imm ?_⟩
          rw [Nat.add_assoc]
          exact .pim _ _ _ _ b o val he hk hz hc hr
      · exact h.elim
    · exact h.elim
  · exact h.elim
end
end Sx

/- Steps of the state: a new row, a row written, a row given up, a row appended to. -/
namespace Sx
open Go Go.RowKit
/-- The cells of a row, some of them written. -/
def wrote (cs : Array Value) (o : Nat) : List Value → Array Value
  | [] => cs
  | v :: vs => wrote (cs.setIfInBounds o v) (o + 1) vs
theorem wrote_size (vs : List Value) : ∀ (cs : Array Value) (o : Nat), (wrote cs o vs).size = cs.size := by
  induction vs with
  | nil => intro cs o; rfl
  | cons v vs ih => intro cs o; simp [wrote, ih]
theorem wrote_get (vs : List Value) : ∀ (cs : Array Value) (o j : Nat), o + vs.length ≤ cs.size → (wrote cs o vs)[j]? = if o ≤ j ∧ j < o + vs.length then vs[j - o]? else cs[j]? := by
  induction vs with
  | nil => intro cs o j _; simp [wrote]; omega
  | cons v vs ih =>
    intro cs o j h
    simp only [List.length_cons] at h
    simp only [wrote]
    rw [ih _ _ _ (by simp; omega)]
    by_cases h1 : o = j
    · subst h1
      rw [if_neg (by omega), if_pos (by simp)]
      simp
      rw [Array.getElem?_setIfInBounds]
      simp; omega
    · by_cases h2 : o + 1 ≤ j ∧ j < o + 1 + vs.length
      · rw [if_pos h2, if_pos (by simp; omega)]
        rw [show j - o = (j - (o + 1)) + 1 by omega]
        rfl
      · rw [if_neg h2, if_neg (by simp; omega), Array.getElem?_setIfInBounds, if_neg h1]
structure SetRow (w w' : World) (b : Nat) (cs' : Array Value) (ty : TypeId) (fr : Nat × Nat) : Prop where
  here : w'.heap[b]? = some (.cells cs' ty fr)
  other : ∀ b', b' ≠ b → w'.heap[b']? = w.heap[b']?
  size : w'.heap.size = w.heap.size
  os : w'.os = w.os
  tape : w'.tape = w.tape
  output : w'.output = w.output
theorem setCells_row (b : Nat) (vs : List Value) : ∀ (o : Nat) (w : World) (cs : Array Value) (ty : TypeId) (fr : Nat × Nat), w.heap[b]? = some (.cells cs ty fr) →
    SetRow w (w.setCells b o vs) b (wrote cs o vs) ty fr := by
  induction vs with
  | nil => intro o w cs ty fr h; exact ⟨h, fun _ _ => rfl, rfl, rfl, rfl, rfl⟩
  | cons v vs ih =>
    intro o w cs ty fr h
    have h1 : (w.setCell ⟨b, o, none⟩ v).heap[b]? = some (.cells (cs.setIfInBounds o v) ty fr) := by
      simp [World.setCell, Array.getElem?_modify, h]
    have := ih (o + 1) _ _ _ _ h1
    refine ⟨this.here, fun b' hb => (this.other b' hb).trans ?_, this.size.trans (by simp [World.setCell]), this.os, this.tape, this.output⟩
    simp only [World.setCell, Array.getElem?_modify]
    rw [if_neg (fun e => hb e.symm)]
section
variable {E : Env} {tab : List Ent} {P : Program} {w : World} {Γ : Ctx} {ts : List AV} {a : Act}
theorem store_run {t : TypeId} {b o : Nat} {c : Value} {cs : Array Value} {ty : TypeId} {fr : Nat × Nat} {i : TypeInfo} (hi : tinfo P t = some i) (hs : c.cells.size = siz P t) (h : w.heap[b]? = some (.cells cs ty fr)) (hu : unfr cs fr)
    (ho : o + c.cells.size ≤ cs.size) (h1 : ∀ v ∈ c.cells.toList, v.oneCell' = true) :
    ∃ w', (Instr.storeAt t (.pointer (some ⟨b, o, none⟩)) c).run P w = .ok () w' ∧ SetRow w w' b (wrote cs o c.cells.toList) ty fr := by
  refine ⟨w.setCells b o c.cells.toList, ?_, setCells_row b _ o w cs ty fr h⟩
  have := run_storeCells_cells (P := P) b o c.cells.toList 0 w (fun j hj => by
      rw [cell_of h]
      have : o + j < cs.size := by simp at hj; omega
      simpa using this) (fun j hj => by
      have : o + j < cs.size := by simp at hj; omega
      simp [World.frozen?, h]
      have := hu (o + j) this
      simpa using this) h1
  simp only [Nat.add_zero] at this
  simp [Instr.storeAt, Instr.sureAddr, storeVar, run_siz hi, hs, this]
/-- One step of a state, whatever it did: what it left alone is said by `Kept`. -/
theorem Sat.step {X : Nat → Prop} {E' : Env} {tab' : List Ent} {w' : World} (s : Sat Γ E ts tab a w) (hX : ∀ v ∈ ts, (∀ i, ¬ X i) ∨ Free X v)
    (hlen : tab.length ≤ tab'.length)
    (hn : ∀ b, E.O b = none → b < w.heap.size → E'.O b = none ∧ w'.heap[b]? = w.heap[b]?)
    (hrow : ∀ i, i < tab.length → ∀ k sz es', ent tab' i = .row k sz es' → E'.L i = E.L i ∧ ∃ es, ent tab i = .row k sz es ∧ es.length = es'.length)
    (hblk : ∀ i, i < tab.length → ∀ k sz es', ent tab' i = .row k sz es' → E.O (E.L i) = some (i, none) → E'.O (E.L i) = some (i, none) ∧
      ∀ cs ty fr, w.heap[E.L i]? = some (.cells cs ty fr) → ∃ cs' ty', w'.heap[E.L i]? = some (.cells cs' ty' fr) ∧ cs'.size = cs.size)
    (hnest : ∀ i, i < tab.length → ¬ X i → ∀ sz es', ent tab' i = .row .nest sz es' → ∀ (j sz' : Nat) (es1 : List AV), es'[j]? = some (.sl sz' es1) →
      ∃ es es2, ent tab i = .row .nest sz es ∧ es[j]? = some (.sl sz' es2) ∧
        ∀ cs ty fr c, w.heap[E.L i]? = some (.cells cs ty fr) → cs[j]? = some c → ∃ cs' ty' fr', w'.heap[E.L i]? = some (.cells cs' ty' fr') ∧ cs'[j]? = some c)
    (hent : ∀ (_ : Pres X E (zone Γ E) tab w E' (zone Γ E') tab' w') i, (ent tab' i = ent tab i ∧ Kept E w E' w' i) ∨ EntOK E' (zone Γ E') tab' w' i (ent tab' i))
    (hown : ∀ b x, E'.O b = some x → b < w'.heap.size)
    (hos : w'.os = w.os) (htape : w'.tape = w.tape) (hout : w'.output = w.output) (hsize : w.heap.size ≤ w'.heap.size) :
    Pres X E (zone Γ E) tab w E' (zone Γ E') tab' w' ∧ Sat Γ E' ts tab' a w' := by
  have p : Pres X E (zone Γ E) tab w E' (zone Γ E') tab' w' :=
    ⟨hlen, fun b hz hb => ⟨⟨(hn b hz.1 hb).1, hz.2⟩, (hn b hz.1 hb).2⟩, hrow, hblk, hnest⟩
  refine ⟨p, s.dfr, s.len, fun i v c h1 h2 => (s.vals i v c h1 h2).pres p (hX v (mem_of_get h1)), fun i => ?_, hown, hos.trans s.os, htape.trans s.tape, hout.trans s.output, Nat.le_trans s.size hsize, fun b hb ho => ?_, fun i hi => ?_⟩
  · rcases hent p i with ⟨h1, h2⟩ | h
    · rw [h1]; exact (s.ents i).pres p h2
    · exact h
  · obtain ⟨h1, h2⟩ := s.frame b hb ho
    obtain ⟨h3, h4⟩ := hn b h1 (Nat.lt_of_lt_of_le hb s.size)
    exact ⟨h3, h4.trans h2⟩
  · obtain ⟨h1, h2⟩ := s.mt i hi
    refine ⟨Nat.lt_of_lt_of_le h1 hlen, fun k sz es he => ?_⟩
    obtain ⟨hL, es2, h3, h4⟩ := hrow i h1 k sz es he
    obtain ⟨h5, ⟨es0, h6, h7⟩, h8⟩ := h2 k sz es2 h3
    refine ⟨hL.trans h5, ⟨es0, h6, h7.trans h4⟩, fun hO => ?_⟩
    obtain ⟨g1, g2⟩ := h8 hO
    obtain ⟨g3, g4⟩ := hblk i h1 k sz es he g1
    rw [hL]
    refine ⟨g3, fun cs ty fr hh => ?_⟩
    obtain ⟨cs1, ty1, g5, g6⟩ := g2 cs ty fr hh
    obtain ⟨cs2, ty2, g7, g8⟩ := g4 cs1 ty1 fr g5
    exact ⟨cs2, ty2, g7, g8.trans g6⟩
/-- A draw changes nothing that is told. -/
theorem Sat.drawn (s : Sat Γ E ts tab a w) (d : Nat) : Sat Γ E ts tab a { w with drawn := d } := by
  have := (s.step (X := fun _ => False) (E' := E) (tab' := tab) (w' := { w with drawn := d }) (fun _ _ => .inl fun _ => id) (Nat.le_refl _) (fun b h _ => ⟨h, rfl⟩) (fun i _ k sz es' he => ⟨rfl, es', he, rfl⟩)
    (fun i _ k sz es' he ho => ⟨ho, fun cs ty fr h => ⟨cs, ty, h, rfl⟩⟩) (fun i _ _ sz es' he j sz' es1 hj => ⟨es', es1, he, hj, fun cs ty fr c h1 h2 => ⟨cs, ty, fr, h1, h2⟩⟩)
    (fun _ i => .inl ⟨rfl, rfl, fun b x h => ⟨h, rfl⟩⟩) s.own rfl rfl rfl (Nat.le_refl _)).2
  exact this
/-- A new row behind the table. `hc`: what its cells are, in the new state. -/
theorem Sat.push (s : Sat Γ E ts tab a w) {k : Kind} {sz : Nat} {es : List AV} {cs : Array Value} {ty : TypeId} (he : elemsOk sz es) (hpl : k = .plain → cellsOk es) (hok : k = .var → ∀ e ∈ es, okVar e = true) (hk : k = .nest → sz = 1) (hsz : es.length * sz ≤ cs.size)
    (hc : ∀ (E' : Env) (p : Pres (fun _ => False) E (zone Γ E) tab w E' (zone Γ E') (tab ++ [.row k sz es]) (w.alloc (.cells cs ty))), E'.O = (fun x => if x = w.heap.size then some (tab.length, none) else E.O x) →
      ∀ (j t : Nat) (e v : AV), es[j]? = some e → (cellsOf e)[t]? = some v → ∃ c, cs[j * sz + t]? = some c ∧ CellOK E' (zone Γ E') (tab ++ [.row k sz es]) (w.alloc (.cells cs ty)) tab.length k j v c) :
    ∃ E', Pres (fun _ => False) E (zone Γ E) tab w E' (zone Γ E') (tab ++ [.row k sz es]) (w.alloc (.cells cs ty)) ∧ Sat Γ E' ts (tab ++ [.row k sz es]) a (w.alloc (.cells cs ty)) ∧ E'.L tab.length = w.heap.size ∧ E'.O w.heap.size = some (tab.length, none) := by
  let E' : Env := ⟨fun x => if x = w.heap.size then some (tab.length, none) else E.O x, fun i => if i = tab.length then w.heap.size else E.L i⟩
  have old : ∀ b, b < w.heap.size → (w.alloc (.cells cs ty)).heap[b]? = w.heap[b]? := fun b hb => Below.heap_alloc w _ b hb
  have new : (w.alloc (.cells cs ty)).heap[w.heap.size]? = some (.cells cs ty (0, 0)) := heap_alloc_new w _
  have hO : ∀ b x, E.O b = some x → E'.O b = some x := fun b x h => by
    have := s.own b x h
    show (if _ then _ else _) = _
    rw [if_neg (by omega)]; exact h
  have hL : ∀ i, i < tab.length → E'.L i = E.L i := fun i hi => by
    show (if _ then _ else _) = _
    rw [if_neg (by omega)]
  have hent : ∀ i, i < tab.length → ent (tab ++ [.row k sz es]) i = ent tab i := fun i hi => by rw [ent_snoc, if_neg (by omega)]
  obtain ⟨p, s'⟩ := s.step (X := fun _ => False) (E' := E') (tab' := tab ++ [.row k sz es]) (w' := w.alloc (.cells cs ty)) (fun _ _ => .inl fun _ => id) (by simp)
    (fun b h hb => ⟨by show (if _ then _ else _) = _; rw [if_neg (by omega)]; exact h, old b hb⟩)
    (fun i hi k2 sz2 es2 h => ⟨hL i hi, es2, by rw [hent i hi] at h; exact h, rfl⟩)
    (fun i hi k2 sz2 es2 h ho => ⟨hO _ _ ho, fun cs ty fr h => ⟨cs, ty, (old _ (s.own _ _ ho)).trans h, rfl⟩⟩)
    (fun i hi _ sz2 es2 h j sz' es1 hj => ⟨es2, es1, by rw [hent i hi] at h; exact h, hj, fun cs ty fr c h1 h2 => ⟨cs, ty, fr, (old _ (by rcases Nat.lt_or_ge (E.L i) w.heap.size with h' | h'; exact h'; rw [Array.getElem?_eq_none h'] at h1; cases h1)).trans h1, h2⟩⟩)
    (fun p i => by
      by_cases hi : i < tab.length
      · exact .inl ⟨hent i hi, hL i hi, fun b x h => ⟨hO b _ h, old b (s.own b _ h)⟩⟩
      · by_cases hi2 : i = tab.length
        · subst hi2
          refine .inr ?_
          rw [ent_snoc, if_pos rfl]
          refine ⟨he, hk, hpl, hok, fun _ => ?_⟩
          have hLn : E'.L tab.length = w.heap.size := by show (if _ then _ else _) = _; rw [if_pos rfl]
          rw [hLn]
          refine ⟨by show (if _ then _ else _) = _; rw [if_pos rfl], cs, ty, (0, 0), new, fun j _ => by simp, hsz, ?_⟩
          exact hc E' p rfl
        · refine .inr ?_
          rw [ent_snoc, if_neg hi2]
          have : ent tab i = .dead := by rw [ent_eq, List.getElem?_eq_none (by omega)]; rfl
          rw [this]; trivial)
    (fun b x h => by
      by_cases hb : b = w.heap.size
      · subst hb; simp
      · have h2 : E.O b = some x := by have h3 : (if b = w.heap.size then some (tab.length, none) else E.O b) = some x := h; rw [if_neg hb] at h3; exact h3
        have := s.own b x h2
        simp; omega)
    rfl rfl rfl (by simp)
  exact ⟨E', p, s', by show (if _ then _ else _) = _; rw [if_pos rfl], by show (if _ then _ else _) = _; rw [if_pos rfl]⟩
/-- A new row behind the table, in a world that was made otherwise. `hc`: what its cells are, in the new state. -/
theorem Sat.pushB (s : Sat Γ E ts tab a w) {k : Kind} {sz : Nat} {es : List AV} {cs : Array Value} {ty : TypeId} {fr : Nat × Nat} {w' : World} (bel : Below w.heap.size w w') (new : w'.heap[w.heap.size]? = some (.cells cs ty fr)) (hun : unfr cs fr) (he : elemsOk sz es) (hpl : k = .plain → cellsOk es) (hok : k = .var → ∀ e ∈ es, okVar e = true) (hk : k = .nest → sz = 1) (hsz : es.length * sz ≤ cs.size)
    (hc : ∀ (E' : Env) (p : Pres (fun _ => False) E (zone Γ E) tab w E' (zone Γ E') (tab ++ [.row k sz es]) w'), E'.O = (fun x => if x = w.heap.size then some (tab.length, none) else E.O x) →
      ∀ (j t : Nat) (e v : AV), es[j]? = some e → (cellsOf e)[t]? = some v → ∃ c, cs[j * sz + t]? = some c ∧ CellOK E' (zone Γ E') (tab ++ [.row k sz es]) w' tab.length k j v c) :
    ∃ E', Pres (fun _ => False) E (zone Γ E) tab w E' (zone Γ E') (tab ++ [.row k sz es]) w' ∧ Sat Γ E' ts (tab ++ [.row k sz es]) a w' ∧ E'.L tab.length = w.heap.size ∧ E'.O w.heap.size = some (tab.length, none) := by
  let E' : Env := ⟨fun x => if x = w.heap.size then some (tab.length, none) else E.O x, fun i => if i = tab.length then w.heap.size else E.L i⟩
  have old : ∀ b, b < w.heap.size → w'.heap[b]? = w.heap[b]? := bel.block
  have hlt : w.heap.size < w'.heap.size := (Array.getElem?_eq_some_iff.1 new).1
  have hO : ∀ b x, E.O b = some x → E'.O b = some x := fun b x h => by
    have := s.own b x h
    show (if _ then _ else _) = _
    rw [if_neg (by omega)]; exact h
  have hL : ∀ i, i < tab.length → E'.L i = E.L i := fun i hi => by
    show (if _ then _ else _) = _
    rw [if_neg (by omega)]
  have hent : ∀ i, i < tab.length → ent (tab ++ [.row k sz es]) i = ent tab i := fun i hi => by rw [ent_snoc, if_neg (by omega)]
  obtain ⟨p, s'⟩ := s.step (X := fun _ => False) (E' := E') (tab' := tab ++ [.row k sz es]) (w' := w') (fun _ _ => .inl fun _ => id) (by simp)
    (fun b h hb => ⟨by show (if _ then _ else _) = _; rw [if_neg (by omega)]; exact h, old b hb⟩)
    (fun i hi k2 sz2 es2 h => ⟨hL i hi, es2, by rw [hent i hi] at h; exact h, rfl⟩)
    (fun i hi k2 sz2 es2 h ho => ⟨hO _ _ ho, fun cs ty fr h => ⟨cs, ty, (old _ (s.own _ _ ho)).trans h, rfl⟩⟩)
    (fun i hi _ sz2 es2 h j sz' es1 hj => ⟨es2, es1, by rw [hent i hi] at h; exact h, hj, fun cs ty fr c h1 h2 => ⟨cs, ty, fr, (old _ (by rcases Nat.lt_or_ge (E.L i) w.heap.size with h' | h'; exact h'; rw [Array.getElem?_eq_none h'] at h1; cases h1)).trans h1, h2⟩⟩)
    (fun p i => by
      by_cases hi : i < tab.length
      · exact .inl ⟨hent i hi, hL i hi, fun b x h => ⟨hO b _ h, old b (s.own b _ h)⟩⟩
      · by_cases hi2 : i = tab.length
        · subst hi2
          refine .inr ?_
          rw [ent_snoc, if_pos rfl]
          refine ⟨he, hk, hpl, hok, fun _ => ?_⟩
          have hLn : E'.L tab.length = w.heap.size := by show (if _ then _ else _) = _; rw [if_pos rfl]
          rw [hLn]
          refine ⟨by show (if _ then _ else _) = _; rw [if_pos rfl], cs, ty, fr, new, hun, hsz, ?_⟩
          exact hc E' p rfl
        · refine .inr ?_
          rw [ent_snoc, if_neg hi2]
          have : ent tab i = .dead := by rw [ent_eq, List.getElem?_eq_none (by omega)]; rfl
          rw [this]; trivial)
    (fun b x h => by
      by_cases hb : b = w.heap.size
      · subst hb; exact hlt
      · have h2 : E.O b = some x := by have h3 : (if b = w.heap.size then some (tab.length, none) else E.O b) = some x := h; rw [if_neg hb] at h3; exact h3
        have := s.own b x h2
        omega)
    bel.os bel.tape bel.output bel.size
  exact ⟨E', p, s', by show (if _ then _ else _) = _; rw [if_pos rfl], by show (if _ then _ else _) = _; rw [if_pos rfl]⟩
/-- Entries are given up, blocks go over to others, perhaps an entry comes behind the table. -/
theorem Sat.remake {E' : Env} {tabD tl : List Ent} {w' : World} (s : Sat Γ E ts tab a w) (D X : Nat → Prop) (hX : ∀ b, X b → ∃ i j, E.O b = some (i, some j))
    (hl : tabD.length = tab.length) (hD : ∀ i, D i → ent tabD i = .dead) (hN : ∀ i, ¬ D i → ent tabD i = ent tab i)
    (hn : ∀ b, E.O b = none → b < w.heap.size → E'.O b = none ∧ w'.heap[b]? = w.heap[b]?)
    (hL : ∀ i, i < tab.length → ¬ D i → E'.L i = E.L i)
    (hO : ∀ b i x, E.O b = some (i, x) → ¬ D i → ¬ X b → E'.O b = some (i, x) ∧ w'.heap[b]? = w.heap[b]?)
    (hnew : ∀ (_ : Pres (fun _ => False) E (zone Γ E) tab w E' (zone Γ E') (tabD ++ tl) w') i, (tab.length ≤ i ∨ (¬ D i ∧ ∃ b x, X b ∧ E.O b = some (i, x))) → EntOK E' (zone Γ E') (tabD ++ tl) w' i (ent (tabD ++ tl) i))
    (hown : ∀ b x, E'.O b = some x → b < w'.heap.size)
    (hos : w'.os = w.os) (htape : w'.tape = w.tape) (hout : w'.output = w.output) (hsize : w.heap.size ≤ w'.heap.size) :
    Pres (fun _ => False) E (zone Γ E) tab w E' (zone Γ E') (tabD ++ tl) w' ∧ Sat Γ E' ts (tabD ++ tl) a w' := by
  have hlow : ∀ i, i < tab.length → ent (tabD ++ tl) i = ent tabD i := fun i hi => by
    rw [ent_eq, ent_eq, List.getElem?_append_left (by omega)]
  have hal : ∀ i, i < tab.length → ∀ k sz es, ent (tabD ++ tl) i = .row k sz es → ¬ D i ∧ ent tab i = .row k sz es := by
    intro i hi k sz es h
    rw [hlow i hi] at h
    by_cases hd : D i
    · rw [hD i hd] at h; cases h
    · rw [hN i hd] at h; exact ⟨hd, h⟩
  refine s.step (fun _ _ => .inl fun _ => id) (by simp; omega) hn (fun i hi k sz es h => ?_) (fun i hi k sz es h ho => ?_) (fun i hi _ sz es h j sz' es1 hj => ?_) (fun p i => ?_) hown hos htape hout hsize
  · obtain ⟨h1, h2⟩ := hal i hi _ _ _ h
    exact ⟨hL i hi h1, es, h2, rfl⟩
  · obtain ⟨h1, h2⟩ := hal i hi _ _ _ h
    have hx : ¬ X (E.L i) := fun hx => by obtain ⟨_, _, h⟩ := hX _ hx; rw [ho] at h; cases h
    obtain ⟨h3, h4⟩ := hO _ _ _ ho h1 hx
    exact ⟨h3, fun cs ty fr h => ⟨cs, ty, h4.trans h, rfl⟩⟩
  · obtain ⟨h1, h2⟩ := hal i hi _ _ _ h
    refine ⟨es, es1, h2, hj, fun cs ty fr c h3 h4 => ⟨cs, ty, fr, ?_, h4⟩⟩
    have := s.ents i
    rw [h2] at this
    obtain ⟨ho, _⟩ := this.2.2.2.2 (ne_nil_of_get hj)
    have hx : ¬ X (E.L i) := fun hx => by obtain ⟨_, _, h⟩ := hX _ hx; rw [ho] at h; cases h
    exact ((hO _ _ _ ho h1 hx).2).trans h3
  · by_cases hi : i < tab.length
    · by_cases hd : D i
      · refine .inr ?_
        rw [hlow i hi, hD i hd]
        trivial
      · by_cases hm : ∃ b x, X b ∧ E.O b = some (i, x)
        · exact .inr (hnew p i (.inr ⟨hd, hm⟩))
        · exact .inl ⟨by rw [hlow i hi, hN i hd], hL i hi hd, fun b x h => hO b i x h hd fun hx => hm ⟨b, x, hx, h⟩⟩
    · exact .inr (hnew p i (.inl (by omega)))
/-- An entry is given up. -/
theorem Sat.dead (s : Sat Γ E ts tab a w) (i : Nat) : Pres (fun _ => False) E (zone Γ E) tab w E (zone Γ E) (tab.set i .dead) w ∧ Sat Γ E ts (tab.set i .dead) a w := by
  by_cases hi : i < tab.length
  · have := s.remake (E' := E) (tabD := tab.set i .dead) (tl := []) (w' := w) (fun x => x = i) (fun _ => False) (fun _ h => h.elim) (by simp) (fun x hx => by subst hx; rw [ent_set hi, if_pos rfl]) (fun x hx => by rw [ent_set hi, if_neg hx])
      (fun b h _ => ⟨h, rfl⟩) (fun _ _ _ => rfl) (fun b i x h _ _ => ⟨h, rfl⟩) (fun _ j hj => by
        have hj : tab.length ≤ j := hj.elim id fun ⟨_, _, _, h, _⟩ => h.elim
        rw [List.append_nil, ent_eq, List.getElem?_eq_none (by simp; omega)]; trivial) s.own rfl rfl rfl (Nat.le_refl _)
    simpa using this
  · have : tab.set i .dead = tab := List.set_eq_of_length_le (by omega)
    rw [this]
    exact ⟨⟨Nat.le_refl _, fun b h hb => ⟨h, rfl⟩, fun i _ k sz es' h => ⟨rfl, es', h, rfl⟩, fun i _ k sz es' _ h => ⟨h, fun cs ty fr h => ⟨cs, ty, h, rfl⟩⟩,
      fun i _ _ sz es' h j sz' es1 hj => ⟨es', es1, h, hj, fun cs ty fr c h1 h2 => ⟨cs, ty, fr, h1, h2⟩⟩⟩, s⟩
/-- A plain or nested row becomes memory that is written no more. -/
theorem Sat.freeze (s : Sat Γ E ts tab a w) (hm : ∀ b, Γ.O0 b = none) {i : Nat} {k : Kind} {sz : Nat} {es : List AV} (he : ent tab i = .row k sz es) (hk : k ≠ .var) (hun : k = .nest → cellsOk es) :
    ∃ E', Pres (fun _ => False) E (zone Γ E) tab w E' (zone Γ E') (tab.set i .dead) w ∧ Sat Γ E' ts (tab.set i .dead) a w ∧ ∀ c, V E (zone Γ E) tab w (.loc i) c → Rep (zone Γ E') w (.sl sz es) c := by
  have hi := ent_lt he
  let E' : Env := ⟨fun b => match E.O b with | some (i', x) => if i' = i then none else some (i', x) | none => none, E.L⟩
  have hO : ∀ b, E.O b = none → E'.O b = none := fun b h => by
    show (match E.O b with | some (i', x) => if i' = i then none else some (i', x) | none => none) = _; rw [h]
  have hOi : ∀ b x, E.O b = some (i, x) → E'.O b = none := fun b x h => by
    show (match E.O b with | some (i', x) => if i' = i then none else some (i', x) | none => none) = _; rw [h]; simp
  have hOn : ∀ b i' x, E.O b = some (i', x) → i' ≠ i → E'.O b = some (i', x) := fun b i' x h hn => by
    show (match E.O b with | some (i', x) => if i' = i then none else some (i', x) | none => none) = _; rw [h]; simp [hn]
  have hz : ∀ b x, E.O b = some (i, x) → zone Γ E' b := fun b x h => ⟨hOi b x h, fun hb => by
    have := (s.frame b hb (hm b)).1
    rw [h] at this; cases this⟩
  obtain ⟨p, s'⟩ := s.remake (E' := E') (tabD := tab.set i .dead) (tl := []) (w' := w) (fun x => x = i) (fun _ => False) (fun _ h => h.elim) (by simp) (fun x hx => by subst hx; rw [ent_set hi, if_pos rfl]) (fun x hx => by rw [ent_set hi, if_neg hx])
      (fun b h _ => ⟨hO b h, rfl⟩) (fun _ _ _ => rfl) (fun b i' x h hn _ => ⟨hOn b i' x h hn, rfl⟩) (fun _ j hj => by
        have hj : tab.length ≤ j := hj.elim id fun ⟨_, _, _, h, _⟩ => h.elim
        rw [List.append_nil, ent_eq, List.getElem?_eq_none (by simp; omega)]; trivial) (fun b x h => by
        have h2 : (match E.O b with | some (i', x) => if i' = i then none else some (i', x) | none => none) = some x := h
        cases hb : E.O b with
        | none => rw [hb] at h2; cases h2
        | some y => exact s.own b y hb) rfl rfl rfl (Nat.le_refl _)
  rw [List.append_nil] at p s'
  refine ⟨E', p, s', fun c hc => ?_⟩
  obtain ⟨a', cap, rfl, hle, hx⟩ := hc.loc_inv.2 _ _ _ he
  have hent := s.ents i
  rw [he] at hent
  obtain ⟨h1, h2, hpl, _, h3⟩ := hent
  by_cases hne : es = []
  · subst hne; exact .sl0 _ _ _
  obtain ⟨ho, cs, ty, fr, hh, hu, hs, hcell⟩ := h3 hne
  have ha : a' = some ⟨E.L i, 0, none⟩ := by
    rcases hx with hx | ⟨hx, _⟩
    · have : es.length = 0 := by omega
      exact (hne (List.eq_nil_of_length_eq_zero this)).elim
    · simpa using hx
  subst ha
  have own : ∀ j v c, CellOK E (zone Γ E) tab w i k j v c → Rep (zone Γ E') w v c := by
    intro j v c hc
    cases k with
    | var => exact (hk rfl).elim
    | plain => exact Rep.mono p.imm hc
    | nest =>
      have hc : OwnCell E (zone Γ E) w i j v c := hc
      cases v with
      | sl sz' es' =>
        obtain ⟨b, ⟨a2, cap2, rfl, hle2, hx2⟩, heo, hko, hr⟩ := hc
        by_cases hne2 : es' = []
        · subst hne2; exact .sl0 _ _ _
        obtain ⟨ho2, cs2, ty2, fr2, hh2, hu2, hs2, hcell2⟩ := hr hne2
        have ha2 : a2 = some ⟨b, 0, none⟩ := by
          rcases hx2 with hx | ⟨hx, _⟩
          · have : es'.length = 0 := by omega
            exact (hne2 (List.eq_nil_of_length_eq_zero this)).elim
          · simpa using hx
        subst ha2
        refine .sl sz' es' b 0 cap2 (fun x => (cs2[x]?).getD undef) hle2 heo hko (fun j t e v _ _ => hz b _ ho2) (fun j t e v e1 e2 => ?_) (fun j t e v e1 e2 => ?_)
        · obtain ⟨c, e3, _⟩ := hcell2 j t e v e1 e2
          rw [cell_of hh2, Nat.zero_add, e3]; rfl
        · obtain ⟨c, e3, e4⟩ := hcell2 j t e v e1 e2
          rw [e3]
          exact e4.mono p.imm
      | nilsl => have hc : c = .slice none 0 0 := hc; subst hc; exact .nilsl
      | emp => obtain ⟨a2, rfl⟩ : ∃ a2, c = .slice a2 0 0 := hc; exact .emp _
      | unk => exact .unk _
      | _ => exact hc.elim
  have hcell' : cellsOk es := by
    cases k with
    | var => exact (hk rfl).elim
    | plain => exact hpl rfl
    | nest => exact hun rfl
  refine .sl sz es (E.L i) 0 cap (fun x => (cs[x]?).getD undef) hle h1 hcell' (fun j t e v _ _ => hz _ _ ho) (fun j t e v e1 e2 => ?_) (fun j t e v e1 e2 => ?_)
  · obtain ⟨c, e3, _⟩ := hcell j t e v e1 e2
    rw [cell_of hh, Nat.zero_add, e3]; rfl
  · obtain ⟨c, e3, e4⟩ := hcell j t e v e1 e2
    rw [e3]
    exact own j v c e4
/-- A row is written in its place. -/
theorem Sat.write (s : Sat Γ E ts tab a w) {i : Nat} {k : Kind} {sz : Nat} {es es' : List AV} {cs cs' : Array Value} {ty : TypeId} {fr : Nat × Nat} {w' : World} (he : ent tab i = .row k sz es) (hk : k ≠ .nest)
    (hlen : es'.length = es.length) (heo : elemsOk sz es') (hpl : k = .plain → cellsOk es') (hok : k = .var → ∀ e ∈ es', okVar e = true) (ho : E.O (E.L i) = some (i, none)) (hh : w.heap[E.L i]? = some (.cells cs ty fr)) (hu : unfr cs fr) (hw : SetRow w w' (E.L i) cs' ty fr) (hsz : cs'.size = cs.size)
    (hs : es.length * sz ≤ cs.size)
    (hc : ∀ (j t : Nat) (e v : AV), es'[j]? = some e → (cellsOf e)[t]? = some v → ∃ c, cs'[j * sz + t]? = some c ∧ CellOK E (zone Γ E) tab w i k j v c) :
    Sat Γ E ts (tab.set i (.row k sz es')) a w' := by
  have hi := ent_lt he
  have hset : ∀ j, ent (tab.set i (.row k sz es')) j = if j = i then .row k sz es' else ent tab j := fun j => ent_set hi
  have hne : ∀ b x, E.O b = some x → x ≠ (i, none) → b ≠ E.L i := fun b x h hx e => by subst e; rw [ho] at h; exact hx (by cases h; rfl)
  refine (s.step (X := fun _ => False) (E' := E) (tab' := tab.set i (.row k sz es')) (w' := w') (fun _ _ => .inl fun _ => id) (by simp)
    (fun b h _ => ⟨h, hw.other b fun e => by subst e; rw [ho] at h; cases h⟩) (fun j hj k2 sz2 es2 h => ?_) (fun j hj k2 sz2 es2 h ho2 => ⟨ho2, fun cs2 ty2 fr2 h2 => ?_⟩) (fun j hj _ sz2 es2 h j' sz' es1 hj' => ?_) (fun p j => ?_) (fun b x h => by rw [hw.size]; exact s.own b x h) hw.os hw.tape hw.output (by rw [hw.size]; exact Nat.le_refl _)).2
  · rw [hset] at h
    split at h
    · rename_i e; subst e; cases h; exact ⟨rfl, es, he, hlen.symm⟩
    · exact ⟨rfl, es2, h, rfl⟩
  · by_cases e : E.L j = E.L i
    · rw [e] at h2 ⊢
      rw [hh] at h2; cases h2
      exact ⟨cs', ty, hw.here, hsz⟩
    · exact ⟨cs2, ty2, (hw.other _ e).trans h2, rfl⟩
  · rw [hset] at h
    split at h
    · cases h; exact (hk rfl).elim
    · rename_i e
      refine ⟨es2, es1, h, hj', fun cs2 ty2 fr2 c h1 h2 => ⟨cs2, ty2, fr2, ?_, h2⟩⟩
      have := s.ents j
      rw [h] at this
      obtain ⟨ho2, _⟩ := this.2.2.2.2 (ne_nil_of_get hj')
      exact (hw.other _ (hne _ _ ho2 (by intro e2; cases e2; exact e rfl))).trans h1
  · by_cases e : j = i
    · subst e
      refine .inr ?_
      rw [hset, if_pos rfl]
      refine ⟨heo, fun e => (hk e).elim, hpl, hok, fun _ => ⟨ho, cs', ty, fr, hw.here, fun j hj => hu j (by omega), by rw [hlen]; omega, fun j' t e v e1 e2 => ?_⟩⟩
      obtain ⟨c, e3, e4⟩ := hc j' t e v e1 e2
      refine ⟨c, e3, ?_⟩
      cases k with
      | nest => exact (hk rfl).elim
      | plain => exact Rep.mono p.imm e4
      | var => exact V.pres p e4 (.inl fun _ => id)
    · refine .inl ⟨by rw [hset, if_neg e], rfl, fun b x h => ⟨h, hw.other b (hne b _ h (by intro e2; cases e2; exact e rfl))⟩⟩
end
end Sx

/- Steps of the state at nested rows, and at rows that are appended to. -/
namespace Sx
open Go Go.RowKit
section
variable {E : Env} {tab : List Ent} {P : Program} {w : World} {Γ : Ctx} {ts : List AV} {a : Act}
theorem OwnCell.one {Z : Nat → Prop} {i j : Nat} {v : AV} {c : Value} (h : OwnCell E Z w i j v c) : c.oneCell' = true := by
  cases v with
  | sl sz es => obtain ⟨b, ⟨a, cap, rfl, _⟩, _⟩ := h; rfl
  | nilsl => have h : c = .slice none 0 0 := h; subst h; rfl
  | emp => obtain ⟨a, rfl⟩ : ∃ a, c = .slice a 0 0 := h; rfl
  | unk => exact h
  | _ => exact h.elim
theorem elemsOk_set {sz : Nat} {es : List AV} {j : Nat} {e : AV} (h : elemsOk sz es) (he : (cellsOf e).length = sz) : elemsOk sz (es.set j e) := fun x hx => by
  rcases List.mem_or_eq_of_mem_set hx with hx | hx
  · exact h x hx
  · subst hx; exact he
/-- A nested row's element is taken away. -/
theorem Sat.take (s : Sat Γ E ts tab a w) {i j : Nat} {sz : Nat} {es : List AV} (he : ent tab i = .row .nest sz es) :
    Pres (fun _ => False) E (zone Γ E) tab w E (zone Γ E) (tab.set i (.row .nest sz (es.set j .unk))) w ∧ Sat Γ E ts (tab.set i (.row .nest sz (es.set j .unk))) a w := by
  have hi := ent_lt he
  have hset : ∀ x, ent (tab.set i (.row .nest sz (es.set j .unk))) x = if x = i then .row .nest sz (es.set j .unk) else ent tab x := fun x => ent_set hi
  refine s.step (X := fun _ => False) (E' := E) (w' := w) (fun _ _ => .inl fun _ => id) (by simp) (fun b h _ => ⟨h, rfl⟩) (fun x hx k2 sz2 es2 h => ?_) (fun x hx k2 sz2 es2 h ho => ⟨ho, fun cs ty fr h => ⟨cs, ty, h, rfl⟩⟩) (fun x hx _ sz2 es2 h j' sz' es1 hj => ?_) (fun p x => ?_) s.own rfl rfl rfl (Nat.le_refl _)
  · rw [hset] at h
    split at h
    · rename_i e; subst e; cases h; exact ⟨rfl, es, he, by simp⟩
    · exact ⟨rfl, es2, h, rfl⟩
  · rw [hset] at h
    split at h
    · rename_i e; subst e; cases h
      rw [List.getElem?_set] at hj
      split at hj
      · split at hj <;> cases hj
      · exact ⟨es, es1, he, hj, fun cs ty fr c h1 h2 => ⟨cs, ty, fr, h1, h2⟩⟩
    · exact ⟨es2, es1, h, hj, fun cs ty fr c h1 h2 => ⟨cs, ty, fr, h1, h2⟩⟩
  · by_cases e : x = i
    · subst e
      refine .inr ?_
      rw [hset, if_pos rfl]
      have := s.ents x
      rw [he] at this
      obtain ⟨h1, h2, _, _, h3⟩ := this
      refine ⟨elemsOk_set h1 (h2 rfl).symm, h2, nofun, nofun, fun hne => ?_⟩
      have hne' : es ≠ [] := by intro e; subst e; simp at hne
      obtain ⟨ho, cs, ty, fr, hh, hu, hs, hc⟩ := h3 hne'
      refine ⟨ho, cs, ty, fr, hh, hu, by simpa using hs, fun j' t e' v e1 e2 => ?_⟩
      rw [List.getElem?_set] at e1
      split at e1
      · rename_i ejj
        subst ejj
        split at e1
        · rename_i hlt
          cases e1
          cases t with
          | zero =>
            simp [cellsOf] at e2
            subst e2
            have hl1 : 0 < (cellsOf es[j]).length := by rw [h1 _ (List.getElem_mem hlt), h2 rfl]; omega
            obtain ⟨c, e3, e4⟩ := hc j 0 es[j] (cellsOf es[j])[0] (by simp [hlt]) (List.getElem?_eq_getElem hl1)
            refine ⟨c, e3, ?_⟩
            exact e4.one
          | succ t => simp [cellsOf] at e2
        · cases e1
      · obtain ⟨c, e3, e4⟩ := hc j' t e' v e1 e2
        exact ⟨c, e3, OwnCell.keep (E' := E) (w' := w) e4 p.imm fun b hb => ⟨hb, rfl⟩⟩
    · exact .inl ⟨by rw [hset, if_neg e], rfl, fun b x h => ⟨h, rfl⟩⟩
/-- An own slice goes into a nested row; or an empty one. `k0`: the entry that is given up for it. -/
theorem Sat.put (s : Sat Γ E ts tab a w) {i j : Nat} {es : List AV} {cs : Array Value} {ty : TypeId} {fr : Nat × Nat} {w' : World} {v : AV} {c : Value} {k0 : Option Nat}
    (hfree : ∀ x ∈ ts, Free (· = i) x) (he : ent tab i = .row .nest 1 es) (hj : j < es.length) (ho : E.O (E.L i) = some (i, none)) (hh : w.heap[E.L i]? = some (.cells cs ty fr)) (hu : unfr cs fr) (hs : es.length * 1 ≤ cs.size)
    (hw : SetRow w w' (E.L i) (cs.setIfInBounds j c) ty fr)
    (hv : match k0 with
      | some k0 => ∃ sz0 es0, ent tab k0 = .row .plain sz0 es0 ∧ v = .sl sz0 es0 ∧ V E (zone Γ E) tab w (.loc k0) c
      | none => (v = .nilsl ∧ c = .slice none 0 0) ∨ (v = .emp ∧ ∃ a, c = .slice a 0 0)) :
    ∃ E', Sat Γ E' ts ((match k0 with | some k0 => tab.set k0 .dead | none => tab).set i (.row .nest 1 (es.set j v))) a w' := by
  have hi := ent_lt he
  obtain ⟨tabk, htk⟩ : ∃ t, t = (match k0 with | some k0 => tab.set k0 .dead | none => tab) := ⟨_, rfl⟩
  rw [← htk]
  have hlk : tabk.length = tab.length := by subst htk; cases k0 <;> simp
  have hki : ∀ x, k0 = some x → x ≠ i ∧ x < tab.length := fun x hx => by
    subst hx
    obtain ⟨sz0, es0, h1, _⟩ := hv
    exact ⟨fun e => by { subst e; rw [he] at h1; cases h1 }, ent_lt h1⟩
  have hek : ∀ x, ent tabk x = if k0 = some x then .dead else ent tab x := fun x => by
    subst htk
    cases k0 with
    | none => simp
    | some k => simp only [ent_set (hki k rfl).2, Option.some.injEq]; by_cases h : x = k <;> simp [h, eq_comm]
  have hset : ∀ x, ent (tabk.set i (.row .nest 1 (es.set j v))) x = if x = i then .row .nest 1 (es.set j v) else ent tabk x := fun x => ent_set (by omega)
  let E' : Env := ⟨fun b => match E.O b with | some (x, none) => if k0 = some x then some (i, some j) else some (x, none) | o => o, E.L⟩
  have hE : ∀ b, E'.O b = (match E.O b with | some (x, none) => if k0 = some x then some (i, some j) else some (x, none) | o => o) := fun _ => rfl
  have hOn : ∀ b, E.O b = none → E'.O b = none := fun b h => by rw [hE, h]
  have hOk : ∀ b x y, E.O b = some (x, y) → k0 ≠ some x → E'.O b = some (x, y) := fun b x y h hn => by
    rw [hE, h]; cases y <;> simp [hn]
  have hne : ∀ b x, E.O b = some x → x ≠ (i, none) → b ≠ E.L i := fun b x h hx e => by subst e; rw [ho] at h; exact hx (by cases h; rfl)
  have hki' : k0 ≠ some i := fun e => (hki i e).1 rfl
  have hal : ∀ x, x ≠ i → ∀ k sz es2, ent (tabk.set i (.row .nest 1 (es.set j v))) x = .row k sz es2 → k0 ≠ some x ∧ ent tab x = .row k sz es2 := fun x hx k sz es2 h => by
    rw [hset, if_neg hx, hek] at h
    split at h
    · cases h
    · rename_i hn; exact ⟨hn, h⟩
  refine ⟨E', (s.step (X := (· = i)) (E' := E') (tab' := tabk.set i (.row .nest 1 (es.set j v))) (w' := w') (fun x hx => .inr (hfree x hx)) (by simp; omega)
    (fun b h _ => ⟨hOn b h, hw.other b fun e => by subst e; rw [ho] at h; cases h⟩) (fun x hx k2 sz2 es2 h => ?_) (fun x hx k2 sz2 es2 h ho2 => ?_) (fun x hx hxi sz2 es2 h j' sz' es1 hj' => ?_) (fun p x => ?_) (fun b x h => ?_) hw.os hw.tape hw.output (by rw [hw.size]; exact Nat.le_refl _)).2⟩
  · by_cases e : x = i
    · subst e; rw [hset, if_pos rfl] at h; cases h; exact ⟨rfl, es, he, by simp⟩
    · exact ⟨rfl, es2, (hal x e _ _ _ h).2, rfl⟩
  · by_cases e : x = i
    · subst e
      refine ⟨hOk _ _ _ ho2 hki', fun cs2 ty2 fr2 h2 => ?_⟩
      rw [hh] at h2; cases h2
      exact ⟨_, ty, hw.here, by simp⟩
    · obtain ⟨h1, h2⟩ := hal x e _ _ _ h
      refine ⟨hOk _ _ _ ho2 h1, fun cs2 ty2 fr2 h3 => ⟨cs2, ty2, (hw.other _ (hne _ _ ho2 (by intro e2; cases e2; exact e rfl))).trans h3, rfl⟩⟩
  · obtain ⟨h1, h2⟩ := hal x hxi _ _ _ h
    refine ⟨es2, es1, h2, hj', fun cs2 ty2 fr2 c2 h3 h4 => ⟨cs2, ty2, fr2, ?_, h4⟩⟩
    have := s.ents x
    rw [h2] at this
    obtain ⟨ho2, _⟩ := this.2.2.2.2 (ne_nil_of_get hj')
    exact (hw.other _ (hne _ _ ho2 (by intro e2; cases e2; exact hxi rfl))).trans h3
  · by_cases e : x = i
    · subst e
      refine .inr ?_
      rw [hset, if_pos rfl]
      have hent := s.ents x
      rw [he] at hent
      obtain ⟨h1, h2, _, _, h3⟩ := hent
      have hcv : (cellsOf v).length = 1 := by
        cases k0 with
        | some k0 => obtain ⟨sz0, es0, _, rfl, _⟩ := hv; rfl
        | none => rcases hv with ⟨rfl, _⟩ | ⟨rfl, _⟩ <;> rfl
      refine ⟨elemsOk_set h1 hcv, fun _ => rfl, nofun, nofun, fun _ => ?_⟩
      obtain ⟨_, cs2, ty2, fr2, hh2, _, _, hc⟩ := h3 (by intro e; subst e; simp at hj)
      rw [hh] at hh2; cases hh2
      refine ⟨hOk _ _ _ ho hki', cs.setIfInBounds j c, ty, fr, hw.here, fun q hq => hu q (by simpa using hq), by simpa using hs, fun j' t e' v' e1 e2 => ?_⟩
      rw [List.getElem?_set] at e1
      split at e1
      · rename_i ejj
        subst ejj
        cases (show some v = some e' by simpa [hj] using e1)
        have ht : t = 0 := by have := (List.getElem?_eq_some_iff.1 e2).1; omega
        subst ht
        have hjc : j < cs.size := by omega
        refine ⟨c, by simp [hjc], ?_⟩
        cases k0 with
        | none =>
          rcases hv with ⟨rfl, rfl⟩ | ⟨rfl, a2, rfl⟩
          · cases e2; exact rfl
          · cases e2; exact ⟨a2, rfl⟩
        | some k0 =>
          obtain ⟨sz0, es0, hk0, rfl, hv0⟩ := hv
          cases e2
          have hsl := hv0.loc_inv.2 _ _ _ hk0
          have hent0 := s.ents k0
          rw [hk0] at hent0
          obtain ⟨q1, _, q2, _, q3⟩ := hent0
          have hO0 : ∀ b, E.O b = some (k0, none) → E'.O b = some (x, some j) := fun b h => by rw [hE, h]; simp
          have hb0 : ∀ b, E.O b = some (k0, none) → w'.heap[b]? = w.heap[b]? := fun b h => hw.other b (hne b _ h (by intro e2; cases e2; exact hki' rfl))
          refine ⟨E.L k0, ?_, q1, q2 rfl, fun hne0 => ?_⟩
          · obtain ⟨a2, cap2, e3, e4, e5⟩ := hsl
            refine ⟨a2, cap2, e3, e4, e5.imp id fun ⟨r1, r2, cs3, ty3, fr3, r3, r4, r5⟩ => ⟨r1, hO0 _ r2, cs3, ty3, fr3, (hb0 _ r2).trans r3, r4, r5⟩⟩
          · obtain ⟨ho0, cs3, ty3, fr3, r3, r4, r5, r6⟩ := q3 hne0
            exact ⟨hO0 _ ho0, cs3, ty3, fr3, (hb0 _ ho0).trans r3, r4, r5, fun j1 t1 e1 v1 g1 g2 => let ⟨c1, g3, g4⟩ := r6 j1 t1 e1 v1 g1 g2; ⟨c1, g3, Rep.mono p.imm g4⟩⟩
      · rename_i ejj
        obtain ⟨c', e3, e4⟩ := hc j' t e' v' e1 e2
        have ht : t = 0 := by
          have : (cellsOf e').length = 1 := by rw [h1 _ (mem_of_get e1)]
          have := (List.getElem?_eq_some_iff.1 e2).1; omega
        subst ht
        refine ⟨c', ?_, OwnCell.keep (E' := E') (w' := w') e4 p.imm fun b hb => ⟨hOk _ _ _ hb hki', hw.other b (hne b _ hb (by intro e2; cases e2))⟩⟩
        rw [Array.getElem?_setIfInBounds, if_neg (by omega)]
        exact e3
    · by_cases hk : k0 = some x
      · refine .inr ?_
        rw [hset, if_neg e, hek, if_pos hk]
        trivial
      · refine .inl ⟨by rw [hset, if_neg e, hek, if_neg hk], rfl, fun b y h => ⟨hOk _ _ _ h hk, hw.other b (hne b _ h (by intro e2; cases e2; exact e rfl))⟩⟩
  · rw [hw.size]
    rw [hE] at h
    cases hb : E.O b with
    | none => rw [hb] at h; cases h
    | some y => exact s.own b y hb
/-- An own row inside a nested one is written. -/
theorem Sat.writeSub (s : Sat Γ E ts tab a w) {i j b : Nat} {es es1 es2 : List AV} {sz sz1 : Nat} {cs cs' : Array Value} {ty : TypeId} {fr : Nat × Nat} {w' : World}
    (he : ent tab i = .row .nest sz es) (hj : es[j]? = some (.sl sz1 es1)) (hlen : es2.length = es1.length) (heo : elemsOk sz1 es2) (hko : cellsOk es2) (ho : E.O b = some (i, some j)) (hh : w.heap[b]? = some (.cells cs ty fr)) (hu : unfr cs fr) (hw : SetRow w w' b cs' ty fr) (hsz : cs'.size = cs.size) (hs : es1.length * sz1 ≤ cs.size)
    (hb : ∀ cs2 ty2 fr2 c b', w.heap[E.L i]? = some (.cells cs2 ty2 fr2) → cs2[j]? = some c → SlOf E w (i, some j) b' sz1 0 es1.length c → es1 ≠ [] → b' = b)
    (hc : ∀ (j t : Nat) (e v : AV), es2[j]? = some e → (cellsOf e)[t]? = some v → ∃ c, cs'[j * sz1 + t]? = some c ∧ Rep (zone Γ E) w v c) :
    Sat Γ E ts (tab.set i (.row .nest sz (es.set j (.sl sz1 es2)))) a w' := by
  have hi := ent_lt he
  have hjl := (List.getElem?_eq_some_iff.1 hj).1
  have hset : ∀ x, ent (tab.set i (.row .nest sz (es.set j (.sl sz1 es2)))) x = if x = i then .row .nest sz (es.set j (.sl sz1 es2)) else ent tab x := fun x => ent_set hi
  have hne : ∀ b2 x, E.O b2 = some x → x ≠ (i, some j) → b2 ≠ b := fun b2 x h hx e => by subst e; rw [ho] at h; exact hx (by cases h; rfl)
  have hent := s.ents i
  rw [he] at hent
  obtain ⟨h1, h2, _, _, h3⟩ := hent
  obtain ⟨hoi, csi, tyi, fri, hhi, hui, hsi, hci⟩ := h3 (ne_nil_of_get hj)
  have hbi : E.L i ≠ b := hne _ _ hoi (by intro e; cases e)
  refine (s.step (X := fun _ => False) (E' := E) (w' := w') (fun _ _ => .inl fun _ => id) (by simp) (fun b2 h _ => ⟨h, hw.other b2 fun e => by subst e; rw [ho] at h; cases h⟩) (fun x hx k2 sz2 es3 h => ?_)
    (fun x hx k2 sz2 es3 h ho2 => ⟨ho2, fun cs2 ty2 fr2 h4 => ⟨cs2, ty2, (hw.other _ (hne _ _ ho2 (by intro e; cases e))).trans h4, rfl⟩⟩) (fun x hx _ sz2 es3 h j' sz' es4 hj' => ?_) (fun p x => ?_) (fun b2 x h => by rw [hw.size]; exact s.own b2 x h) hw.os hw.tape hw.output (by rw [hw.size]; exact Nat.le_refl _)).2
  · rw [hset] at h
    split at h
    · rename_i e; subst e; cases h; exact ⟨rfl, es, he, by simp⟩
    · exact ⟨rfl, es3, h, rfl⟩
  · rw [hset] at h
    split at h
    · rename_i e; subst e; cases h
      have hcell : ∀ cs2 ty2 fr2 c, w.heap[E.L x]? = some (.cells cs2 ty2 fr2) → cs2[j']? = some c → ∃ cs' ty' fr', w'.heap[E.L x]? = some (.cells cs' ty' fr') ∧ cs'[j']? = some c := fun cs2 ty2 fr2 c g1 g2 => ⟨cs2, ty2, fr2, (hw.other _ hbi).trans g1, g2⟩
      rw [List.getElem?_set] at hj'
      split at hj'
      · rename_i ejj; subst ejj
        cases (show some (AV.sl sz1 es2) = some (AV.sl sz' es4) by simpa [hjl] using hj')
        exact ⟨es, es1, he, hj, hcell⟩
      · exact ⟨es, es4, he, hj', hcell⟩
    · refine ⟨es3, es4, h, hj', fun cs2 ty2 fr2 c g1 g2 => ⟨cs2, ty2, fr2, ?_, g2⟩⟩
      have := s.ents x
      rw [h] at this
      obtain ⟨ho2, _⟩ := this.2.2.2.2 (ne_nil_of_get hj')
      exact (hw.other _ (hne _ _ ho2 (by intro e; cases e))).trans g1
  · by_cases e : x = i
    · subst e
      refine .inr ?_
      rw [hset, if_pos rfl]
      refine ⟨elemsOk_set h1 (by rw [h2 rfl]; rfl), h2, nofun, nofun, fun _ => ⟨hoi, csi, tyi, fri, (hw.other _ hbi).trans hhi, hui, by simpa using hsi, fun j' t e' v' e1 e2 => ?_⟩⟩
      rw [List.getElem?_set] at e1
      split at e1
      · rename_i ejj; subst ejj
        cases (show some (AV.sl sz1 es2) = some e' by simpa [hjl] using e1)
        have ht : t = 0 := by have := (List.getElem?_eq_some_iff.1 e2).1; simp [cellsOf] at this; omega
        subst ht
        cases e2
        obtain ⟨c, e3, e4⟩ := hci j 0 _ _ hj rfl
        refine ⟨c, e3, ?_⟩
        obtain ⟨b2, g1, g2, _, g3⟩ := e4
        by_cases hn1 : es1 = []
        · have hn2 : es2 = [] := by subst hn1; exact List.eq_nil_of_length_eq_zero (by simpa using hlen)
          refine ⟨b2, ?_, heo, hko, fun hn => (hn hn2).elim⟩
          rw [hlen]
          obtain ⟨a2, cap2, r1, r2, r3⟩ := g1
          refine ⟨a2, cap2, r1, r2, r3.imp id fun ⟨q1, q2, cs2, ty2, fr2, q3, q4, q5⟩ => ⟨q1, q2, ?_⟩⟩
          by_cases eb : b2 = b
          · subst eb
            rw [hh] at q3; cases q3
            exact ⟨cs', ty, fr, hw.here, fun q hq => hu q (by omega), by omega⟩
          · exact ⟨cs2, ty2, fr2, (hw.other _ eb).trans q3, q4, q5⟩
        · have eb := hb _ _ _ _ b2 hhi (by rw [h2 rfl] at e3; simpa using e3) g1 hn1
          subst eb
          refine ⟨b2, ?_, heo, hko, fun _ => ⟨ho, cs', ty, fr, hw.here, fun q hq => hu q (by omega), by rw [hlen]; omega, fun j1 t1 e1 v1 g4 g5 => let ⟨c1, g6, g7⟩ := hc j1 t1 e1 v1 g4 g5; ⟨c1, g6, Rep.mono p.imm g7⟩⟩⟩
          rw [hlen]
          exact g1.keep fun ho2 => ⟨ho2, fun cs2 ty2 fr2 q3 => by rw [hh] at q3; cases q3; exact ⟨cs', ty, hw.here, hsz⟩⟩
      · rename_i ejj
        obtain ⟨c, e3, e4⟩ := hci j' t e' v' e1 e2
        refine ⟨c, e3, ?_⟩
        exact OwnCell.keep (E' := E) (w' := w') e4 p.imm fun b2 hb2 => ⟨hb2, hw.other b2 (hne _ _ hb2 (by intro e; cases e; exact ejj rfl))⟩
    · exact .inl ⟨by rw [hset, if_neg e], rfl, fun b2 x h => ⟨h, hw.other b2 (hne _ _ h (by intro e2; cases e2; exact e rfl))⟩⟩
end
end Sx

/- Append. -/
namespace Sx
open Go Go.RowKit
section
variable {P : Program} {w : World}
theorem zer_sound {t : TypeId} {k : AV → Prop} (h : zer P t k) : ∃ i z, tinfo P t = some i ∧ i.zero = some z ∧ k (ofVal z) := by
  unfold zer at h
  split at h
  · rename_i i hi
    split at h
    · rename_i z hz
      exact ⟨i, z, hi, hz, h⟩
    · exact h.elim
  · exact h.elim
theorem ofVal_cells (z : Value) : (cellsOf (ofVal z)).length = z.cells.size := by
  unfold ofVal
  split
  · simp [cellsOf, Value.cells]
  · rename_i hn
    have h1 : z.cells = #[z] := by
      unfold Value.cells
      split
      · exact (hn _ rfl).elim
      · rfl
    rw [h1]
    unfold ofVal1
    split <;> rfl
/-- What append needs to know of the types. -/
structure AppTy (P : Program) (t t2 elem : TypeId) (sz : Nat) : Prop where
  hu : und P t = some (.slice elem)
  hx : ∃ d, und P t2 = some d ∧ ∀ k, d ≠ .int k
  hsz : siz P elem = sz
  hpos : 0 < sz
  hb : byt P elem ≤ 64
  hz : ∃ i z, tinfo P elem = some i ∧ i.zero = some z ∧ z.cells.size = sz
theorem append_room {t t2 ty elem : TypeId} {sz : Nat} (T : AppTy P t t2 elem sz) {a : Option Addr} {len cap m : Nat} {x : Value} {news : List Value} (hl : (Builtin.lenOf x).run P w = .ok m w)
    (hf : (Builtin.firstCells sz m x).run P w = .ok news.toArray w) (hroom : len + m ≤ cap) {w' : World}
    (hst : match a with | some ad => (storeCells (ad.add (len * sz)) news).run P w = .ok () w' | none => w' = w) :
    (Builtin.append_ #[t, t2] ty #[.slice a len cap, x]).run P w = .ok (.slice a (len + m) cap) w' := by
  obtain ⟨d, hd, hnd⟩ := T.hx
  obtain ⟨i, z, hi, hz, hzs⟩ := T.hz
  unfold Builtin.append_
  cases a with
  | none =>
    subst hst
    simp [run_und T.hu, run_und hd, run_siz hi, T.hsz, hl, hf, hroom]
  | some ad =>
    simp [run_und T.hu, run_und hd, run_siz hi, T.hsz, hl, hf, hroom, hst]
theorem append_grow {t t2 ty elem : TypeId} {sz : Nat} (T : AppTy P t t2 elem sz) {a : Option Addr} {len cap m : Nat} {x : Value} {old news : List Value} (hl : (Builtin.lenOf x).run P w = .ok m w)
    (hf : (Builtin.firstCells sz m x).run P w.drew = .ok news.toArray w.drew) (ho : (Builtin.firstCells sz len (.slice a len cap)).run P w.drew = .ok old.toArray w.drew) (hgrow : cap < len + m) (hbig : len + m ≤ big) :
    ∃ newCap rest, len + m ≤ newCap ∧ rest.length = (newCap - (len + m)) * sz ∧
      (Builtin.append_ #[t, t2] ty #[.slice a len cap, x]).run P w = .ok (.slice (some ⟨w.heap.size, 0, none⟩) (len + m) newCap) (w.drew.alloc (.cells (old ++ news ++ rest).toArray elem)) := by
  obtain ⟨d, hd, hnd⟩ := T.hx
  obtain ⟨i, z, hi, hz, hzs⟩ := T.hz
  have hbyt : i.bytes ≤ 64 := by have := T.hb; unfold byt at this; rw [hi] at this; exact this
  have h2 : ¬ (281474976710656 < Builtin.nextslicecap (len + m) cap * i.bytes) := by
    have := growslice_fits (bytes := i.bytes) hgrow (by unfold big at hbig; calc (len + m) * i.bytes ≤ 1099511627776 * 64 := Nat.mul_le_mul hbig hbyt
      _ ≤ 140737488355328 := by decide)
    omega
  have hnc : len + m ≤ grownCap w (len + m) cap elem := grownCap_ge w _ _ _
  refine ⟨grownCap w (len + m) cap elem, (Builtin.zeroCells z.cells (grownCap w (len + m) cap elem - (len + m))).toList, hnc, ?_, ?_⟩
  · simp [Builtin.zeroCells, hzs]
  · unfold Builtin.append_
    have hroom : ¬ (len + m ≤ cap) := by omega
    have hask : ∀ (n : Nat) (w : World), (askRoom n).run P w = .ok () w := fun n w => by
      unfold askRoom
      split
      · rfl
      · rfl
    have hzv : ∀ w : World, (zeroValue elem).run P w = .ok z w := fun w => by simp [zeroValue, run_typeInfo w (tinfo_ok hi), hz]
    simp only [List.getElem?_toArray, List.getElem?_cons_zero, List.getElem?_cons_succ, Sem.run_bind, run_und T.hu, run_und hd, Result.andThen_ok, run_siz hi, T.hsz, Sem.run_pure]
    simp [hl, hroom, h2, run_typeInfo w (tinfo_ok hi), hask, hzv, newRow, Builtin.zeroCells]
    have h3 : ¬ (9223372036854775807 < (len : Int) + (m : Int) ∧ i.bytes = 0) := by unfold big at hbig; omega
    rw [if_neg h3, if_neg (by simp [Question.forced])]
    simp only [run_typeInfo w.drew (tinfo_ok hi), Result.andThen_ok, ho, hf]
    simp [grownCap]
    congr 2
    apply Array.ext'
    simp
theorem Rep.one {Z : Nat → Prop} {v : AV} {c : Value} (h : Rep Z w v c) (hk : okCell v = true) : c.oneCell' = true := by
  cases h <;> first | rfl | cases hk
/-- What is put behind: m elements, their cells. -/
structure Src (P : Program) (w : World) (t2 : TypeId) (sz : Nat) (xs : List AV) (c : Value) (news : List Value) (Cell : Nat → AV → Value → Prop) : Prop where
  hx : ∃ d, und P t2 = some d ∧ ∀ k, d ≠ .int k
  len : (Builtin.lenOf c).run P w = .ok xs.length w
  cells : ∀ d, (Builtin.firstCells sz xs.length c).run P { w with drawn := d } = .ok news.toArray { w with drawn := d }
  num : news.length = xs.length * sz
  one : ∀ u ∈ news, u.oneCell' = true
  elems : elemsOk sz xs
  cell : ∀ (j t : Nat) (e v : AV), xs[j]? = some e → (cellsOf e)[t]? = some v → ∃ c, news[j * sz + t]? = some c ∧ Cell j v c
theorem cell_drawn (w : World) (d : Nat) (a : Addr) : ({ w with drawn := d } : World).cell? a = w.cell? a := rfl
theorem mul_lt {j n sz t : Nat} (hj : j < n) (ht : t < sz) : j * sz + t < n * sz := by
  have : (j + 1) * sz ≤ n * sz := Nat.mul_le_mul_right sz hj
  rw [Nat.add_mul] at this; omega
/-- A source that stands in one block. -/
theorem src_block {t2 : TypeId} {sz : Nat} {xs : List AV} {b o cap : Nat} {Cell : Nat → AV → Value → Prop} (hx : ∃ d, und P t2 = some d ∧ ∀ k, d ≠ .int k) (he : elemsOk sz xs) (hone : ∀ (j t : Nat) (e v : AV) c, xs[j]? = some e → (cellsOf e)[t]? = some v → Cell j v c → c.oneCell' = true)
    (h : ∀ (j t : Nat) (e v : AV), xs[j]? = some e → (cellsOf e)[t]? = some v → ∃ c, w.cell? ⟨b, o + (j * sz + t), none⟩ = some c ∧ Cell j v c) :
    ∃ news, Src P w t2 sz xs (.slice (some ⟨b, o, none⟩) xs.length cap) news Cell := by
  have split : ∀ q, q < xs.length * sz → ∃ j t e v, q = j * sz + t ∧ xs[j]? = some e ∧ (cellsOf e)[t]? = some v := by
    intro q hq
    have hpos : 0 < sz := by
      rcases Nat.eq_zero_or_pos sz with h | h
      · subst h; simp at hq
      · exact h
    have hj : q / sz < xs.length := Nat.div_lt_of_lt_mul (by rw [Nat.mul_comm]; exact hq)
    have hl : (cellsOf xs[q / sz]).length = sz := he _ (List.getElem_mem hj)
    have ht : q % sz < (cellsOf xs[q / sz]).length := by rw [hl]; exact Nat.mod_lt _ hpos
    exact ⟨q / sz, q % sz, xs[q / sz], _, by rw [Nat.mul_comm]; exact (Nat.div_add_mod q sz).symm, by simp [hj], List.getElem?_eq_getElem ht⟩
  obtain ⟨news, hl, hn⟩ := choose_list (fun q c => w.cell? ⟨b, o + q, none⟩ = some c ∧ ∀ j t e v, q = j * sz + t → t < sz → xs[j]? = some e → (cellsOf e)[t]? = some v → Cell j v c ∧ c.oneCell' = true) (xs.length * sz) fun q hq => by
    obtain ⟨j, t, e, v, rfl, h1, h2⟩ := split q hq
    obtain ⟨c, h3, h4⟩ := h j t e v h1 h2
    refine ⟨c, h3, fun j' t' e' v' hq' ht' h1' h2' => ?_⟩
    have ht : t < sz := by
      have := (List.getElem?_eq_some_iff.1 h2).1
      rw [he e (mem_of_get h1)] at this; exact this
    have hjj : j' = j := by
      have a1 : (j' * sz + t') / sz = j' := by rw [Nat.add_comm, Nat.add_mul_div_right _ _ (by omega), Nat.div_eq_of_lt ht']; omega
      have a2 : (j * sz + t) / sz = j := by rw [Nat.add_comm, Nat.add_mul_div_right _ _ (by omega), Nat.div_eq_of_lt ht]; omega
      rw [← a1, ← a2, hq']
    subst hjj
    have htt : t' = t := by omega
    subst htt
    rw [h1] at h1'; cases h1'
    rw [h2] at h2'; cases h2'
    exact ⟨h4, hone _ _ _ _ _ h1 h2 h4⟩
  refine ⟨news, hx, by simp [Builtin.lenOf], fun d => ?_, hl, fun u hu => ?_, he, fun j t e v h1 h2 => ?_⟩
  · refine run_firstCells_some (P := P) _ sz xs.length _ _ _ news hl fun q u hq => ?_
    rw [addr_add, cell_drawn]
    exact (hn q u hq).1
  · obtain ⟨q, hq, rfl⟩ := List.getElem_of_mem hu
    obtain ⟨j, t, e, v, rfl, h1, h2⟩ := split q (by omega)
    have ht : t < sz := by
      have := (List.getElem?_eq_some_iff.1 h2).1
      rw [he e (mem_of_get h1)] at this; exact this
    exact ((hn _ _ (List.getElem?_eq_getElem hq)).2 j t e v rfl ht h1 h2).2
  · have hj := (List.getElem?_eq_some_iff.1 h1).1
    have ht : t < sz := by
      have := (List.getElem?_eq_some_iff.1 h2).1
      rw [he e (mem_of_get h1)] at this; exact this
    have hq : j * sz + t < news.length := by rw [hl]; exact mul_lt hj ht
    exact ⟨_, List.getElem?_eq_getElem hq, ((hn _ _ (List.getElem?_eq_getElem hq)).2 j t e v rfl ht h1 h2).1⟩
theorem src_none {t2 : TypeId} {sz : Nat} {a : Option Addr} {cap : Nat} {Cell : Nat → AV → Value → Prop} (hx : ∃ d, und P t2 = some d ∧ ∀ k, d ≠ .int k) : Src P w t2 sz [] (.slice a 0 cap) [] Cell := by
  refine ⟨hx, by simp [Builtin.lenOf], fun d => ?_, by simp, nofun, nofun, nofun⟩
  cases a <;> simp [Builtin.firstCells, loadCells, loadCellsFrom]
end
section
variable {E : Env} {tab : List Ent} {P : Program} {w : World} {Γ : Ctx} {ts : List AV} {a : Act}
theorem drop_take_get {α : Type _} {es : List α} {off len j : Nat} {e : α} (h : ((es.drop off).take len)[j]? = some e) : es[off + j]? = some e := by
  rw [List.getElem?_take] at h
  split at h
  · rwa [List.getElem?_drop] at h
  · cases h
/-- Rows that a reference leads to, as a source. -/
theorem src_row {t2 : TypeId} {own : Nat × Option Nat} {b sz off len : Nat} {es : List AV} {c : Value} {Cell : Nat → AV → Value → Prop} (hx : ∃ d, und P t2 = some d ∧ ∀ k, d ≠ .int k)
    (hs : SlOf E w own b sz off len c) (hol : off + len ≤ es.length) (he : elemsOk sz es) (hone : ∀ (j t : Nat) (e v : AV) c, es[j]? = some e → (cellsOf e)[t]? = some v → Cell j v c → c.oneCell' = true) (hr : es ≠ [] → RowOK E w own b sz es Cell) :
    ∃ news, Src P w t2 sz ((es.drop off).take len) c news (fun j v c => Cell (off + j) v c) := by
  obtain ⟨a', cap, rfl, hle, hx'⟩ := hs
  have hl : ((es.drop off).take len).length = len := by simp; omega
  by_cases hne : (es.drop off).take len = []
  · have h0 : len = 0 := by rw [hne] at hl; simpa using hl.symm
    subst h0
    rw [hne]
    exact ⟨[], src_none hx⟩
  have hpos : 0 < len := by
    rcases Nat.eq_zero_or_pos len with h | h
    · subst h; simp at hne
    · exact h
  obtain ⟨ho, cs, ty, fr, hh, hu, hsz, hc⟩ := hr (by intro e; subst e; simp at hne)
  have ha : a' = some ⟨b, off * sz, none⟩ := by
    rcases hx' with hx' | ⟨hx', _⟩
    · omega
    · exact hx'
  subst ha
  have := src_block (P := P) (w := w) (t2 := t2) (sz := sz) (xs := (es.drop off).take len) (b := b) (o := off * sz) (cap := cap) (Cell := fun j v c => Cell (off + j) v c) hx
    (fun e hm => he e (List.mem_of_mem_drop (List.mem_of_mem_take hm))) (fun j t e v c h1 h2 h3 => hone _ t e v c (drop_take_get h1) h2 h3) (fun j t e v h1 h2 => by
      obtain ⟨c, h3, h4⟩ := hc _ t e v (drop_take_get h1) h2
      refine ⟨c, ?_, h4⟩
      rw [cell_of hh, ← h3]
      congr 1
      rw [Nat.add_mul]; omega)
  rw [hl] at this
  exact this
theorem srcW_sound {t2 : TypeId} {x : AV} {c : Value} {sz : Nat} {k : List AV → Prop} (h : srcW P t2 x sz tab k) (s : Sat Γ E ts tab a w) (hv : V E (zone Γ E) tab w x c) :
    ∃ xs news, k xs ∧ cellsOk xs ∧ Src P w t2 sz xs c news (fun _ v c => Rep (zone Γ E) w v c) := by
  unfold srcW at h
  split at h
  · rename_i hu
    split at h
    · rename_i s'
      obtain ⟨rfl, h⟩ := h
      obtain ⟨b, rfl, rfl⟩ := hv.str_inv
      refine ⟨_, (Lib.strCells b).map id, h, ?_, ⟨_, hu, fun k e => by cases e⟩, by simp [Builtin.lenOf], fun d => ?_, ?_, ?_, ?_, ?_⟩
      · intro e he v hv
        simp at he
        obtain ⟨_, _, rfl⟩ := he
        simp [cellsOf] at hv; subst hv; rfl
      · simpa using Lib.run_firstCells_string (P := P) _ 1 b
      · simp [Lib.strCells]
      · intro u hu
        simp [Lib.strCells] at hu
        obtain ⟨_, _, rfl⟩ := hu
        rfl
      · intro e he
        simp at he
        obtain ⟨_, _, rfl⟩ := he
        rfl
      · intro j t e v h1 h2
        rw [List.getElem?_map] at h1
        obtain ⟨x, hj, rfl⟩ := Option.map_eq_some_iff.1 h1
        cases t with
        | zero =>
          simp [cellsOf] at h2; subst h2
          refine ⟨.int .u8 x.toNat, ?_, .int _ _⟩
          rw [List.map_id, Lib.strCells, Nat.mul_one, Nat.add_zero, List.getElem?_map, hj]; rfl
        | succ t => simp [cellsOf] at h2
    · exact h.elim
  · rename_i elem hu
    have hx : ∃ d, und P t2 = some d ∧ ∀ k, d ≠ .int k := ⟨_, hu, fun k e => by cases e⟩
    have nok : cellsOk [] := fun e he => by cases he
    split at h
    · have := hv.nilsl_inv; subst this
      exact ⟨[], [], h, nok, src_none hx⟩
    · obtain ⟨a', rfl⟩ := hv.emp_inv
      exact ⟨[], [], h, nok, src_none hx⟩
    · obtain ⟨rfl, h⟩ := h
      cases hv.rep_inv trivial with
      | sl0 => exact ⟨[], [], h, nok, src_none hx⟩
      | sl _ _ b o cap val hle he hk hz hc hr =>
        obtain ⟨news, hs⟩ := src_block (P := P) (w := w) (cap := cap) (Cell := fun _ v c => Rep (zone Γ E) w v c) hx he (fun j t e v c h1 h2 h3 => h3.one (hk e (mem_of_get h1) v (mem_of_get h2))) (fun j t e v h1 h2 => ⟨_, by rw [← Nat.add_assoc]; exact hc j t e v h1 h2, hr j t e v h1 h2⟩)
        exact ⟨_, news, h, hk, hs⟩
    · rename_i i
      split at h
      · rename_i sz' es he
        obtain ⟨rfl, h⟩ := h
        have hent := s.ents i
        rw [he] at hent
        obtain ⟨h1, _, h2, _, h3⟩ := hent
        obtain ⟨news, hs⟩ := src_row (P := P) hx (hv.loc_inv.2 _ _ _ he) (by omega) h1 (fun j t e v c q1 q2 q3 => Rep.one q3 (h2 rfl e (mem_of_get q1) v (mem_of_get q2))) h3
        have e1 : (es.drop 0).take es.length = es := by simp
        rw [e1] at hs
        exact ⟨_, news, h, h2 rfl, hs⟩
      · exact h.elim
    · rename_i i off len
      split at h
      · rename_i sz' es he
        obtain ⟨rfl, h⟩ := h
        have hent := s.ents i
        rw [he] at hent
        obtain ⟨h1, _, h2, _, h3⟩ := hent
        obtain ⟨hsl, hol⟩ := hv.part_inv.2 _ _ _ he
        obtain ⟨news, hs⟩ := src_row (P := P) hx hsl hol h1 (fun j t e v c q1 q2 q3 => Rep.one q3 (h2 rfl e (mem_of_get q1) v (mem_of_get q2))) h3
        exact ⟨_, news, h.o, fun e hm => h2 rfl e (List.mem_of_mem_drop (List.mem_of_mem_take hm)), hs⟩
      · exact h.elim
    · rename_i i j
      split at h
      · rename_i sz0 es he
        replace h := optP.o h
        split at h
        · rename_i sz' es' hj
          have hj := nth_some hj
          obtain ⟨rfl, h⟩ := h
          obtain ⟨cs, ty, fr, hh, hcj⟩ := hv.sub_inv.2 _ _ _ _ he hj
          obtain ⟨_, hsz, hr⟩ := s.row he
          have hsz := hsz rfl
          subst hsz
          obtain ⟨ho, cs2, ty2, fr2, hh2, hu2, hs2, hc⟩ := hr (ne_nil_of_get hj)
          obtain ⟨c2, h3, h4⟩ := hc j 0 _ _ hj rfl
          rw [hh] at hh2; cases hh2
          simp at h3
          rw [hcj] at h3; cases h3
          obtain ⟨b2, hsl, heo, hko, hro⟩ := h4
          obtain ⟨news, hs⟩ := src_row (P := P) hx hsl (by omega) heo (fun j t e v c q1 q2 q3 => Rep.one q3 (hko e (mem_of_get q1) v (mem_of_get q2))) hro
          have e1 : (es'.drop 0).take es'.length = es' := by simp
          rw [e1] at hs
          exact ⟨_, news, h, hko, hs⟩
        · exact h.elim
      · exact h.elim
    · exact h.elim
  · exact h.elim
end
end Sx

/- Soundness of append. -/
namespace Sx
open Go Go.RowKit
section
variable {E : Env} {tab : List Ent} {P : Program} {w : World} {Γ : Ctx} {ts : List AV} {a : Act}
theorem storeCells_run {b o : Nat} {news : List Value} {cs : Array Value} {ty : TypeId} {fr : Nat × Nat} (h : w.heap[b]? = some (.cells cs ty fr)) (hu : unfr cs fr) (ho : o + news.length ≤ cs.size) (h1 : ∀ v ∈ news, v.oneCell' = true) :
    ∃ w', (storeCells ⟨b, o, none⟩ news).run P w = .ok () w' ∧ SetRow w w' b (wrote cs o news) ty fr := by
  refine ⟨w.setCells b o news, ?_, setCells_row b _ o w cs ty fr h⟩
  have := run_storeCells_cells (P := P) b o news 0 w (fun j hj => by
      rw [cell_of h]
      have : o + j < cs.size := by omega
      simpa using this) (fun j hj => by
      have : o + j < cs.size := by omega
      simp [World.frozen?, h]
      have := hu (o + j) this
      simpa using this) h1
  simpa using this
/-- Cells of the elements behind, and of the elements before. -/
theorem cell_parts {sz : Nat} {es xs : List AV} {X : Nat → AV → Value → Prop} {olds news : Nat → Option Value} (he : elemsOk sz es) (hx : elemsOk sz xs)
    (ho : ∀ (j t : Nat) (e v : AV), es[j]? = some e → (cellsOf e)[t]? = some v → ∃ c, olds (j * sz + t) = some c ∧ X j v c)
    (hn : ∀ (j t : Nat) (e v : AV), xs[j]? = some e → (cellsOf e)[t]? = some v → ∃ c, news (j * sz + t) = some c ∧ X (es.length + j) v c)
    {all : Nat → Option Value} (ha : ∀ q, q < es.length * sz → all q = olds q) (hb : ∀ q, q < xs.length * sz → all (es.length * sz + q) = news q) :
    ∀ (j t : Nat) (e v : AV), (es ++ xs)[j]? = some e → (cellsOf e)[t]? = some v → ∃ c, all (j * sz + t) = some c ∧ X j v c := by
  intro j t e v h1 h2
  have ht := (List.getElem?_eq_some_iff.1 h2).1
  rcases Nat.lt_or_ge j es.length with hj | hj
  · rw [List.getElem?_append_left hj] at h1
    rw [he e (mem_of_get h1)] at ht
    rw [ha _ (mul_lt hj ht)]
    exact ho j t e v h1 h2
  · rw [List.getElem?_append_right hj] at h1
    rw [hx e (mem_of_get h1)] at ht
    have hj2 := (List.getElem?_eq_some_iff.1 h1).1
    obtain ⟨c, h3, h4⟩ := hn _ t e v h1 h2
    refine ⟨c, ?_, by rw [Nat.add_sub_cancel' hj] at h4; exact h4⟩
    rw [← h3, ← hb _ (mul_lt hj2 ht)]
    congr 1
    have : j * sz = es.length * sz + (j - es.length) * sz := by rw [← Nat.add_mul]; congr 1; omega
    omega
theorem elemsOk_append {sz : Nat} {es xs : List AV} (he : elemsOk sz es) (hx : elemsOk sz xs) : elemsOk sz (es ++ xs) := fun e h => by
  rcases List.mem_append.1 h with h | h
  · exact he e h
  · exact hx e h
theorem cellsOk_append {es xs : List AV} (he : cellsOk es) (hx : cellsOk xs) : cellsOk (es ++ xs) := fun e h => by
  rcases List.mem_append.1 h with h | h
  · exact he e h
  · exact hx e h
/-- The old cells of a slice, in a drawn world. -/
theorem old_cells {t2 : TypeId} (hx2 : ∃ d, und P t2 = some d ∧ ∀ k, d ≠ .int k) {own : Nat × Option Nat} {b sz len cap : Nat} {es : List AV} {a' : Option Addr} {Cell : Nat → AV → Value → Prop} (hs : SlOf E w own b sz 0 len (.slice a' len cap)) (hl : es.length = len) (he : elemsOk sz es) 
    (hone : ∀ (j t : Nat) (e v : AV) c, es[j]? = some e → (cellsOf e)[t]? = some v → Cell j v c → c.oneCell' = true) (hr : es ≠ [] → RowOK E w own b sz es Cell) :
    ∃ old : List Value, (∀ d, (Builtin.firstCells sz len (.slice a' len cap)).run P { w with drawn := d } = .ok old.toArray { w with drawn := d }) ∧ old.length = len * sz ∧
      ∀ (j t : Nat) (e v : AV), es[j]? = some e → (cellsOf e)[t]? = some v → ∃ c, old[j * sz + t]? = some c ∧ Cell j v c := by
  obtain ⟨a2, cap2, h1, hle, hx⟩ := hs
  cases h1
  by_cases hne : es = []
  · subst hne
    have h0 : len = 0 := by simpa using hl.symm
    subst h0
    refine ⟨[], fun d => ?_, by simp, fun j t e v h => by simp at h⟩
    cases a' <;> simp [Builtin.firstCells, loadCells, loadCellsFrom]
  · have hpos : 0 < len := by rw [← hl]; exact List.length_pos_iff.2 hne
    have ha : a' = some ⟨b, 0 * sz, none⟩ := by
      rcases hx with hx | ⟨hx, _⟩
      · omega
      · exact hx
    obtain ⟨ho, cs, ty, fr, hh, hu, hsz, hc⟩ := hr hne
    obtain ⟨news, S⟩ := src_block (P := P) (w := w) (t2 := t2) (sz := sz) (xs := es) (b := b) (o := 0 * sz) (cap := cap) (Cell := Cell) hx2 he hone (fun j t e v h1 h2 => by
      obtain ⟨c, h3, h4⟩ := hc j t e v h1 h2
      exact ⟨c, by rw [cell_of hh, Nat.zero_mul, Nat.zero_add]; exact h3, h4⟩)
    refine ⟨news, fun d => ?_, by rw [S.num, hl], S.cell⟩
    have := S.cells d
    rw [hl] at this
    rw [ha]
    exact this
/-- Elements in the middle of a list. -/
theorem mid_get {es xs : List AV} {o j : Nat} (h : o + xs.length ≤ es.length) : (es.take o ++ xs ++ es.drop (o + xs.length))[j]? = if j < o then es[j]? else if j < o + xs.length then xs[j - o]? else es[j]? := by
  have h1 : (es.take o).length = o := by simp; omega
  by_cases a : j < o
  · rw [if_pos a, List.append_assoc, List.getElem?_append_left (by omega), List.getElem?_take, if_pos a]
  · rw [if_neg a]
    by_cases b : j < o + xs.length
    · rw [if_pos b, List.getElem?_append_left (by rw [List.length_append]; omega), List.getElem?_append_right (by omega), h1]
    · rw [if_neg b, List.getElem?_append_right (by rw [List.length_append]; omega), List.getElem?_drop, List.length_append, h1]
      congr 1
      omega
/-- Elements are put into the middle of a plain row. -/
theorem Sat.writePart (s : Sat Γ E ts tab a w) {i sz o : Nat} {es xs : List AV} {news : List Value} (he : ent tab i = .row .plain sz es) (hne : es ≠ []) (hin : o + xs.length ≤ es.length)
    (hnum : news.length = xs.length * sz) (hone : ∀ u ∈ news, u.oneCell' = true) (hx : elemsOk sz xs) (hk : cellsOk xs)
    (hc : ∀ (j t : Nat) (e v : AV), xs[j]? = some e → (cellsOf e)[t]? = some v → ∃ c, news[j * sz + t]? = some c ∧ Rep (zone Γ E) w v c) :
    ∃ w', (storeCells ⟨E.L i, o * sz, none⟩ news).run P w = .ok () w' ∧ Sat Γ E ts (tab.set i (.row .plain sz (es.take o ++ xs ++ es.drop (o + xs.length)))) a w' ∧
      ∃ cs ty fr cs', w.heap[E.L i]? = some (.cells cs ty fr) ∧ w'.heap[E.L i]? = some (.cells cs' ty fr) ∧ cs'.size = cs.size := by
  have hent := s.ents i
  rw [he] at hent
  obtain ⟨h1, _, h2, _, h3⟩ := hent
  obtain ⟨ho, cs, ty, fr, hh, hu, hs, hcell⟩ := h3 hne
  have hfit : o * sz + news.length ≤ cs.size := by
    rw [hnum, ← Nat.add_mul]
    exact Nat.le_trans (Nat.mul_le_mul_right sz hin) hs
  obtain ⟨w', hst, hw⟩ := storeCells_run (P := P) hh hu hfit hone
  have hlen : (es.take o ++ xs ++ es.drop (o + xs.length)).length = es.length := by simp; omega
  have hmem : ∀ e ∈ es.take o ++ xs ++ es.drop (o + xs.length), e ∈ es ∨ e ∈ xs := fun e he => by
    rcases List.mem_append.1 he with he | he
    · rcases List.mem_append.1 he with he | he
      · exact .inl (List.mem_of_mem_take he)
      · exact .inr he
    · exact .inl (List.mem_of_mem_drop he)
  refine ⟨w', hst, s.write he nofun hlen (fun e h => (hmem e h).elim (h1 e) (hx e)) (fun _ e h => (hmem e h).elim (h2 rfl e) (hk e)) nofun ho hh hu hw (wrote_size ..) hs (fun j t e v e1 e2 => ?_), cs, ty, fr, _, hh, hw.here, wrote_size ..⟩
  have ht := (List.getElem?_eq_some_iff.1 e2).1
  rw [mid_get hin] at e1
  rw [wrote_get _ _ _ _ hfit]
  split at e1
  · rename_i hj
    rw [h1 e (mem_of_get e1)] at ht
    have := mul_lt hj ht
    rw [if_neg (by omega)]
    exact hcell j t e v e1 e2
  · rename_i hj
    split at e1
    · rename_i hj2
      rw [hx e (mem_of_get e1)] at ht
      obtain ⟨c, h5, h6⟩ := hc _ t e v e1 e2
      have hjo : j * sz = o * sz + (j - o) * sz := by rw [← Nat.add_mul]; congr 1; omega
      have := mul_lt (show j - o < xs.length by omega) ht
      rw [if_pos (by rw [hnum]; omega)]
      exact ⟨c, by rw [← h5]; congr 1; omega, h6⟩
    · rename_i hj2
      rw [h1 e (mem_of_get e1)] at ht
      have : (o + xs.length) * sz ≤ j * sz := Nat.mul_le_mul_right sz (by omega)
      rw [Nat.add_mul] at this
      rw [if_neg (by rw [hnum]; omega)]
      exact hcell j t e v e1 e2
theorem ent_same {i : Nat} {e : Ent} (h : ent tab i = e) (hi : i < tab.length) : tab.set i e = tab := by
  apply List.ext_getElem?
  intro q
  rw [List.getElem?_set]
  by_cases hq : i = q
  · subst hq
    rw [if_pos rfl, if_pos hi]
    rw [ent_eq] at h
    rw [List.getElem?_eq_getElem hi] at h ⊢
    rw [← h]; rfl
  · rw [if_neg hq]
/-- An append within one row: in its place. -/
theorem app_inplace (s : Sat Γ E ts tab a w) {t t2 ty elem : TypeId} {i sz len : Nat} (T : AppTy P t t2 elem sz) {c x : Value} {es xs : List AV} {news : List Value} (he : ent tab i = .row .plain sz es)
    (hs : SlOf E w (i, none) (E.L i) sz 0 len c) (hcap : Room 0 es.length c) (S : Src P w t2 sz xs x news fun _ v c => Rep (zone Γ E) w v c) (hkx : cellsOk xs) (hin : len + xs.length ≤ es.length) :
    ∃ c' w', (Builtin.append_ #[t, t2] ty #[c, x]).run P w = .ok c' w' ∧ Sat Γ E ts (tab.set i (.row .plain sz (es.take len ++ xs ++ es.drop (len + xs.length)))) a w' ∧
      V E (zone Γ E) (tab.set i (.row .plain sz (es.take len ++ xs ++ es.drop (len + xs.length)))) w' (.part i 0 (len + xs.length)) c' := by
  have hi := ent_lt he
  obtain ⟨a', cap, rfl, hle, hx'⟩ := id hs
  have hcap := hcap _ _ _ rfl
  have hlen : (es.take len ++ xs ++ es.drop (len + xs.length)).length = es.length := by simp; omega
  by_cases hne : es = []
  · subst hne
    have hin : len + xs.length ≤ 0 := hin
    have hx0 : xs = [] := List.eq_nil_of_length_eq_zero (by omega)
    have hl0 : len = 0 := by omega
    subst hx0; subst hl0
    have hnews : news = [] := List.eq_nil_of_length_eq_zero (by simpa using S.num)
    subst hnews
    have hrun := append_room (P := P) (w := w) (ty := ty) T (a := a') (len := 0) (cap := cap) S.len (by simpa using S.cells w.drawn) (by simp) (w' := w) (by cases a' <;> simp [storeCells])
    have e1 : tab.set i (.row .plain sz (([] : List AV).take 0 ++ [] ++ ([] : List AV).drop (0 + ([] : List AV).length))) = tab := ent_same he hi
    rw [e1]
    refine ⟨_, w, hrun, s, .part _ _ _ _ hi fun k2 sz2 es2 h => ?_⟩
    rw [he] at h; cases h
    exact ⟨⟨hs, by simp⟩, fun _ _ _ e => by cases e; simp⟩
  · have hpos : 0 < es.length := List.length_pos_iff.2 hne
    obtain ⟨rfl, ho, cs, ty2, fr, hh, hu, hsz⟩ := hx'.resolve_left (by omega)
    obtain ⟨w', hst, s', cs1, ty1, fr1, cs2, g1, g2, g3⟩ := s.writePart (P := P) he hne hin S.num S.one S.elems hkx S.cell
    rw [hh] at g1; cases g1
    have hrun := append_room (P := P) (w := w) (ty := ty) T (a := some ⟨E.L i, 0 * sz, none⟩) S.len (by simpa using S.cells w.drawn) (by omega : len + xs.length ≤ cap) (w' := w') (by show (storeCells ((⟨E.L i, 0 * sz, none⟩ : Addr).add (len * sz)) news).run P w = _; rw [addr_add, Nat.zero_mul, Nat.zero_add]; exact hst)
    refine ⟨_, w', hrun, s', .part _ _ _ _ (by simpa using hi) fun k2 sz2 es2 h => ?_⟩
    rw [ent_set hi, if_pos rfl] at h
    cases h
    rw [hlen]
    refine ⟨⟨⟨_, cap, rfl, by omega, .inr ⟨rfl, ho, cs2, _, _, g2, fun q hq => hu q (by omega), by rw [g3]; exact hsz⟩⟩, by omega⟩, fun _ _ _ e => by cases e; omega⟩
/-- An append that makes a plain row: of the first elements of a row that is given up, or of nothing. `own`: who owns the block now; `X`: that block, where its owner is an element of a nested row. -/
theorem app_plain (s : Sat Γ E ts tab a w) {t t2 ty elem : TypeId} {sz : Nat} (T : AppTy P t t2 elem sz) {own : Nat × Option Nat} {b len : Nat} {c x : Value} {es xs : List AV} {news : List Value}
    (hs : SlOf E w own b sz 0 len c) (hl : es.length = len) (he : elemsOk sz es) (hk : cellsOk es) (hr : es ≠ [] → RowOK E w own b sz es fun _ v c => Rep (zone Γ E) w v c)
    (S : Src P w t2 sz xs x news fun _ v c => Rep (zone Γ E) w v c) (hkx : cellsOk xs) (hbig : len + xs.length ≤ big)
    {tabD : List Ent} (D X : Nat → Prop) (hX : ∀ b, X b → ∃ i j, E.O b = some (i, some j)) (hlD : tabD.length = tab.length) (hD : ∀ i, D i → ent tabD i = .dead) (hN : ∀ i, ¬ D i → ent tabD i = ent tab i)
    (hown : D own.1 ∨ X b)
    (hM : ∀ (E' : Env) (w' : World), Pres (fun _ => False) E (zone Γ E) tab w E' (zone Γ E') (tabD ++ [.row .plain sz (es ++ xs)]) w' → (∀ i, i < tab.length → E'.L i = E.L i) → (∀ b' x, E.O b' = some x → b' ≠ b → E'.O b' = some x ∧ w'.heap[b']? = w.heap[b']?) →
      ∀ i, ¬ D i → (∃ b x, X b ∧ E.O b = some (i, x)) → EntOK E' (zone Γ E') (tabD ++ [.row .plain sz (es ++ xs)]) w' i (ent tabD i)) :
    ∃ c' w' E', (Builtin.append_ #[t, t2] ty #[c, x]).run P w = .ok c' w' ∧ Sat Γ E' ts (tabD ++ [.row .plain sz (es ++ xs)]) a w' ∧ V E' (zone Γ E') (tabD ++ [.row .plain sz (es ++ xs)]) w' (.loc tabD.length) c' := by
  have hn : ent (tabD ++ [.row .plain sz (es ++ xs)]) tabD.length = .row .plain sz (es ++ xs) := by rw [ent_snoc, if_pos rfl]
  have hlow : ∀ i, i < tab.length → ent (tabD ++ [.row .plain sz (es ++ xs)]) i = ent tabD i := fun i hi => by rw [ent_snoc, if_neg (by omega)]
  have hhi : ∀ i, tab.length ≤ i → i ≠ tabD.length → ent (tabD ++ [.row .plain sz (es ++ xs)]) i = .dead := fun i hi h => by
    rw [ent_eq, List.getElem?_eq_none (by simp; omega)]; rfl
  have hlen : (es ++ xs).length = len + xs.length := by rw [List.length_append, hl]
  obtain ⟨a', cap, rfl, hle, hx'⟩ := id hs
  by_cases hroom : len + xs.length ≤ cap
  · by_cases hcap : cap = 0
    · -- nothing, and no room
      have hx0 : xs = [] := List.eq_nil_of_length_eq_zero (by omega)
      have he0 : es = [] := List.eq_nil_of_length_eq_zero (by omega)
      subst hx0; subst he0
      have hl0 : len = 0 := by simpa using hl.symm
      subst hl0; subst hcap
      have hnews : news = [] := List.eq_nil_of_length_eq_zero (by simpa using S.num)
      subst hnews
      have hrun := append_room (P := P) (w := w) (ty := ty) T (a := a') (len := 0) (cap := 0) S.len (by simpa using S.cells w.drawn) (by simp) (w' := w) (by cases a' <;> simp [storeCells])
      obtain ⟨p, s'⟩ := s.remake (E' := E) (tabD := tabD) (tl := [.row .plain sz ([] ++ [])]) (w' := w) D X hX hlD hD hN (fun b h _ => ⟨h, rfl⟩) (fun _ _ _ => rfl) (fun b i x h _ _ => ⟨h, rfl⟩) (fun p i hi => by
        rcases Nat.lt_or_ge i tab.length with h1 | h1
        · rw [hlow i h1]
          rcases hi with hi | ⟨h2, h3⟩
          · omega
          · exact hM E w p (fun _ _ => rfl) (fun b' x h _ => ⟨h, rfl⟩) i h2 h3
        · by_cases h2 : i = tabD.length
          · subst h2; rw [hn]; exact ⟨(by intro e h; cases h), nofun, fun _ => (by intro e h; cases h), nofun, fun h => (h rfl).elim⟩
          · rw [hhi i h1 h2]; trivial) s.own rfl rfl rfl (Nat.le_refl _)
      refine ⟨_, w, E, hrun, s', .loc _ _ (by simp) fun k2 sz2 es2 h => ?_⟩
      rw [hn] at h; cases h
      exact ⟨a', 0, rfl, Nat.le_refl _, .inl rfl⟩
    · -- in place
      obtain ⟨rfl, ho, cs, ty2, fr, hh, hu, hsz⟩ := hx'.resolve_left hcap
      rw [Nat.zero_mul] at *
      rw [Nat.zero_add] at hsz
      have hfit : len * sz + news.length ≤ cs.size := by
        rw [S.num, ← Nat.add_mul]
        exact Nat.le_trans (Nat.mul_le_mul_right sz hroom) hsz
      obtain ⟨w', hst, hw⟩ := storeCells_run (P := P) hh hu hfit S.one
      have hrun := append_room (P := P) (w := w) (ty := ty) T (a := some ⟨b, 0, none⟩) S.len (by simpa using S.cells w.drawn) hroom (w' := w') (by show (storeCells ((⟨b, 0, none⟩ : Addr).add (len * sz)) news).run P w = _; rw [addr_add, Nat.zero_add]; exact hst)
      let E' : Env := ⟨fun x => if x = b then some (tabD.length, none) else E.O x, fun i => if i = tabD.length then b else E.L i⟩
      have hOb : E'.O b = some (tabD.length, none) := by show (if _ then _ else _) = _; rw [if_pos rfl]
      have hOn : ∀ x, x ≠ b → E'.O x = E.O x := fun x h => by show (if _ then _ else _) = _; rw [if_neg h]
      have hLn : E'.L tabD.length = b := by show (if _ then _ else _) = _; rw [if_pos rfl]
      have hLo : ∀ i, i < tab.length → E'.L i = E.L i := fun i hi => by show (if _ then _ else _) = _; rw [if_neg (by omega)]
      obtain ⟨p, s'⟩ := s.remake (E' := E') (tabD := tabD) (tl := [.row .plain sz (es ++ xs)]) (w' := w') D X hX hlD hD hN (fun x h _ => by
          have hne : x ≠ b := fun e => by subst e; rw [ho] at h; cases h
          exact ⟨by rw [hOn x hne]; exact h, hw.other x hne⟩) (fun i hi _ => hLo i hi) (fun x i y h hd hx => by
          have hne : x ≠ b := fun e => by
            subst e
            rw [ho] at h; cases h
            rcases hown with h1 | h1
            · exact hd h1
            · exact hx h1
          exact ⟨by rw [hOn x hne]; exact h, hw.other x hne⟩) (fun p i hi => by
          rcases Nat.lt_or_ge i tab.length with h1 | h1
          · rw [hlow i h1]
            rcases hi with hi | ⟨h2, h3⟩
            · omega
            · exact hM E' w' p hLo (fun b' x h hne => ⟨by rw [hOn b' hne]; exact h, hw.other b' hne⟩) i h2 h3
          · by_cases h2 : i = tabD.length
            · subst h2
              rw [hn]
              refine ⟨elemsOk_append he S.elems, nofun, fun _ => cellsOk_append hk hkx, nofun, fun _ => ?_⟩
              rw [hLn]
              refine ⟨hOb, _, ty2, fr, hw.here, fun q hq => hu q (by simpa [wrote_size] using hq), by rw [wrote_size, hlen]; exact Nat.le_trans (Nat.mul_le_mul_right sz hroom) hsz, ?_⟩
              refine cell_parts (X := fun _ v c => Rep (zone Γ E') w' v c) (olds := fun q => cs[q]?) (news := fun q => news[q]?) (all := fun q => (wrote cs (len * sz) news)[q]?) he S.elems (fun j t e v h3 h4 => ?_) (fun j t e v h3 h4 => ?_) (fun q hq => ?_) (fun q hq => ?_)
              · obtain ⟨_, cs3, ty3, fr3, hh3, _, _, hc3⟩ := hr (ne_nil_of_get h3)
                rw [hh] at hh3; cases hh3
                obtain ⟨c, h5, h6⟩ := hc3 j t e v h3 h4
                exact ⟨c, h5, h6.mono p.imm⟩
              · obtain ⟨c, h5, h6⟩ := S.cell j t e v h3 h4
                exact ⟨c, h5, h6.mono p.imm⟩
              · rw [hl] at hq
                rw [wrote_get _ _ _ _ hfit, if_neg (by omega)]
              · rw [wrote_get _ _ _ _ hfit, if_pos (by rw [S.num, hl]; omega)]
                congr 1
                rw [hl]; omega
            · rw [hhi i h1 h2]; trivial)
          (fun x y h => by
            rw [hw.size]
            by_cases hx : x = b
            · subst hx; exact s.own x _ ho
            · rw [hOn x hx] at h; exact s.own x y h) hw.os hw.tape hw.output (by rw [hw.size]; exact Nat.le_refl _)
      refine ⟨_, w', E', hrun, s', .loc _ _ (by simp) fun k2 sz2 es2 h => ?_⟩
      rw [hn] at h; cases h
      rw [hlen, hLn]
      exact ⟨_, cap, rfl, hroom, .inr ⟨by simp, hOb, _, ty2, fr, hw.here, fun q hq => hu q (by simpa [wrote_size] using hq), by rw [wrote_size]; simpa using hsz⟩⟩
  · -- a new block
    obtain ⟨old, ho1, ho2, ho3⟩ := old_cells (P := P) (Cell := fun _ v c => Rep (zone Γ E) w v c) T.hx hs hl he (fun j t e v c h1 h2 h3 => Rep.one h3 (hk e (mem_of_get h1) v (mem_of_get h2))) hr
    obtain ⟨newCap, rest, h1, h2, hrun⟩ := append_grow (P := P) (w := w) (ty := ty) T (old := old) S.len (S.cells _) (ho1 _) (by omega) hbig
    let E' : Env := ⟨fun x => if x = w.heap.size then some (tabD.length, none) else E.O x, fun i => if i = tabD.length then w.heap.size else E.L i⟩
    have hOb : E'.O w.heap.size = some (tabD.length, none) := by show (if _ then _ else _) = _; rw [if_pos rfl]
    have hOn : ∀ x, x ≠ w.heap.size → E'.O x = E.O x := fun x h => by show (if _ then _ else _) = _; rw [if_neg h]
    have hLn : E'.L tabD.length = w.heap.size := by show (if _ then _ else _) = _; rw [if_pos rfl]
    have hLo : ∀ i, i < tab.length → E'.L i = E.L i := fun i hi => by show (if _ then _ else _) = _; rw [if_neg (by omega)]
    have old_ : ∀ x, x < w.heap.size → (w.drew.alloc (.cells (old ++ news ++ rest).toArray elem)).heap[x]? = w.heap[x]? := fun x hx => Below.heap_alloc w.drew _ x hx
    have new_ : (w.drew.alloc (.cells (old ++ news ++ rest).toArray elem)).heap[w.heap.size]? = some (.cells (old ++ news ++ rest).toArray elem (0, 0)) := heap_alloc_new w.drew _
    have hsize : (old ++ news ++ rest).length = newCap * sz := by
      rw [List.length_append, List.length_append, ho2, S.num, h2, ← Nat.add_mul, ← Nat.add_mul]; congr 1; omega
    obtain ⟨p, s'⟩ := s.remake (E' := E') (tabD := tabD) (tl := [.row .plain sz (es ++ xs)]) (w' := w.drew.alloc (.cells (old ++ news ++ rest).toArray elem)) D X hX hlD hD hN
        (fun x h hx => ⟨by rw [hOn x (by omega)]; exact h, old_ x hx⟩) (fun i hi _ => hLo i hi) (fun x i y h _ _ => ⟨by rw [hOn x (by have := s.own x _ h; omega)]; exact h, old_ x (s.own x _ h)⟩) (fun p i hi => by
          rcases Nat.lt_or_ge i tab.length with h3 | h3
          · rw [hlow i h3]
            rcases hi with hi | ⟨h4, h5⟩
            · omega
            · exact hM E' _ p hLo (fun b' x h _ => ⟨by rw [hOn b' (by have := s.own b' _ h; omega)]; exact h, old_ b' (s.own b' _ h)⟩) i h4 h5
          · by_cases h4 : i = tabD.length
            · subst h4
              rw [hn]
              refine ⟨elemsOk_append he S.elems, nofun, fun _ => cellsOk_append hk hkx, nofun, fun _ => ?_⟩
              rw [hLn]
              refine ⟨hOb, _, elem, (0, 0), new_, fun q _ => by simp, by rw [List.size_toArray, hsize, hlen]; exact Nat.mul_le_mul_right sz h1, ?_⟩
              refine cell_parts (X := fun _ v c => Rep (zone Γ E') _ v c) (olds := fun q => old[q]?) (news := fun q => news[q]?) (all := fun q => (old ++ news ++ rest).toArray[q]?) he S.elems (fun j t e v h5 h6 => ?_) (fun j t e v h5 h6 => ?_) (fun q hq => ?_) (fun q hq => ?_)
              · obtain ⟨c, h7, h8⟩ := ho3 j t e v h5 h6
                exact ⟨c, h7, h8.mono p.imm⟩
              · obtain ⟨c, h7, h8⟩ := S.cell j t e v h5 h6
                exact ⟨c, h7, h8.mono p.imm⟩
              · rw [hl, ← ho2] at hq
                simp only [List.getElem?_toArray, List.append_assoc]
                rw [List.getElem?_append_left hq]
              · rw [← S.num] at hq
                simp only [List.getElem?_toArray, List.append_assoc]
                rw [List.getElem?_append_right (by rw [ho2, hl]; omega), ho2, hl, Nat.add_sub_cancel_left, List.getElem?_append_left hq]
            · rw [hhi i h3 h4]; trivial)
        (fun x y h => by
          by_cases hx : x = w.heap.size
          · subst hx; simp
          · rw [hOn x hx] at h
            have := s.own x y h
            simp; omega) rfl rfl rfl (by simp)
    refine ⟨_, _, E', hrun, s', .loc _ _ (by simp) fun k2 sz2 es2 h => ?_⟩
    rw [hn] at h; cases h
    rw [hlen, hLn]
    exact ⟨_, newCap, rfl, h1, .inr ⟨by simp, hOb, _, elem, (0, 0), new_, fun q _ => by simp, by rw [List.size_toArray, hsize]; simp⟩⟩
end
end Sx
