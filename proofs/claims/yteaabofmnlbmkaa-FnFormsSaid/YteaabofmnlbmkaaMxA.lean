/- Plain words about lists. -/
import Derived.Test.YteaabofmnlbmkaaSxC
import Derived.Lib.IndexAny
import Derived.Lib.ItoaNum
import Derived.Lib.Bytealg
set_option linter.all false
namespace Sx
theorem all_take {α : Type} {P : α → Prop} {l : List α} {k : Nat} (h : k < l.length) : (∀ x ∈ l.take (k + 1), P x) ↔ (∀ x ∈ l.take k, P x) ∧ P l[k] := by
  rw [List.take_succ_eq_append_getElem h]
  simp only [List.mem_append, List.mem_singleton]
  exact ⟨fun h => ⟨fun x hx => h x (.inl hx), h _ (.inr rfl)⟩, fun h x hx => hx.elim (h.1 x) fun e => e ▸ h.2⟩
theorem take_all {α : Type} {l : List α} {k : Nat} (h : ¬ (k : Int) < (l.length : Int)) : l.take k = l := List.take_of_length_le (by omega)
theorem take_snoc {α : Type} {l : List α} {k : Nat} (h : k < l.length) : l.take (k + 1) = l.take k ++ [l[k]] := List.take_succ_eq_append_getElem h
def marks (k : Int) (n : Nat) : List Int := (List.range n).map fun i => k + (i : Nat)
@[simp] theorem marks_len (k : Int) (n : Nat) : (marks k n).length = n := by simp [marks]
theorem eq_take {α : Type} {a b : List α} {k : Nat} (h : a.length = b.length) (hk : k < a.length) : a.take (k + 1) = b.take (k + 1) ↔ a.take k = b.take k ∧ a[k] = b[k]'(by omega) := by
  rw [take_snoc hk, take_snoc (by omega : k < b.length)]
  constructor
  · intro h2
    have := List.append_inj h2 (by simp; omega)
    simpa using this
  · rintro ⟨h1, h2⟩; rw [h1, h2]
def ixOf (l : List Int) (x : Int) : Int := if x ∈ l then (l.idxOf x : Int) else -1
theorem pureI {l : List Int} : ∀ e ∈ l.map i64, pure2 e = true := fun e h => by
  obtain ⟨x, _, rfl⟩ := List.mem_map.1 h
  rfl
theorem map_congr {α β : Type} {f : α → β} {a b : List α} (h : a = b) : a.map f = b.map f := by rw [h]
/-! roads -/
abbrev road (n : Int) (b : Bool) : Prop := 2 ≤ n ∧ n ≤ 24 ∧ (b = true → 3 ≤ n)
abbrev rd (n : Int) (b : Bool) : AV := .agg [i64 n, bv b]
abbrev ints (l : List Int) : AV := .sl 1 (l.map i64)
abbrev row (l : List Int) : Ent := .row .plain 1 (l.map i64)
abbrev okPl (n : Int) (b : Bool) (l : List Int) : Prop := road n b ∧ (1 ≤ (l.length : Int) ∧ (l.length : Int) ≤ 3) ∧ ∀ x ∈ l, 0 ≤ x ∧ x < n
def dirt (l : List Int) (p : Nat) : Int := if (p : Int) ∈ l then 0 else 1
def dirty0 (n : Int) (l : List Int) : List Int := (List.range n.toNat).map (dirt l)
def firstD (n : Int) (b : Bool) (l : List Int) : List Int := if okPl n b l then dirty0 n l else []
@[simp] theorem dirty0_len (n : Int) (l : List Int) : (dirty0 n l).length = n.toNat := by simp [dirty0]
end Sx
/- Plain words about gaps and walks. -/
namespace Sx
def gap (n : Int) (b : Bool) (x y : Int) : Int := if b = true then min (max (x - y) (y - x)) (n - max (x - y) (y - x)) else max (x - y) (y - x)
/-- Steps of the first k places lead to neighbors. -/
def near (n : Int) (b : Bool) (w : List Int) (k : Nat) : Prop := ∀ i, i + 1 < k → ∀ h : i + 1 < w.length, gap n b w[i] w[i + 1] ≤ 1
abbrev onW (n : Int) (w : List Int) : Prop := ∀ x ∈ w, 0 ≤ x ∧ x < n
def walk (n : Int) (b : Bool) (w : List Int) : Prop := (1 ≤ (w.length : Int) ∧ (w.length : Int) ≤ 61) ∧ onW n w ∧ near n b w w.length
open Classical in
noncomputable instance (n : Int) (b : Bool) (w : List Int) : Decidable (walk n b w) := propDecidable _
abbrev intss (L : List (List Int)) : AV := .sl 1 (L.map ints)
def walks (n : Int) (b : Bool) (L : List (List Int)) : Prop := ∀ w ∈ L, walk n b w
open Classical in
noncomputable instance (n : Int) (b : Bool) (L : List (List Int)) : Decidable (walks n b L) := propDecidable _
def chasers (n : Int) (b : Bool) (L : List (List Int)) : Prop := road n b ∧ walks n b L ∧ 1 ≤ (L.length : Int) ∧ (L.length : Int) ≤ 3
open Classical in
noncomputable instance (n : Int) (b : Bool) (L : List (List Int)) : Decidable (chasers n b L) := propDecidable _
/-! the first that is so -/
open Classical in
noncomputable def fIx {α : Type} (p : α → Prop) (L : List α) : Int := if ∃ l ∈ L, p l then (L.findIdx (fun l => decide (p l)) : Nat) else -1
theorem fIx_here {α : Type} {p : α → Prop} {L : List α} {k : Nat} (hk : k < L.length) (h : ∀ l ∈ L.take k, ¬ p l) (e : p L[k]) : fIx p L = k := by
  unfold fIx
  rw [if_pos ⟨_, List.getElem_mem hk, e⟩]
  congr 1
  rw [List.findIdx_eq hk]
  refine ⟨by simpa using e, fun j hj => ?_⟩
  have := h L[j] (by rw [List.mem_take_iff_getElem]; exact ⟨j, by omega, rfl⟩)
  simpa using this
/-! sizes of arguments -/
def szF : List (List Int) → Int → Int
  | [], left => left
  | l :: ls, left => if left - l.length < 0 then -1 else szF ls (left - l.length)
def szSS (L : List (List Int)) (left : Int) : Int := if left - L.length < 0 then -1 else szF L (left - L.length)
end Sx
/- Plain words about dirty lists. -/
namespace Sx
open Classical in
noncomputable def ind (n : Nat) (S : Nat → Prop) : List Int := (List.range n).map fun q => if S q then (1 : Int) else 0
@[simp] theorem ind_len (n : Nat) (S : Nat → Prop) : (ind n S).length = n := by simp [ind]
def nbrs (n : Int) (b : Bool) (p : Int) : List Int := ((List.range n.toNat).filter fun q : Nat => decide (gap n b p (q : Int) = 1)).map fun q : Nat => (q : Int)
def passes (fr to : List Int) (p q : Int) : Prop := ∃ x ∈ fr.zip to, p ≠ q ∧ x.1 = q ∧ x.2 = p
def caught (fr to : List Int) (p q : Int) : Prop := ∃ x ∈ fr.zip to, x.2 = q ∨ (p ≠ q ∧ x.1 = q ∧ x.2 = p)
open Classical in
noncomputable instance (fr to : List Int) (p q : Int) : Decidable (passes fr to p q) := propDecidable _
open Classical in
noncomputable instance (fr to : List Int) (p q : Int) : Decidable (caught fr to p q) := propDecidable _
/-- A fugitive at p comes to q. -/
def runs (n : Int) (b : Bool) (dirty fr to : List Int) (p q : Nat) : Prop := dirty.getD p 0 ≠ 0 ∧ gap n b p q ≤ 1 ∧ ¬ caught fr to p q
noncomputable def stepD (n : Int) (b : Bool) (dirty fr to : List Int) : List Int := ind n.toNat fun q => ∃ p, p < n.toNat ∧ runs n b dirty fr to p q
@[simp] theorem stepD_len (n : Int) (b : Bool) (dirty fr to : List Int) : (stepD n b dirty fr to).length = n.toNat := ind_len _ _
abbrev bits (n : Int) (dirty : List Int) : Prop := (∀ x ∈ dirty, 0 ≤ x ∧ x ≤ 1) ∧ (dirty.length : Int) = n
def okStep (n : Int) (b : Bool) (dirty fr to : List Int) : Prop := okPl n b fr ∧ okPl n b to ∧ fr.length = to.length ∧ bits n dirty ∧ ∀ x ∈ fr.zip to, gap n b x.1 x.2 ≤ 1
open Classical in
noncomputable instance (n : Int) (b : Bool) (dirty fr to : List Int) : Decidable (okStep n b dirty fr to) := propDecidable _
noncomputable def stepR (n : Int) (b : Bool) (dirty fr to : List Int) : List Int := if okStep n b dirty fr to then stepD n b dirty fr to else []
end Sx
/- Plain words about places at a time, and free walks. -/
namespace Sx
def atZ (w : List Int) (t : Int) : Int := w.getD (min t ((w.length : Int) - 1)).toNat 0
def plAt (L : List (List Int)) (t : Int) : List Int := L.map fun w => atZ w t
@[simp] theorem plAt_len (L : List (List Int)) (t : Int) : (plAt L t).length = L.length := by simp [plAt]
abbrev lenOk (L : List (List Int)) : Prop := ∀ w ∈ L, 1 ≤ w.length ∧ w.length ≤ 61
def lng (L : List (List Int)) : Int := L.foldl (fun m w => max m (w.length : Int)) 0
/-- Never caught. -/
def sFree (L : List (List Int)) (w : List Int) : Prop := ∀ (t : Nat) (h : t < w.length), w[t] ∉ plAt L t ∧ ∀ _ : 0 < t, ¬ passes (plAt L ((t : Int) - 1)) (plAt L t) (w[t - 1]'(by omega)) w[t]
open Classical in
noncomputable instance (L : List (List Int)) (w : List Int) : Decidable (sFree L w) := propDecidable _
def isFree (n : Int) (b : Bool) (L : List (List Int)) (w : List Int) : Prop := chasers n b L ∧ walk n b w ∧ (w.length : Int) = lng L ∧ sFree L w
open Classical in
noncomputable instance (n : Int) (b : Bool) (L : List (List Int)) (w : List Int) : Decidable (isFree n b L w) := propDecidable _
end Sx
/- Plain words about yards. -/
namespace Sx
def sen (x : Int × Int) : AV := .agg [i64 x.1, i64 x.2]
def car (x : Int × Int × Int) : AV := .agg [i64 x.1, i64 x.2.1, i64 x.2.2]
abbrev sens (S : List (Int × Int)) : AV := .sl 2 (S.map sen)
abbrev cars (K : List (Int × Int × Int)) : AV := .sl 3 (K.map car)
abbrev rowS (S : List (Int × Int)) : Ent := .row .plain 2 (S.map sen)
abbrev rowK (K : List (Int × Int × Int)) : Ent := .row .plain 3 (K.map car)
def sensOk (n : Int) (S : List (Int × Int)) : Prop := (∀ s ∈ S, (0 ≤ s.1 ∧ s.1 < n) ∧ 0 ≤ s.2 ∧ s.2 ≤ 12) ∧ (S.length : Int) ≤ 6
def carsOk (n : Int) (K : List (Int × Int × Int)) : Prop := (∀ s ∈ K, (0 ≤ s.1 ∧ s.1 < n) ∧ (0 ≤ s.2.1 ∧ s.2.1 ≤ 48) ∧ 0 ≤ s.2.2 ∧ s.2.2 ≤ 20) ∧ (K.length : Int) ≤ 6
abbrev lineP (n : Int) (b : Bool) : Prop := road n b ∧ ¬ b = true
open Classical in
noncomputable instance (n : Int) (S : List (Int × Int)) : Decidable (sensOk n S) := propDecidable _
open Classical in
noncomputable instance (n : Int) (S : List (Int × Int × Int)) : Decidable (carsOk n S) := propDecidable _
structure Yd where
  n : Int
  b : Bool
  w : List Int
  S : List (Int × Int)
  K : List (Int × Int × Int)
  c : Int
open Classical in
noncomputable instance : DecidableEq Yd := fun _ _ => propDecidable _
theorem Yd.ext' {y z : Yd} (h1 : y.n = z.n ∧ y.b = z.b) (h2 : y.w = z.w) (h3 : y.S = z.S) (h4 : y.K = z.K) (h5 : y.c = z.c) : y = z := by
  cases y; cases z; simp_all
abbrev yv (y : Yd) : AV := .agg [i64 y.n, bv y.b, ints y.w, sens y.S, cars y.K, i64 y.c]
def good (y : Yd) : Prop := lineP y.n y.b ∧ walk y.n y.b y.w ∧ sensOk y.n y.S ∧ carsOk y.n y.K ∧ 0 ≤ y.c ∧ y.c ≤ 1000
open Classical in
noncomputable instance (y : Yd) : Decidable (good y) := propDecidable _
/-- Sizes fit. -/
abbrev fitY (m : Nat) (y : Yd) : Prop := y.w.length ≤ m ∧ y.S.length ≤ m ∧ y.K.length ≤ m
def marksS (k : Int) (n : Nat) : List (Int × Int) := (List.range n).map fun i => (k + 2 * (i : Nat), k + 2 * (i : Nat) + 1)
def marksK (k : Int) (n : Nat) : List (Int × Int × Int) := (List.range n).map fun i => (k + 3 * (i : Nat), k + 3 * (i : Nat) + 1, k + 3 * (i : Nat) + 2)
@[simp] theorem marksS_len (k : Int) (n : Nat) : (marksS k n).length = n := by simp [marksS]
@[simp] theorem marksK_len (k : Int) (n : Nat) : (marksK k n).length = n := by simp [marksK]
def szY (y : Yd) (l : Int) : Int := if l - y.w.length < 0 then -1 else if l - y.w.length - y.S.length < 0 then -1 else if l - y.w.length - y.S.length - y.K.length < 0 then -1 else l - y.w.length - y.S.length - y.K.length
end Sx
/- Plain words about the dirty lists of a chase. -/
namespace Sx
noncomputable def dirtN (n : Int) (b : Bool) (L : List (List Int)) : Nat → List Int
  | 0 => dirty0 n (plAt L 0)
  | t + 1 => stepD n b (dirtN n b L t) (plAt L (t : Int)) (plAt L ((t : Int) + 1))
noncomputable def dirts (n : Int) (b : Bool) (L : List (List Int)) (m : Nat) : List (List Int) := (List.range m).map (dirtN n b L)
@[simp] theorem dirts_len (n : Int) (b : Bool) (L : List (List Int)) (m : Nat) : (dirts n b L m).length = m := by simp [dirts]
def dirtOk (n : Int) (b : Bool) (L : List (List Int)) (t : Int) : Prop := chasers n b L ∧ 0 ≤ t ∧ t ≤ 60
open Classical in
noncomputable instance (n : Int) (b : Bool) (L : List (List Int)) (t : Int) : Decidable (dirtOk n b L t) := propDecidable _
noncomputable def dirtR (n : Int) (b : Bool) (L : List (List Int)) (t : Int) : List Int := if dirtOk n b L t then dirtN n b L t.toNat else []
def tot (L : List (List Int)) : Nat := (L.map List.length).sum
end Sx
/- Plain words about ways that are never caught. -/
namespace Sx
set_option linter.unusedSimpArgs false
set_option linter.unusedVariables false
def sumR (k : Nat) (g : Nat → Int) : Int := ((List.range k).map g).sum
/-- A step that no chaser passes. -/
def okq (n : Int) (b : Bool) (L : List (List Int)) (t : Nat) (p q : Nat) : Prop := gap n b p q ≤ 1 ∧ ¬ passes (plAt L t) (plAt L ((t : Int) + 1)) p q
open Classical in
noncomputable instance (n : Int) (b : Bool) (L : List (List Int)) (t p q : Nat) : Decidable (okq n b L t p q) := propDecidable _
noncomputable def wyF (n : Int) (b : Bool) (L : List (List Int)) (T : Nat) (most : Int) : Nat → Nat → Int
  | 0, p => if (p : Int) ∈ plAt L T then 0 else 1
  | f + 1, p => if (p : Int) ∈ plAt L ((T - (f + 1) : Nat) : Int) then 0 else min (sumR n.toNat fun q => if okq n b L (T - (f + 1)) p q then wyF n b L T most f q else 0) most
noncomputable def wy (n : Int) (b : Bool) (L : List (List Int)) (T : Nat) (most : Int) (t p : Nat) : Int := wyF n b L T most (T - t) p
section
variable {n : Int} {b : Bool} {L : List (List Int)} {T : Nat} {most : Int}
/-- What the program adds up. -/
noncomputable def implS (n : Int) (b : Bool) (L : List (List Int)) (t p : Nat) (w : Nat → Int) (N : List Int) : Int := by
  classical exact (N.map fun q => if caught (plAt L t) (plAt L ((t : Int) + 1)) p q then 0 else w q.toNat).sum
/-- alive -/
def aliv (n : Int) (b : Bool) (L : List (List Int)) (T t p : Nat) : Prop := wy n b L T 1 t p ≠ 0
open Classical in
noncomputable instance (t p : Nat) : Decidable (aliv n b L T t p) := propDecidable _
/-- The next place of the walk. -/
def nextP (n : Int) (b : Bool) (L : List (List Int)) (T t : Nat) (out : List Int) (q : Nat) : Prop :=
  aliv n b L T t q ∧ (t = 0 ∨ gap n b (out.getD (t - 1) 0) q ≤ 1 ∧ ¬ passes (plAt L ((t : Int) - 1)) (plAt L t) (out.getD (t - 1) 0) q)
open Classical in
noncomputable instance (t : Nat) (out : List Int) (q : Nat) : Decidable (nextP n b L T t out q) := propDecidable _
noncomputable def nextQ (n : Int) (b : Bool) (L : List (List Int)) (T t : Nat) (out : List Int) : Option Nat := (List.range n.toNat).find? fun q => decide (nextP n b L T t out q)
noncomputable def fwN (n : Int) (b : Bool) (L : List (List Int)) (T : Nat) : Nat → Option (List Int)
  | 0 => some []
  | t + 1 => (fwN n b L T t).bind fun l => (nextQ n b L T t l).map fun q : Nat => l ++ [(q : Int)]
end
open Classical in
noncomputable def chaseE (n : Int) (b : Bool) (L : List (List Int)) : Int := if chasers n b L then fIx (fun d => ¬ (1 : Int) ∈ d) (dirts n b L 61) else -1
end Sx
/- Plain words: dirty places counted, sensors that see a place. -/
namespace Sx
set_option linter.unusedSimpArgs false
set_option linter.unusedVariables false
open Classical in
noncomputable def cntsR (n : Int) (b : Bool) (L : List (List Int)) : List Int := if chasers n b L then (dirts n b L (lng L).toNat).map List.sum else []
/-- How many sensors see a place. -/
def seenC (n : Int) (b : Bool) (S : List (Int × Int)) (p : Nat) : Int := ((S.filter fun s => decide (gap n b s.1 p ≤ s.2)).length : Nat)
def seenL (n : Int) (b : Bool) (S : List (Int × Int)) : List Int := (List.range n.toNat).map (seenC n b S)
@[simp] theorem seenL_len (n : Int) (b : Bool) (S : List (Int × Int)) : (seenL n b S).length = n.toNat := by simp [seenL]
/-- The list while it is filled: places below p are done, p has looked at k sensors. -/
def seenK (n : Int) (b : Bool) (S : List (Int × Int)) (p k : Nat) : List Int := (List.range n.toNat).map fun q => if q < p then seenC n b S q else if q = p then seenC n b (S.take k) q else 0
@[simp] theorem seenK_len (n : Int) (b : Bool) (S : List (Int × Int)) (p k : Nat) : (seenK n b S p k).length = n.toNat := by simp [seenK]
def watchL (y : Yd) : List Int := y.w.map fun p => (seenL y.n y.b y.S).getD p.toNat 0
open Classical in
noncomputable def watchR (y : Yd) : List Int := if good y then watchL y else []
noncomputable def yNorm (y : Yd) : Yd := if good y then y else ⟨0, false, [], [], [], 0⟩
end Sx
/- Plain words: bytes of texts. -/
namespace Sx
/-- All bytes are within 32..126, and none is this one. -/
def clean (s : List UInt8) (x : Nat) : Prop := ∀ b ∈ s, 32 ≤ b.toNat ∧ b.toNat ≤ 126 ∧ b.toNat ≠ x
def plainB (s : List UInt8) : Prop := ∀ b ∈ s, 32 ≤ b.toNat ∧ b.toNat ≤ 126
instance (s : List UInt8) (x : Nat) : Decidable (clean s x) := by unfold clean; infer_instance
instance (s : List UInt8) : Decidable (plainB s) := by unfold plainB; infer_instance
/-- A record is valid. -/
def recOk (c r : List UInt8) : Prop := c ≠ [] ∧ (clean c 35 ∧ (c.length : Int) ≤ 160) ∧ (¬ ∃ b ∈ c, b.toNat = 64) ∧ clean r 35 ∧ (r.length : Int) ≤ 250
instance (c r : List UInt8) : Decidable (recOk c r) := by unfold recOk; infer_instance
abbrev rec2 (c r : List UInt8) : AV := .agg [.str c, .str r]
def fitS (s : List UInt8) : Prop := s.length ≤ 9223372036854775807
end Sx
/- Plain words: texts, their parts and their seals. -/
namespace Sx
open Go
/-- What stands before a byte, and behind it. -/
def bef (c : UInt8) (s : List UInt8) : List UInt8 := s.takeWhile (fun b => b != c)
def aft (c : UInt8) (s : List UInt8) : List UInt8 := s.drop ((bef c s).length + 1)
/-- The sum of a text. -/
def sumB (s : List UInt8) : Int := s.foldl (fun h b => (41 * h + (b.toNat : Int) + 1) % 999979) 7
def sealB (s : List UInt8) : List UInt8 := s ++ [35] ++ Lib.itoa (sumB s)
/-- The parts of a text between bytes of a kind. -/
def spl (c : UInt8) (s : List UInt8) : Nat → List (List UInt8) × Nat
  | 0 => ([], 0)
  | k + 1 => if s.getD k 0 = c then ((spl c s k).1 ++ [(s.take k).drop (spl c s k).2], k + 1) else spl c s k
def splitB (c : UInt8) (s : List UInt8) : List (List UInt8) := (spl c s s.length).1 ++ [s.drop (spl c s s.length).2]
/-- A text can be sealed; a text is sealed. -/
def acOk (s : List UInt8) : Prop := (s.length : Int) ≤ 4000 ∧ (35 : UInt8) ∉ s ∧ ((sealB s).length : Int) ≤ 4000
instance (s : List UInt8) : Decidable (acOk s) := by unfold acOk; infer_instance
def vcOk (s : List UInt8) : Prop := acOk (bef 35 s) ∧ sealB (bef 35 s) = s
instance (s : List UInt8) : Decidable (vcOk s) := by unfold vcOk; infer_instance
abbrev rowT (L : List (List UInt8)) : Ent := .row .plain 1 (L.map AV.str)
end Sx
/- Plain words: records in a text. -/
namespace Sx
open Go
def textB (k : Int) (c r : List UInt8) : List UInt8 := Lib.itoa k ++ [32] ++ c ++ [64] ++ r
def lineB (k : Int) (c r : List UInt8) : List UInt8 := sealB (textB k c r) ++ [10]
def encOk (k : Int) (c r : List UInt8) : Prop := (0 ≤ k ∧ k ≤ 59) ∧ recOk c r
instance (k : Int) (c r : List UInt8) : Decidable (encOk k c r) := by unfold encOk; infer_instance
/-- A line holds a record. -/
def okL2 (k : Int) (L : List UInt8) : Prop := ∃ c r, recOk c r ∧ sealB (textB k c r) = L
noncomputable instance (k : Int) (L : List UInt8) : Decidable (okL2 k L) := Classical.propDecidable _
def cB (L : List UInt8) : List UInt8 := bef 64 (aft 32 (bef 35 L))
def rB (L : List UInt8) : List UInt8 := aft 64 (aft 32 (bef 35 L))
/-- Where the j-th line begins, and what it is. -/
def atB (s : List UInt8) : Nat → Nat
  | 0 => 0
  | j + 1 => atB s j + (bef 10 (s.drop (atB s j))).length + 1
def lnB (s : List UInt8) (j : Nat) : List UInt8 := bef 10 (s.drop (atB s j))
def goodB (s : List UInt8) (j : Nat) : Prop := (10 : UInt8) ∈ s.drop (atB s j) ∧ okL2 (j : Int) (lnB s j)
noncomputable instance (s : List UInt8) (j : Nat) : Decidable (goodB s j) := Classical.propDecidable _
def recB (s : List UInt8) (j : Nat) : List UInt8 × List UInt8 := (cB (lnB s j), rB (lnB s j))
noncomputable def cntF (s : List UInt8) : Nat → Nat → Nat
  | 0, j => j
  | f + 1, j => if goodB s j then cntF s f (j + 1) else j
noncomputable def cntB (s : List UInt8) : Nat := cntF s 60 0
noncomputable def recsB (s : List UInt8) : List (List UInt8 × List UInt8) := (List.range (cntB s)).map (recB s)
noncomputable def endsB (s : List UInt8) : List Int := (List.range (cntB s + 1)).map fun j => (atB s j : Int)
def recsTo (s : List UInt8) (j : Nat) : List (List UInt8 × List UInt8) := (List.range j).map (recB s)
def endsTo (s : List UInt8) (j : Nat) : List Int := (List.range (j + 1)).map fun j => (atB s j : Int)
@[simp] theorem recsTo_len (s : List UInt8) (j : Nat) : (recsTo s j).length = j := by simp [recsTo]
@[simp] theorem endsTo_len (s : List UInt8) (j : Nat) : (endsTo s j).length = j + 1 := by simp [endsTo]
abbrev rcv (p : List UInt8 × List UInt8) : AV := .agg [.str p.1, .str p.2]
abbrev rowE (L : List (List UInt8 × List UInt8)) : Ent := .row .plain 2 (L.map rcv)
noncomputable def rcvS (s : List UInt8) : List UInt8 := if s.length ≤ 30000 then s.take (atB s (cntB s)) else []
noncomputable def rcvC (s : List UInt8) : Int := if s.length ≤ 30000 then (cntB s : Int) else 0
noncomputable def rcvN (s : List UInt8) : Int := if s.length ≤ 30000 then (atB s (cntB s) : Int) else 0
end Sx
/- Plain words: valid logs. -/
namespace Sx
/-- A log is valid. -/
def logOk (D P : List UInt8) (n : Int) : Prop := (D.length : Int) + P.length ≤ 30000 ∧ (atB (D ++ P) (cntB (D ++ P)) : Int) = (D.length : Int) + P.length ∧ (atB D (cntB D) : Int) = D.length ∧ (cntB (D ++ P) : Int) = n
noncomputable instance (D P : List UInt8) (n : Int) : Decidable (logOk D P n) := Classical.propDecidable _
abbrev lgv (D P : List UInt8) (n : Int) : AV := .agg [.str D, .str P, i64 n]
def apOk (D P : List UInt8) (n : Int) (c r : List UInt8) : Prop := (logOk D P n ∧ recOk c r) ∧ n ≠ 60
noncomputable instance (D P : List UInt8) (n : Int) (c r : List UInt8) : Decidable (apOk D P n c r) := Classical.propDecidable _
noncomputable def apP (D P : List UInt8) (n : Int) (c r : List UInt8) : List UInt8 := if apOk D P n c r then P ++ lineB n c r else P
noncomputable def apN (D P : List UInt8) (n : Int) (c r : List UInt8) : Int := if apOk D P n c r then n + 1 else n
noncomputable def apC (D P : List UInt8) (n : Int) (c r : List UInt8) : Int := if apOk D P n c r then 0 else if logOk D P n ∧ recOk c r then 2 else 1
end Sx
/- Plain words: crashes. -/
namespace Sx
abbrev i8 (b : UInt8) : AV := .int .u8 (b.toNat : Int)
/-- A byte is turned. -/
def flipB (bs : List UInt8) (i : Nat) : List UInt8 := bs.set i (UInt8.ofNat (255 - (bs.getD i 0).toNat))
@[simp] theorem flip_len (b : List UInt8) (i : Nat) : (flipB b i).length = b.length := by simp [flipB]
def crOk (D P : List UInt8) (n q : Int) : Prop := logOk D P n ∧ 0 ≤ q ∧ q ≤ P.length
noncomputable instance (D P : List UInt8) (n q : Int) : Decidable (crOk D P n q) := Classical.propDecidable _
/-- What is left. -/
def leftB (D P : List UInt8) (q : Nat) (t : Bool) : List UInt8 := if t = true ∧ 0 < q then D ++ flipB (P.take q) (q - 1) else D ++ P.take q
noncomputable def crS (D P : List UInt8) (n q : Int) (t : Bool) : List UInt8 := if crOk D P n q then leftB D P q.toNat t else []
/-- The text of a mark. -/
def mkT (k : Int) : List UInt8 := if k ≤ 0 then [109, 48] else [109] ++ Go.Lib.itoa k
/-- What is written is the end of the number's text. -/
def tailT2 (m : Int) (o : List UInt8) (k : Int) : Prop := (if m ≤ 0 then [] else Go.Lib.itoa m) ++ o = Go.Lib.itoa k
abbrev conv (y : Yd) (D P : List UInt8) (n : Int) : AV := .agg [i64 y.n, bv y.b, ints y.w, sens y.S, cars y.K, i64 y.c, .str D, .str P, i64 n]
def marksT (k : Int) (n : Nat) : List (List UInt8 × List UInt8) := (List.range n).map fun i => (mkT (k + 2 * (i : Nat)), mkT (k + 2 * (i : Nat) + 1))
@[simp] theorem marksT_len (k : Int) (n : Nat) : (marksT k n).length = n := by simp [marksT]
end Sx
/- Plain words: draws. -/
namespace Sx
/-- The reader of a code: the place and the seed. -/
abbrev cur (L : List UInt8) (a s : Int) : Ent := .row .var 3 [.agg [.sl 1 (L.map i8), i64 a, .int .u64 s]]
theorem and255 (a : Int) : 0 ≤ bitsOp .and .u64 a 255 ∧ bitsOp .and .u64 a 255 ≤ 255 := by
  unfold bitsOp
  dsimp only
  have h : ((BitVec.ofInt 64 a &&& BitVec.ofInt 64 255).toNat : Int) ≤ 255 := by
    rw [BitVec.toNat_and]
    have := @Nat.and_le_right (BitVec.ofInt 64 a).toNat (BitVec.ofInt 64 255).toNat
    have e : (BitVec.ofInt 64 255).toNat = 255 := by decide
    rw [e] at this ⊢
    omega
  show 0 ≤ Go.IntKind.u64.wrap ((BitVec.ofInt 64 a &&& BitVec.ofInt 64 255).toNat : Int) ∧ Go.IntKind.u64.wrap ((BitVec.ofInt 64 a &&& BitVec.ofInt 64 255).toNat : Int) ≤ 255
  generalize (BitVec.ofInt 64 a &&& BitVec.ofInt 64 255).toNat = x at h
  have hw : Go.IntKind.u64.wrap (x : Int) = (x : Int) := by
    unfold Go.IntKind.wrap
    simp [Go.IntKind.signed, Go.IntKind.bits]
    omega
  rw [hw]
  omega
@[simp] def allI : List AV → Prop
  | [] => True
  | .int .i64 _ :: es => allI es
  | _ => False
theorem allI_map : ∀ {es : List AV}, allI es → ∃ l : List Int, es = l.map i64
  | [], _ => ⟨[], rfl⟩
  | .int .i64 n :: es, h => let ⟨l, e⟩ := allI_map (es := es) h; ⟨n :: l, by rw [e]; rfl⟩
theorem i8_bd (b : UInt8) : 0 ≤ (b.toNat : Int) ∧ (b.toNat : Int) ≤ 255 := by have := b.toNat_lt; omega
def sdN (s b : Int) : Int := Go.IntKind.u64.wrap (Go.IntKind.u64.wrap (Go.IntKind.u64.wrap (s * 6364136223846793005) + Go.IntKind.u64.wrap b) + 462197)
theorem num255 {A : Int} {K : AV → Prop} (h : ∀ x : Int, 0 ≤ x → x ≤ 255 → K (.int .i64 x)) : num .i64 (Go.IntKind.i64.wrap (bitsOp .and .u64 A 255)) K := by
  have := and255 A
  refine nw (by omega) (by omega) (h _ this.1 this.2)
theorem pureM {α : Type} {f : α → AV} {s : Nat} {l : List α} (h : ∀ a, pure2 (f a) = true) : pureE (.row .plain s (l.map f)) := by
  intro e he
  obtain ⟨a, _, rfl⟩ := List.mem_map.1 he
  exact h a
end Sx
/- Plain words: lists that are sorted and compared. -/
namespace Sx
/-- How two lists compare. -/
def cmpL : List Int → List Int → Int
  | [], [] => 0
  | [], _ :: _ => -1
  | _ :: _, [] => 1
  | a :: as, b :: bs => if a < b then -1 else if b < a then 1 else cmpL as bs
theorem cmpL_self : ∀ l : List Int, cmpL l l = 0
  | [] => rfl
  | a :: l => by unfold cmpL; rw [if_neg (Int.lt_irrefl a), if_neg (Int.lt_irrefl a)]; exact cmpL_self l
theorem cmpL_drop {a b : List Int} {k : Nat} (ha : k < a.length) (hb : k < b.length) (h : a[k] = b[k]) : cmpL (a.drop k) (b.drop k) = cmpL (a.drop (k + 1)) (b.drop (k + 1)) := by
  rw [List.drop_eq_getElem_cons ha, List.drop_eq_getElem_cons hb, h]
  conv => lhs; unfold cmpL
  rw [if_neg (Int.lt_irrefl _), if_neg (Int.lt_irrefl _)]
theorem cmpL_lt {a b : List Int} {k : Nat} (ha : k < a.length) (hb : k < b.length) (h : a[k] < b[k]) : cmpL (a.drop k) (b.drop k) = -1 := by
  rw [List.drop_eq_getElem_cons ha, List.drop_eq_getElem_cons hb]
  unfold cmpL
  rw [if_pos h]
theorem cmpL_gt {a b : List Int} {k : Nat} (ha : k < a.length) (hb : k < b.length) (h : b[k] < a[k]) : cmpL (a.drop k) (b.drop k) = 1 := by
  rw [List.drop_eq_getElem_cons ha, List.drop_eq_getElem_cons hb]
  unfold cmpL
  rw [if_neg (by omega), if_pos h]
theorem cmpL_end {a b : List Int} {k : Nat} (ha : a.length ≤ k) : cmpL (a.drop k) (b.drop k) = if b.length ≤ k then 0 else -1 := by
  rw [List.drop_of_length_le ha]
  by_cases h : b.length ≤ k
  · rw [if_pos h, List.drop_of_length_le h]; rfl
  · rw [if_neg h, List.drop_eq_getElem_cons (by omega)]; rfl
theorem cmpL_end2 {a b : List Int} {k : Nat} (ha : k < a.length) (hb : b.length ≤ k) : cmpL (a.drop k) (b.drop k) = 1 := by
  rw [List.drop_of_length_le hb, List.drop_eq_getElem_cons ha]; rfl
/-- A list is sorted up to a place, but for one element that is on its way. -/
def sortI (X : List Int) (i j : Nat) : Prop := ∀ p q, p < q → q ≤ i → q ≠ j → X.getD p 0 ≤ X.getD q 0
def sortU (X : List Int) (i : Nat) : Prop := ∀ p q, p < q → q < i → X.getD p 0 ≤ X.getD q 0
theorem sortI_start {X : List Int} {i : Nat} (h : sortU X i) : sortI X i i := fun p q h1 h2 h3 => h p q h1 (by omega)
theorem sortI_end {X : List Int} {i j : Nat} (h : sortI X i j) (hj : j = 0 ∨ X.getD (j - 1) 0 ≤ X.getD j 0) : sortU X (i + 1) := fun p q h1 h2 => by
  by_cases e : q = j
  · subst e
    rcases hj with hj | hj
    · omega
    · by_cases e2 : p = q - 1
      · subst e2; exact hj
      · have := h p (q - 1) (by omega) (by omega) (by omega)
        omega
  · exact h p q h1 (by omega) e
theorem getD_setX {X : List Int} {k m : Nat} {x : Int} (h : k < X.length) : (X.set k x).getD m 0 = if k = m then x else X.getD m 0 := by
  rw [List.getD_eq_getElem?_getD, List.getElem?_set]
  split
  · rename_i e
    subst e
    rfl
  · rw [← List.getD_eq_getElem?_getD]
def swp (X : List Int) (j : Nat) : List Int := (X.set j (X.getD (j - 1) 0)).set (j - 1) (X.getD j 0)
@[simp] theorem swp_len (X : List Int) (j : Nat) : (swp X j).length = X.length := by simp [swp]
theorem swp_get {X : List Int} {j m : Nat} (hj : 0 < j) (h : j < X.length) : (swp X j).getD m 0 = if m = j - 1 then X.getD j 0 else if m = j then X.getD (j - 1) 0 else X.getD m 0 := by
  unfold swp
  rw [getD_setX (by rw [List.length_set]; omega), getD_setX h]
  by_cases e : m = j - 1
  · rw [if_pos e.symm, if_pos e]
  · rw [if_neg (show ¬ j - 1 = m from fun x => e x.symm), if_neg e]
    by_cases e2 : m = j
    · rw [if_pos e2.symm, if_pos e2]
    · rw [if_neg (show ¬ j = m from fun x => e2 x.symm), if_neg e2]
theorem sortI_swp {X : List Int} {i j : Nat} (hj : 0 < j) (hji : j ≤ i) (hi : i < X.length) (h : sortI X i j) (hlt : X.getD j 0 < X.getD (j - 1) 0) : sortI (swp X j) i (j - 1) := fun p q h1 h2 h3 => by
  rw [swp_get hj (by omega), swp_get hj (by omega), if_neg h3]
  by_cases e : q = j
  · rw [if_pos e]
    by_cases e2 : p = j - 1
    · rw [if_pos e2]; omega
    · rw [if_neg e2, if_neg (by omega)]
      exact h p (j - 1) (by omega) (by omega) (by omega)
  · rw [if_neg e]
    by_cases e2 : p = j - 1
    · rw [if_pos e2]; subst e2; exact h j q (by omega) h2 e
    · rw [if_neg e2]
      by_cases e3 : p = j
      · rw [if_pos e3]; exact h (j - 1) q (by omega) h2 e
      · rw [if_neg e3]; exact h p q h1 h2 e
theorem swp_perm {X : List Int} {j : Nat} (hj : 0 < j) (h : j < X.length) : (swp X j).Perm X := by
  have e1 : X.getD (j - 1) 0 = X[j - 1] := by rw [List.getD_eq_getElem?_getD, List.getElem?_eq_getElem (by omega)]; rfl
  have e2 : X.getD j 0 = X[j] := by rw [List.getD_eq_getElem?_getD, List.getElem?_eq_getElem h]; rfl
  unfold swp
  rw [e1, e2]
  exact List.set_set_perm h (by omega)
theorem sortU_pw {X : List Int} (h : sortU X X.length) : X.Pairwise (· ≤ ·) := by
  rw [List.pairwise_iff_getElem]
  intro i j hi hj hij
  have := h i j hij hj
  rwa [List.getD_eq_getElem?_getD, List.getD_eq_getElem?_getD, List.getElem?_eq_getElem hi, List.getElem?_eq_getElem hj] at this
/-- The numbers below n that a list has, in order. -/
def srt (n : Int) (l : List Int) : List Int := ((List.range n.toNat).filter fun q : Nat => decide ((q : Int) ∈ l)).map fun q : Nat => (q : Int)
theorem srt_mem {n : Int} {l : List Int} {x : Int} : x ∈ srt n l ↔ (0 ≤ x ∧ x < n) ∧ x ∈ l := by
  unfold srt
  rw [List.mem_map]
  constructor
  · rintro ⟨q, hq, rfl⟩
    rw [List.mem_filter, List.mem_range, decide_eq_true_eq] at hq
    exact ⟨by omega, hq.2⟩
  · rintro ⟨h, hl⟩
    refine ⟨x.toNat, ?_, by omega⟩
    rw [List.mem_filter, List.mem_range, decide_eq_true_eq]
    exact ⟨by omega, by rwa [show ((x.toNat : Nat) : Int) = x by omega]⟩
theorem srt_pw (n : Int) (l : List Int) : (srt n l).Pairwise (· < ·) := by
  unfold srt
  rw [List.pairwise_map]
  refine List.Pairwise.imp (fun h => by omega) (List.Pairwise.filter _ List.pairwise_lt_range)
/-- Two rising lists with the same members are the same. -/
theorem pw_eq : ∀ {a b : List Int}, a.Pairwise (· < ·) → b.Pairwise (· < ·) → (∀ x, x ∈ a ↔ x ∈ b) → a = b
  | [], [], _, _, _ => rfl
  | [], y :: b, _, _, h => absurd ((h y).2 (List.mem_cons_self ..)) (List.not_mem_nil)
  | x :: a, [], _, _, h => absurd ((h x).1 (List.mem_cons_self ..)) (List.not_mem_nil)
  | x :: a, y :: b, ha, hb, h => by
    rw [List.pairwise_cons] at ha hb
    have e : x = y := by
      rcases List.mem_cons.1 ((h x).1 (List.mem_cons_self ..)) with e | e
      · exact e
      · rcases List.mem_cons.1 ((h y).2 (List.mem_cons_self ..)) with e2 | e2
        · exact e2.symm
        · have h1 := hb.1 x e
          have h2 := ha.1 y e2
          omega
    subst e
    congr 1
    refine pw_eq ha.2 hb.2 fun z => ?_
    constructor
    · intro hz
      rcases List.mem_cons.1 ((h z).1 (List.mem_cons_of_mem _ hz)) with e | e
      · subst e; exact absurd (ha.1 z hz) (Int.lt_irrefl _)
      · exact e
    · intro hz
      rcases List.mem_cons.1 ((h z).2 (List.mem_cons_of_mem _ hz)) with e | e
      · subst e; exact absurd (hb.1 z hz) (Int.lt_irrefl _)
      · exact e
theorem srt_of {n : Int} {l M : List Int} (hp : M.Perm l) (hs : M.Pairwise (· ≤ ·)) (hn : l.Nodup) (hl : ∀ x ∈ l, 0 ≤ x ∧ x < n) : M = srt n l := by
  refine pw_eq ?_ (srt_pw n l) fun x => ?_
  · have hnM : M.Nodup := hp.nodup_iff.2 hn
    refine List.Pairwise.imp₂ (fun a b h1 h2 => ?_) hs hnM
    omega
  · rw [srt_mem]
    exact ⟨fun h => ⟨hl x (hp.mem_iff.1 h), hp.mem_iff.1 h⟩, fun h => hp.mem_iff.2 h.2⟩
theorem srt_len {n : Int} {l : List Int} (hn : l.Nodup) (hl : ∀ x ∈ l, 0 ≤ x ∧ x < n) : (srt n l).length = l.length := by
  have h := List.mergeSort_perm l (fun a b => decide (a ≤ b))
  have h2 := srt_of (n := n) h (by
    have := List.pairwise_mergeSort (le := fun a b : Int => decide (a ≤ b)) (by intro a b c h1 h2; simp at *; omega) (by intro a b; simp; omega) l
    exact List.Pairwise.imp (fun h => by simpa using h) this) hn hl
  rw [← h2]
  exact h.length_eq
end Sx
/- Plain words: crowds. -/
namespace Sx
def rise (l : List Int) (k : Nat) : Prop := ∀ i, i + 1 < k → l.getD i 0 < l.getD (i + 1) 0
noncomputable instance (l : List Int) (k : Nat) : Decidable (rise l k) := Classical.propDecidable _
def inR (n : Int) (l : List Int) : Prop := ∀ x ∈ l, 0 ≤ x ∧ x < n
def crowd (n : Int) (l : List Int) : Prop := ((3 ≤ n ∧ n ≤ 12) ∧ 1 ≤ (l.length : Int) ∧ (l.length : Int) ≤ 6) ∧ inR n l ∧ rise l l.length
noncomputable instance (n : Int) (l : List Int) : Decidable (crowd n l) := Classical.propDecidable _
theorem getI {l : List Int} {i : Nat} (h : i < l.length) : l.getD i 0 = l[i] := by rw [List.getD_eq_getElem?_getD, List.getElem?_eq_getElem h]; rfl
theorem rise_pw {l : List Int} (h : rise l l.length) : l.Pairwise (· < ·) := by
  rw [List.pairwise_iff_getElem]
  intro i j hi hj hij
  have key : ∀ d, i + 1 + d < l.length → l.getD i 0 < l.getD (i + 1 + d) 0 := fun d => by
    induction d with
    | zero => intro hd; exact h i hd
    | succ d ih =>
      intro hd
      have h1 := ih (by omega)
      have h2 := h (i + 1 + d) (by omega)
      rw [show i + 1 + (d + 1) = i + 1 + d + 1 by omega]
      omega
  have := key (j - i - 1) (by omega)
  rw [show i + 1 + (j - i - 1) = j by omega, getI hi, getI hj] at this
  exact this
theorem pw_rise {l : List Int} (h : l.Pairwise (· < ·)) : rise l l.length := fun i hi => by
  rw [getI (by omega), getI hi]
  exact List.pairwise_iff_getElem.1 h i (i + 1) (by omega) hi (by omega)
theorem pw_nodup {l : List Int} (h : l.Pairwise (· < ·)) : l.Nodup := List.Pairwise.imp (fun h e => by omega) h
theorem srt_self {n : Int} {l : List Int} (h1 : inR n l) (h2 : l.Pairwise (· < ·)) : srt n l = l :=
  pw_eq (srt_pw n l) h2 fun x => by rw [srt_mem]; exact ⟨fun h => h.2, fun h => ⟨h1 x h, h⟩⟩
theorem srt_in (n : Int) (l : List Int) : inR n (srt n l) := fun x hx => (srt_mem.1 hx).1
theorem nodup_map {l : List Int} {f : Int → Int} (hn : l.Nodup) (h : ∀ a ∈ l, ∀ b ∈ l, f a = f b → a = b) : (l.map f).Nodup := by
  refine List.pairwise_map.2 (List.Pairwise.imp_of_mem (fun {a b} ha hb hab e => hab (h a ha b hb e)) hn)
theorem wrap_u64 {z : Int} (h0 : 0 ≤ z) (h1 : z < 1000000) : Go.IntKind.u64.wrap z = z := by
  unfold Go.IntKind.wrap
  simp [Go.IntKind.signed, Go.IntKind.bits]
  omega
theorem swp_row {Y : List Int} {j : Nat} (h0 : 0 < j) (h : j < Y.length) : (((Y.set j (Y[j - 1]'(by omega))).set ((j : Int) - 1).toNat Y[j]).map i64) = (swp Y j).map i64 := by
  unfold swp
  rw [getI h, getI (by omega), show ((j : Int) - 1).toNat = j - 1 by omega]
/-- What a crowd becomes when its places go elsewhere. -/
def okF (n : Int) (l : List Int) (f : Int → Int) : Prop := (∀ a ∈ l, 0 ≤ f a ∧ f a < n) ∧ ∀ a ∈ l, ∀ b ∈ l, f a = f b → a = b
theorem okF_nodup {n : Int} {l : List Int} {f : Int → Int} (hc : crowd n l) (h : okF n l f) : (l.map f).Nodup ∧ ∀ x ∈ l.map f, 0 ≤ x ∧ x < n :=
  ⟨nodup_map (pw_nodup (rise_pw hc.2.2)) h.2, fun x hx => by obtain ⟨a, ha, rfl⟩ := List.mem_map.1 hx; exact h.1 a ha⟩
theorem moved_crowd {n : Int} {l : List Int} {f : Int → Int} (hc : crowd n l) (h : okF n l f) : crowd n (srt n (l.map f)) ∧ (srt n (l.map f)).length = l.length := by
  obtain ⟨h1, h2⟩ := okF_nodup hc h
  have hl := srt_len h1 h2
  rw [List.length_map] at hl
  exact ⟨⟨⟨hc.1.1, by rw [hl]; exact hc.1.2⟩, srt_in n _, pw_rise (srt_pw n _)⟩, hl⟩
theorem n_cases {n : Int} (h : 3 ≤ n ∧ n ≤ 12) : n = 3 ∨ n = 4 ∨ n = 5 ∨ n = 6 ∨ n = 7 ∨ n = 8 ∨ n = 9 ∨ n = 10 ∨ n = 11 ∨ n = 12 := by omega
def trF (n s : Int) (p : Int) : Int := (p + s) % n
def miF (n : Int) (p : Int) : Int := n - 1 - p
theorem trF_ok {n s : Int} {l : List Int} (hc : crowd n l) : okF n l (trF n s) := by
  have h3 := hc.2.1
  have hn := hc.1.1
  refine ⟨fun a ha => ?_, fun a ha b hb e => ?_⟩
  · unfold trF
    exact ⟨Int.emod_nonneg _ (by omega), Int.emod_lt_of_pos _ (by omega)⟩
  · have h1 := h3 a ha
    have h2 := h3 b hb
    unfold trF at e
    clear h3 hc ha hb
    rcases n_cases hn with h | h | h | h | h | h | h | h | h | h <;> subst h <;> omega
theorem miF_ok {n : Int} {l : List Int} (hc : crowd n l) : okF n l (miF n) := by
  have h3 := hc.2.1
  refine ⟨fun a ha => ?_, fun a ha b hb e => ?_⟩
  · have := h3 a ha; unfold miF; omega
  · unfold miF at e; omega
def trn (n s : Int) (l : List Int) : List Int := srt n (l.map (trF n s))
def mir (n : Int) (l : List Int) : List Int := srt n (l.map (miF n))
theorem trn_crowd {n s : Int} {l : List Int} (hc : crowd n l) : crowd n (trn n s l) ∧ (trn n s l).length = l.length := moved_crowd hc (trF_ok hc)
theorem mir_crowd {n : Int} {l : List Int} (hc : crowd n l) : crowd n (mir n l) ∧ (mir n l).length = l.length := moved_crowd hc (miF_ok hc)
theorem trn_0 {n : Int} {l : List Int} (hc : crowd n l) : trn n 0 l = l := by
  unfold trn
  have e : l.map (trF n 0) = l := by
    conv => rhs; rw [← List.map_id l]
    refine List.map_congr_left fun a ha => ?_
    have := hc.2.1 a ha
    unfold trF
    rw [Int.add_zero, Int.emod_eq_of_lt this.1 this.2]
    rfl
  rw [e, srt_self hc.2.1 (rise_pw hc.2.2)]
def less2 (a b : List Int) : List Int := if cmpL a b < 0 then a else b
theorem less2_yes {a b : List Int} (h : cmpL a b < 0) : less2 a b = a := if_pos h
theorem less2_no {a b : List Int} (h : ¬ cmpL a b < 0) : less2 a b = b := if_neg h
def formK (n : Int) (l : List Int) : Nat → List Int
  | 0 => l
  | k + 1 => less2 (trn n k (mir n l)) (less2 (trn n k l) (formK n l k))
def formR (n : Int) (l : List Int) : List Int := formK n l n.toNat
theorem less2_p {p : List Int → Prop} {a b : List Int} (ha : p a) (hb : p b) : p (less2 a b) := by
  unfold less2; split
  · exact ha
  · exact hb
theorem formK_crowd {n : Int} {l : List Int} (hc : crowd n l) : ∀ k, crowd n (formK n l k) ∧ (formK n l k).length = l.length
  | 0 => ⟨hc, rfl⟩
  | k + 1 => by
    have h1 := formK_crowd hc k
    have h2 := trn_crowd (s := k) hc
    have hm := mir_crowd hc
    have h3 := trn_crowd (s := k) hm.1
    exact less2_p (p := fun x => crowd n x ∧ x.length = l.length) ⟨h3.1, h3.2.trans hm.2⟩ (less2_p (p := fun x => crowd n x ∧ x.length = l.length) h2 h1)
/-- A number is put to its place. -/
theorem put_srt {n x : Int} {A : List Int} {k : Nat} (hx : 0 ≤ x ∧ x < n) (hk : k ≤ (srt n A).length) (h1 : ∀ y ∈ (srt n A).take k, y < x) (h2 : ∀ y ∈ (srt n A).drop k, x < y) : (srt n A).take k ++ [x] ++ (srt n A).drop k = srt n (A ++ [x]) := by
  have hp := srt_pw n A
  have hs : (srt n A).take k ++ (srt n A).drop k = srt n A := List.take_append_drop _ _
  refine pw_eq ?_ (srt_pw n _) fun y => ?_
  · rw [List.append_assoc, List.pairwise_append]
    rw [← hs, List.pairwise_append] at hp
    refine ⟨hp.1, ?_, fun a ha b hb => ?_⟩
    · rw [List.singleton_append, List.pairwise_cons]
      exact ⟨h2, hp.2.1⟩
    · rcases List.mem_append.1 hb with hb | hb
      · rw [List.mem_singleton.1 hb]; exact h1 a ha
      · exact hp.2.2 a ha b hb
  · rw [srt_mem]
    constructor
    · intro hy
      rcases List.mem_append.1 hy with hy | hy
      · rcases List.mem_append.1 hy with hy | hy
        · have := srt_mem.1 (List.mem_of_mem_take hy)
          exact ⟨this.1, List.mem_append.2 (.inl this.2)⟩
        · rw [List.mem_singleton.1 hy]
          exact ⟨hx, by simp⟩
      · have := srt_mem.1 (List.mem_of_mem_drop hy)
        exact ⟨this.1, List.mem_append.2 (.inl this.2)⟩
    · rintro ⟨hr, hy⟩
      rcases List.mem_append.1 hy with hy | hy
      · have : y ∈ srt n A := srt_mem.2 ⟨hr, hy⟩
        rw [← hs] at this
        rcases List.mem_append.1 this with h | h
        · exact List.mem_append.2 (.inl (List.mem_append.2 (.inl h)))
        · exact List.mem_append.2 (.inr h)
      · exact List.mem_append.2 (.inl (List.mem_append.2 (.inr hy)))
theorem put_e {S M : List Int} {k : Nat} {x : Int} (h : S.take k ++ [x] ++ S.drop k = M) : List.drop 0 (List.take k S) ++ [x] ++ List.drop k (List.take (List.map i64 S).length S) = M := by
  rw [← h, List.drop_zero, List.length_map, List.take_length]
theorem srt_le (n : Int) (l : List Int) : (srt n l).length ≤ n.toNat := by
  unfold srt
  rw [List.length_map]
  exact Nat.le_trans (List.length_filter_le _ _) (by rw [List.length_range]; exact Nat.le_refl _)
theorem srt_nil (n : Int) : srt n [] = [] := by unfold srt; simp
theorem img_new {n : Int} {l : List Int} {g : Int → Int} (hc : crowd n l) (hg : okF n l g) {k : Nat} (hk : k < l.length) : (0 ≤ g l[k] ∧ g l[k] < n) ∧ g l[k] ∉ srt n ((l.take k).map g) := by
  refine ⟨hg.1 _ (List.getElem_mem hk), fun h => ?_⟩
  obtain ⟨a, ha, e⟩ := List.mem_map.1 (srt_mem.1 h).2
  have e2 := hg.2 a (List.mem_of_mem_take ha) _ (List.getElem_mem hk) e
  obtain ⟨i, hi, e3⟩ := List.mem_iff_getElem.1 ha
  rw [List.length_take] at hi
  rw [List.getElem_take] at e3
  have := List.pairwise_iff_getElem.1 (rise_pw hc.2.2) i k (by omega) hk (by omega)
  omega
theorem img_next {n : Int} {l : List Int} {g : Int → Int} {k : Nat} (hk : k < l.length) : srt n ((l.take k).map g ++ [g l[k]]) = srt n ((l.take (k + 1)).map g) := by
  rw [take_snoc hk, List.map_append]; rfl
def putK (n : Int) (f : Int → Int) (l : List Int) : Nat → List Int
  | 0 => []
  | k + 1 => srt n ((l.take (k + 1)).map f)
theorem putK_eq (n : Int) (f : Int → Int) (l : List Int) (k : Nat) : putK n f l k = srt n ((l.take k).map f) := by
  cases k with
  | zero => rw [List.take_zero, List.map_nil, srt_nil]; rfl
  | succ k => rfl
theorem miF_eq {n : Int} {p : Int} (h : 0 ≤ p ∧ p < n) : (n - 1 - p + n) % n = miF n p := by
  unfold miF
  rw [Int.add_emod_right, Int.emod_eq_of_lt (by omega) (by omega)]
end Sx
/- Plain words: gaps and views of robots. -/
namespace Sx
/-- The gap from a place to another one. -/
def gp (n a b : Int) : Int := if (b - a + n) % n = 0 then n else (b - a + n) % n
/-- The k-th gap of a robot to the right. -/
def gapAt (n : Int) (l : List Int) (i k : Nat) : Int := gp n (l.getD ((i + k) % l.length) 0) (l.getD ((i + k + 1) % l.length) 0)
def gapsR (n : Int) (l : List Int) (i : Nat) : List Int := (List.range l.length).map (gapAt n l i)
def gapsK (n : Int) (l : List Int) (i k : Nat) : List Int := (List.range k).map (gapAt n l i)
@[simp] theorem gapsR_len (n : Int) (l : List Int) (i : Nat) : (gapsR n l i).length = l.length := by simp [gapsR]
/-- The gaps to the left, in turn. -/
def gapsL (n : Int) (l : List Int) (i k : Nat) : List Int := (List.range k).map fun j => gapAt n l i (l.length - 1 - j)
theorem mod_lt {a m : Nat} (h : 0 < m) : a % m < m := Nat.mod_lt _ h
/-- The way of a robot: the sign of how its gaps compare, turned. -/
def viewL (n : Int) (l : List Int) (i : Nat) : List Int := if cmpL (gapsR n l i) (gapsR n l i).reverse ≤ 0 then gapsR n l i else (gapsR n l i).reverse
def wayL (n : Int) (l : List Int) (i : Nat) : Int := - cmpL (gapsR n l i) (gapsR n l i).reverse
end Sx
/- Plain words: lists of lists that are sorted. -/
namespace Sx
theorem cmpL_anti2 : ∀ a b : List Int, cmpL b a = - cmpL a b
  | [], [] => rfl
  | [], _ :: _ => rfl
  | _ :: _, [] => rfl
  | a :: xs, b :: ys => by
    unfold cmpL
    rcases Int.lt_trichotomy a b with h | h | h
    · rw [if_neg (by omega), if_pos h, if_pos h]; rfl
    · rw [if_neg (by omega), if_neg (by omega), if_neg (by omega), if_neg (by omega)]
      exact cmpL_anti2 xs ys
    · rw [if_pos h, if_neg (by omega), if_pos h]
theorem cmpL_nil (b : List Int) : cmpL [] b ≤ 0 := by
  cases b
  · exact Int.le_refl _
  · show (-1 : Int) ≤ 0; decide
theorem cmpL_cons {a b : Int} {xs ys : List Int} : cmpL (a :: xs) (b :: ys) ≤ 0 ↔ a < b ∨ (a = b ∧ cmpL xs ys ≤ 0) := by
  conv => lhs; unfold cmpL
  rcases Int.lt_trichotomy a b with h | h | h
  · rw [if_pos h]
    exact ⟨fun _ => .inl h, fun _ => by decide⟩
  · rw [if_neg (by omega), if_neg (by omega)]
    exact ⟨fun x => .inr ⟨h, x⟩, fun x => by rcases x with x | x; · omega
                                             · exact x.2⟩
  · rw [if_neg (by omega), if_pos h]
    exact ⟨fun x => absurd x (by decide), fun x => by rcases x with x | x <;> omega⟩
theorem cmpL_trans : ∀ {a b c : List Int}, cmpL a b ≤ 0 → cmpL b c ≤ 0 → cmpL a c ≤ 0
  | [], _, c, _, _ => cmpL_nil c
  | _ :: _, [], _, h, _ => absurd h (by show ¬ (1 : Int) ≤ 0; decide)
  | _ :: _, _ :: _, [], _, h => absurd h (by show ¬ (1 : Int) ≤ 0; decide)
  | a :: xs, b :: ys, c :: zs, h1, h2 => by
    rw [cmpL_cons] at h1 h2 ⊢
    rcases h1 with h1 | ⟨h1, g1⟩
    · rcases h2 with h2 | ⟨h2, g2⟩
      · exact .inl (by omega)
      · exact .inl (by omega)
    · rcases h2 with h2 | ⟨h2, g2⟩
      · exact .inl (by omega)
      · exact .inr ⟨by omega, cmpL_trans g1 g2⟩
theorem cmpL_eq : ∀ {a b : List Int}, cmpL a b = 0 → a = b
  | [], [], _ => rfl
  | [], _ :: _, h => absurd h (by show ¬ (-1 : Int) = 0; decide)
  | _ :: _, [], h => absurd h (by show ¬ (1 : Int) = 0; decide)
  | a :: xs, b :: ys, h => by
    unfold cmpL at h
    rcases Int.lt_trichotomy a b with g | g | g
    · rw [if_pos g] at h; exact absurd h (by decide)
    · rw [if_neg (by omega), if_neg (by omega)] at h
      rw [g, cmpL_eq h]
    · rw [if_neg (by omega), if_pos g] at h; exact absurd h (by decide)
/-! A list is sorted up to a place, but for one element that is on its way. -/
def sortIL (X : List (List Int)) (i j : Nat) : Prop := ∀ p q, p < q → q ≤ i → q ≠ j → cmpL (X.getD p []) (X.getD q []) ≤ 0
def sortUL (X : List (List Int)) (i : Nat) : Prop := ∀ p q, p < q → q < i → cmpL (X.getD p []) (X.getD q []) ≤ 0
def swpL (X : List (List Int)) (j : Nat) : List (List Int) := (X.set j (X.getD (j - 1) [])).set (j - 1) (X.getD j [])
@[simp] theorem swpL_len (X : List (List Int)) (j : Nat) : (swpL X j).length = X.length := by simp [swpL]
/-- The elements before j that differ from the one before. -/
noncomputable def cpK (S : List (List Int)) (j : Nat) : List (List Int) := ((List.range j).filter fun i => decide (i = 0 ∨ S.getD i [] ≠ S.getD (i - 1) [])).map fun i => S.getD i []
/-- No element is like the one before, up to j. -/
def noDup (S : List (List Int)) (j : Nat) : Prop := ∀ i, 0 < i → i < j → S.getD i [] ≠ S.getD (i - 1) []
end Sx
/- Plain words: the views of a crowd in order, and ranks. -/
namespace Sx
/-- D holds the first k of the lists, in order. -/
def risen (V : Nat → List Int) (D : List (List Int)) (k : Nat) : Prop := D.Pairwise (fun x y => cmpL x y < 0) ∧ ∀ x, x ∈ D ↔ ∃ i, i < k ∧ V i = x
/-! the list that a list is put into -/
noncomputable def insL (v : List Int) : List (List Int) → List (List Int)
  | [] => [v]
  | y :: D => if cmpL y v < 0 then y :: insL v D else if y = v then y :: D else v :: y :: D
noncomputable def risenD (V : Nat → List Int) : Nat → List (List Int)
  | 0 => []
  | k + 1 => insL (V k) (risenD V k)
/-- The places of lists in a list of lists. -/
noncomputable def ranksO (V : Nat → List Int) (D : List (List Int)) : Nat → List Int
  | 0 => []
  | k + 1 => ranksO V D k ++ [fIx (fun x => V k = x) D]
@[simp] theorem ranksO_len (V : Nat → List Int) (D : List (List Int)) : ∀ k, (ranksO V D k).length = k
  | 0 => rfl
  | k + 1 => by show (ranksO V D k ++ [_]).length = k + 1; rw [List.length_append, ranksO_len V D k]; rfl
noncomputable def rankD (n : Int) (l : List Int) : List (List Int) := risenD (viewL n l) l.length
noncomputable def ranksL (n : Int) (l : List Int) : List Int := ranksO (viewL n l) (rankD n l) l.length
@[simp] theorem ranksL_len (n : Int) (l : List Int) : (ranksL n l).length = l.length := by unfold ranksL; rw [ranksO_len]
end Sx
/- Plain words: the elected robot. -/
namespace Sx
/-- The number of the elected one of the first k, or -1. -/
def elK (R : List Int) : Nat → Int
  | 0 => -1
  | k + 1 => if R.count (R.getD k 0) = 1 ∧ (elK R k < 0 ∨ R.getD k 0 < R.getD (elK R k).toNat 0) then (k : Int) else elK R k
/-- No rank less than r is that of one robot alone. -/
def elInv (R : List Int) (r : Int) : Prop := ∀ i, i < R.length → R.count (R.getD i 0) = 1 → r ≤ R.getD i 0
noncomputable def elI (n : Int) (l : List Int) : Int := elK (ranksL n l) l.length
/-- The place of the elected robot, or -1. -/
noncomputable def elP (n : Int) (l : List Int) : Int := if elI n l < 0 then -1 else l.getD (elI n l).toNat 0
end Sx
/- Plain words: turns of crowds by a rule. -/
namespace Sx
def isRule (r : List Int) : Prop := (r.length : Int) = 6 ∧ ∀ x ∈ r, -1 ≤ x ∧ x ≤ 1
open Classical in
noncomputable instance (r : List Int) : Decidable (isRule r) := propDecidable _
/-- Where a robot goes. -/
noncomputable def tgt (n : Int) (l r : List Int) (i : Nat) : Int := (l.getD i 0 + wayL n l i * r.getD ((ranksL n l).getD i 0).toNat 0 + n) % n
noncomputable def tgts (n : Int) (l r : List Int) (k : Nat) : List Int := (List.range k).map (tgt n l r)
@[simp] theorem tgts_len (n : Int) (l r : List Int) (k : Nat) : (tgts n l r k).length = k := by simp [tgts]
noncomputable def putT (n : Int) (l r : List Int) : Nat → List Int
  | 0 => []
  | k + 1 => srt n (tgts n l r (k + 1))
/-- Two robots meet or change their places. -/
def bad (T l : List Int) (a b : Nat) : Prop := T.getD a 0 = T.getD b 0 ∨ (T.getD a 0 = l.getD b 0 ∧ T.getD b 0 = l.getD a 0)
def clr (T l : List Int) (k : Nat) : Prop := ∀ a b, b < a → a < k → ¬ bad T l a b
def stepOk (n : Int) (l r : List Int) : Prop := clr (tgts n l r l.length) l l.length
open Classical in
noncomputable instance (n : Int) (l r : List Int) : Decidable (stepOk n l r) := propDecidable _
noncomputable def stN (n : Int) (l r : List Int) : Int := if stepOk n l r then n else 0
noncomputable def stL (n : Int) (l r : List Int) : List Int := if stepOk n l r then srt n (tgts n l r l.length) else []
end Sx
/- Plain words: runs of crowds by a rule. -/
namespace Sx
noncomputable def runL (n : Int) (l r : List Int) : Nat → List Int
  | 0 => l
  | k + 1 => if stepOk n (runL n l r k) r then srt n (tgts n (runL n l r k) r (runL n l r k).length) else runL n l r k
noncomputable def runD (n : Int) (l r : List Int) : Nat → Nat
  | 0 => 0
  | k + 1 => if stepOk n (runL n l r k) r then runD n l r k + 1 else runD n l r k
def rcOk (n : Int) (l r : List Int) (t : Int) : Prop := crowd n l ∧ isRule r ∧ 0 ≤ t ∧ t ≤ 20
open Classical in
noncomputable instance (n : Int) (l r : List Int) (t : Int) : Decidable (rcOk n l r t) := propDecidable _
noncomputable def rcN (n : Int) (l r : List Int) (t : Int) : Int := if rcOk n l r t then n else 0
noncomputable def rcL (n : Int) (l r : List Int) (t : Int) : List Int := if rcOk n l r t then runL n l r t.toNat else []
noncomputable def rcD (n : Int) (l r : List Int) (t : Int) : Int := if rcOk n l r t then (runD n l r t.toNat : Nat) else 0
end Sx
/- Plain words: forms that are found. -/
namespace Sx
/-- A number for what is in a list. -/
def codeL (L : List Int) : List Nat → Nat
  | [] => 0
  | q :: Q => 2 * codeL L Q + if (q : Int) ∈ L then 1 else 0
/-- The first number at which a list has come before. -/
noncomputable def foK (f : Nat → List Int) : Nat → Nat → Nat
  | 0, k => k
  | u + 1, k => if f k ∈ (List.range k).map f then k else foK f u (k + 1)
noncomputable def fresh (f : Nat → List Int) (k : Nat) : Prop := ∀ j, j < k → f j ∉ (List.range j).map f
/-- The form behind k turns. -/
noncomputable def fK (n : Int) (l r : List Int) (k : Nat) : List Int := formR n (runL n l r k)
noncomputable def fS (n : Int) (l r : List Int) (k : Nat) : List (List Int) := (List.range k).map (fK n l r)
@[simp] theorem fS_len (n : Int) (l r : List Int) (k : Nat) : (fS n l r k).length = k := by simp [fS]
noncomputable def foN (n : Int) (l r : List Int) : Nat := foK (fK n l r) 5000 0
noncomputable def foR (n : Int) (l r : List Int) : Int := if crowd n l ∧ isRule r then (foN n l r : Nat) else 0
abbrev crw (n : Int) (x : List Int) : AV := .agg [i64 n, ints x]
end Sx
/- Plain words: periods and axes of crowds. -/
namespace Sx
theorem trn_n {n : Int} {l : List Int} (hc : crowd n l) : trn n n l = l := by
  unfold trn
  have e : l.map (trF n n) = l := by
    conv => rhs; rw [← List.map_id l]
    refine List.map_congr_left fun a ha => ?_
    have := hc.2.1 a ha
    unfold trF
    rw [Int.add_emod_right, Int.emod_eq_of_lt this.1 this.2]
    rfl
  rw [e, srt_self hc.2.1 (rise_pw hc.2.2)]
/-- The least number of turns that change nothing. -/
noncomputable def perI (n : Int) (l : List Int) : Int := fIx (fun s : Nat => trn n ((s : Int) + 1) l = l) (List.range 12) + 1
theorem perI_here {n : Int} {l : List Int} {s : Nat} (hs : 1 ≤ s ∧ s ≤ 12) (h : ∀ j : Nat, 1 ≤ j → j < s → ¬ trn n j l = l) (e : trn n s l = l) : perI n l = s := by
  have hk : fIx (fun s : Nat => trn n ((s : Int) + 1) l = l) (List.range 12) = ((s - 1 : Nat) : Int) := by
    refine fIx_here (by rw [List.length_range]; omega) (fun x hx => ?_) (by rw [List.getElem_range, show (((s - 1 : Nat) : Int) + 1) = s by omega]; exact e)
    obtain ⟨i, hi, rfl⟩ := List.mem_iff_getElem.1 hx
    rw [List.length_take, List.length_range] at hi
    rw [List.getElem_take, List.getElem_range]
    exact h (i + 1) (by omega) (by omega)
  unfold perI
  rw [hk]
  omega
/-- The places that are a number less each place. -/
def axF (n x : Int) (p : Int) : Int := (x - p + n) % n
theorem axF_ok {n x : Int} {l : List Int} (hc : crowd n l) : okF n l (axF n x) := by
  have h3 := hc.2.1
  have hn := hc.1.1
  refine ⟨fun a ha => ?_, fun a ha b hb e => ?_⟩
  · unfold axF
    exact ⟨Int.emod_nonneg _ (by omega), Int.emod_lt_of_pos _ (by omega)⟩
  · have h1 := h3 a ha
    have h2 := h3 b hb
    unfold axF at e
    clear h3 hc ha hb
    rcases n_cases hn with h | h | h | h | h | h | h | h | h | h <;> subst h <;> omega
def axm (n x : Int) (l : List Int) : List Int := srt n (l.map (axF n x))
theorem axm_crowd {n x : Int} {l : List Int} (hc : crowd n l) : crowd n (axm n x l) ∧ (axm n x l).length = l.length := moved_crowd hc (axF_ok hc)
/-- The axes among the first k numbers. -/
def axK (n : Int) (l : List Int) : Nat → List Int
  | 0 => []
  | k + 1 => if axm n k l = l then axK n l k ++ [(k : Int)] else axK n l k
theorem axK_yes {n : Int} {l : List Int} {k : Nat} (h : axm n k l = l) : axK n l (k + 1) = axK n l k ++ [(k : Int)] := if_pos h
theorem axK_no {n : Int} {l : List Int} {k : Nat} (h : ¬ axm n k l = l) : axK n l (k + 1) = axK n l k := if_neg h
theorem axK_le (n : Int) (l : List Int) : ∀ k, (axK n l k).length ≤ k
  | 0 => Nat.le_refl _
  | k + 1 => by
    have := axK_le n l k
    by_cases h : axm n k l = l
    · rw [axK_yes h, List.length_append]; simp; omega
    · rw [axK_no h]; omega
def axL (n : Int) (l : List Int) : List Int := axK n l n.toNat
end Sx
/- Plain words: all crowds. -/
namespace Sx
/-- All rising lists of the last u of n places, with at most m of them. -/
def allC (n : Nat) : Nat → Nat → List (List Int)
  | 0, _ => [[]]
  | _ + 1, 0 => [[]]
  | u + 1, m + 1 => allC n u (m + 1) ++ (allC n u m).map fun l => ((n - 1 - u : Nat) : Int) :: l
/-- The numbers of turns that change nothing, less one. -/
def perC (n : Int) (l : List Int) : List Nat := (List.range 12).filter fun s => decide (trn n ((s : Int) + 1) l = l)
theorem perC_head {n : Int} {l : List Int} {s : Nat} {t : List Nat} (h : perC n l = s :: t) : perI n l = (s : Int) + 1 := by
  have hm : ∀ x, x ∈ perC n l ↔ x < 12 ∧ trn n ((x : Int) + 1) l = l := fun x => by
    unfold perC; rw [List.mem_filter, List.mem_range]; simp
  have hp : (perC n l).Pairwise (· < ·) := List.Pairwise.filter _ List.pairwise_lt_range
  have hs := (hm s).1 (by rw [h]; exact List.mem_cons_self ..)
  rw [h, List.pairwise_cons] at hp
  have := perI_here (n := n) (l := l) (s := s + 1) ⟨by omega, by omega⟩ (fun j hj hjs e => by
    have hj2 : j - 1 ∈ perC n l := (hm _).2 ⟨by omega, by rw [show (((j - 1 : Nat) : Int) + 1) = j by omega]; exact e⟩
    rw [h] at hj2
    rcases List.mem_cons.1 hj2 with h1 | h1
    · omega
    · have := hp.1 _ h1; omega) (by rw [show (((s + 1 : Nat) : Int)) = (s : Int) + 1 by omega]; exact hs.2)
  rw [this]; omega
def viewsC (n : Int) (l : List Int) : List (List Int) := (List.range l.length).map (viewL n l)
/-- What is to be shown of periods, axes, views. -/
def factV (n : Nat) (l : List Int) : Bool := match perC n l with
  | [] => false
  | s :: _ => n % (s + 1) == 0 && ((axK n l n).length == 0 || (axK n l n).length == n / (s + 1)) &&
    (l.length.ble 1 || s + 1 == n || (viewsC n l).all fun v => (viewsC n l).count v != 1) &&
    ((s + 1 == n && (axK n l n).isEmpty) == ((viewsC n l).all (fun v => (viewsC n l).count v == 1) && (List.range l.length).all fun i => decide (wayL n l i ≠ 0)))
def factAll (n : Nat) : Bool := (allC n n 6).all fun l => l.isEmpty || factV n l
end Sx
