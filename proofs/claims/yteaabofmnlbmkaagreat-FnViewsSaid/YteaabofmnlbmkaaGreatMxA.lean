/- Plain words about lists. -/
import Derived.Test.YteaabofmnlbmkaaGreatSxC
import Derived.Lib.IndexAny
import Derived.Lib.ItoaNum
import Derived.Lib.Bytealg
set_option linter.all false
namespace Sx
theorem all_take {α : Type} {P : α → Prop} {l : List α} {k : Nat} (h : k < l.length) : (∀ x ∈ l.take (k + 1), P x) ↔ (∀ x ∈ l.take k, P x) ∧ P l[k] := by
  rw [List.take_succ_eq_append_getElem h]
  simp only [List.mem_append, List.mem_singleton]
  exact ⟨fun h => ⟨fun x hx => h x (.inl hx), h _ (.inr rfl)⟩, fun h x hx => hx.elim (h.1 x) fun e => e ▸ h.2⟩
theorem take_all {α : Type} {l : List α} {k : Nat} (h : ¬ (k : Int) < (l.length : Int)) : l.take k = l := List.take_of_length_le (by omega)
theorem take_snoc {α : Type} {l : List α} {k : Nat} (h : k < l.length) : l.take (k + 1) = l.take k ++ [l[k]] := List.take_succ_eq_append_getElem h
def marks (k : Int) (n : Nat) : List Int := (List.range n).map fun i => k + (i : Nat)
@[simp] theorem marks_len (k : Int) (n : Nat) : (marks k n).length = n := by simp [marks]
theorem eq_take {α : Type} {a b : List α} {k : Nat} (h : a.length = b.length) (hk : k < a.length) : a.take (k + 1) = b.take (k + 1) ↔ a.take k = b.take k ∧ a[k] = b[k]'(by omega) := by
  rw [take_snoc hk, take_snoc (by omega : k < b.length)]
  constructor
  · intro h2
    have := List.append_inj h2 (by simp; omega)
    simpa using this
  · rintro ⟨h1, h2⟩; rw [h1, h2]
def ixOf (l : List Int) (x : Int) : Int := if x ∈ l then (l.idxOf x : Int) else -1
theorem ixOf_here {l : List Int} {x : Int} {k : Nat} (hk : k < l.length) (h : ∀ y ∈ l.take k, y ≠ x) (e : x = l[k]) : ixOf l x = k := by
  have hm : x ∈ l := by rw [e]; exact List.getElem_mem _
  unfold ixOf
  rw [if_pos hm]
  congr 1
  have hl : l = l.take k ++ l.drop k := (List.take_append_drop k l).symm
  have hn : x ∉ l.take k := fun hx => h x hx rfl
  have hd : l.drop k = x :: l.drop (k + 1) := by rw [List.drop_eq_getElem_cons hk, e]
  rw [hl, List.idxOf_append, if_neg hn, hd, List.idxOf_cons_self]
  simp; omega
theorem ixOf_no {l : List Int} {x : Int} (h : ∀ y ∈ l, y ≠ x) : ixOf l x = -1 := by
  unfold ixOf
  rw [if_neg fun hx => h x hx rfl]
theorem ixOf_ge (l : List Int) (x : Int) : 0 ≤ ixOf l x ↔ x ∈ l := by
  unfold ixOf
  split <;> simp_all
theorem pureI {l : List Int} : ∀ e ∈ l.map i64, pure2 e = true := fun e h => by
  obtain ⟨x, _, rfl⟩ := List.mem_map.1 h
  rfl
theorem map_congr {α β : Type} {f : α → β} {a b : List α} (h : a = b) : a.map f = b.map f := by rw [h]
/-! roads -/
abbrev road (n : Int) (b : Bool) : Prop := 2 ≤ n ∧ n ≤ 24 ∧ (b = true → 3 ≤ n)
abbrev rd (n : Int) (b : Bool) : AV := .agg [i64 n, bv b]
abbrev ints (l : List Int) : AV := .sl 1 (l.map i64)
abbrev row (l : List Int) : Ent := .row .plain 1 (l.map i64)
abbrev okPl (n : Int) (b : Bool) (l : List Int) : Prop := road n b ∧ (1 ≤ (l.length : Int) ∧ (l.length : Int) ≤ 3) ∧ ∀ x ∈ l, 0 ≤ x ∧ x < n
def dirt (l : List Int) (p : Nat) : Int := if (p : Int) ∈ l then 0 else 1
def dirty0 (n : Int) (l : List Int) : List Int := (List.range n.toNat).map (dirt l)
def firstD (n : Int) (b : Bool) (l : List Int) : List Int := if okPl n b l then dirty0 n l else []
@[simp] theorem dirty0_len (n : Int) (l : List Int) : (dirty0 n l).length = n.toNat := by simp [dirty0]
end Sx
/- Plain words about gaps and walks. -/
namespace Sx
def gap (n : Int) (b : Bool) (x y : Int) : Int := if b = true then min (max (x - y) (y - x)) (n - max (x - y) (y - x)) else max (x - y) (y - x)
theorem gap_bd {n : Int} {b : Bool} {x y : Int} (hx : 0 ≤ x ∧ x < n) (hy : 0 ≤ y ∧ y < n) : 0 ≤ gap n b x y ∧ gap n b x y < n := by
  unfold gap; split <;> omega
/-- Steps of the first k places lead to neighbors. -/
def near (n : Int) (b : Bool) (w : List Int) (k : Nat) : Prop := ∀ i, i + 1 < k → ∀ h : i + 1 < w.length, gap n b w[i] w[i + 1] ≤ 1
abbrev onW (n : Int) (w : List Int) : Prop := ∀ x ∈ w, 0 ≤ x ∧ x < n
def walk (n : Int) (b : Bool) (w : List Int) : Prop := (1 ≤ (w.length : Int) ∧ (w.length : Int) ≤ 61) ∧ onW n w ∧ near n b w w.length
open Classical in
noncomputable instance (n : Int) (b : Bool) (w : List Int) : Decidable (walk n b w) := propDecidable _
abbrev intss (L : List (List Int)) : AV := .sl 1 (L.map ints)
def walks (n : Int) (b : Bool) (L : List (List Int)) : Prop := ∀ w ∈ L, walk n b w
open Classical in
noncomputable instance (n : Int) (b : Bool) (L : List (List Int)) : Decidable (walks n b L) := propDecidable _
def chasers (n : Int) (b : Bool) (L : List (List Int)) : Prop := road n b ∧ walks n b L ∧ 1 ≤ (L.length : Int) ∧ (L.length : Int) ≤ 3
open Classical in
noncomputable instance (n : Int) (b : Bool) (L : List (List Int)) : Decidable (chasers n b L) := propDecidable _
/-! the first that is so -/
open Classical in
noncomputable def fIx {α : Type} (p : α → Prop) (L : List α) : Int := if ∃ l ∈ L, p l then (L.findIdx (fun l => decide (p l)) : Nat) else -1
theorem fIx_no {α : Type} {p : α → Prop} {L : List α} (h : ∀ l ∈ L, ¬ p l) : fIx p L = -1 := by
  unfold fIx; rw [if_neg]; rintro ⟨l, hl, hp⟩; exact h l hl hp
theorem fIx_here {α : Type} {p : α → Prop} {L : List α} {k : Nat} (hk : k < L.length) (h : ∀ l ∈ L.take k, ¬ p l) (e : p L[k]) : fIx p L = k := by
  unfold fIx
  rw [if_pos ⟨_, List.getElem_mem hk, e⟩]
  congr 1
  rw [List.findIdx_eq hk]
  refine ⟨by simpa using e, fun j hj => ?_⟩
  have := h L[j] (by rw [List.mem_take_iff_getElem]; exact ⟨j, by omega, rfl⟩)
  simpa using this
theorem fIx_ge {α : Type} (p : α → Prop) (L : List α) : 0 ≤ fIx p L ↔ ∃ l ∈ L, p l := by
  unfold fIx; split
  · rename_i h; exact ⟨fun _ => h, fun _ => by omega⟩
  · rename_i h; exact ⟨fun h => by omega, fun h2 => (h h2).elim⟩
/-! sizes of arguments -/
def szF : List (List Int) → Int → Int
  | [], left => left
  | l :: ls, left => if left - l.length < 0 then -1 else szF ls (left - l.length)
def szSS (L : List (List Int)) (left : Int) : Int := if left - L.length < 0 then -1 else szF L (left - L.length)
end Sx
/- Plain words about dirty lists. -/
namespace Sx
open Classical in
noncomputable def ind (n : Nat) (S : Nat → Prop) : List Int := (List.range n).map fun q => if S q then (1 : Int) else 0
@[simp] theorem ind_len (n : Nat) (S : Nat → Prop) : (ind n S).length = n := by simp [ind]
def nbrs (n : Int) (b : Bool) (p : Int) : List Int := ((List.range n.toNat).filter fun q : Nat => decide (gap n b p (q : Int) = 1)).map fun q : Nat => (q : Int)
def passes (fr to : List Int) (p q : Int) : Prop := ∃ x ∈ fr.zip to, p ≠ q ∧ x.1 = q ∧ x.2 = p
def caught (fr to : List Int) (p q : Int) : Prop := ∃ x ∈ fr.zip to, x.2 = q ∨ (p ≠ q ∧ x.1 = q ∧ x.2 = p)
open Classical in
noncomputable instance (fr to : List Int) (p q : Int) : Decidable (passes fr to p q) := propDecidable _
open Classical in
noncomputable instance (fr to : List Int) (p q : Int) : Decidable (caught fr to p q) := propDecidable _
/-- A fugitive at p comes to q. -/
def runs (n : Int) (b : Bool) (dirty fr to : List Int) (p q : Nat) : Prop := dirty.getD p 0 ≠ 0 ∧ gap n b p q ≤ 1 ∧ ¬ caught fr to p q
noncomputable def stepD (n : Int) (b : Bool) (dirty fr to : List Int) : List Int := ind n.toNat fun q => ∃ p, p < n.toNat ∧ runs n b dirty fr to p q
@[simp] theorem stepD_len (n : Int) (b : Bool) (dirty fr to : List Int) : (stepD n b dirty fr to).length = n.toNat := ind_len _ _
abbrev bits (n : Int) (dirty : List Int) : Prop := (∀ x ∈ dirty, 0 ≤ x ∧ x ≤ 1) ∧ (dirty.length : Int) = n
def okStep (n : Int) (b : Bool) (dirty fr to : List Int) : Prop := okPl n b fr ∧ okPl n b to ∧ fr.length = to.length ∧ bits n dirty ∧ ∀ x ∈ fr.zip to, gap n b x.1 x.2 ≤ 1
open Classical in
noncomputable instance (n : Int) (b : Bool) (dirty fr to : List Int) : Decidable (okStep n b dirty fr to) := propDecidable _
noncomputable def stepR (n : Int) (b : Bool) (dirty fr to : List Int) : List Int := if okStep n b dirty fr to then stepD n b dirty fr to else []
end Sx
/- Plain words about places at a time, and free walks. -/
namespace Sx
def atZ (w : List Int) (t : Int) : Int := w.getD (min t ((w.length : Int) - 1)).toNat 0
def plAt (L : List (List Int)) (t : Int) : List Int := L.map fun w => atZ w t
@[simp] theorem plAt_len (L : List (List Int)) (t : Int) : (plAt L t).length = L.length := by simp [plAt]
abbrev lenOk (L : List (List Int)) : Prop := ∀ w ∈ L, 1 ≤ w.length ∧ w.length ≤ 61
def lng (L : List (List Int)) : Int := L.foldl (fun m w => max m (w.length : Int)) 0
/-- Never caught. -/
def sFree (L : List (List Int)) (w : List Int) : Prop := ∀ (t : Nat) (h : t < w.length), w[t] ∉ plAt L t ∧ ∀ _ : 0 < t, ¬ passes (plAt L ((t : Int) - 1)) (plAt L t) (w[t - 1]'(by omega)) w[t]
open Classical in
noncomputable instance (L : List (List Int)) (w : List Int) : Decidable (sFree L w) := propDecidable _
def isFree (n : Int) (b : Bool) (L : List (List Int)) (w : List Int) : Prop := chasers n b L ∧ walk n b w ∧ (w.length : Int) = lng L ∧ sFree L w
open Classical in
noncomputable instance (n : Int) (b : Bool) (L : List (List Int)) (w : List Int) : Decidable (isFree n b L w) := propDecidable _
end Sx
/- Plain words about yards. -/
namespace Sx
def sen (x : Int × Int) : AV := .agg [i64 x.1, i64 x.2]
def car (x : Int × Int × Int) : AV := .agg [i64 x.1, i64 x.2.1, i64 x.2.2]
abbrev sens (S : List (Int × Int)) : AV := .sl 2 (S.map sen)
abbrev cars (K : List (Int × Int × Int)) : AV := .sl 3 (K.map car)
abbrev rowS (S : List (Int × Int)) : Ent := .row .plain 2 (S.map sen)
abbrev rowK (K : List (Int × Int × Int)) : Ent := .row .plain 3 (K.map car)
def sensOk (n : Int) (S : List (Int × Int)) : Prop := (∀ s ∈ S, (0 ≤ s.1 ∧ s.1 < n) ∧ 0 ≤ s.2 ∧ s.2 ≤ 12) ∧ (S.length : Int) ≤ 6
def carsOk (n : Int) (K : List (Int × Int × Int)) : Prop := (∀ s ∈ K, (0 ≤ s.1 ∧ s.1 < n) ∧ (0 ≤ s.2.1 ∧ s.2.1 ≤ 48) ∧ 0 ≤ s.2.2 ∧ s.2.2 ≤ 20) ∧ (K.length : Int) ≤ 6
abbrev lineP (n : Int) (b : Bool) : Prop := road n b ∧ ¬ b = true
open Classical in
noncomputable instance (n : Int) (S : List (Int × Int)) : Decidable (sensOk n S) := propDecidable _
open Classical in
noncomputable instance (n : Int) (S : List (Int × Int × Int)) : Decidable (carsOk n S) := propDecidable _
structure Yd where
  n : Int
  b : Bool
  w : List Int
  S : List (Int × Int)
  K : List (Int × Int × Int)
  c : Int
open Classical in
noncomputable instance : DecidableEq Yd := fun _ _ => propDecidable _
theorem Yd.ext' {y z : Yd} (h1 : y.n = z.n ∧ y.b = z.b) (h2 : y.w = z.w) (h3 : y.S = z.S) (h4 : y.K = z.K) (h5 : y.c = z.c) : y = z := by
  cases y; cases z; simp_all
abbrev yv (y : Yd) : AV := .agg [i64 y.n, bv y.b, ints y.w, sens y.S, cars y.K, i64 y.c]
def good (y : Yd) : Prop := lineP y.n y.b ∧ walk y.n y.b y.w ∧ sensOk y.n y.S ∧ carsOk y.n y.K ∧ 0 ≤ y.c ∧ y.c ≤ 1000
open Classical in
noncomputable instance (y : Yd) : Decidable (good y) := propDecidable _
/-- Sizes fit. -/
abbrev fitY (m : Nat) (y : Yd) : Prop := y.w.length ≤ m ∧ y.S.length ≤ m ∧ y.K.length ≤ m
def marksS (k : Int) (n : Nat) : List (Int × Int) := (List.range n).map fun i => (k + 2 * (i : Nat), k + 2 * (i : Nat) + 1)
def marksK (k : Int) (n : Nat) : List (Int × Int × Int) := (List.range n).map fun i => (k + 3 * (i : Nat), k + 3 * (i : Nat) + 1, k + 3 * (i : Nat) + 2)
@[simp] theorem marksS_len (k : Int) (n : Nat) : (marksS k n).length = n := by simp [marksS]
@[simp] theorem marksK_len (k : Int) (n : Nat) : (marksK k n).length = n := by simp [marksK]
def szY (y : Yd) (l : Int) : Int := if l - y.w.length < 0 then -1 else if l - y.w.length - y.S.length < 0 then -1 else if l - y.w.length - y.S.length - y.K.length < 0 then -1 else l - y.w.length - y.S.length - y.K.length
end Sx
/- Plain words about the dirty lists of a chase. -/
namespace Sx
noncomputable def dirtN (n : Int) (b : Bool) (L : List (List Int)) : Nat → List Int
  | 0 => dirty0 n (plAt L 0)
  | t + 1 => stepD n b (dirtN n b L t) (plAt L (t : Int)) (plAt L ((t : Int) + 1))
noncomputable def dirts (n : Int) (b : Bool) (L : List (List Int)) (m : Nat) : List (List Int) := (List.range m).map (dirtN n b L)
@[simp] theorem dirts_len (n : Int) (b : Bool) (L : List (List Int)) (m : Nat) : (dirts n b L m).length = m := by simp [dirts]
def dirtOk (n : Int) (b : Bool) (L : List (List Int)) (t : Int) : Prop := chasers n b L ∧ 0 ≤ t ∧ t ≤ 60
open Classical in
noncomputable instance (n : Int) (b : Bool) (L : List (List Int)) (t : Int) : Decidable (dirtOk n b L t) := propDecidable _
noncomputable def dirtR (n : Int) (b : Bool) (L : List (List Int)) (t : Int) : List Int := if dirtOk n b L t then dirtN n b L t.toNat else []
def tot (L : List (List Int)) : Nat := (L.map List.length).sum
end Sx
/- Plain words about ways that are never caught. -/
namespace Sx
set_option linter.unusedSimpArgs false
set_option linter.unusedVariables false
def sumR (k : Nat) (g : Nat → Int) : Int := ((List.range k).map g).sum
theorem sumR_0 (g : Nat → Int) : sumR 0 g = 0 := rfl
theorem sumR_succ (k : Nat) (g : Nat → Int) : sumR (k + 1) g = sumR k g + g k := by simp [sumR, List.range_succ]
theorem sumR_congr {k : Nat} {f g : Nat → Int} (h : ∀ q, q < k → f q = g q) : sumR k f = sumR k g := by
  induction k with
  | zero => rfl
  | succ k ih => rw [sumR_succ, sumR_succ, ih fun q hq => h q (by omega), h k (by omega)]
/-- A step that no chaser passes. -/
def okq (n : Int) (b : Bool) (L : List (List Int)) (t : Nat) (p q : Nat) : Prop := gap n b p q ≤ 1 ∧ ¬ passes (plAt L t) (plAt L ((t : Int) + 1)) p q
open Classical in
noncomputable instance (n : Int) (b : Bool) (L : List (List Int)) (t p q : Nat) : Decidable (okq n b L t p q) := propDecidable _
noncomputable def wyF (n : Int) (b : Bool) (L : List (List Int)) (T : Nat) (most : Int) : Nat → Nat → Int
  | 0, p => if (p : Int) ∈ plAt L T then 0 else 1
  | f + 1, p => if (p : Int) ∈ plAt L ((T - (f + 1) : Nat) : Int) then 0 else min (sumR n.toNat fun q => if okq n b L (T - (f + 1)) p q then wyF n b L T most f q else 0) most
noncomputable def wy (n : Int) (b : Bool) (L : List (List Int)) (T : Nat) (most : Int) (t p : Nat) : Int := wyF n b L T most (T - t) p
section
variable {n : Int} {b : Bool} {L : List (List Int)} {T : Nat} {most : Int}
/-- What the program adds up. -/
noncomputable def implS (n : Int) (b : Bool) (L : List (List Int)) (t p : Nat) (w : Nat → Int) (N : List Int) : Int := by
  classical exact (N.map fun q => if caught (plAt L t) (plAt L ((t : Int) + 1)) p q then 0 else w q.toNat).sum
/-- alive -/
def aliv (n : Int) (b : Bool) (L : List (List Int)) (T t p : Nat) : Prop := wy n b L T 1 t p ≠ 0
open Classical in
noncomputable instance (t p : Nat) : Decidable (aliv n b L T t p) := propDecidable _
/-- The next place of the walk. -/
def nextP (n : Int) (b : Bool) (L : List (List Int)) (T t : Nat) (out : List Int) (q : Nat) : Prop :=
  aliv n b L T t q ∧ (t = 0 ∨ gap n b (out.getD (t - 1) 0) q ≤ 1 ∧ ¬ passes (plAt L ((t : Int) - 1)) (plAt L t) (out.getD (t - 1) 0) q)
open Classical in
noncomputable instance (t : Nat) (out : List Int) (q : Nat) : Decidable (nextP n b L T t out q) := propDecidable _
noncomputable def nextQ (n : Int) (b : Bool) (L : List (List Int)) (T t : Nat) (out : List Int) : Option Nat := (List.range n.toNat).find? fun q => decide (nextP n b L T t out q)
noncomputable def fwN (n : Int) (b : Bool) (L : List (List Int)) (T : Nat) : Nat → Option (List Int)
  | 0 => some []
  | t + 1 => (fwN n b L T t).bind fun l => (nextQ n b L T t l).map fun q : Nat => l ++ [(q : Int)]
end
open Classical in
noncomputable def chaseE (n : Int) (b : Bool) (L : List (List Int)) : Int := if chasers n b L then fIx (fun d => ¬ (1 : Int) ∈ d) (dirts n b L 61) else -1
end Sx
/- Plain words: dirty places counted, sensors that see a place. -/
namespace Sx
set_option linter.unusedSimpArgs false
set_option linter.unusedVariables false
theorem sum_snoc {l : List Int} {k : Nat} (h : k < l.length) : (l.take (k + 1)).sum = (l.take k).sum + l[k] := by rw [take_snoc h, List.sum_append]; simp
theorem sum_bd {l : List Int} {M : Int} (h0 : 0 ≤ M) (h : ∀ x ∈ l, 0 ≤ x ∧ x ≤ M) : ∀ k, k ≤ l.length → 0 ≤ (l.take k).sum ∧ (l.take k).sum ≤ k * M
  | 0, _ => by simp
  | k + 1, hk => by
    obtain ⟨h1, h2⟩ := sum_bd h0 h k (by omega)
    have h3 := h _ (List.getElem_mem (show k < l.length by omega))
    rw [sum_snoc (by omega), Int.natCast_add, Int.add_mul]
    omega
open Classical in
noncomputable def cntsR (n : Int) (b : Bool) (L : List (List Int)) : List Int := if chasers n b L then (dirts n b L (lng L).toNat).map List.sum else []
/-- How many sensors see a place. -/
def seenC (n : Int) (b : Bool) (S : List (Int × Int)) (p : Nat) : Int := ((S.filter fun s => decide (gap n b s.1 p ≤ s.2)).length : Nat)
def seenL (n : Int) (b : Bool) (S : List (Int × Int)) : List Int := (List.range n.toNat).map (seenC n b S)
@[simp] theorem seenL_len (n : Int) (b : Bool) (S : List (Int × Int)) : (seenL n b S).length = n.toNat := by simp [seenL]
/-- The list while it is filled: places below p are done, p has looked at k sensors. -/
def seenK (n : Int) (b : Bool) (S : List (Int × Int)) (p k : Nat) : List Int := (List.range n.toNat).map fun q => if q < p then seenC n b S q else if q = p then seenC n b (S.take k) q else 0
@[simp] theorem seenK_len (n : Int) (b : Bool) (S : List (Int × Int)) (p k : Nat) : (seenK n b S p k).length = n.toNat := by simp [seenK]
def watchL (y : Yd) : List Int := y.w.map fun p => (seenL y.n y.b y.S).getD p.toNat 0
open Classical in
noncomputable def watchR (y : Yd) : List Int := if good y then watchL y else []
noncomputable def yNorm (y : Yd) : Yd := if good y then y else ⟨0, false, [], [], [], 0⟩
end Sx
/- Plain words: bytes of texts. -/
namespace Sx
/-- All bytes are within 32..126, and none is this one. -/
def clean (s : List UInt8) (x : Nat) : Prop := ∀ b ∈ s, 32 ≤ b.toNat ∧ b.toNat ≤ 126 ∧ b.toNat ≠ x
def plainB (s : List UInt8) : Prop := ∀ b ∈ s, 32 ≤ b.toNat ∧ b.toNat ≤ 126
instance (s : List UInt8) (x : Nat) : Decidable (clean s x) := by unfold clean; infer_instance
instance (s : List UInt8) : Decidable (plainB s) := by unfold plainB; infer_instance
/-- A record is valid. -/
def recOk (c r : List UInt8) : Prop := c ≠ [] ∧ (clean c 35 ∧ (c.length : Int) ≤ 160) ∧ (¬ ∃ b ∈ c, b.toNat = 64) ∧ clean r 35 ∧ (r.length : Int) ≤ 250
instance (c r : List UInt8) : Decidable (recOk c r) := by unfold recOk; infer_instance
abbrev rec2 (c r : List UInt8) : AV := .agg [.str c, .str r]
def fitS (s : List UInt8) : Prop := s.length ≤ 9223372036854775807
end Sx
/- Plain words: texts, their parts and their seals. -/
namespace Sx
open Go
/-- What stands before a byte, and behind it. -/
def bef (c : UInt8) (s : List UInt8) : List UInt8 := s.takeWhile (fun b => b != c)
def aft (c : UInt8) (s : List UInt8) : List UInt8 := s.drop ((bef c s).length + 1)
/-- The sum of a text. -/
def sumB (s : List UInt8) : Int := s.foldl (fun h b => (41 * h + (b.toNat : Int) + 1) % 999979) 7
def sealB (s : List UInt8) : List UInt8 := s ++ [35] ++ Lib.itoa (sumB s)
/-- The parts of a text between bytes of a kind. -/
def spl (c : UInt8) (s : List UInt8) : Nat → List (List UInt8) × Nat
  | 0 => ([], 0)
  | k + 1 => if s.getD k 0 = c then ((spl c s k).1 ++ [(s.take k).drop (spl c s k).2], k + 1) else spl c s k
def splitB (c : UInt8) (s : List UInt8) : List (List UInt8) := (spl c s s.length).1 ++ [s.drop (spl c s s.length).2]
/-- A text can be sealed; a text is sealed. -/
def acOk (s : List UInt8) : Prop := (s.length : Int) ≤ 4000 ∧ (35 : UInt8) ∉ s ∧ ((sealB s).length : Int) ≤ 4000
instance (s : List UInt8) : Decidable (acOk s) := by unfold acOk; infer_instance
def vcOk (s : List UInt8) : Prop := acOk (bef 35 s) ∧ sealB (bef 35 s) = s
instance (s : List UInt8) : Decidable (vcOk s) := by unfold vcOk; infer_instance
abbrev rowT (L : List (List UInt8)) : Ent := .row .plain 1 (L.map AV.str)
end Sx
/- Plain words: records in a text. -/
namespace Sx
open Go
def textB (k : Int) (c r : List UInt8) : List UInt8 := Lib.itoa k ++ [32] ++ c ++ [64] ++ r
def lineB (k : Int) (c r : List UInt8) : List UInt8 := sealB (textB k c r) ++ [10]
def encOk (k : Int) (c r : List UInt8) : Prop := (0 ≤ k ∧ k ≤ 59) ∧ recOk c r
instance (k : Int) (c r : List UInt8) : Decidable (encOk k c r) := by unfold encOk; infer_instance
/-- A line holds a record. -/
def okL2 (k : Int) (L : List UInt8) : Prop := ∃ c r, recOk c r ∧ sealB (textB k c r) = L
noncomputable instance (k : Int) (L : List UInt8) : Decidable (okL2 k L) := Classical.propDecidable _
def cB (L : List UInt8) : List UInt8 := bef 64 (aft 32 (bef 35 L))
def rB (L : List UInt8) : List UInt8 := aft 64 (aft 32 (bef 35 L))
/-- Where the j-th line begins, and what it is. -/
def atB (s : List UInt8) : Nat → Nat
  | 0 => 0
  | j + 1 => atB s j + (bef 10 (s.drop (atB s j))).length + 1
def lnB (s : List UInt8) (j : Nat) : List UInt8 := bef 10 (s.drop (atB s j))
def goodB (s : List UInt8) (j : Nat) : Prop := (10 : UInt8) ∈ s.drop (atB s j) ∧ okL2 (j : Int) (lnB s j)
noncomputable instance (s : List UInt8) (j : Nat) : Decidable (goodB s j) := Classical.propDecidable _
def recB (s : List UInt8) (j : Nat) : List UInt8 × List UInt8 := (cB (lnB s j), rB (lnB s j))
noncomputable def cntF (s : List UInt8) : Nat → Nat → Nat
  | 0, j => j
  | f + 1, j => if goodB s j then cntF s f (j + 1) else j
noncomputable def cntB (s : List UInt8) : Nat := cntF s 60 0
noncomputable def recsB (s : List UInt8) : List (List UInt8 × List UInt8) := (List.range (cntB s)).map (recB s)
noncomputable def endsB (s : List UInt8) : List Int := (List.range (cntB s + 1)).map fun j => (atB s j : Int)
def recsTo (s : List UInt8) (j : Nat) : List (List UInt8 × List UInt8) := (List.range j).map (recB s)
def endsTo (s : List UInt8) (j : Nat) : List Int := (List.range (j + 1)).map fun j => (atB s j : Int)
@[simp] theorem recsTo_len (s : List UInt8) (j : Nat) : (recsTo s j).length = j := by simp [recsTo]
@[simp] theorem endsTo_len (s : List UInt8) (j : Nat) : (endsTo s j).length = j + 1 := by simp [endsTo]
abbrev rcv (p : List UInt8 × List UInt8) : AV := .agg [.str p.1, .str p.2]
abbrev rowE (L : List (List UInt8 × List UInt8)) : Ent := .row .plain 2 (L.map rcv)
noncomputable def rcvS (s : List UInt8) : List UInt8 := if s.length ≤ 30000 then s.take (atB s (cntB s)) else []
noncomputable def rcvC (s : List UInt8) : Int := if s.length ≤ 30000 then (cntB s : Int) else 0
noncomputable def rcvN (s : List UInt8) : Int := if s.length ≤ 30000 then (atB s (cntB s) : Int) else 0
end Sx
/- Plain words: valid logs. -/
namespace Sx
/-- A log is valid. -/
def logOk (D P : List UInt8) (n : Int) : Prop := (D.length : Int) + P.length ≤ 30000 ∧ (atB (D ++ P) (cntB (D ++ P)) : Int) = (D.length : Int) + P.length ∧ (atB D (cntB D) : Int) = D.length ∧ (cntB (D ++ P) : Int) = n
noncomputable instance (D P : List UInt8) (n : Int) : Decidable (logOk D P n) := Classical.propDecidable _
abbrev lgv (D P : List UInt8) (n : Int) : AV := .agg [.str D, .str P, i64 n]
def apOk (D P : List UInt8) (n : Int) (c r : List UInt8) : Prop := (logOk D P n ∧ recOk c r) ∧ n ≠ 60
noncomputable instance (D P : List UInt8) (n : Int) (c r : List UInt8) : Decidable (apOk D P n c r) := Classical.propDecidable _
noncomputable def apP (D P : List UInt8) (n : Int) (c r : List UInt8) : List UInt8 := if apOk D P n c r then P ++ lineB n c r else P
noncomputable def apN (D P : List UInt8) (n : Int) (c r : List UInt8) : Int := if apOk D P n c r then n + 1 else n
noncomputable def apC (D P : List UInt8) (n : Int) (c r : List UInt8) : Int := if apOk D P n c r then 0 else if logOk D P n ∧ recOk c r then 2 else 1
end Sx
/- Plain words: crashes. -/
namespace Sx
abbrev i8 (b : UInt8) : AV := .int .u8 (b.toNat : Int)
/-- A byte is turned. -/
def flipB (bs : List UInt8) (i : Nat) : List UInt8 := bs.set i (UInt8.ofNat (255 - (bs.getD i 0).toNat))
@[simp] theorem flip_len (b : List UInt8) (i : Nat) : (flipB b i).length = b.length := by simp [flipB]
def crOk (D P : List UInt8) (n q : Int) : Prop := logOk D P n ∧ 0 ≤ q ∧ q ≤ P.length
noncomputable instance (D P : List UInt8) (n q : Int) : Decidable (crOk D P n q) := Classical.propDecidable _
/-- What is left. -/
def leftB (D P : List UInt8) (q : Nat) (t : Bool) : List UInt8 := if t = true ∧ 0 < q then D ++ flipB (P.take q) (q - 1) else D ++ P.take q
noncomputable def crS (D P : List UInt8) (n q : Int) (t : Bool) : List UInt8 := if crOk D P n q then leftB D P q.toNat t else []
/-- The text of a mark. -/
def mkT (k : Int) : List UInt8 := if k ≤ 0 then [109, 48] else [109] ++ Go.Lib.itoa k
/-- What is written is the end of the number's text. -/
def tailT2 (m : Int) (o : List UInt8) (k : Int) : Prop := (if m ≤ 0 then [] else Go.Lib.itoa m) ++ o = Go.Lib.itoa k
abbrev conv (y : Yd) (D P : List UInt8) (n : Int) : AV := .agg [i64 y.n, bv y.b, ints y.w, sens y.S, cars y.K, i64 y.c, .str D, .str P, i64 n]
def marksT (k : Int) (n : Nat) : List (List UInt8 × List UInt8) := (List.range n).map fun i => (mkT (k + 2 * (i : Nat)), mkT (k + 2 * (i : Nat) + 1))
@[simp] theorem marksT_len (k : Int) (n : Nat) : (marksT k n).length = n := by simp [marksT]
end Sx
/- Plain words: draws. -/
namespace Sx
/-- The reader of a code: the place and the seed. -/
abbrev cur (L : List UInt8) (a s : Int) : Ent := .row .var 3 [.agg [.sl 1 (L.map i8), i64 a, .int .u64 s]]
theorem and255 (a : Int) : 0 ≤ bitsOp .and .u64 a 255 ∧ bitsOp .and .u64 a 255 ≤ 255 := by
  unfold bitsOp
  dsimp only
  have h : ((BitVec.ofInt 64 a &&& BitVec.ofInt 64 255).toNat : Int) ≤ 255 := by
    rw [BitVec.toNat_and]
    have := @Nat.and_le_right (BitVec.ofInt 64 a).toNat (BitVec.ofInt 64 255).toNat
    have e : (BitVec.ofInt 64 255).toNat = 255 := by decide
    rw [e] at this ⊢
    omega
  show 0 ≤ Go.IntKind.u64.wrap ((BitVec.ofInt 64 a &&& BitVec.ofInt 64 255).toNat : Int) ∧ Go.IntKind.u64.wrap ((BitVec.ofInt 64 a &&& BitVec.ofInt 64 255).toNat : Int) ≤ 255
  generalize (BitVec.ofInt 64 a &&& BitVec.ofInt 64 255).toNat = x at h
  have hw : Go.IntKind.u64.wrap (x : Int) = (x : Int) := by
    unfold Go.IntKind.wrap
    simp [Go.IntKind.signed, Go.IntKind.bits]
    omega
  rw [hw]
  omega
@[simp] def allI : List AV → Prop
  | [] => True
  | .int .i64 _ :: es => allI es
  | _ => False
theorem allI_map : ∀ {es : List AV}, allI es → ∃ l : List Int, es = l.map i64
  | [], _ => ⟨[], rfl⟩
  | .int .i64 n :: es, h => let ⟨l, e⟩ := allI_map (es := es) h; ⟨n :: l, by rw [e]; rfl⟩
theorem i8_bd (b : UInt8) : 0 ≤ (b.toNat : Int) ∧ (b.toNat : Int) ≤ 255 := by have := b.toNat_lt; omega
def sdN (s b : Int) : Int := Go.IntKind.u64.wrap (Go.IntKind.u64.wrap (Go.IntKind.u64.wrap (s * 6364136223846793005) + Go.IntKind.u64.wrap b) + 462197)
theorem num255 {A : Int} {K : AV → Prop} (h : ∀ x : Int, 0 ≤ x → x ≤ 255 → K (.int .i64 x)) : num .i64 (Go.IntKind.i64.wrap (bitsOp .and .u64 A 255)) K := by
  have := and255 A
  refine nw (by omega) (by omega) (h _ this.1 this.2)
theorem pureM {α : Type} {f : α → AV} {s : Nat} {l : List α} (h : ∀ a, pure2 (f a) = true) : pureE (.row .plain s (l.map f)) := by
  intro e he
  obtain ⟨a, _, rfl⟩ := List.mem_map.1 he
  exact h a
end Sx
/- Plain words: lists that are sorted and compared. -/
namespace Sx
/-- How two lists compare. -/
def cmpL : List Int → List Int → Int
  | [], [] => 0
  | [], _ :: _ => -1
  | _ :: _, [] => 1
  | a :: as, b :: bs => if a < b then -1 else if b < a then 1 else cmpL as bs
theorem cmpL_self : ∀ l : List Int, cmpL l l = 0
  | [] => rfl
  | a :: l => by unfold cmpL; rw [if_neg (Int.lt_irrefl a), if_neg (Int.lt_irrefl a)]; exact cmpL_self l
theorem cmpL_bd : ∀ a b : List Int, -1 ≤ cmpL a b ∧ cmpL a b ≤ 1
  | [], [] => by decide
  | [], _ :: _ => by unfold cmpL; decide
  | _ :: _, [] => by unfold cmpL; decide
  | a :: as, b :: bs => by
    unfold cmpL
    split
    · decide
    · split
      · decide
      · exact cmpL_bd as bs
theorem cmpL_drop {a b : List Int} {k : Nat} (ha : k < a.length) (hb : k < b.length) (h : a[k] = b[k]) : cmpL (a.drop k) (b.drop k) = cmpL (a.drop (k + 1)) (b.drop (k + 1)) := by
  rw [List.drop_eq_getElem_cons ha, List.drop_eq_getElem_cons hb, h]
  conv => lhs; unfold cmpL
  rw [if_neg (Int.lt_irrefl _), if_neg (Int.lt_irrefl _)]
theorem cmpL_lt {a b : List Int} {k : Nat} (ha : k < a.length) (hb : k < b.length) (h : a[k] < b[k]) : cmpL (a.drop k) (b.drop k) = -1 := by
  rw [List.drop_eq_getElem_cons ha, List.drop_eq_getElem_cons hb]
  unfold cmpL
  rw [if_pos h]
theorem cmpL_gt {a b : List Int} {k : Nat} (ha : k < a.length) (hb : k < b.length) (h : b[k] < a[k]) : cmpL (a.drop k) (b.drop k) = 1 := by
  rw [List.drop_eq_getElem_cons ha, List.drop_eq_getElem_cons hb]
  unfold cmpL
  rw [if_neg (by omega), if_pos h]
theorem cmpL_end {a b : List Int} {k : Nat} (ha : a.length ≤ k) : cmpL (a.drop k) (b.drop k) = if b.length ≤ k then 0 else -1 := by
  rw [List.drop_of_length_le ha]
  by_cases h : b.length ≤ k
  · rw [if_pos h, List.drop_of_length_le h]; rfl
  · rw [if_neg h, List.drop_eq_getElem_cons (by omega)]; rfl
theorem cmpL_end2 {a b : List Int} {k : Nat} (ha : k < a.length) (hb : b.length ≤ k) : cmpL (a.drop k) (b.drop k) = 1 := by
  rw [List.drop_of_length_le hb, List.drop_eq_getElem_cons ha]; rfl
/-- A list is sorted up to a place, but for one element that is on its way. -/
def sortI (X : List Int) (i j : Nat) : Prop := ∀ p q, p < q → q ≤ i → q ≠ j → X.getD p 0 ≤ X.getD q 0
def sortU (X : List Int) (i : Nat) : Prop := ∀ p q, p < q → q < i → X.getD p 0 ≤ X.getD q 0
theorem sortI_start {X : List Int} {i : Nat} (h : sortU X i) : sortI X i i := fun p q h1 h2 h3 => h p q h1 (by omega)
theorem sortI_end {X : List Int} {i j : Nat} (h : sortI X i j) (hj : j = 0 ∨ X.getD (j - 1) 0 ≤ X.getD j 0) : sortU X (i + 1) := fun p q h1 h2 => by
  by_cases e : q = j
  · subst e
    rcases hj with hj | hj
    · omega
    · by_cases e2 : p = q - 1
      · subst e2; exact hj
      · have := h p (q - 1) (by omega) (by omega) (by omega)
        omega
  · exact h p q h1 (by omega) e
theorem getD_setX {X : List Int} {k m : Nat} {x : Int} (h : k < X.length) : (X.set k x).getD m 0 = if k = m then x else X.getD m 0 := by
  rw [List.getD_eq_getElem?_getD, List.getElem?_set]
  split
  · rename_i e
    subst e
    rfl
  · rw [← List.getD_eq_getElem?_getD]
def swp (X : List Int) (j : Nat) : List Int := (X.set j (X.getD (j - 1) 0)).set (j - 1) (X.getD j 0)
@[simp] theorem swp_len (X : List Int) (j : Nat) : (swp X j).length = X.length := by simp [swp]
theorem swp_get {X : List Int} {j m : Nat} (hj : 0 < j) (h : j < X.length) : (swp X j).getD m 0 = if m = j - 1 then X.getD j 0 else if m = j then X.getD (j - 1) 0 else X.getD m 0 := by
  unfold swp
  rw [getD_setX (by rw [List.length_set]; omega), getD_setX h]
  by_cases e : m = j - 1
  · rw [if_pos e.symm, if_pos e]
  · rw [if_neg (show ¬ j - 1 = m from fun x => e x.symm), if_neg e]
    by_cases e2 : m = j
    · rw [if_pos e2.symm, if_pos e2]
    · rw [if_neg (show ¬ j = m from fun x => e2 x.symm), if_neg e2]
theorem sortI_swp {X : List Int} {i j : Nat} (hj : 0 < j) (hji : j ≤ i) (hi : i < X.length) (h : sortI X i j) (hlt : X.getD j 0 < X.getD (j - 1) 0) : sortI (swp X j) i (j - 1) := fun p q h1 h2 h3 => by
  rw [swp_get hj (by omega), swp_get hj (by omega), if_neg h3]
  by_cases e : q = j
  · rw [if_pos e]
    by_cases e2 : p = j - 1
    · rw [if_pos e2]; omega
    · rw [if_neg e2, if_neg (by omega)]
      exact h p (j - 1) (by omega) (by omega) (by omega)
  · rw [if_neg e]
    by_cases e2 : p = j - 1
    · rw [if_pos e2]; subst e2; exact h j q (by omega) h2 e
    · rw [if_neg e2]
      by_cases e3 : p = j
      · rw [if_pos e3]; exact h (j - 1) q (by omega) h2 e
      · rw [if_neg e3]; exact h p q h1 h2 e
theorem swp_perm {X : List Int} {j : Nat} (hj : 0 < j) (h : j < X.length) : (swp X j).Perm X := by
  have e1 : X.getD (j - 1) 0 = X[j - 1] := by rw [List.getD_eq_getElem?_getD, List.getElem?_eq_getElem (by omega)]; rfl
  have e2 : X.getD j 0 = X[j] := by rw [List.getD_eq_getElem?_getD, List.getElem?_eq_getElem h]; rfl
  unfold swp
  rw [e1, e2]
  exact List.set_set_perm h (by omega)
theorem sortU_pw {X : List Int} (h : sortU X X.length) : X.Pairwise (· ≤ ·) := by
  rw [List.pairwise_iff_getElem]
  intro i j hi hj hij
  have := h i j hij hj
  rwa [List.getD_eq_getElem?_getD, List.getD_eq_getElem?_getD, List.getElem?_eq_getElem hi, List.getElem?_eq_getElem hj] at this
/-- The numbers below n that a list has, in order. -/
def srt (n : Int) (l : List Int) : List Int := ((List.range n.toNat).filter fun q : Nat => decide ((q : Int) ∈ l)).map fun q : Nat => (q : Int)
theorem srt_mem {n : Int} {l : List Int} {x : Int} : x ∈ srt n l ↔ (0 ≤ x ∧ x < n) ∧ x ∈ l := by
  unfold srt
  rw [List.mem_map]
  constructor
  · rintro ⟨q, hq, rfl⟩
    rw [List.mem_filter, List.mem_range, decide_eq_true_eq] at hq
    exact ⟨by omega, hq.2⟩
  · rintro ⟨h, hl⟩
    refine ⟨x.toNat, ?_, by omega⟩
    rw [List.mem_filter, List.mem_range, decide_eq_true_eq]
    exact ⟨by omega, by rwa [show ((x.toNat : Nat) : Int) = x by omega]⟩
theorem srt_pw (n : Int) (l : List Int) : (srt n l).Pairwise (· < ·) := by
  unfold srt
  rw [List.pairwise_map]
  refine List.Pairwise.imp (fun h => by omega) (List.Pairwise.filter _ List.pairwise_lt_range)
/-- Two rising lists with the same members are the same. -/
theorem pw_eq : ∀ {a b : List Int}, a.Pairwise (· < ·) → b.Pairwise (· < ·) → (∀ x, x ∈ a ↔ x ∈ b) → a = b
  | [], [], _, _, _ => rfl
  | [], y :: b, _, _, h => absurd ((h y).2 (List.mem_cons_self ..)) (List.not_mem_nil)
  | x :: a, [], _, _, h => absurd ((h x).1 (List.mem_cons_self ..)) (List.not_mem_nil)
  | x :: a, y :: b, ha, hb, h => by
    rw [List.pairwise_cons] at ha hb
    have e : x = y := by
      rcases List.mem_cons.1 ((h x).1 (List.mem_cons_self ..)) with e | e
      · exact e
      · rcases List.mem_cons.1 ((h y).2 (List.mem_cons_self ..)) with e2 | e2
        · exact e2.symm
        · have h1 := hb.1 x e
          have h2 := ha.1 y e2
          omega
    subst e
    congr 1
    refine pw_eq ha.2 hb.2 fun z => ?_
    constructor
    · intro hz
      rcases List.mem_cons.1 ((h z).1 (List.mem_cons_of_mem _ hz)) with e | e
      · subst e; exact absurd (ha.1 z hz) (Int.lt_irrefl _)
      · exact e
    · intro hz
      rcases List.mem_cons.1 ((h z).2 (List.mem_cons_of_mem _ hz)) with e | e
      · subst e; exact absurd (hb.1 z hz) (Int.lt_irrefl _)
      · exact e
theorem srt_of {n : Int} {l M : List Int} (hp : M.Perm l) (hs : M.Pairwise (· ≤ ·)) (hn : l.Nodup) (hl : ∀ x ∈ l, 0 ≤ x ∧ x < n) : M = srt n l := by
  refine pw_eq ?_ (srt_pw n l) fun x => ?_
  · have hnM : M.Nodup := hp.nodup_iff.2 hn
    refine List.Pairwise.imp₂ (fun a b h1 h2 => ?_) hs hnM
    omega
  · rw [srt_mem]
    exact ⟨fun h => ⟨hl x (hp.mem_iff.1 h), hp.mem_iff.1 h⟩, fun h => hp.mem_iff.2 h.2⟩
theorem srt_len {n : Int} {l : List Int} (hn : l.Nodup) (hl : ∀ x ∈ l, 0 ≤ x ∧ x < n) : (srt n l).length = l.length := by
  have h := List.mergeSort_perm l (fun a b => decide (a ≤ b))
  have h2 := srt_of (n := n) h (by
    have := List.pairwise_mergeSort (le := fun a b : Int => decide (a ≤ b)) (by intro a b c h1 h2; simp at *; omega) (by intro a b; simp; omega) l
    exact List.Pairwise.imp (fun h => by simpa using h) this) hn hl
  rw [← h2]
  exact h.length_eq
end Sx
/- Plain words: crowds. -/
namespace Sx
def rise (l : List Int) (k : Nat) : Prop := ∀ i, i + 1 < k → l.getD i 0 < l.getD (i + 1) 0
noncomputable instance (l : List Int) (k : Nat) : Decidable (rise l k) := Classical.propDecidable _
def inR (n : Int) (l : List Int) : Prop := ∀ x ∈ l, 0 ≤ x ∧ x < n
def crowd (n : Int) (l : List Int) : Prop := ((3 ≤ n ∧ n ≤ 12) ∧ 1 ≤ (l.length : Int) ∧ (l.length : Int) ≤ 6) ∧ inR n l ∧ rise l l.length
noncomputable instance (n : Int) (l : List Int) : Decidable (crowd n l) := Classical.propDecidable _
theorem getI {l : List Int} {i : Nat} (h : i < l.length) : l.getD i 0 = l[i] := by rw [List.getD_eq_getElem?_getD, List.getElem?_eq_getElem h]; rfl
theorem rise_pw {l : List Int} (h : rise l l.length) : l.Pairwise (· < ·) := by
  rw [List.pairwise_iff_getElem]
  intro i j hi hj hij
  have key : ∀ d, i + 1 + d < l.length → l.getD i 0 < l.getD (i + 1 + d) 0 := fun d => by
    induction d with
    | zero => intro hd; exact h i hd
    | succ d ih =>
      intro hd
      have h1 := ih (by omega)
      have h2 := h (i + 1 + d) (by omega)
      rw [show i + 1 + (d + 1) = i + 1 + d + 1 by omega]
      omega
  have := key (j - i - 1) (by omega)
  rw [show i + 1 + (j - i - 1) = j by omega, getI hi, getI hj] at this
  exact this
theorem pw_rise {l : List Int} (h : l.Pairwise (· < ·)) : rise l l.length := fun i hi => by
  rw [getI (by omega), getI hi]
  exact List.pairwise_iff_getElem.1 h i (i + 1) (by omega) hi (by omega)
theorem pw_nodup {l : List Int} (h : l.Pairwise (· < ·)) : l.Nodup := List.Pairwise.imp (fun h e => by omega) h
theorem srt_self {n : Int} {l : List Int} (h1 : inR n l) (h2 : l.Pairwise (· < ·)) : srt n l = l :=
  pw_eq (srt_pw n l) h2 fun x => by rw [srt_mem]; exact ⟨fun h => h.2, fun h => ⟨h1 x h, h⟩⟩
theorem srt_in (n : Int) (l : List Int) : inR n (srt n l) := fun x hx => (srt_mem.1 hx).1
theorem nodup_map {l : List Int} {f : Int → Int} (hn : l.Nodup) (h : ∀ a ∈ l, ∀ b ∈ l, f a = f b → a = b) : (l.map f).Nodup := by
  refine List.pairwise_map.2 (List.Pairwise.imp_of_mem (fun {a b} ha hb hab e => hab (h a ha b hb e)) hn)
theorem wrap_u64 {z : Int} (h0 : 0 ≤ z) (h1 : z < 1000000) : Go.IntKind.u64.wrap z = z := by
  unfold Go.IntKind.wrap
  simp [Go.IntKind.signed, Go.IntKind.bits]
  omega
theorem swp_row {Y : List Int} {j : Nat} (h0 : 0 < j) (h : j < Y.length) : (((Y.set j (Y[j - 1]'(by omega))).set ((j : Int) - 1).toNat Y[j]).map i64) = (swp Y j).map i64 := by
  unfold swp
  rw [getI h, getI (by omega), show ((j : Int) - 1).toNat = j - 1 by omega]
/-- What a crowd becomes when its places go elsewhere. -/
def okF (n : Int) (l : List Int) (f : Int → Int) : Prop := (∀ a ∈ l, 0 ≤ f a ∧ f a < n) ∧ ∀ a ∈ l, ∀ b ∈ l, f a = f b → a = b
theorem okF_nodup {n : Int} {l : List Int} {f : Int → Int} (hc : crowd n l) (h : okF n l f) : (l.map f).Nodup ∧ ∀ x ∈ l.map f, 0 ≤ x ∧ x < n :=
  ⟨nodup_map (pw_nodup (rise_pw hc.2.2)) h.2, fun x hx => by obtain ⟨a, ha, rfl⟩ := List.mem_map.1 hx; exact h.1 a ha⟩
theorem moved_crowd {n : Int} {l : List Int} {f : Int → Int} (hc : crowd n l) (h : okF n l f) : crowd n (srt n (l.map f)) ∧ (srt n (l.map f)).length = l.length := by
  obtain ⟨h1, h2⟩ := okF_nodup hc h
  have hl := srt_len h1 h2
  rw [List.length_map] at hl
  exact ⟨⟨⟨hc.1.1, by rw [hl]; exact hc.1.2⟩, srt_in n _, pw_rise (srt_pw n _)⟩, hl⟩
theorem n_cases {n : Int} (h : 3 ≤ n ∧ n ≤ 12) : n = 3 ∨ n = 4 ∨ n = 5 ∨ n = 6 ∨ n = 7 ∨ n = 8 ∨ n = 9 ∨ n = 10 ∨ n = 11 ∨ n = 12 := by omega
def trF (n s : Int) (p : Int) : Int := (p + s) % n
def miF (n : Int) (p : Int) : Int := n - 1 - p
theorem trF_ok {n s : Int} {l : List Int} (hc : crowd n l) : okF n l (trF n s) := by
  have h3 := hc.2.1
  have hn := hc.1.1
  refine ⟨fun a ha => ?_, fun a ha b hb e => ?_⟩
  · unfold trF
    exact ⟨Int.emod_nonneg _ (by omega), Int.emod_lt_of_pos _ (by omega)⟩
  · have h1 := h3 a ha
    have h2 := h3 b hb
    unfold trF at e
    clear h3 hc ha hb
    rcases n_cases hn with h | h | h | h | h | h | h | h | h | h <;> subst h <;> omega
theorem miF_ok {n : Int} {l : List Int} (hc : crowd n l) : okF n l (miF n) := by
  have h3 := hc.2.1
  refine ⟨fun a ha => ?_, fun a ha b hb e => ?_⟩
  · have := h3 a ha; unfold miF; omega
  · unfold miF at e; omega
def trn (n s : Int) (l : List Int) : List Int := srt n (l.map (trF n s))
def mir (n : Int) (l : List Int) : List Int := srt n (l.map (miF n))
theorem trn_crowd {n s : Int} {l : List Int} (hc : crowd n l) : crowd n (trn n s l) ∧ (trn n s l).length = l.length := moved_crowd hc (trF_ok hc)
theorem mir_crowd {n : Int} {l : List Int} (hc : crowd n l) : crowd n (mir n l) ∧ (mir n l).length = l.length := moved_crowd hc (miF_ok hc)
theorem trn_0 {n : Int} {l : List Int} (hc : crowd n l) : trn n 0 l = l := by
  unfold trn
  have e : l.map (trF n 0) = l := by
    conv => rhs; rw [← List.map_id l]
    refine List.map_congr_left fun a ha => ?_
    have := hc.2.1 a ha
    unfold trF
    rw [Int.add_zero, Int.emod_eq_of_lt this.1 this.2]
    rfl
  rw [e, srt_self hc.2.1 (rise_pw hc.2.2)]
def less2 (a b : List Int) : List Int := if cmpL a b < 0 then a else b
theorem less2_yes {a b : List Int} (h : cmpL a b < 0) : less2 a b = a := if_pos h
theorem less2_no {a b : List Int} (h : ¬ cmpL a b < 0) : less2 a b = b := if_neg h
def formK (n : Int) (l : List Int) : Nat → List Int
  | 0 => l
  | k + 1 => less2 (trn n k (mir n l)) (less2 (trn n k l) (formK n l k))
def formR (n : Int) (l : List Int) : List Int := formK n l n.toNat
theorem less2_p {p : List Int → Prop} {a b : List Int} (ha : p a) (hb : p b) : p (less2 a b) := by
  unfold less2; split
  · exact ha
  · exact hb
theorem formK_crowd {n : Int} {l : List Int} (hc : crowd n l) : ∀ k, crowd n (formK n l k) ∧ (formK n l k).length = l.length
  | 0 => ⟨hc, rfl⟩
  | k + 1 => by
    have h1 := formK_crowd hc k
    have h2 := trn_crowd (s := k) hc
    have hm := mir_crowd hc
    have h3 := trn_crowd (s := k) hm.1
    exact less2_p (p := fun x => crowd n x ∧ x.length = l.length) ⟨h3.1, h3.2.trans hm.2⟩ (less2_p (p := fun x => crowd n x ∧ x.length = l.length) h2 h1)
/-- A number is put to its place. -/
theorem put_srt {n x : Int} {A : List Int} {k : Nat} (hx : 0 ≤ x ∧ x < n) (hk : k ≤ (srt n A).length) (h1 : ∀ y ∈ (srt n A).take k, y < x) (h2 : ∀ y ∈ (srt n A).drop k, x < y) : (srt n A).take k ++ [x] ++ (srt n A).drop k = srt n (A ++ [x]) := by
  have hp := srt_pw n A
  have hs : (srt n A).take k ++ (srt n A).drop k = srt n A := List.take_append_drop _ _
  refine pw_eq ?_ (srt_pw n _) fun y => ?_
  · rw [List.append_assoc, List.pairwise_append]
    rw [← hs, List.pairwise_append] at hp
    refine ⟨hp.1, ?_, fun a ha b hb => ?_⟩
    · rw [List.singleton_append, List.pairwise_cons]
      exact ⟨h2, hp.2.1⟩
    · rcases List.mem_append.1 hb with hb | hb
      · rw [List.mem_singleton.1 hb]; exact h1 a ha
      · exact hp.2.2 a ha b hb
  · rw [srt_mem]
    constructor
    · intro hy
      rcases List.mem_append.1 hy with hy | hy
      · rcases List.mem_append.1 hy with hy | hy
        · have := srt_mem.1 (List.mem_of_mem_take hy)
          exact ⟨this.1, List.mem_append.2 (.inl this.2)⟩
        · rw [List.mem_singleton.1 hy]
          exact ⟨hx, by simp⟩
      · have := srt_mem.1 (List.mem_of_mem_drop hy)
        exact ⟨this.1, List.mem_append.2 (.inl this.2)⟩
    · rintro ⟨hr, hy⟩
      rcases List.mem_append.1 hy with hy | hy
      · have : y ∈ srt n A := srt_mem.2 ⟨hr, hy⟩
        rw [← hs] at this
        rcases List.mem_append.1 this with h | h
        · exact List.mem_append.2 (.inl (List.mem_append.2 (.inl h)))
        · exact List.mem_append.2 (.inr h)
      · exact List.mem_append.2 (.inl (List.mem_append.2 (.inr hy)))
theorem put_e {S M : List Int} {k : Nat} {x : Int} (h : S.take k ++ [x] ++ S.drop k = M) : List.drop 0 (List.take k S) ++ [x] ++ List.drop k (List.take (List.map i64 S).length S) = M := by
  rw [← h, List.drop_zero, List.length_map, List.take_length]
theorem srt_le (n : Int) (l : List Int) : (srt n l).length ≤ n.toNat := by
  unfold srt
  rw [List.length_map]
  exact Nat.le_trans (List.length_filter_le _ _) (by rw [List.length_range]; exact Nat.le_refl _)
theorem srt_nil (n : Int) : srt n [] = [] := by unfold srt; simp
theorem img_new {n : Int} {l : List Int} {g : Int → Int} (hc : crowd n l) (hg : okF n l g) {k : Nat} (hk : k < l.length) : (0 ≤ g l[k] ∧ g l[k] < n) ∧ g l[k] ∉ srt n ((l.take k).map g) := by
  refine ⟨hg.1 _ (List.getElem_mem hk), fun h => ?_⟩
  obtain ⟨a, ha, e⟩ := List.mem_map.1 (srt_mem.1 h).2
  have e2 := hg.2 a (List.mem_of_mem_take ha) _ (List.getElem_mem hk) e
  obtain ⟨i, hi, e3⟩ := List.mem_iff_getElem.1 ha
  rw [List.length_take] at hi
  rw [List.getElem_take] at e3
  have := List.pairwise_iff_getElem.1 (rise_pw hc.2.2) i k (by omega) hk (by omega)
  omega
theorem img_next {n : Int} {l : List Int} {g : Int → Int} {k : Nat} (hk : k < l.length) : srt n ((l.take k).map g ++ [g l[k]]) = srt n ((l.take (k + 1)).map g) := by
  rw [take_snoc hk, List.map_append]; rfl
def putK (n : Int) (f : Int → Int) (l : List Int) : Nat → List Int
  | 0 => []
  | k + 1 => srt n ((l.take (k + 1)).map f)
theorem putK_eq (n : Int) (f : Int → Int) (l : List Int) (k : Nat) : putK n f l k = srt n ((l.take k).map f) := by
  cases k with
  | zero => rw [List.take_zero, List.map_nil, srt_nil]; rfl
  | succ k => rfl
theorem miF_eq {n : Int} {p : Int} (h : 0 ≤ p ∧ p < n) : (n - 1 - p + n) % n = miF n p := by
  unfold miF
  rw [Int.add_emod_right, Int.emod_eq_of_lt (by omega) (by omega)]
end Sx
/- Plain words: gaps and views of robots. -/
namespace Sx
/-- The gap from a place to another one. -/
def gp (n a b : Int) : Int := if (b - a + n) % n = 0 then n else (b - a + n) % n
theorem gp_0 {n a b : Int} (h : (b - a + n) % n = 0) : gp n a b = n := if_pos h
theorem gp_1 {n a b : Int} (h : ¬ (b - a + n) % n = 0) : gp n a b = (b - a + n) % n := if_neg h
theorem gp_bd {n a b : Int} (hn : 0 < n) : 0 < gp n a b ∧ gp n a b ≤ n := by
  have h1 := Int.emod_nonneg (b - a + n) (show n ≠ 0 by omega)
  have h2 := Int.emod_lt_of_pos (b - a + n) hn
  unfold gp; split <;> omega
/-- The k-th gap of a robot to the right. -/
def gapAt (n : Int) (l : List Int) (i k : Nat) : Int := gp n (l.getD ((i + k) % l.length) 0) (l.getD ((i + k + 1) % l.length) 0)
def gapsR (n : Int) (l : List Int) (i : Nat) : List Int := (List.range l.length).map (gapAt n l i)
def gapsK (n : Int) (l : List Int) (i k : Nat) : List Int := (List.range k).map (gapAt n l i)
@[simp] theorem gapsR_len (n : Int) (l : List Int) (i : Nat) : (gapsR n l i).length = l.length := by simp [gapsR]
theorem gapsK_succ (n : Int) (l : List Int) (i k : Nat) : gapsK n l i (k + 1) = gapsK n l i k ++ [gapAt n l i k] := by simp [gapsK, List.range_succ]
/-- The gaps to the left, in turn. -/
def gapsL (n : Int) (l : List Int) (i k : Nat) : List Int := (List.range k).map fun j => gapAt n l i (l.length - 1 - j)
theorem gapsL_succ (n : Int) (l : List Int) (i k : Nat) : gapsL n l i (k + 1) = gapsL n l i k ++ [gapAt n l i (l.length - 1 - k)] := by simp [gapsL, List.range_succ]
theorem gapsL_all (n : Int) (l : List Int) (i : Nat) : gapsL n l i l.length = (gapsR n l i).reverse := by
  apply List.ext_getElem
  · simp [gapsL]
  · intro j h1 h2
    simp [gapsL, gapsR]
theorem mod_lt {a m : Nat} (h : 0 < m) : a % m < m := Nat.mod_lt _ h
/-- The way of a robot: the sign of how its gaps compare, turned. -/
def viewL (n : Int) (l : List Int) (i : Nat) : List Int := if cmpL (gapsR n l i) (gapsR n l i).reverse ≤ 0 then gapsR n l i else (gapsR n l i).reverse
def wayL (n : Int) (l : List Int) (i : Nat) : Int := - cmpL (gapsR n l i) (gapsR n l i).reverse
end Sx
/- Plain words: lists of lists that are sorted. -/
namespace Sx
theorem cmpL_anti2 : ∀ a b : List Int, cmpL b a = - cmpL a b
  | [], [] => rfl
  | [], _ :: _ => rfl
  | _ :: _, [] => rfl
  | a :: xs, b :: ys => by
    unfold cmpL
    rcases Int.lt_trichotomy a b with h | h | h
    · rw [if_neg (by omega), if_pos h, if_pos h]; rfl
    · rw [if_neg (by omega), if_neg (by omega), if_neg (by omega), if_neg (by omega)]
      exact cmpL_anti2 xs ys
    · rw [if_pos h, if_neg (by omega), if_pos h]
theorem cmpL_nil (b : List Int) : cmpL [] b ≤ 0 := by
  cases b
  · exact Int.le_refl _
  · show (-1 : Int) ≤ 0; decide
theorem cmpL_cons {a b : Int} {xs ys : List Int} : cmpL (a :: xs) (b :: ys) ≤ 0 ↔ a < b ∨ (a = b ∧ cmpL xs ys ≤ 0) := by
  conv => lhs; unfold cmpL
  rcases Int.lt_trichotomy a b with h | h | h
  · rw [if_pos h]
    exact ⟨fun _ => .inl h, fun _ => by decide⟩
  · rw [if_neg (by omega), if_neg (by omega)]
    exact ⟨fun x => .inr ⟨h, x⟩, fun x => by rcases x with x | x; · omega
                                             · exact x.2⟩
  · rw [if_neg (by omega), if_pos h]
    exact ⟨fun x => absurd x (by decide), fun x => by rcases x with x | x <;> omega⟩
theorem cmpL_trans : ∀ {a b c : List Int}, cmpL a b ≤ 0 → cmpL b c ≤ 0 → cmpL a c ≤ 0
  | [], _, c, _, _ => cmpL_nil c
  | _ :: _, [], _, h, _ => absurd h (by show ¬ (1 : Int) ≤ 0; decide)
  | _ :: _, _ :: _, [], _, h => absurd h (by show ¬ (1 : Int) ≤ 0; decide)
  | a :: xs, b :: ys, c :: zs, h1, h2 => by
    rw [cmpL_cons] at h1 h2 ⊢
    rcases h1 with h1 | ⟨h1, g1⟩
    · rcases h2 with h2 | ⟨h2, g2⟩
      · exact .inl (by omega)
      · exact .inl (by omega)
    · rcases h2 with h2 | ⟨h2, g2⟩
      · exact .inl (by omega)
      · exact .inr ⟨by omega, cmpL_trans g1 g2⟩
theorem cmpL_eq : ∀ {a b : List Int}, cmpL a b = 0 → a = b
  | [], [], _ => rfl
  | [], _ :: _, h => absurd h (by show ¬ (-1 : Int) = 0; decide)
  | _ :: _, [], h => absurd h (by show ¬ (1 : Int) = 0; decide)
  | a :: xs, b :: ys, h => by
    unfold cmpL at h
    rcases Int.lt_trichotomy a b with g | g | g
    · rw [if_pos g] at h; exact absurd h (by decide)
    · rw [if_neg (by omega), if_neg (by omega)] at h
      rw [g, cmpL_eq h]
    · rw [if_neg (by omega), if_pos g] at h; exact absurd h (by decide)
theorem cmpL_lt_trans {a b c : List Int} (h1 : cmpL a b < 0) (h2 : cmpL b c < 0) : cmpL a c < 0 := by
  have h := cmpL_trans (a := a) (b := b) (c := c) (by omega) (by omega)
  rcases Int.lt_or_eq_of_le h with g | g
  · exact g
  · have := cmpL_eq g
    subst this
    rw [cmpL_anti2] at h2
    omega
/-! A list is sorted up to a place, but for one element that is on its way. -/
def sortIL (X : List (List Int)) (i j : Nat) : Prop := ∀ p q, p < q → q ≤ i → q ≠ j → cmpL (X.getD p []) (X.getD q []) ≤ 0
def sortUL (X : List (List Int)) (i : Nat) : Prop := ∀ p q, p < q → q < i → cmpL (X.getD p []) (X.getD q []) ≤ 0
theorem sortIL_start {X : List (List Int)} {i : Nat} (h : sortUL X i) : sortIL X i i := fun p q h1 h2 h3 => h p q h1 (by omega)
theorem sortIL_end {X : List (List Int)} {i j : Nat} (h : sortIL X i j) (hj : j = 0 ∨ cmpL (X.getD (j - 1) []) (X.getD j []) ≤ 0) : sortUL X (i + 1) := fun p q h1 h2 => by
  by_cases e : q = j
  · subst e
    rcases hj with hj | hj
    · omega
    · by_cases e2 : p = q - 1
      · subst e2; exact hj
      · exact cmpL_trans (h p (q - 1) (by omega) (by omega) (by omega)) hj
  · exact h p q h1 (by omega) e
theorem getL {X : List (List Int)} {i : Nat} (h : i < X.length) : X.getD i [] = X[i] := by rw [List.getD_eq_getElem?_getD, List.getElem?_eq_getElem h]; rfl
theorem getD_setL {X : List (List Int)} {k m : Nat} {x : List Int} (h : k < X.length) : (X.set k x).getD m [] = if k = m then x else X.getD m [] := by
  rw [List.getD_eq_getElem?_getD, List.getElem?_set]
  split
  · rename_i e
    subst e
    simp [h]
  · rw [← List.getD_eq_getElem?_getD]
def swpL (X : List (List Int)) (j : Nat) : List (List Int) := (X.set j (X.getD (j - 1) [])).set (j - 1) (X.getD j [])
@[simp] theorem swpL_len (X : List (List Int)) (j : Nat) : (swpL X j).length = X.length := by simp [swpL]
theorem swpL_get {X : List (List Int)} {j m : Nat} (hj : 0 < j) (h : j < X.length) : (swpL X j).getD m [] = if m = j - 1 then X.getD j [] else if m = j then X.getD (j - 1) [] else X.getD m [] := by
  unfold swpL
  rw [getD_setL (by rw [List.length_set]; omega), getD_setL h]
  by_cases e : m = j - 1
  · rw [if_pos e.symm, if_pos e]
  · rw [if_neg (show ¬ j - 1 = m from fun x => e x.symm), if_neg e]
    by_cases e2 : m = j
    · rw [if_pos e2.symm, if_pos e2]
    · rw [if_neg (show ¬ j = m from fun x => e2 x.symm), if_neg e2]
theorem swpL_row {Y : List (List Int)} {j : Nat} (h0 : 0 < j) (h : j < Y.length) : (((Y.set j (Y[j - 1]'(by omega))).set ((j : Int) - 1).toNat Y[j]).map ints) = (swpL Y j).map ints := by
  unfold swpL
  rw [getL h, getL (by omega), show ((j : Int) - 1).toNat = j - 1 by omega]
theorem sortIL_swp {X : List (List Int)} {i j : Nat} (hj : 0 < j) (hji : j ≤ i) (hi : i < X.length) (h : sortIL X i j) (hlt : cmpL (X.getD j []) (X.getD (j - 1) []) < 0) : sortIL (swpL X j) i (j - 1) := fun p q h1 h2 h3 => by
  rw [swpL_get hj (by omega), swpL_get hj (by omega), if_neg h3]
  by_cases e : q = j
  · rw [if_pos e]
    by_cases e2 : p = j - 1
    · rw [if_pos e2]; omega
    · rw [if_neg e2, if_neg (by omega)]
      exact h p (j - 1) (by omega) (by omega) (by omega)
  · rw [if_neg e]
    by_cases e2 : p = j - 1
    · rw [if_pos e2]; subst e2; exact h j q (by omega) h2 e
    · rw [if_neg e2]
      by_cases e3 : p = j
      · rw [if_pos e3]; exact h (j - 1) q (by omega) h2 e
      · rw [if_neg e3]; exact h p q h1 h2 e
theorem swpL_perm {X : List (List Int)} {j : Nat} (hj : 0 < j) (h : j < X.length) : (swpL X j).Perm X := by
  unfold swpL
  rw [getL (by omega), getL h]
  exact List.set_set_perm h (by omega)
/-- Two rising lists of lists with the same members are the same. -/
theorem pwL_eq : ∀ {a b : List (List Int)}, a.Pairwise (fun x y => cmpL x y < 0) → b.Pairwise (fun x y => cmpL x y < 0) → (∀ x, x ∈ a ↔ x ∈ b) → a = b
  | [], [], _, _, _ => rfl
  | [], y :: b, _, _, h => absurd ((h y).2 (List.mem_cons_self ..)) (List.not_mem_nil)
  | x :: a, [], _, _, h => absurd ((h x).1 (List.mem_cons_self ..)) (List.not_mem_nil)
  | x :: a, y :: b, ha, hb, h => by
    rw [List.pairwise_cons] at ha hb
    have e : x = y := by
      rcases List.mem_cons.1 ((h x).1 (List.mem_cons_self ..)) with e | e
      · exact e
      · rcases List.mem_cons.1 ((h y).2 (List.mem_cons_self ..)) with e2 | e2
        · exact e2.symm
        · have h1 := hb.1 x e
          have h2 := ha.1 y e2
          rw [cmpL_anti2] at h1
          omega
    subst e
    have irr : ¬ cmpL x x < 0 := by rw [cmpL_self]; exact Int.lt_irrefl _
    congr 1
    refine pwL_eq ha.2 hb.2 fun z => ?_
    constructor
    · intro hz
      rcases List.mem_cons.1 ((h z).1 (List.mem_cons_of_mem _ hz)) with e | e
      · subst e; exact absurd (ha.1 z hz) irr
      · exact e
    · intro hz
      rcases List.mem_cons.1 ((h z).2 (List.mem_cons_of_mem _ hz)) with e | e
      · subst e; exact absurd (hb.1 z hz) irr
      · exact e
/-- The elements before j that differ from the one before. -/
noncomputable def cpK (S : List (List Int)) (j : Nat) : List (List Int) := ((List.range j).filter fun i => decide (i = 0 ∨ S.getD i [] ≠ S.getD (i - 1) [])).map fun i => S.getD i []
theorem cpK_succ (S : List (List Int)) (j : Nat) : cpK S (j + 1) = if j = 0 ∨ S.getD j [] ≠ S.getD (j - 1) [] then cpK S j ++ [S.getD j []] else cpK S j := by
  unfold cpK
  rw [List.range_succ, List.filter_append, List.map_append]
  by_cases h : j = 0 ∨ S.getD j [] ≠ S.getD (j - 1) []
  · rw [if_pos h, List.filter_cons, if_pos (decide_eq_true h), List.filter_nil]; rfl
  · rw [if_neg h, List.filter_cons, if_neg (fun x => h (of_decide_eq_true x)), List.filter_nil, List.map_nil, List.append_nil]
theorem cpK_yes {S : List (List Int)} {j : Nat} (h : j = 0 ∨ S.getD j [] ≠ S.getD (j - 1) []) : cpK S (j + 1) = cpK S j ++ [S.getD j []] := by rw [cpK_succ, if_pos h]
theorem cpK_no {S : List (List Int)} {j : Nat} (h : ¬ (j = 0 ∨ S.getD j [] ≠ S.getD (j - 1) [])) : cpK S (j + 1) = cpK S j := by rw [cpK_succ, if_neg h]
/-- No element is like the one before, up to j. -/
def noDup (S : List (List Int)) (j : Nat) : Prop := ∀ i, 0 < i → i < j → S.getD i [] ≠ S.getD (i - 1) []
theorem cpK_nd {S : List (List Int)} : ∀ {j : Nat}, j ≤ S.length → noDup S j → cpK S j = S.take j
  | 0, _, _ => by simp [cpK]
  | j + 1, hj, h => by
    have h0 := cpK_nd (j := j) (by omega) fun i h1 h2 => h i h1 (by omega)
    have hy : j = 0 ∨ S.getD j [] ≠ S.getD (j - 1) [] := by
      by_cases e : j = 0
      · exact .inl e
      · exact .inr (h j (by omega) (by omega))
    rw [cpK_yes hy, h0, take_snoc (show j < S.length by omega), getL (by omega)]
theorem cpK_mem {S : List (List Int)} : ∀ {j : Nat}, j ≤ S.length → ∀ x, x ∈ cpK S j ↔ x ∈ S.take j
  | 0, _, x => by simp [cpK]
  | j + 1, hj, x => by
    have ih := cpK_mem (S := S) (j := j) (by omega) x
    have ht : S.take (j + 1) = S.take j ++ [S.getD j []] := by rw [take_snoc (show j < S.length by omega), getL (by omega)]
    rw [ht]
    by_cases h : j = 0 ∨ S.getD j [] ≠ S.getD (j - 1) []
    · rw [cpK_yes h, List.mem_append, List.mem_append, ih]
    · rw [cpK_no h, ih, List.mem_append]
      refine ⟨.inl, fun hx => ?_⟩
      rcases hx with hx | hx
      · exact hx
      · have hj0 : j ≠ 0 := fun e => h (.inl e)
        have he : S.getD j [] = S.getD (j - 1) [] := Classical.not_not.1 fun e => h (.inr e)
        rw [List.mem_singleton.1 hx, he, getL (by omega)]
        have : S[j - 1] = (S.take j)[j - 1]'(by rw [List.length_take]; omega) := by rw [List.getElem_take]
        rw [this]
        exact List.getElem_mem _
theorem cpK_pw {S : List (List Int)} (hs : sortUL S S.length) : ∀ {j : Nat}, j ≤ S.length → (cpK S j).Pairwise (fun x y => cmpL x y < 0)
  | 0, _ => by simp [cpK]
  | j + 1, hj => by
    have ih := cpK_pw hs (j := j) (by omega)
    by_cases h : j = 0 ∨ S.getD j [] ≠ S.getD (j - 1) []
    · rw [cpK_yes h, List.pairwise_append]
      refine ⟨ih, List.pairwise_singleton _ _, fun x hx y hy => ?_⟩
      rw [List.mem_singleton.1 hy]
      have hx2 := (cpK_mem (S := S) (j := j) (by omega) x).1 hx
      obtain ⟨i, hi, rfl⟩ := List.mem_iff_getElem.1 hx2
      rw [List.length_take] at hi
      rw [List.getElem_take, ← getL (X := S) (i := i) (by omega)]
      have hle := hs i j (by omega) (by omega)
      rcases h with h | h
      · omega
      · rcases Int.lt_or_eq_of_le hle with g | g
        · exact g
        · exfalso
          have e1 := cmpL_eq g
          have h1 : cmpL (S.getD (j - 1) []) (S.getD j []) ≤ 0 := hs (j - 1) j (by omega) (by omega)
          have h2 : cmpL (S.getD j []) (S.getD (j - 1) []) ≤ 0 := by
            by_cases e : i = j - 1
            · subst e; rw [← e1, cmpL_self]; exact Int.le_refl _
            · rw [← e1]; exact hs i (j - 1) (by omega) (by omega)
          rw [cmpL_anti2] at h2
          exact h (cmpL_eq (by omega)).symm
    · rw [cpK_no h]; exact ih
/-- A list that rises with the members of V is the sorted list without doubles. -/
theorem cpK_eq {V M D : List (List Int)} (hp : M.Perm V) (hs : sortUL M M.length) (hD : D.Pairwise (fun x y => cmpL x y < 0)) (hm : ∀ x, x ∈ D ↔ x ∈ V) : cpK M M.length = D :=
  pwL_eq (cpK_pw hs (Nat.le_refl _)) hD fun x => by rw [cpK_mem (Nat.le_refl _), List.take_length, hm, hp.mem_iff]
/-- A list is put to its place. -/
theorem putL {D : List (List Int)} {v : List Int} {k : Nat} (hp : D.Pairwise (fun x y => cmpL x y < 0)) (h1 : ∀ y ∈ D.take k, cmpL y v < 0) (h2 : ∀ y ∈ D.drop k, cmpL v y < 0) :
    (D.take k ++ [v] ++ D.drop k).Pairwise (fun x y => cmpL x y < 0) ∧ ∀ x, x ∈ D.take k ++ [v] ++ D.drop k ↔ x ∈ D ∨ x = v := by
  have hs : D.take k ++ D.drop k = D := List.take_append_drop _ _
  refine ⟨?_, fun x => ?_⟩
  · rw [List.append_assoc, List.pairwise_append]
    rw [← hs, List.pairwise_append] at hp
    refine ⟨hp.1, ?_, fun a ha b hb => ?_⟩
    · rw [List.singleton_append, List.pairwise_cons]
      exact ⟨h2, hp.2.1⟩
    · rcases List.mem_append.1 hb with hb | hb
      · rw [List.mem_singleton.1 hb]; exact h1 a ha
      · exact hp.2.2 a ha b hb
  · rw [List.mem_append, List.mem_append, List.mem_singleton]
    conv => rhs; rw [← hs, List.mem_append]
    constructor
    · rintro ((h | h) | h)
      · exact .inl (.inl h)
      · exact .inr h
      · exact .inl (.inr h)
    · rintro ((h | h) | h)
      · exact .inl (.inl h)
      · exact .inr h
      · exact .inl (.inr h)
/-- In a rising list all behind an element that is greater are greater. -/
theorem putL_drop {D : List (List Int)} {v : List Int} {k : Nat} (hp : D.Pairwise (fun x y => cmpL x y < 0)) (hk : k < D.length) (h : ¬ cmpL D[k] v < 0) (hne : ¬ D[k] = v) : ∀ y ∈ D.drop k, cmpL v y < 0 := fun y hy => by
  have h0 : cmpL v D[k] < 0 := by
    have h1 := cmpL_anti2 D[k] v
    rcases Int.lt_or_eq_of_le (show cmpL v D[k] ≤ 0 by omega) with g | g
    · exact g
    · exact absurd (cmpL_eq g).symm hne
  rw [List.drop_eq_getElem_cons hk] at hy
  rcases List.mem_cons.1 hy with hy | hy
  · rw [hy]; exact h0
  · rw [← List.take_append_drop (k + 1) D, List.pairwise_append] at hp
    exact cmpL_lt_trans h0 (hp.2.2 D[k] (by rw [take_snoc hk]; exact List.mem_append.2 (.inr (List.mem_singleton.2 rfl))) y hy)
end Sx
/- Plain words: the views of a crowd in order, and ranks. -/
namespace Sx
/-- D holds the first k of the lists, in order. -/
def risen (V : Nat → List Int) (D : List (List Int)) (k : Nat) : Prop := D.Pairwise (fun x y => cmpL x y < 0) ∧ ∀ x, x ∈ D ↔ ∃ i, i < k ∧ V i = x
theorem risen_zero (V : Nat → List Int) : risen V [] 0 := ⟨.nil, fun x => ⟨fun h => (List.not_mem_nil h).elim, fun h => h.elim fun i h => absurd h.1 (Nat.not_lt_zero _)⟩⟩
theorem risen_in {V : Nat → List Int} {D : List (List Int)} {k : Nat} {v : List Int} (h : risen V D k) (hv : V k = v) (hm : v ∈ D) : risen V D (k + 1) := ⟨h.1, fun x => by
  rw [h.2]
  constructor
  · rintro ⟨i, hi, e⟩; exact ⟨i, by omega, e⟩
  · rintro ⟨i, hi, e⟩
    by_cases e2 : i = k
    · subst e2; rw [← e, hv]; exact (h.2 v).1 hm
    · exact ⟨i, by omega, e⟩⟩
theorem risen_more {V : Nat → List Int} {D D' : List (List Int)} {k : Nat} {v : List Int} (h : risen V D k) (hv : V k = v) (hp : D'.Pairwise (fun x y => cmpL x y < 0)) (hm : ∀ x, x ∈ D' ↔ x ∈ D ∨ x = v) : risen V D' (k + 1) := by
  refine ⟨hp, fun x => ?_⟩
  rw [hm, h.2]
  constructor
  · rintro (⟨i, hi, e⟩ | e)
    · exact ⟨i, by omega, e⟩
    · exact ⟨k, by omega, by rw [hv, e]⟩
  · rintro ⟨i, hi, e⟩
    by_cases e2 : i = k
    · subst e2; exact .inr (by rw [← e, hv])
    · exact .inl ⟨i, by omega, e⟩
theorem risen_put {V : Nat → List Int} {D : List (List Int)} {k j : Nat} {v : List Int} (h : risen V D k) (hv : V k = v) (h1 : ∀ y ∈ D.take j, cmpL y v < 0) (h2 : ∀ y ∈ D.drop j, cmpL v y < 0) : risen V (D.take j ++ [v] ++ D.drop j) (k + 1) :=
  risen_more h hv (putL h.1 h1 h2).1 (putL h.1 h1 h2).2
theorem risen_eq {V : Nat → List Int} {D D' : List (List Int)} {k : Nat} (h : risen V D k) (h' : risen V D' k) : D = D' := pwL_eq h.1 h'.1 fun x => by rw [h.2, h'.2]
/-! the list that a list is put into -/
noncomputable def insL (v : List Int) : List (List Int) → List (List Int)
  | [] => [v]
  | y :: D => if cmpL y v < 0 then y :: insL v D else if y = v then y :: D else v :: y :: D
theorem insL_mem {v : List Int} : ∀ {D : List (List Int)} (x : List Int), x ∈ insL v D ↔ x ∈ D ∨ x = v
  | [], x => by simp [insL]
  | y :: D, x => by
    unfold insL
    split
    · rw [List.mem_cons, insL_mem, List.mem_cons, or_assoc]
    · split
      · rename_i _ e
        subst e
        exact ⟨.inl, fun h => h.elim id fun h => by rw [h]; exact List.mem_cons_self ..⟩
      · rw [List.mem_cons, or_comm]
theorem insL_pw {v : List Int} : ∀ {D : List (List Int)}, D.Pairwise (fun x y => cmpL x y < 0) → (insL v D).Pairwise (fun x y => cmpL x y < 0)
  | [], _ => List.pairwise_singleton _ _
  | y :: D, h => by
    rw [List.pairwise_cons] at h
    unfold insL
    split
    · rename_i h1
      rw [List.pairwise_cons]
      refine ⟨fun x hx => ?_, insL_pw h.2⟩
      rcases (insL_mem x).1 hx with hx | hx
      · exact h.1 x hx
      · rw [hx]; exact h1
    · rename_i h1
      split
      · rw [List.pairwise_cons]; exact h
      · rename_i h2
        have h0 : cmpL v y < 0 := by
          have h1 := cmpL_anti2 y v
          rcases Int.lt_or_eq_of_le (show cmpL v y ≤ 0 by omega) with g | g
          · exact g
          · exact absurd (cmpL_eq g).symm h2
        rw [List.pairwise_cons, List.pairwise_cons]
        refine ⟨fun x hx => ?_, h⟩
        rcases List.mem_cons.1 hx with hx | hx
        · rw [hx]; exact h0
        · exact cmpL_lt_trans h0 (h.1 x hx)
theorem insL_le {v : List Int} : ∀ {D : List (List Int)}, (insL v D).length ≤ D.length + 1
  | [] => Nat.le_refl _
  | y :: D => by
    unfold insL
    split
    · have := insL_le (v := v) (D := D); simp only [List.length_cons]; omega
    · split
      · simp only [List.length_cons]; omega
      · simp only [List.length_cons]; omega
noncomputable def risenD (V : Nat → List Int) : Nat → List (List Int)
  | 0 => []
  | k + 1 => insL (V k) (risenD V k)
theorem risenD_ok (V : Nat → List Int) : ∀ k, risen V (risenD V k) k
  | 0 => risen_zero V
  | k + 1 => risen_more (risenD_ok V k) rfl (insL_pw (risenD_ok V k).1) insL_mem
theorem risenD_le (V : Nat → List Int) : ∀ k, (risenD V k).length ≤ k
  | 0 => Nat.le_refl _
  | k + 1 => by have h1 := risenD_le V k; have h2 := insL_le (v := V k) (D := risenD V k); show (insL (V k) (risenD V k)).length ≤ k + 1; omega
/-- The places of lists in a list of lists. -/
noncomputable def ranksO (V : Nat → List Int) (D : List (List Int)) : Nat → List Int
  | 0 => []
  | k + 1 => ranksO V D k ++ [fIx (fun x => V k = x) D]
@[simp] theorem ranksO_len (V : Nat → List Int) (D : List (List Int)) : ∀ k, (ranksO V D k).length = k
  | 0 => rfl
  | k + 1 => by show (ranksO V D k ++ [_]).length = k + 1; rw [List.length_append, ranksO_len V D k]; rfl
theorem ranksO_get {V : Nat → List Int} {D : List (List Int)} : ∀ {k i : Nat}, i < k → (ranksO V D k)[i]? = some (fIx (fun x => V i = x) D)
  | 0, i, h => absurd h (Nat.not_lt_zero _)
  | k + 1, i, h => by
    show (ranksO V D k ++ [fIx (fun x => V k = x) D])[i]? = _
    by_cases e : i < k
    · rw [List.getElem?_append_left (by rw [ranksO_len]; exact e)]
      exact ranksO_get e
    · have e2 : i = k := by omega
      subst e2
      rw [List.getElem?_append_right (by rw [ranksO_len]; exact Nat.le_refl _), ranksO_len, Nat.sub_self]
      rfl
open Classical in
theorem fIx_lt {α : Type} {p : α → Prop} {L : List α} (h : ∃ l ∈ L, p l) : 0 ≤ fIx p L ∧ fIx p L < L.length := by
  refine ⟨(fIx_ge p L).2 h, ?_⟩
  unfold fIx
  rw [if_pos h]
  obtain ⟨l, hl, hp⟩ := h
  have := List.findIdx_lt_length_of_exists (p := fun l => decide (p l)) ⟨l, hl, by simpa using hp⟩
  omega
noncomputable def rankD (n : Int) (l : List Int) : List (List Int) := risenD (viewL n l) l.length
noncomputable def ranksL (n : Int) (l : List Int) : List Int := ranksO (viewL n l) (rankD n l) l.length
theorem viewL_len (n : Int) (l : List Int) (k : Nat) : (viewL n l k).length = l.length := by
  unfold viewL; split
  · exact gapsR_len n l k
  · rw [List.length_reverse, gapsR_len]
theorem risen_len {n : Int} {l : List Int} {D : List (List Int)} {k : Nat} (h : risen (viewL n l) D k) : ∀ x ∈ D, x.length = l.length := fun x hx => by
  obtain ⟨i, _, e⟩ := (h.2 x).1 hx
  rw [← e, viewL_len]
@[simp] theorem ranksL_len (n : Int) (l : List Int) : (ranksL n l).length = l.length := by unfold ranksL; rw [ranksO_len]
theorem ranksL_in (n : Int) (l : List Int) : ∀ x ∈ ranksL n l, 0 ≤ x ∧ x < l.length := fun x hx => by
  obtain ⟨i, hi, rfl⟩ := List.mem_iff_getElem.1 hx
  have hi2 : i < l.length := by rw [ranksL_len] at hi; exact hi
  have h1 := risenD_ok (viewL n l) l.length
  have h2 := risenD_le (viewL n l) l.length
  have e : (ranksL n l)[i] = fIx (fun x => viewL n l i = x) (rankD n l) := by
    have := List.getElem?_eq_getElem hi
    rw [show (ranksL n l)[i]? = some (fIx (fun x => viewL n l i = x) (rankD n l)) from ranksO_get hi2] at this
    exact (Option.some.inj this).symm
  rw [e]
  have := fIx_lt (p := fun x => viewL n l i = x) (L := rankD n l) ⟨viewL n l i, (h1.2 _).2 ⟨i, hi2, rfl⟩, rfl⟩
  unfold rankD at this ⊢
  omega
end Sx
/- Plain words: the elected robot. -/
namespace Sx
theorem ix_first {R : List Int} {r : Int} (h : r ∈ R) : ∃ k, ∃ hk : k < R.length, ixOf R r = (k : Int) ∧ R[k] = r ∧ r ∉ R.take k := by
  have hk : R.idxOf r < R.length := List.idxOf_lt_length_iff.2 h
  have hg : R[R.idxOf r] = r := List.getElem_idxOf hk
  refine ⟨R.idxOf r, hk, by unfold ixOf; rw [if_pos h], hg, fun hm => ?_⟩
  have h1 := congrArg (List.idxOf r) (List.take_append_drop (R.idxOf r) R).symm
  rw [List.idxOf_append, if_pos hm] at h1
  have h2 := List.idxOf_lt_length_iff.2 hm
  rw [List.length_take] at h2
  omega
theorem count_at {R : List Int} {k : Nat} (hk : k < R.length) : R.count R[k] = (R.take k).count R[k] + 1 + (R.drop (k + 1)).count R[k] := by
  obtain ⟨x, hx⟩ : ∃ x, R[k] = x := ⟨_, rfl⟩
  rw [hx]
  have e : R = R.take k ++ (x :: R.drop (k + 1)) := by rw [← hx, ← List.drop_eq_getElem_cons hk, List.take_append_drop]
  have h2 := congrArg (List.count x) e
  rw [List.count_append, List.count_cons_self] at h2
  omega
/-- The number of the elected one of the first k, or -1. -/
def elK (R : List Int) : Nat → Int
  | 0 => -1
  | k + 1 => if R.count (R.getD k 0) = 1 ∧ (elK R k < 0 ∨ R.getD k 0 < R.getD (elK R k).toNat 0) then (k : Int) else elK R k
theorem elK_yes {R : List Int} {k : Nat} (h : R.count (R.getD k 0) = 1 ∧ (elK R k < 0 ∨ R.getD k 0 < R.getD (elK R k).toNat 0)) : elK R (k + 1) = k := if_pos h
theorem elK_no {R : List Int} {k : Nat} (h : ¬ (R.count (R.getD k 0) = 1 ∧ (elK R k < 0 ∨ R.getD k 0 < R.getD (elK R k).toNat 0))) : elK R (k + 1) = elK R k := if_neg h
theorem elK_bd (R : List Int) : ∀ k, -1 ≤ elK R k ∧ elK R k < k
  | 0 => ⟨Int.le_refl _, by show (-1 : Int) < 0; decide⟩
  | k + 1 => by
    have := elK_bd R k
    by_cases h : R.count (R.getD k 0) = 1 ∧ (elK R k < 0 ∨ R.getD k 0 < R.getD (elK R k).toNat 0)
    · rw [elK_yes h]; omega
    · rw [elK_no h]; omega
theorem elK_spec (R : List Int) : ∀ k, (elK R k = -1 ∧ ∀ i, i < k → R.count (R.getD i 0) ≠ 1) ∨ (∃ e : Nat, e < k ∧ elK R k = e ∧ R.count (R.getD e 0) = 1 ∧ ∀ i, i < k → R.count (R.getD i 0) = 1 → R.getD e 0 ≤ R.getD i 0)
  | 0 => .inl ⟨rfl, fun i h => by omega⟩
  | k + 1 => by
    by_cases h : R.count (R.getD k 0) = 1 ∧ (elK R k < 0 ∨ R.getD k 0 < R.getD (elK R k).toNat 0)
    · refine .inr ⟨k, by omega, elK_yes h, h.1, fun i hi hc => ?_⟩
      by_cases e : i = k
      · rw [e]; exact Int.le_refl _
      · rcases elK_spec R k with ⟨_, g⟩ | ⟨m, g1, g2, g3, g4⟩
        · exact absurd hc (g i (by omega))
        · rw [g2, Int.toNat_natCast] at h
          have := g4 i (by omega) hc
          omega
    · rw [elK_no h]
      rcases elK_spec R k with ⟨g0, g⟩ | ⟨m, g1, g2, g3, g4⟩
      · refine .inl ⟨g0, fun i hi hc => ?_⟩
        by_cases e : i = k
        · subst e; exact h ⟨hc, .inl (by omega)⟩
        · exact g i (by omega) hc
      · refine .inr ⟨m, by omega, g2, g3, fun i hi hc => ?_⟩
        by_cases e : i = k
        · subst e
          rw [g2, Int.toNat_natCast] at h
          have : ¬ R.getD i 0 < R.getD m 0 := fun x => h ⟨hc, .inr x⟩
          omega
        · exact g4 i (by omega) hc
theorem elI_get {R : List Int} {i : Nat} (h : i < R.length) : R.getD i 0 = R[i] := by rw [List.getD_eq_getElem?_getD, List.getElem?_eq_getElem h]; rfl
/-- No rank less than r is that of one robot alone. -/
def elInv (R : List Int) (r : Int) : Prop := ∀ i, i < R.length → R.count (R.getD i 0) = 1 → r ≤ R.getD i 0
theorem el_found {R : List Int} {r : Int} {k : Nat} (h : elInv R r) (hk : k < R.length) (e : R[k] = r) (h1 : r ∉ R.take k) (h2 : r ∉ R.drop (k + 1)) : elK R R.length = k := by
  have hc : R.count (R.getD k 0) = 1 := by
    rw [elI_get hk, count_at hk, e, List.count_eq_zero.2 h1, List.count_eq_zero.2 h2]
  rcases elK_spec R R.length with ⟨_, g⟩ | ⟨m, g1, g2, g3, g4⟩
  · exact absurd hc (g k hk)
  · have a := g4 k hk hc
    have b := h m g1 g3
    have er : R[m] = r := by rw [elI_get hk, elI_get g1, e] at a; rw [elI_get g1] at b; omega
    rw [g2]
    rcases Nat.lt_trichotomy m k with x | x | x
    · exact absurd (List.mem_iff_getElem.2 ⟨m, by rw [List.length_take]; omega, by rw [List.getElem_take]; exact er⟩) h1
    · rw [x]
    · exact absurd (List.mem_iff_getElem.2 ⟨m - (k + 1), by rw [List.length_drop]; omega, by rw [List.getElem_drop]; simp only [show k + 1 + (m - (k + 1)) = m by omega]; exact er⟩) h2
theorem el_next {R : List Int} {r : Int} (h : elInv R r) (hr : R.count r ≠ 1) : elInv R (r + 1) := fun i hi hc => by
  have := h i hi hc
  have hne : R.getD i 0 ≠ r := fun e => hr (by rw [← e]; exact hc)
  omega
theorem el_many {R : List Int} {r : Int} {k : Nat} (hk : k < R.length) (e : R[k] = r) (h2 : r ∈ R.drop (k + 1)) : R.count r ≠ 1 := by
  have := count_at hk
  rw [e] at this
  have := List.one_le_count_iff.2 h2
  omega
theorem el_zero {R : List Int} {r : Int} (h : r ∉ R) : R.count r ≠ 1 := by rw [List.count_eq_zero.2 h]; omega
theorem el_none {R : List Int} (h : elInv R R.length) (hb : ∀ x ∈ R, 0 ≤ x ∧ x < R.length) : elK R R.length = -1 := by
  rcases elK_spec R R.length with ⟨g, _⟩ | ⟨m, g1, g2, g3, g4⟩
  · exact g
  · have := h m g1 g3
    rw [elI_get g1] at this
    have := hb _ (List.getElem_mem g1)
    omega
theorem el_start {R : List Int} (hb : ∀ x ∈ R, 0 ≤ x ∧ x < R.length) : elInv R 0 := fun i hi _ => by
  rw [elI_get hi]
  exact (hb _ (List.getElem_mem hi)).1
theorem count_take {R : List Int} {k : Nat} (h : k < R.length) (x : Int) : (R.take (k + 1)).count x = (R.take k).count x + if R[k] = x then 1 else 0 := by
  rw [take_snoc h, List.count_append, List.count_singleton]
  simp
noncomputable def elI (n : Int) (l : List Int) : Int := elK (ranksL n l) l.length
theorem elI_bd (n : Int) (l : List Int) : -1 ≤ elI n l ∧ elI n l < l.length := elK_bd _ _
/-- The place of the elected robot, or -1. -/
noncomputable def elP (n : Int) (l : List Int) : Int := if elI n l < 0 then -1 else l.getD (elI n l).toNat 0
end Sx
/- Plain words: turns of crowds by a rule. -/
namespace Sx
def isRule (r : List Int) : Prop := (r.length : Int) = 6 ∧ ∀ x ∈ r, -1 ≤ x ∧ x ≤ 1
open Classical in
noncomputable instance (r : List Int) : Decidable (isRule r) := propDecidable _
theorem wayL_bd (n : Int) (l : List Int) (i : Nat) : -1 ≤ wayL n l i ∧ wayL n l i ≤ 1 := by
  have := cmpL_bd (gapsR n l i) (gapsR n l i).reverse
  unfold wayL; omega
/-- Where a robot goes. -/
noncomputable def tgt (n : Int) (l r : List Int) (i : Nat) : Int := (l.getD i 0 + wayL n l i * r.getD ((ranksL n l).getD i 0).toNat 0 + n) % n
noncomputable def tgts (n : Int) (l r : List Int) (k : Nat) : List Int := (List.range k).map (tgt n l r)
@[simp] theorem tgts_len (n : Int) (l r : List Int) (k : Nat) : (tgts n l r k).length = k := by simp [tgts]
theorem tgts_succ (n : Int) (l r : List Int) (k : Nat) : tgts n l r (k + 1) = tgts n l r k ++ [tgt n l r k] := by simp [tgts, List.range_succ]
theorem tgt_in {n : Int} (h : 3 ≤ n) (l r : List Int) (i : Nat) : 0 ≤ tgt n l r i ∧ tgt n l r i < n := ⟨Int.emod_nonneg _ (by omega), Int.emod_lt_of_pos _ (by omega)⟩
theorem tgts_in {n : Int} (h : 3 ≤ n) (l r : List Int) (k : Nat) : ∀ x ∈ tgts n l r k, 0 ≤ x ∧ x < n := fun x hx => by
  obtain ⟨i, _, rfl⟩ := List.mem_map.1 hx
  exact tgt_in h l r i
noncomputable def putT (n : Int) (l r : List Int) : Nat → List Int
  | 0 => []
  | k + 1 => srt n (tgts n l r (k + 1))
theorem putT_eq (n : Int) (l r : List Int) (k : Nat) : putT n l r k = srt n (tgts n l r k) := by
  cases k with
  | zero => show [] = srt n []; rw [srt_nil]
  | succ k => rfl
theorem srt_old {n : Int} {A : List Int} {x : Int} (h : x ∈ srt n A) : srt n (A ++ [x]) = srt n A := pw_eq (srt_pw _ _) (srt_pw _ _) fun y => by
  rw [srt_mem, srt_mem, List.mem_append, List.mem_singleton]
  exact ⟨fun g => ⟨g.1, g.2.elim id fun e => by rw [e]; exact (srt_mem.1 h).2⟩, fun g => ⟨g.1, .inl g.2⟩⟩
/-- Two robots meet or change their places. -/
def bad (T l : List Int) (a b : Nat) : Prop := T.getD a 0 = T.getD b 0 ∨ (T.getD a 0 = l.getD b 0 ∧ T.getD b 0 = l.getD a 0)
def clr (T l : List Int) (k : Nat) : Prop := ∀ a b, b < a → a < k → ¬ bad T l a b
theorem clr_0 (T l : List Int) : clr T l 0 := fun a b _ h => absurd h (Nat.not_lt_zero _)
theorem clr_next {T l : List Int} {k : Nat} (h : clr T l k) (h2 : ∀ b, b < k → ¬ bad T l k b) : clr T l (k + 1) := fun a b hb ha => by
  by_cases e : a = k
  · subst e; exact h2 b hb
  · exact h a b hb (by omega)
theorem bad_next {T l : List Int} {k j : Nat} (h : ∀ b, b < j → ¬ bad T l k b) (h2 : ¬ bad T l k j) : ∀ b, b < j + 1 → ¬ bad T l k b := fun b hb => by
  by_cases e : b = j
  · rw [e]; exact h2
  · exact h b (by omega)
theorem clr_nodup {T l : List Int} (h : clr T l T.length) : T.Nodup := by
  rw [List.Nodup, List.pairwise_iff_getElem]
  intro i j hi hj hij e
  exact h j i hij hj (.inl (by rw [elI_get hi, elI_get hj]; exact e.symm))
def stepOk (n : Int) (l r : List Int) : Prop := clr (tgts n l r l.length) l l.length
open Classical in
noncomputable instance (n : Int) (l r : List Int) : Decidable (stepOk n l r) := propDecidable _
noncomputable def stN (n : Int) (l r : List Int) : Int := if stepOk n l r then n else 0
noncomputable def stL (n : Int) (l r : List Int) : List Int := if stepOk n l r then srt n (tgts n l r l.length) else []
theorem st_yes {n : Int} {l r : List Int} (h : stepOk n l r) : stN n l r = n ∧ stL n l r = srt n (tgts n l r l.length) := ⟨if_pos h, if_pos h⟩
theorem st_no {n : Int} {l r : List Int} (h : ¬ stepOk n l r) : stN n l r = 0 ∧ stL n l r = [] := ⟨if_neg h, if_neg h⟩
theorem step_nodup {n : Int} {l r : List Int} (h : stepOk n l r) : (tgts n l r l.length).Nodup := clr_nodup (by rw [tgts_len]; exact h)
theorem step_crowd {n : Int} {l r : List Int} (hc : crowd n l) (h : stepOk n l r) : crowd n (srt n (tgts n l r l.length)) ∧ (srt n (tgts n l r l.length)).length = l.length := by
  have hl : (srt n (tgts n l r l.length)).length = l.length := by rw [srt_len (step_nodup h) (tgts_in hc.1.1.1 l r _), tgts_len]
  exact ⟨⟨⟨hc.1.1, by rw [hl]; exact hc.1.2⟩, srt_in _ _, pw_rise (srt_pw _ _)⟩, hl⟩
theorem stL_len {n : Int} {l r : List Int} (hc : crowd n l) : (stL n l r).length ≤ l.length := by
  by_cases h : stepOk n l r
  · rw [(st_yes h).2, (step_crowd hc h).2]; exact Nat.le_refl _
  · rw [(st_no h).2]; exact Nat.zero_le _
theorem tgts_get {n : Int} {l r : List Int} {k i : Nat} (h : i < k) : (tgts n l r k).getD i 0 = tgt n l r i := by
  rw [elI_get (by rw [tgts_len]; exact h)]
  simp [tgts]
end Sx
/- Plain words: runs of crowds by a rule. -/
namespace Sx
noncomputable def runL (n : Int) (l r : List Int) : Nat → List Int
  | 0 => l
  | k + 1 => if stepOk n (runL n l r k) r then srt n (tgts n (runL n l r k) r (runL n l r k).length) else runL n l r k
noncomputable def runD (n : Int) (l r : List Int) : Nat → Nat
  | 0 => 0
  | k + 1 => if stepOk n (runL n l r k) r then runD n l r k + 1 else runD n l r k
theorem run_yes {n : Int} {l r : List Int} {k : Nat} (h : stepOk n (runL n l r k) r) : runL n l r (k + 1) = srt n (tgts n (runL n l r k) r (runL n l r k).length) ∧ runD n l r (k + 1) = runD n l r k + 1 := ⟨if_pos h, if_pos h⟩
theorem run_no {n : Int} {l r : List Int} {k : Nat} (h : ¬ stepOk n (runL n l r k) r) : runL n l r (k + 1) = runL n l r k ∧ runD n l r (k + 1) = runD n l r k := ⟨if_neg h, if_neg h⟩
theorem run_crowd {n : Int} {l r : List Int} (hc : crowd n l) : ∀ k, crowd n (runL n l r k) ∧ (runL n l r k).length = l.length
  | 0 => ⟨hc, rfl⟩
  | k + 1 => by
    have ih := run_crowd (r := r) hc k
    by_cases h : stepOk n (runL n l r k) r
    · rw [(run_yes h).1]
      have := step_crowd ih.1 h
      exact ⟨this.1, this.2.trans ih.2⟩
    · rw [(run_no h).1]; exact ih
theorem run_stop {n : Int} {l r : List Int} {k : Nat} (h : ¬ stepOk n (runL n l r k) r) : ∀ m, runL n l r (k + m) = runL n l r k ∧ runD n l r (k + m) = runD n l r k
  | 0 => ⟨rfl, rfl⟩
  | m + 1 => by
    have ih := run_stop h m
    have h2 : ¬ stepOk n (runL n l r (k + m)) r := by rw [ih.1]; exact h
    rw [show k + (m + 1) = k + m + 1 by omega, (run_no h2).1, (run_no h2).2]
    exact ih
theorem run_stop2 {n : Int} {l r : List Int} {k t : Nat} (h : ¬ stepOk n (runL n l r k) r) (hk : k ≤ t) : runL n l r t = runL n l r k ∧ runD n l r t = runD n l r k := by
  have := run_stop h (t - k)
  rwa [show k + (t - k) = t by omega] at this
theorem runD_le (n : Int) (l r : List Int) : ∀ k, runD n l r k ≤ k
  | 0 => Nat.le_refl _
  | k + 1 => by
    have := runD_le n l r k
    by_cases h : stepOk n (runL n l r k) r
    · rw [(run_yes h).2]; omega
    · rw [(run_no h).2]; omega
def rcOk (n : Int) (l r : List Int) (t : Int) : Prop := crowd n l ∧ isRule r ∧ 0 ≤ t ∧ t ≤ 20
open Classical in
noncomputable instance (n : Int) (l r : List Int) (t : Int) : Decidable (rcOk n l r t) := propDecidable _
noncomputable def rcN (n : Int) (l r : List Int) (t : Int) : Int := if rcOk n l r t then n else 0
noncomputable def rcL (n : Int) (l r : List Int) (t : Int) : List Int := if rcOk n l r t then runL n l r t.toNat else []
noncomputable def rcD (n : Int) (l r : List Int) (t : Int) : Int := if rcOk n l r t then (runD n l r t.toNat : Nat) else 0
theorem rc_yes {n : Int} {l r : List Int} {t : Int} (h : rcOk n l r t) : rcN n l r t = n ∧ rcL n l r t = runL n l r t.toNat ∧ rcD n l r t = (runD n l r t.toNat : Nat) := ⟨if_pos h, if_pos h, if_pos h⟩
theorem rc_no {n : Int} {l r : List Int} {t : Int} (h : ¬ rcOk n l r t) : rcN n l r t = 0 ∧ rcL n l r t = [] ∧ rcD n l r t = 0 := ⟨if_neg h, if_neg h, if_neg h⟩
end Sx
/- Plain words: forms that are found. -/
namespace Sx
theorem nodup_lt : ∀ {N : Nat} {L : List Nat}, L.Nodup → (∀ x ∈ L, x < N) → L.length ≤ N
  | 0, L, _, h => by
    cases L with
    | nil => exact Nat.le_refl _
    | cons x L => exact absurd (h x (List.mem_cons_self ..)) (Nat.not_lt_zero _)
  | N + 1, L, hn, h => by
    by_cases hm : N ∈ L
    · have h1 := nodup_lt (N := N) (L := L.erase N) (hn.erase N) fun x hx => by
        rw [hn.mem_erase_iff] at hx
        have := h x hx.2
        have := hx.1
        omega
      rw [List.length_erase_of_mem hm] at h1
      omega
    · have h1 := nodup_lt (N := N) (L := L) hn fun x hx => by
        have := h x hx
        have : x ≠ N := fun e => hm (e ▸ hx)
        omega
      omega
/-- A number for what is in a list. -/
def codeL (L : List Int) : List Nat → Nat
  | [] => 0
  | q :: Q => 2 * codeL L Q + if (q : Int) ∈ L then 1 else 0
theorem codeL_lt (L : List Int) : ∀ Q : List Nat, codeL L Q < 2 ^ Q.length
  | [] => by show 0 < 1; omega
  | q :: Q => by
    have := codeL_lt L Q
    show 2 * codeL L Q + (if (q : Int) ∈ L then 1 else 0) < 2 ^ (Q.length + 1)
    rw [Nat.pow_succ]
    split <;> omega
theorem codeL_inj {L L' : List Int} : ∀ {Q : List Nat}, codeL L Q = codeL L' Q → ∀ q ∈ Q, ((q : Int) ∈ L ↔ (q : Int) ∈ L')
  | [], _, q, h => by cases h
  | x :: Q, h, q, hq => by
    have h : 2 * codeL L Q + (if (x : Int) ∈ L then 1 else 0) = 2 * codeL L' Q + (if (x : Int) ∈ L' then 1 else 0) := h
    have h1 : codeL L Q = codeL L' Q ∧ ((x : Int) ∈ L ↔ (x : Int) ∈ L') := by
      by_cases a : (x : Int) ∈ L
      · by_cases b : (x : Int) ∈ L'
        · rw [if_pos a, if_pos b] at h; exact ⟨by omega, ⟨fun _ => b, fun _ => a⟩⟩
        · rw [if_pos a, if_neg b] at h; omega
      · by_cases b : (x : Int) ∈ L'
        · rw [if_neg a, if_pos b] at h; omega
        · rw [if_neg a, if_neg b] at h; exact ⟨by omega, ⟨fun x => absurd x a, fun x => absurd x b⟩⟩
    rcases List.mem_cons.1 hq with e | e
    · rw [e]; exact h1.2
    · exact codeL_inj h1.1 q e
theorem crowd_code {n : Int} {a b : List Int} (ha : crowd n a) (hb : crowd n b) (h : codeL a (List.range 12) = codeL b (List.range 12)) : a = b := by
  have hn := ha.1.1
  refine pw_eq (rise_pw ha.2.2) (rise_pw hb.2.2) fun x => ?_
  have key : 0 ≤ x ∧ x < n → (x ∈ a ↔ x ∈ b) := fun hx => by
    have := codeL_inj h x.toNat (List.mem_range.2 (by omega))
    rwa [Int.toNat_of_nonneg hx.1] at this
  exact ⟨fun hx => (key (ha.2.1 x hx)).1 hx, fun hx => (key (hb.2.1 x hx)).2 hx⟩
/-- Different crowds are not many. -/
theorem crowds_le {n : Int} {F : List (List Int)} (hn : F.Nodup) (hc : ∀ x ∈ F, crowd n x) : F.length ≤ 4096 := by
  have h1 := nodup_lt (N := 4096) (L := F.map fun x => codeL x (List.range 12)) (by
    rw [List.Nodup, List.pairwise_map]
    refine List.Pairwise.imp_of_mem (fun ha hb hne e => hne ?_) hn
    exact crowd_code (hc _ ha) (hc _ hb) e) fun x hx => by
      obtain ⟨y, _, rfl⟩ := List.mem_map.1 hx
      have := codeL_lt y (List.range 12)
      rwa [List.length_range] at this
  rwa [List.length_map] at h1
/-- The first number at which a list has come before. -/
noncomputable def foK (f : Nat → List Int) : Nat → Nat → Nat
  | 0, k => k
  | u + 1, k => if f k ∈ (List.range k).map f then k else foK f u (k + 1)
noncomputable def fresh (f : Nat → List Int) (k : Nat) : Prop := ∀ j, j < k → f j ∉ (List.range j).map f
theorem fresh_0 (f : Nat → List Int) : fresh f 0 := fun j h => absurd h (Nat.not_lt_zero _)
theorem fresh_next {f : Nat → List Int} {k : Nat} (h : fresh f k) (h2 : f k ∉ (List.range k).map f) : fresh f (k + 1) := fun j hj => by
  by_cases e : j = k
  · rw [e]; exact h2
  · exact h j (by omega)
theorem fresh_nodup {f : Nat → List Int} {k : Nat} (h : fresh f k) : ((List.range k).map f).Nodup := by
  rw [List.Nodup, List.pairwise_map]
  rw [List.pairwise_iff_getElem]
  intro i j hi hj hij e
  rw [List.getElem_range, List.getElem_range] at e
  rw [List.length_range] at hj
  exact h j hj (List.mem_map.2 ⟨i, List.mem_range.2 hij, e⟩)
theorem foK_skip {f : Nat → List Int} : ∀ {k u : Nat}, fresh f k → k ≤ u → foK f u 0 = foK f (u - k) k
  | 0, u, _, _ => rfl
  | k + 1, u, h, hk => by
    rw [foK_skip (k := k) (fun j hj => h j (by omega)) (by omega)]
    obtain ⟨m, hm⟩ : ∃ m, u - k = m + 1 := ⟨u - k - 1, by omega⟩
    rw [hm, show u - (k + 1) = m by omega]
    exact if_neg (h k (by omega))
theorem foK_stop {f : Nat → List Int} {k : Nat} (h : fresh f k) (hk : k ≤ 4999) (h2 : f k ∈ (List.range k).map f) : foK f 5000 0 = k := by
  rw [foK_skip h (by omega)]
  obtain ⟨m, hm⟩ : ∃ m, 5000 - k = m + 1 := ⟨5000 - k - 1, by omega⟩
  rw [hm]
  exact if_pos h2
/-- The form behind k turns. -/
noncomputable def fK (n : Int) (l r : List Int) (k : Nat) : List Int := formR n (runL n l r k)
noncomputable def fS (n : Int) (l r : List Int) (k : Nat) : List (List Int) := (List.range k).map (fK n l r)
@[simp] theorem fS_len (n : Int) (l r : List Int) (k : Nat) : (fS n l r k).length = k := by simp [fS]
theorem fS_succ (n : Int) (l r : List Int) (k : Nat) : fS n l r (k + 1) = fS n l r k ++ [fK n l r k] := by simp [fS, List.range_succ]
theorem fK_crowd {n : Int} {l r : List Int} (hc : crowd n l) (k : Nat) : crowd n (fK n l r k) ∧ (fK n l r k).length = l.length := by
  have h := run_crowd (r := r) hc k
  have h2 := formK_crowd h.1 n.toNat
  exact ⟨h2.1, h2.2.trans h.2⟩
theorem fresh_le {n : Int} {l r : List Int} (hc : crowd n l) {k : Nat} (h : fresh (fK n l r) k) : k ≤ 4096 := by
  have := crowds_le (n := n) (fresh_nodup h) fun x hx => by
    obtain ⟨i, _, rfl⟩ := List.mem_map.1 hx
    exact (fK_crowd hc i).1
  rwa [List.length_map, List.length_range] at this
theorem fK_stuck {n : Int} {l r : List Int} {k : Nat} (h : ¬ stepOk n (runL n l r k) r) : fK n l r (k + 1) ∈ fS n l r (k + 1) := by
  have e : fK n l r (k + 1) = fK n l r k := by unfold fK; rw [(run_no h).1]
  rw [e, fS_succ]
  exact List.mem_append.2 (.inr (List.mem_singleton.2 rfl))
noncomputable def foN (n : Int) (l r : List Int) : Nat := foK (fK n l r) 5000 0
theorem foN_stop {n : Int} {l r : List Int} (hc : crowd n l) {k : Nat} (h : fresh (fK n l r) k) (h2 : fK n l r k ∈ fS n l r k) : foN n l r = k :=
  foK_stop h (by have := fresh_le hc h; omega) h2
theorem fS_in {n : Int} {l r : List Int} (hc : crowd n l) (k : Nat) : ∀ x ∈ fS n l r k, x.length = l.length := fun x hx => by
  obtain ⟨i, _, rfl⟩ := List.mem_map.1 hx
  exact (fK_crowd hc i).2
noncomputable def foR (n : Int) (l r : List Int) : Int := if crowd n l ∧ isRule r then (foN n l r : Nat) else 0
theorem fo_yes {n : Int} {l r : List Int} (h : crowd n l ∧ isRule r) : foR n l r = (foN n l r : Nat) := if_pos h
theorem fo_no {n : Int} {l r : List Int} (h : ¬ (crowd n l ∧ isRule r)) : foR n l r = 0 := if_neg h
abbrev crw (n : Int) (x : List Int) : AV := .agg [i64 n, ints x]
end Sx
/- Plain words: periods and axes of crowds. -/
namespace Sx
theorem trn_n {n : Int} {l : List Int} (hc : crowd n l) : trn n n l = l := by
  unfold trn
  have e : l.map (trF n n) = l := by
    conv => rhs; rw [← List.map_id l]
    refine List.map_congr_left fun a ha => ?_
    have := hc.2.1 a ha
    unfold trF
    rw [Int.add_emod_right, Int.emod_eq_of_lt this.1 this.2]
    rfl
  rw [e, srt_self hc.2.1 (rise_pw hc.2.2)]
/-- The least number of turns that change nothing. -/
noncomputable def perI (n : Int) (l : List Int) : Int := fIx (fun s : Nat => trn n ((s : Int) + 1) l = l) (List.range 12) + 1
theorem perI_here {n : Int} {l : List Int} {s : Nat} (hs : 1 ≤ s ∧ s ≤ 12) (h : ∀ j : Nat, 1 ≤ j → j < s → ¬ trn n j l = l) (e : trn n s l = l) : perI n l = s := by
  have hk : fIx (fun s : Nat => trn n ((s : Int) + 1) l = l) (List.range 12) = ((s - 1 : Nat) : Int) := by
    refine fIx_here (by rw [List.length_range]; omega) (fun x hx => ?_) (by rw [List.getElem_range, show (((s - 1 : Nat) : Int) + 1) = s by omega]; exact e)
    obtain ⟨i, hi, rfl⟩ := List.mem_iff_getElem.1 hx
    rw [List.length_take, List.length_range] at hi
    rw [List.getElem_take, List.getElem_range]
    exact h (i + 1) (by omega) (by omega)
  unfold perI
  rw [hk]
  omega
/-- The places that are a number less each place. -/
def axF (n x : Int) (p : Int) : Int := (x - p + n) % n
theorem axF_ok {n x : Int} {l : List Int} (hc : crowd n l) : okF n l (axF n x) := by
  have h3 := hc.2.1
  have hn := hc.1.1
  refine ⟨fun a ha => ?_, fun a ha b hb e => ?_⟩
  · unfold axF
    exact ⟨Int.emod_nonneg _ (by omega), Int.emod_lt_of_pos _ (by omega)⟩
  · have h1 := h3 a ha
    have h2 := h3 b hb
    unfold axF at e
    clear h3 hc ha hb
    rcases n_cases hn with h | h | h | h | h | h | h | h | h | h <;> subst h <;> omega
def axm (n x : Int) (l : List Int) : List Int := srt n (l.map (axF n x))
theorem axm_crowd {n x : Int} {l : List Int} (hc : crowd n l) : crowd n (axm n x l) ∧ (axm n x l).length = l.length := moved_crowd hc (axF_ok hc)
/-- The axes among the first k numbers. -/
def axK (n : Int) (l : List Int) : Nat → List Int
  | 0 => []
  | k + 1 => if axm n k l = l then axK n l k ++ [(k : Int)] else axK n l k
theorem axK_yes {n : Int} {l : List Int} {k : Nat} (h : axm n k l = l) : axK n l (k + 1) = axK n l k ++ [(k : Int)] := if_pos h
theorem axK_no {n : Int} {l : List Int} {k : Nat} (h : ¬ axm n k l = l) : axK n l (k + 1) = axK n l k := if_neg h
theorem axK_le (n : Int) (l : List Int) : ∀ k, (axK n l k).length ≤ k
  | 0 => Nat.le_refl _
  | k + 1 => by
    have := axK_le n l k
    by_cases h : axm n k l = l
    · rw [axK_yes h, List.length_append]; simp; omega
    · rw [axK_no h]; omega
def axL (n : Int) (l : List Int) : List Int := axK n l n.toNat
end Sx
/- Plain words: all crowds. -/
namespace Sx
/-- All rising lists of the last u of n places, with at most m of them. -/
def allC (n : Nat) : Nat → Nat → List (List Int)
  | 0, _ => [[]]
  | _ + 1, 0 => [[]]
  | u + 1, m + 1 => allC n u (m + 1) ++ (allC n u m).map fun l => ((n - 1 - u : Nat) : Int) :: l
theorem allC_nil (n : Nat) : ∀ u m, ([] : List Int) ∈ allC n u m
  | 0, _ => List.mem_singleton.2 rfl
  | _ + 1, 0 => List.mem_singleton.2 rfl
  | u + 1, m + 1 => List.mem_append.2 (.inl (allC_nil n u (m + 1)))
theorem allC_mem {n : Nat} : ∀ {u m : Nat} {l : List Int}, u ≤ n → l.Pairwise (· < ·) → (∀ x ∈ l, (n : Int) - u ≤ x ∧ x < n) → l.length ≤ m → l ∈ allC n u m
  | u, m, [], _, _, _, _ => allC_nil n u m
  | 0, m, x :: t, _, _, h, _ => by have := h x (List.mem_cons_self ..); omega
  | u + 1, 0, x :: t, _, _, _, h => by simp at h
  | u + 1, m + 1, x :: t, hu, hp, h, hl => by
    have hx := h x (List.mem_cons_self ..)
    rw [List.pairwise_cons] at hp
    refine List.mem_append.2 ?_
    by_cases e : x = (n : Int) - (u + 1 : Nat)
    · refine .inr (List.mem_map.2 ⟨t, ?_, ?_⟩)
      · refine allC_mem (by omega) hp.2 (fun y hy => ?_) (by simpa using hl)
        have h1 := hp.1 y hy
        have h2 := h y (List.mem_cons_of_mem _ hy)
        omega
      · rw [e]
        congr 1
        omega
    · refine .inl (allC_mem (by omega) (List.pairwise_cons.2 hp) (fun y hy => ?_) hl)
      have h2 := h y hy
      rcases List.mem_cons.1 hy with h3 | h3
      · subst h3; omega
      · have := hp.1 y h3; omega
theorem crowd_all {n : Int} {l : List Int} (hc : crowd n l) : l ∈ allC n.toNat n.toNat 6 := by
  have hn := hc.1.1
  refine allC_mem (Nat.le_refl _) (rise_pw hc.2.2) (fun x hx => ?_) (by have := hc.1.2; omega)
  have := hc.2.1 x hx
  omega
/-- The numbers of turns that change nothing, less one. -/
def perC (n : Int) (l : List Int) : List Nat := (List.range 12).filter fun s => decide (trn n ((s : Int) + 1) l = l)
theorem perC_head {n : Int} {l : List Int} {s : Nat} {t : List Nat} (h : perC n l = s :: t) : perI n l = (s : Int) + 1 := by
  have hm : ∀ x, x ∈ perC n l ↔ x < 12 ∧ trn n ((x : Int) + 1) l = l := fun x => by
    unfold perC; rw [List.mem_filter, List.mem_range]; simp
  have hp : (perC n l).Pairwise (· < ·) := List.Pairwise.filter _ List.pairwise_lt_range
  have hs := (hm s).1 (by rw [h]; exact List.mem_cons_self ..)
  rw [h, List.pairwise_cons] at hp
  have := perI_here (n := n) (l := l) (s := s + 1) ⟨by omega, by omega⟩ (fun j hj hjs e => by
    have hj2 : j - 1 ∈ perC n l := (hm _).2 ⟨by omega, by rw [show (((j - 1 : Nat) : Int) + 1) = j by omega]; exact e⟩
    rw [h] at hj2
    rcases List.mem_cons.1 hj2 with h1 | h1
    · omega
    · have := hp.1 _ h1; omega) (by rw [show (((s + 1 : Nat) : Int)) = (s : Int) + 1 by omega]; exact hs.2)
  rw [this]; omega
def viewsC (n : Int) (l : List Int) : List (List Int) := (List.range l.length).map (viewL n l)
/-- What is to be shown of periods, axes, views. -/
def factV (n : Nat) (l : List Int) : Bool := match perC n l with
  | [] => false
  | s :: _ => n % (s + 1) == 0 && ((axK n l n).length == 0 || (axK n l n).length == n / (s + 1)) &&
    (l.length.ble 1 || s + 1 == n || (viewsC n l).all fun v => (viewsC n l).count v != 1) &&
    ((s + 1 == n && (axK n l n).isEmpty) == ((viewsC n l).all (fun v => (viewsC n l).count v == 1) && (List.range l.length).all fun i => decide (wayL n l i ≠ 0)))
def factAll (n : Nat) : Bool := (allC n n 6).all fun l => l.isEmpty || factV n l
end Sx
