/- Plain words about yards. -/
import Derived.Test.YteaabofmnlbmkaaMxC
set_option linter.all false
namespace Sx
theorem pr_eq {p q : Prop} [d : Decidable p] [d' : Decidable q] (h : p ↔ q) : pr p = pr q := by
  have e := propext h
  subst e
  rw [Subsingleton.elim d d']
def sen (x : Int × Int) : AV := .agg [i64 x.1, i64 x.2]
def car (x : Int × Int × Int) : AV := .agg [i64 x.1, i64 x.2.1, i64 x.2.2]
theorem esetS {l : List (Int × Int)} {k : Nat} {a b : Int} {KL : List AV → Prop} (hk : KL ((l.set k (a, b)).map sen)) : eqL ((l.map sen).set k (.agg [.int .i64 a, .int .i64 b])) KL := .mk _ (by simp [List.map_set, sen, i64]) hk
theorem esetK {l : List (Int × Int × Int)} {k : Nat} {a b c : Int} {KL : List AV → Prop} (hk : KL ((l.set k (a, b, c)).map car)) : eqL ((l.map car).set k (.agg [.int .i64 a, .int .i64 b, .int .i64 c])) KL := .mk _ (by simp [List.map_set, car, i64]) hk
abbrev sens (S : List (Int × Int)) : AV := .sl 2 (S.map sen)
abbrev cars (K : List (Int × Int × Int)) : AV := .sl 3 (K.map car)
abbrev rowS (S : List (Int × Int)) : Ent := .row .plain 2 (S.map sen)
abbrev rowK (K : List (Int × Int × Int)) : Ent := .row .plain 3 (K.map car)
theorem pureSen {S : List (Int × Int)} : ∀ e ∈ S.map sen, pure2 e = true := fun e h => by
  obtain ⟨x, _, rfl⟩ := List.mem_map.1 h
  rfl
theorem pureCar {S : List (Int × Int × Int)} : ∀ e ∈ S.map car, pure2 e = true := fun e h => by
  obtain ⟨x, _, rfl⟩ := List.mem_map.1 h
  rfl
def sensOk (n : Int) (S : List (Int × Int)) : Prop := (∀ s ∈ S, (0 ≤ s.1 ∧ s.1 < n) ∧ 0 ≤ s.2 ∧ s.2 ≤ 12) ∧ (S.length : Int) ≤ 6
def carsOk (n : Int) (K : List (Int × Int × Int)) : Prop := (∀ s ∈ K, (0 ≤ s.1 ∧ s.1 < n) ∧ (0 ≤ s.2.1 ∧ s.2.1 ≤ 48) ∧ 0 ≤ s.2.2 ∧ s.2.2 ≤ 20) ∧ (K.length : Int) ≤ 6
abbrev lineP (n : Int) (b : Bool) : Prop := road n b ∧ ¬ b = true
open Classical in
noncomputable instance (n : Int) (S : List (Int × Int)) : Decidable (sensOk n S) := propDecidable _
open Classical in
noncomputable instance (n : Int) (S : List (Int × Int × Int)) : Decidable (carsOk n S) := propDecidable _
structure Yd where
  n : Int
  b : Bool
  w : List Int
  S : List (Int × Int)
  K : List (Int × Int × Int)
  c : Int
open Classical in
noncomputable instance : DecidableEq Yd := fun _ _ => propDecidable _
theorem Yd.ext' {y z : Yd} (h1 : y.n = z.n ∧ y.b = z.b) (h2 : y.w = z.w) (h3 : y.S = z.S) (h4 : y.K = z.K) (h5 : y.c = z.c) : y = z := by
  cases y; cases z; simp_all
abbrev yv (y : Yd) : AV := .agg [i64 y.n, bv y.b, ints y.w, sens y.S, cars y.K, i64 y.c]
def good (y : Yd) : Prop := lineP y.n y.b ∧ walk y.n y.b y.w ∧ sensOk y.n y.S ∧ carsOk y.n y.K ∧ 0 ≤ y.c ∧ y.c ≤ 1000
open Classical in
noncomputable instance (y : Yd) : Decidable (good y) := propDecidable _
/-- Sizes fit. -/
abbrev fitY (m : Nat) (y : Yd) : Prop := y.w.length ≤ m ∧ y.S.length ≤ m ∧ y.K.length ≤ m
def marksS (k : Int) (n : Nat) : List (Int × Int) := (List.range n).map fun i => (k + 2 * (i : Nat), k + 2 * (i : Nat) + 1)
def marksK (k : Int) (n : Nat) : List (Int × Int × Int) := (List.range n).map fun i => (k + 3 * (i : Nat), k + 3 * (i : Nat) + 1, k + 3 * (i : Nat) + 2)
@[simp] theorem marksS_len (k : Int) (n : Nat) : (marksS k n).length = n := by simp [marksS]
@[simp] theorem marksK_len (k : Int) (n : Nat) : (marksK k n).length = n := by simp [marksK]
theorem marksS_succ (k : Int) (n : Nat) : marksS k (n + 1) = marksS k n ++ [(k + 2 * (n : Nat), k + 2 * (n : Nat) + 1)] := by simp [marksS, List.range_succ]
theorem marksK_succ (k : Int) (n : Nat) : marksK k (n + 1) = marksK k n ++ [(k + 3 * (n : Nat), k + 3 * (n : Nat) + 1, k + 3 * (n : Nat) + 2)] := by simp [marksK, List.range_succ]
theorem marksS_get {k : Int} {n i : Nat} (h : i < (marksS k n).length) : (marksS k n)[i] = (k + 2 * (i : Nat), k + 2 * (i : Nat) + 1) := by simp [marksS]
theorem marksK_get {k : Int} {n i : Nat} (h : i < (marksK k n).length) : (marksK k n)[i] = (k + 3 * (i : Nat), k + 3 * (i : Nat) + 1, k + 3 * (i : Nat) + 2) := by simp [marksK]
def szY (y : Yd) (l : Int) : Int := if l - y.w.length < 0 then -1 else if l - y.w.length - y.S.length < 0 then -1 else if l - y.w.length - y.S.length - y.K.length < 0 then -1 else l - y.w.length - y.S.length - y.K.length
theorem szY_ok {y : Yd} (h : ¬ szY y 1048576 < 0) : fitY 1048576 y := by
  unfold szY at h
  split at h
  · omega
  · split at h
    · omega
    · split at h
      · omega
      · exact ⟨by omega, by omega, by omega⟩
end Sx
