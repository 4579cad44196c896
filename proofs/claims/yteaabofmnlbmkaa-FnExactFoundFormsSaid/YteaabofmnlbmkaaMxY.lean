/- Plain words: lists that are sorted and compared. -/
import Derived.Test.YteaabofmnlbmkaaMxK
set_option linter.all false
namespace Sx
/-- How two lists compare. -/
def cmpL : List Int → List Int → Int
  | [], [] => 0
  | [], _ :: _ => -1
  | _ :: _, [] => 1
  | a :: as, b :: bs => if a < b then -1 else if b < a then 1 else cmpL as bs
theorem cmpL_self : ∀ l : List Int, cmpL l l = 0
  | [] => rfl
  | a :: l => by unfold cmpL; rw [if_neg (Int.lt_irrefl a), if_neg (Int.lt_irrefl a)]; exact cmpL_self l
theorem cmpL_bd : ∀ a b : List Int, -1 ≤ cmpL a b ∧ cmpL a b ≤ 1
  | [], [] => by decide
  | [], _ :: _ => by unfold cmpL; decide
  | _ :: _, [] => by unfold cmpL; decide
  | a :: as, b :: bs => by
    unfold cmpL
    split
    · decide
    · split
      · decide
      · exact cmpL_bd as bs
theorem cmpL_drop {a b : List Int} {k : Nat} (ha : k < a.length) (hb : k < b.length) (h : a[k] = b[k]) : cmpL (a.drop k) (b.drop k) = cmpL (a.drop (k + 1)) (b.drop (k + 1)) := by
  rw [List.drop_eq_getElem_cons ha, List.drop_eq_getElem_cons hb, h]
  conv => lhs; unfold cmpL
  rw [if_neg (Int.lt_irrefl _), if_neg (Int.lt_irrefl _)]
theorem cmpL_lt {a b : List Int} {k : Nat} (ha : k < a.length) (hb : k < b.length) (h : a[k] < b[k]) : cmpL (a.drop k) (b.drop k) = -1 := by
  rw [List.drop_eq_getElem_cons ha, List.drop_eq_getElem_cons hb]
  unfold cmpL
  rw [if_pos h]
theorem cmpL_gt {a b : List Int} {k : Nat} (ha : k < a.length) (hb : k < b.length) (h : b[k] < a[k]) : cmpL (a.drop k) (b.drop k) = 1 := by
  rw [List.drop_eq_getElem_cons ha, List.drop_eq_getElem_cons hb]
  unfold cmpL
  rw [if_neg (by omega), if_pos h]
theorem cmpL_end {a b : List Int} {k : Nat} (ha : a.length ≤ k) : cmpL (a.drop k) (b.drop k) = if b.length ≤ k then 0 else -1 := by
  rw [List.drop_of_length_le ha]
  by_cases h : b.length ≤ k
  · rw [if_pos h, List.drop_of_length_le h]; rfl
  · rw [if_neg h, List.drop_eq_getElem_cons (by omega)]; rfl
theorem cmpL_end2 {a b : List Int} {k : Nat} (ha : k < a.length) (hb : b.length ≤ k) : cmpL (a.drop k) (b.drop k) = 1 := by
  rw [List.drop_of_length_le hb, List.drop_eq_getElem_cons ha]; rfl
/-- A list is sorted up to a place, but for one element that is on its way. -/
def sortI (X : List Int) (i j : Nat) : Prop := ∀ p q, p < q → q ≤ i → q ≠ j → X.getD p 0 ≤ X.getD q 0
def sortU (X : List Int) (i : Nat) : Prop := ∀ p q, p < q → q < i → X.getD p 0 ≤ X.getD q 0
theorem sortI_start {X : List Int} {i : Nat} (h : sortU X i) : sortI X i i := fun p q h1 h2 h3 => h p q h1 (by omega)
theorem sortI_end {X : List Int} {i j : Nat} (h : sortI X i j) (hj : j = 0 ∨ X.getD (j - 1) 0 ≤ X.getD j 0) : sortU X (i + 1) := fun p q h1 h2 => by
  by_cases e : q = j
  · subst e
    rcases hj with hj | hj
    · omega
    · by_cases e2 : p = q - 1
      · subst e2; exact hj
      · have := h p (q - 1) (by omega) (by omega) (by omega)
        omega
  · exact h p q h1 (by omega) e
theorem getD_setX {X : List Int} {k m : Nat} {x : Int} (h : k < X.length) : (X.set k x).getD m 0 = if k = m then x else X.getD m 0 := by
  rw [List.getD_eq_getElem?_getD, List.getElem?_set]
  split
  · rename_i e
    subst e
    rfl
  · rw [← List.getD_eq_getElem?_getD]
def swp (X : List Int) (j : Nat) : List Int := (X.set j (X.getD (j - 1) 0)).set (j - 1) (X.getD j 0)
@[simp] theorem swp_len (X : List Int) (j : Nat) : (swp X j).length = X.length := by simp [swp]
theorem swp_get {X : List Int} {j m : Nat} (hj : 0 < j) (h : j < X.length) : (swp X j).getD m 0 = if m = j - 1 then X.getD j 0 else if m = j then X.getD (j - 1) 0 else X.getD m 0 := by
  unfold swp
  rw [getD_setX (by rw [List.length_set]; omega), getD_setX h]
  by_cases e : m = j - 1
  · rw [if_pos e.symm, if_pos e]
  · rw [if_neg (show ¬ j - 1 = m from fun x => e x.symm), if_neg e]
    by_cases e2 : m = j
    · rw [if_pos e2.symm, if_pos e2]
    · rw [if_neg (show ¬ j = m from fun x => e2 x.symm), if_neg e2]
theorem sortI_swp {X : List Int} {i j : Nat} (hj : 0 < j) (hji : j ≤ i) (hi : i < X.length) (h : sortI X i j) (hlt : X.getD j 0 < X.getD (j - 1) 0) : sortI (swp X j) i (j - 1) := fun p q h1 h2 h3 => by
  rw [swp_get hj (by omega), swp_get hj (by omega), if_neg h3]
  by_cases e : q = j
  · rw [if_pos e]
    by_cases e2 : p = j - 1
    · rw [if_pos e2]; omega
    · rw [if_neg e2, if_neg (by omega)]
      exact h p (j - 1) (by omega) (by omega) (by omega)
  · rw [if_neg e]
    by_cases e2 : p = j - 1
    · rw [if_pos e2]; subst e2; exact h j q (by omega) h2 e
    · rw [if_neg e2]
      by_cases e3 : p = j
      · rw [if_pos e3]; exact h (j - 1) q (by omega) h2 e
      · rw [if_neg e3]; exact h p q h1 h2 e
theorem swp_perm {X : List Int} {j : Nat} (hj : 0 < j) (h : j < X.length) : (swp X j).Perm X := by
  have e1 : X.getD (j - 1) 0 = X[j - 1] := by rw [List.getD_eq_getElem?_getD, List.getElem?_eq_getElem (by omega)]; rfl
  have e2 : X.getD j 0 = X[j] := by rw [List.getD_eq_getElem?_getD, List.getElem?_eq_getElem h]; rfl
  unfold swp
  rw [e1, e2]
  exact List.set_set_perm h (by omega)
theorem sortU_pw {X : List Int} (h : sortU X X.length) : X.Pairwise (· ≤ ·) := by
  rw [List.pairwise_iff_getElem]
  intro i j hi hj hij
  have := h i j hij hj
  rwa [List.getD_eq_getElem?_getD, List.getD_eq_getElem?_getD, List.getElem?_eq_getElem hi, List.getElem?_eq_getElem hj] at this
/-- The numbers below n that a list has, in order. -/
def srt (n : Int) (l : List Int) : List Int := ((List.range n.toNat).filter fun q : Nat => decide ((q : Int) ∈ l)).map fun q : Nat => (q : Int)
theorem srt_mem {n : Int} {l : List Int} {x : Int} : x ∈ srt n l ↔ (0 ≤ x ∧ x < n) ∧ x ∈ l := by
  unfold srt
  rw [List.mem_map]
  constructor
  · rintro ⟨q, hq, rfl⟩
    rw [List.mem_filter, List.mem_range, decide_eq_true_eq] at hq
    exact ⟨by omega, hq.2⟩
  · rintro ⟨h, hl⟩
    refine ⟨x.toNat, ?_, by omega⟩
    rw [List.mem_filter, List.mem_range, decide_eq_true_eq]
    exact ⟨by omega, by rwa [show ((x.toNat : Nat) : Int) = x by omega]⟩
theorem srt_pw (n : Int) (l : List Int) : (srt n l).Pairwise (· < ·) := by
  unfold srt
  rw [List.pairwise_map]
  refine List.Pairwise.imp (fun h => by omega) (List.Pairwise.filter _ List.pairwise_lt_range)
/-- Two rising lists with the same members are the same. -/
theorem pw_eq : ∀ {a b : List Int}, a.Pairwise (· < ·) → b.Pairwise (· < ·) → (∀ x, x ∈ a ↔ x ∈ b) → a = b
  | [], [], _, _, _ => rfl
  | [], y :: b, _, _, h => absurd ((h y).2 (List.mem_cons_self ..)) (List.not_mem_nil)
  | x :: a, [], _, _, h => absurd ((h x).1 (List.mem_cons_self ..)) (List.not_mem_nil)
  | x :: a, y :: b, ha, hb, h => by
    rw [List.pairwise_cons] at ha hb
    have e : x = y := by
      rcases List.mem_cons.1 ((h x).1 (List.mem_cons_self ..)) with e | e
      · exact e
      · rcases List.mem_cons.1 ((h y).2 (List.mem_cons_self ..)) with e2 | e2
        · exact e2.symm
        · have h1 := hb.1 x e
          have h2 := ha.1 y e2
          omega
    subst e
    congr 1
    refine pw_eq ha.2 hb.2 fun z => ?_
    constructor
    · intro hz
      rcases List.mem_cons.1 ((h z).1 (List.mem_cons_of_mem _ hz)) with e | e
      · subst e; exact absurd (ha.1 z hz) (Int.lt_irrefl _)
      · exact e
    · intro hz
      rcases List.mem_cons.1 ((h z).2 (List.mem_cons_of_mem _ hz)) with e | e
      · subst e; exact absurd (hb.1 z hz) (Int.lt_irrefl _)
      · exact e
theorem srt_of {n : Int} {l M : List Int} (hp : M.Perm l) (hs : M.Pairwise (· ≤ ·)) (hn : l.Nodup) (hl : ∀ x ∈ l, 0 ≤ x ∧ x < n) : M = srt n l := by
  refine pw_eq ?_ (srt_pw n l) fun x => ?_
  · have hnM : M.Nodup := hp.nodup_iff.2 hn
    refine List.Pairwise.imp₂ (fun a b h1 h2 => ?_) hs hnM
    omega
  · rw [srt_mem]
    exact ⟨fun h => ⟨hl x (hp.mem_iff.1 h), hp.mem_iff.1 h⟩, fun h => hp.mem_iff.2 h.2⟩
theorem srt_len {n : Int} {l : List Int} (hn : l.Nodup) (hl : ∀ x ∈ l, 0 ≤ x ∧ x < n) : (srt n l).length = l.length := by
  have h := List.mergeSort_perm l (fun a b => decide (a ≤ b))
  have h2 := srt_of (n := n) h (by
    have := List.pairwise_mergeSort (le := fun a b : Int => decide (a ≤ b)) (by intro a b c h1 h2; simp at *; omega) (by intro a b; simp; omega) l
    exact List.Pairwise.imp (fun h => by simpa using h) this) hn hl
  rw [← h2]
  exact h.length_eq
end Sx
