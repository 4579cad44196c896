/- Plain words: lists of lists that are sorted. -/
import Derived.Test.YteaabofmnlbmkaaMxG
set_option linter.all false
namespace Sx
theorem cmpL_anti2 : ∀ a b : List Int, cmpL b a = - cmpL a b
  | [], [] => rfl
  | [], _ :: _ => rfl
  | _ :: _, [] => rfl
  | a :: xs, b :: ys => by
    unfold cmpL
    rcases Int.lt_trichotomy a b with h | h | h
    · rw [if_neg (by omega), if_pos h, if_pos h]; rfl
    · rw [if_neg (by omega), if_neg (by omega), if_neg (by omega), if_neg (by omega)]
      exact cmpL_anti2 xs ys
    · rw [if_pos h, if_neg (by omega), if_pos h]
theorem cmpL_nil (b : List Int) : cmpL [] b ≤ 0 := by
  cases b
  · exact Int.le_refl _
  · show (-1 : Int) ≤ 0; decide
theorem cmpL_cons {a b : Int} {xs ys : List Int} : cmpL (a :: xs) (b :: ys) ≤ 0 ↔ a < b ∨ (a = b ∧ cmpL xs ys ≤ 0) := by
  conv => lhs; unfold cmpL
  rcases Int.lt_trichotomy a b with h | h | h
  · rw [if_pos h]
    exact ⟨fun _ => .inl h, fun _ => by decide⟩
  · rw [if_neg (by omega), if_neg (by omega)]
    exact ⟨fun x => .inr ⟨h, x⟩, fun x => by rcases x with x | x; · omega
                                             · exact x.2⟩
  · rw [if_neg (by omega), if_pos h]
    exact ⟨fun x => absurd x (by decide), fun x => by rcases x with x | x <;> omega⟩
theorem cmpL_trans : ∀ {a b c : List Int}, cmpL a b ≤ 0 → cmpL b c ≤ 0 → cmpL a c ≤ 0
  | [], _, c, _, _ => cmpL_nil c
  | _ :: _, [], _, h, _ => absurd h (by show ¬ (1 : Int) ≤ 0; decide)
  | _ :: _, _ :: _, [], _, h => absurd h (by show ¬ (1 : Int) ≤ 0; decide)
  | a :: xs, b :: ys, c :: zs, h1, h2 => by
    rw [cmpL_cons] at h1 h2 ⊢
    rcases h1 with h1 | ⟨h1, g1⟩
    · rcases h2 with h2 | ⟨h2, g2⟩
      · exact .inl (by omega)
      · exact .inl (by omega)
    · rcases h2 with h2 | ⟨h2, g2⟩
      · exact .inl (by omega)
      · exact .inr ⟨by omega, cmpL_trans g1 g2⟩
theorem cmpL_eq : ∀ {a b : List Int}, cmpL a b = 0 → a = b
  | [], [], _ => rfl
  | [], _ :: _, h => absurd h (by show ¬ (-1 : Int) = 0; decide)
  | _ :: _, [], h => absurd h (by show ¬ (1 : Int) = 0; decide)
  | a :: xs, b :: ys, h => by
    unfold cmpL at h
    rcases Int.lt_trichotomy a b with g | g | g
    · rw [if_pos g] at h; exact absurd h (by decide)
    · rw [if_neg (by omega), if_neg (by omega)] at h
      rw [g, cmpL_eq h]
    · rw [if_neg (by omega), if_pos g] at h; exact absurd h (by decide)
theorem cmpL_lt_trans {a b c : List Int} (h1 : cmpL a b < 0) (h2 : cmpL b c < 0) : cmpL a c < 0 := by
  have h := cmpL_trans (a := a) (b := b) (c := c) (by omega) (by omega)
  rcases Int.lt_or_eq_of_le h with g | g
  · exact g
  · have := cmpL_eq g
    subst this
    rw [cmpL_anti2] at h2
    omega
/-! A list is sorted up to a place, but for one element that is on its way. -/
def sortIL (X : List (List Int)) (i j : Nat) : Prop := ∀ p q, p < q → q ≤ i → q ≠ j → cmpL (X.getD p []) (X.getD q []) ≤ 0
def sortUL (X : List (List Int)) (i : Nat) : Prop := ∀ p q, p < q → q < i → cmpL (X.getD p []) (X.getD q []) ≤ 0
theorem sortIL_start {X : List (List Int)} {i : Nat} (h : sortUL X i) : sortIL X i i := fun p q h1 h2 h3 => h p q h1 (by omega)
theorem sortIL_end {X : List (List Int)} {i j : Nat} (h : sortIL X i j) (hj : j = 0 ∨ cmpL (X.getD (j - 1) []) (X.getD j []) ≤ 0) : sortUL X (i + 1) := fun p q h1 h2 => by
  by_cases e : q = j
  · subst e
    rcases hj with hj | hj
    · omega
    · by_cases e2 : p = q - 1
      · subst e2; exact hj
      · exact cmpL_trans (h p (q - 1) (by omega) (by omega) (by omega)) hj
  · exact h p q h1 (by omega) e
theorem getL {X : List (List Int)} {i : Nat} (h : i < X.length) : X.getD i [] = X[i] := by rw [List.getD_eq_getElem?_getD, List.getElem?_eq_getElem h]; rfl
theorem getD_setL {X : List (List Int)} {k m : Nat} {x : List Int} (h : k < X.length) : (X.set k x).getD m [] = if k = m then x else X.getD m [] := by
  rw [List.getD_eq_getElem?_getD, List.getElem?_set]
  split
  · rename_i e
    subst e
    simp [h]
  · rw [← List.getD_eq_getElem?_getD]
def swpL (X : List (List Int)) (j : Nat) : List (List Int) := (X.set j (X.getD (j - 1) [])).set (j - 1) (X.getD j [])
@[simp] theorem swpL_len (X : List (List Int)) (j : Nat) : (swpL X j).length = X.length := by simp [swpL]
theorem swpL_get {X : List (List Int)} {j m : Nat} (hj : 0 < j) (h : j < X.length) : (swpL X j).getD m [] = if m = j - 1 then X.getD j [] else if m = j then X.getD (j - 1) [] else X.getD m [] := by
  unfold swpL
  rw [getD_setL (by rw [List.length_set]; omega), getD_setL h]
  by_cases e : m = j - 1
  · rw [if_pos e.symm, if_pos e]
  · rw [if_neg (show ¬ j - 1 = m from fun x => e x.symm), if_neg e]
    by_cases e2 : m = j
    · rw [if_pos e2.symm, if_pos e2]
    · rw [if_neg (show ¬ j = m from fun x => e2 x.symm), if_neg e2]
theorem swpL_row {Y : List (List Int)} {j : Nat} (h0 : 0 < j) (h : j < Y.length) : (((Y.set j (Y[j - 1]'(by omega))).set ((j : Int) - 1).toNat Y[j]).map ints) = (swpL Y j).map ints := by
  unfold swpL
  rw [getL h, getL (by omega), show ((j : Int) - 1).toNat = j - 1 by omega]
theorem sortIL_swp {X : List (List Int)} {i j : Nat} (hj : 0 < j) (hji : j ≤ i) (hi : i < X.length) (h : sortIL X i j) (hlt : cmpL (X.getD j []) (X.getD (j - 1) []) < 0) : sortIL (swpL X j) i (j - 1) := fun p q h1 h2 h3 => by
  rw [swpL_get hj (by omega), swpL_get hj (by omega), if_neg h3]
  by_cases e : q = j
  · rw [if_pos e]
    by_cases e2 : p = j - 1
    · rw [if_pos e2]; omega
    · rw [if_neg e2, if_neg (by omega)]
      exact h p (j - 1) (by omega) (by omega) (by omega)
  · rw [if_neg e]
    by_cases e2 : p = j - 1
    · rw [if_pos e2]; subst e2; exact h j q (by omega) h2 e
    · rw [if_neg e2]
      by_cases e3 : p = j
      · rw [if_pos e3]; exact h (j - 1) q (by omega) h2 e
      · rw [if_neg e3]; exact h p q h1 h2 e
theorem swpL_perm {X : List (List Int)} {j : Nat} (hj : 0 < j) (h : j < X.length) : (swpL X j).Perm X := by
  unfold swpL
  rw [getL (by omega), getL h]
  exact List.set_set_perm h (by omega)
/-- Two rising lists of lists with the same members are the same. -/
theorem pwL_eq : ∀ {a b : List (List Int)}, a.Pairwise (fun x y => cmpL x y < 0) → b.Pairwise (fun x y => cmpL x y < 0) → (∀ x, x ∈ a ↔ x ∈ b) → a = b
  | [], [], _, _, _ => rfl
  | [], y :: b, _, _, h => absurd ((h y).2 (List.mem_cons_self ..)) (List.not_mem_nil)
  | x :: a, [], _, _, h => absurd ((h x).1 (List.mem_cons_self ..)) (List.not_mem_nil)
  | x :: a, y :: b, ha, hb, h => by
    rw [List.pairwise_cons] at ha hb
    have e : x = y := by
      rcases List.mem_cons.1 ((h x).1 (List.mem_cons_self ..)) with e | e
      · exact e
      · rcases List.mem_cons.1 ((h y).2 (List.mem_cons_self ..)) with e2 | e2
        · exact e2.symm
        · have h1 := hb.1 x e
          have h2 := ha.1 y e2
          rw [cmpL_anti2] at h1
          omega
    subst e
    have irr : ¬ cmpL x x < 0 := by rw [cmpL_self]; exact Int.lt_irrefl _
    congr 1
    refine pwL_eq ha.2 hb.2 fun z => ?_
    constructor
    · intro hz
      rcases List.mem_cons.1 ((h z).1 (List.mem_cons_of_mem _ hz)) with e | e
      · subst e; exact absurd (ha.1 z hz) irr
      · exact e
    · intro hz
      rcases List.mem_cons.1 ((h z).2 (List.mem_cons_of_mem _ hz)) with e | e
      · subst e; exact absurd (hb.1 z hz) irr
      · exact e
/-- The elements before j that differ from the one before. -/
noncomputable def cpK (S : List (List Int)) (j : Nat) : List (List Int) := ((List.range j).filter fun i => decide (i = 0 ∨ S.getD i [] ≠ S.getD (i - 1) [])).map fun i => S.getD i []
theorem cpK_succ (S : List (List Int)) (j : Nat) : cpK S (j + 1) = if j = 0 ∨ S.getD j [] ≠ S.getD (j - 1) [] then cpK S j ++ [S.getD j []] else cpK S j := by
  unfold cpK
  rw [List.range_succ, List.filter_append, List.map_append]
  by_cases h : j = 0 ∨ S.getD j [] ≠ S.getD (j - 1) []
  · rw [if_pos h, List.filter_cons, if_pos (decide_eq_true h), List.filter_nil]; rfl
  · rw [if_neg h, List.filter_cons, if_neg (fun x => h (of_decide_eq_true x)), List.filter_nil, List.map_nil, List.append_nil]
theorem cpK_yes {S : List (List Int)} {j : Nat} (h : j = 0 ∨ S.getD j [] ≠ S.getD (j - 1) []) : cpK S (j + 1) = cpK S j ++ [S.getD j []] := by rw [cpK_succ, if_pos h]
theorem cpK_no {S : List (List Int)} {j : Nat} (h : ¬ (j = 0 ∨ S.getD j [] ≠ S.getD (j - 1) [])) : cpK S (j + 1) = cpK S j := by rw [cpK_succ, if_neg h]
theorem cpK_le (S : List (List Int)) : ∀ j, (cpK S j).length ≤ j
  | 0 => by simp [cpK]
  | j + 1 => by
    have := cpK_le S j
    rw [cpK_succ]
    split
    · rw [List.length_append, List.length_singleton]; omega
    · omega
/-- No element is like the one before, up to j. -/
def noDup (S : List (List Int)) (j : Nat) : Prop := ∀ i, 0 < i → i < j → S.getD i [] ≠ S.getD (i - 1) []
theorem cpK_nd {S : List (List Int)} : ∀ {j : Nat}, j ≤ S.length → noDup S j → cpK S j = S.take j
  | 0, _, _ => by simp [cpK]
  | j + 1, hj, h => by
    have h0 := cpK_nd (j := j) (by omega) fun i h1 h2 => h i h1 (by omega)
    have hy : j = 0 ∨ S.getD j [] ≠ S.getD (j - 1) [] := by
      by_cases e : j = 0
      · exact .inl e
      · exact .inr (h j (by omega) (by omega))
    rw [cpK_yes hy, h0, take_snoc (show j < S.length by omega), getL (by omega)]
theorem cpK_mem {S : List (List Int)} : ∀ {j : Nat}, j ≤ S.length → ∀ x, x ∈ cpK S j ↔ x ∈ S.take j
  | 0, _, x => by simp [cpK]
  | j + 1, hj, x => by
    have ih := cpK_mem (S := S) (j := j) (by omega) x
    have ht : S.take (j + 1) = S.take j ++ [S.getD j []] := by rw [take_snoc (show j < S.length by omega), getL (by omega)]
    rw [ht]
    by_cases h : j = 0 ∨ S.getD j [] ≠ S.getD (j - 1) []
    · rw [cpK_yes h, List.mem_append, List.mem_append, ih]
    · rw [cpK_no h, ih, List.mem_append]
      refine ⟨.inl, fun hx => ?_⟩
      rcases hx with hx | hx
      · exact hx
      · have hj0 : j ≠ 0 := fun e => h (.inl e)
        have he : S.getD j [] = S.getD (j - 1) [] := Classical.not_not.1 fun e => h (.inr e)
        rw [List.mem_singleton.1 hx, he, getL (by omega)]
        have : S[j - 1] = (S.take j)[j - 1]'(by rw [List.length_take]; omega) := by rw [List.getElem_take]
        rw [this]
        exact List.getElem_mem _
theorem cpK_pw {S : List (List Int)} (hs : sortUL S S.length) : ∀ {j : Nat}, j ≤ S.length → (cpK S j).Pairwise (fun x y => cmpL x y < 0)
  | 0, _ => by simp [cpK]
  | j + 1, hj => by
    have ih := cpK_pw hs (j := j) (by omega)
    by_cases h : j = 0 ∨ S.getD j [] ≠ S.getD (j - 1) []
    · rw [cpK_yes h, List.pairwise_append]
      refine ⟨ih, List.pairwise_singleton _ _, fun x hx y hy => ?_⟩
      rw [List.mem_singleton.1 hy]
      have hx2 := (cpK_mem (S := S) (j := j) (by omega) x).1 hx
      obtain ⟨i, hi, rfl⟩ := List.mem_iff_getElem.1 hx2
      rw [List.length_take] at hi
      rw [List.getElem_take, ← getL (X := S) (i := i) (by omega)]
      have hle := hs i j (by omega) (by omega)
      rcases h with h | h
      · omega
      · rcases Int.lt_or_eq_of_le hle with g | g
        · exact g
        · exfalso
          have e1 := cmpL_eq g
          have h1 : cmpL (S.getD (j - 1) []) (S.getD j []) ≤ 0 := hs (j - 1) j (by omega) (by omega)
          have h2 : cmpL (S.getD j []) (S.getD (j - 1) []) ≤ 0 := by
            by_cases e : i = j - 1
            · subst e; rw [← e1, cmpL_self]; exact Int.le_refl _
            · rw [← e1]; exact hs i (j - 1) (by omega) (by omega)
          rw [cmpL_anti2] at h2
          exact h (cmpL_eq (by omega)).symm
    · rw [cpK_no h]; exact ih
/-- A list that rises with the members of V is the sorted list without doubles. -/
theorem cpK_eq {V M D : List (List Int)} (hp : M.Perm V) (hs : sortUL M M.length) (hD : D.Pairwise (fun x y => cmpL x y < 0)) (hm : ∀ x, x ∈ D ↔ x ∈ V) : cpK M M.length = D :=
  pwL_eq (cpK_pw hs (Nat.le_refl _)) hD fun x => by rw [cpK_mem (Nat.le_refl _), List.take_length, hm, hp.mem_iff]
/-- A list is put to its place. -/
theorem putL {D : List (List Int)} {v : List Int} {k : Nat} (hp : D.Pairwise (fun x y => cmpL x y < 0)) (h1 : ∀ y ∈ D.take k, cmpL y v < 0) (h2 : ∀ y ∈ D.drop k, cmpL v y < 0) :
    (D.take k ++ [v] ++ D.drop k).Pairwise (fun x y => cmpL x y < 0) ∧ ∀ x, x ∈ D.take k ++ [v] ++ D.drop k ↔ x ∈ D ∨ x = v := by
  have hs : D.take k ++ D.drop k = D := List.take_append_drop _ _
  refine ⟨?_, fun x => ?_⟩
  · rw [List.append_assoc, List.pairwise_append]
    rw [← hs, List.pairwise_append] at hp
    refine ⟨hp.1, ?_, fun a ha b hb => ?_⟩
    · rw [List.singleton_append, List.pairwise_cons]
      exact ⟨h2, hp.2.1⟩
    · rcases List.mem_append.1 hb with hb | hb
      · rw [List.mem_singleton.1 hb]; exact h1 a ha
      · exact hp.2.2 a ha b hb
  · rw [List.mem_append, List.mem_append, List.mem_singleton]
    conv => rhs; rw [← hs, List.mem_append]
    constructor
    · rintro ((h | h) | h)
      · exact .inl (.inl h)
      · exact .inr h
      · exact .inl (.inr h)
    · rintro ((h | h) | h)
      · exact .inl (.inl h)
      · exact .inr h
      · exact .inl (.inr h)
/-- In a rising list all behind an element that is greater are greater. -/
theorem putL_drop {D : List (List Int)} {v : List Int} {k : Nat} (hp : D.Pairwise (fun x y => cmpL x y < 0)) (hk : k < D.length) (h : ¬ cmpL D[k] v < 0) (hne : ¬ D[k] = v) : ∀ y ∈ D.drop k, cmpL v y < 0 := fun y hy => by
  have h0 : cmpL v D[k] < 0 := by
    have h1 := cmpL_anti2 D[k] v
    rcases Int.lt_or_eq_of_le (show cmpL v D[k] ≤ 0 by omega) with g | g
    · exact g
    · exact absurd (cmpL_eq g).symm hne
  rw [List.drop_eq_getElem_cons hk] at hy
  rcases List.mem_cons.1 hy with hy | hy
  · rw [hy]; exact h0
  · rw [← List.take_append_drop (k + 1) D, List.pairwise_append] at hp
    exact cmpL_lt_trans h0 (hp.2.2 D[k] (by rw [take_snoc hk]; exact List.mem_append.2 (.inr (List.mem_singleton.2 rfl))) y hy)
end Sx
