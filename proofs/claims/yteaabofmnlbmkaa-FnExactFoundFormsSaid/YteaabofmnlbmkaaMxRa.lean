/- Plain words: the views of a crowd in order, and ranks. -/
import Derived.Test.YteaabofmnlbmkaaMxO
set_option linter.all false
namespace Sx
/-- D holds the first k of the lists, in order. -/
def risen (V : Nat → List Int) (D : List (List Int)) (k : Nat) : Prop := D.Pairwise (fun x y => cmpL x y < 0) ∧ ∀ x, x ∈ D ↔ ∃ i, i < k ∧ V i = x
theorem risen_zero (V : Nat → List Int) : risen V [] 0 := ⟨.nil, fun x => ⟨fun h => (List.not_mem_nil h).elim, fun h => h.elim fun i h => absurd h.1 (Nat.not_lt_zero _)⟩⟩
theorem risen_in {V : Nat → List Int} {D : List (List Int)} {k : Nat} {v : List Int} (h : risen V D k) (hv : V k = v) (hm : v ∈ D) : risen V D (k + 1) := ⟨h.1, fun x => by
  rw [h.2]
  constructor
  · rintro ⟨i, hi, e⟩; exact ⟨i, by omega, e⟩
  · rintro ⟨i, hi, e⟩
    by_cases e2 : i = k
    · subst e2; rw [← e, hv]; exact (h.2 v).1 hm
    · exact ⟨i, by omega, e⟩⟩
theorem risen_more {V : Nat → List Int} {D D' : List (List Int)} {k : Nat} {v : List Int} (h : risen V D k) (hv : V k = v) (hp : D'.Pairwise (fun x y => cmpL x y < 0)) (hm : ∀ x, x ∈ D' ↔ x ∈ D ∨ x = v) : risen V D' (k + 1) := by
  refine ⟨hp, fun x => ?_⟩
  rw [hm, h.2]
  constructor
  · rintro (⟨i, hi, e⟩ | e)
    · exact ⟨i, by omega, e⟩
    · exact ⟨k, by omega, by rw [hv, e]⟩
  · rintro ⟨i, hi, e⟩
    by_cases e2 : i = k
    · subst e2; exact .inr (by rw [← e, hv])
    · exact .inl ⟨i, by omega, e⟩
theorem risen_put {V : Nat → List Int} {D : List (List Int)} {k j : Nat} {v : List Int} (h : risen V D k) (hv : V k = v) (h1 : ∀ y ∈ D.take j, cmpL y v < 0) (h2 : ∀ y ∈ D.drop j, cmpL v y < 0) : risen V (D.take j ++ [v] ++ D.drop j) (k + 1) :=
  risen_more h hv (putL h.1 h1 h2).1 (putL h.1 h1 h2).2
theorem risen_eq {V : Nat → List Int} {D D' : List (List Int)} {k : Nat} (h : risen V D k) (h' : risen V D' k) : D = D' := pwL_eq h.1 h'.1 fun x => by rw [h.2, h'.2]
theorem risen_get {V : Nat → List Int} {D : List (List Int)} {k j : Nat} (h : risen V D k) (hj : j < D.length) : ∃ i, i < k ∧ V i = D[j] := (h.2 _).1 (List.getElem_mem hj)
/-! the list that a list is put into -/
noncomputable def insL (v : List Int) : List (List Int) → List (List Int)
  | [] => [v]
  | y :: D => if cmpL y v < 0 then y :: insL v D else if y = v then y :: D else v :: y :: D
theorem insL_mem {v : List Int} : ∀ {D : List (List Int)} (x : List Int), x ∈ insL v D ↔ x ∈ D ∨ x = v
  | [], x => by simp [insL]
  | y :: D, x => by
    unfold insL
    split
    · rw [List.mem_cons, insL_mem, List.mem_cons, or_assoc]
    · split
      · rename_i _ e
        subst e
        exact ⟨.inl, fun h => h.elim id fun h => by rw [h]; exact List.mem_cons_self ..⟩
      · rw [List.mem_cons, or_comm]
theorem insL_pw {v : List Int} : ∀ {D : List (List Int)}, D.Pairwise (fun x y => cmpL x y < 0) → (insL v D).Pairwise (fun x y => cmpL x y < 0)
  | [], _ => List.pairwise_singleton _ _
  | y :: D, h => by
    rw [List.pairwise_cons] at h
    unfold insL
    split
    · rename_i h1
      rw [List.pairwise_cons]
      refine ⟨fun x hx => ?_, insL_pw h.2⟩
      rcases (insL_mem x).1 hx with hx | hx
      · exact h.1 x hx
      · rw [hx]; exact h1
    · rename_i h1
      split
      · rw [List.pairwise_cons]; exact h
      · rename_i h2
        have h0 : cmpL v y < 0 := by
          have h1 := cmpL_anti2 y v
          rcases Int.lt_or_eq_of_le (show cmpL v y ≤ 0 by omega) with g | g
          · exact g
          · exact absurd (cmpL_eq g).symm h2
        rw [List.pairwise_cons, List.pairwise_cons]
        refine ⟨fun x hx => ?_, h⟩
        rcases List.mem_cons.1 hx with hx | hx
        · rw [hx]; exact h0
        · exact cmpL_lt_trans h0 (h.1 x hx)
theorem insL_le {v : List Int} : ∀ {D : List (List Int)}, (insL v D).length ≤ D.length + 1
  | [] => Nat.le_refl _
  | y :: D => by
    unfold insL
    split
    · have := insL_le (v := v) (D := D); simp only [List.length_cons]; omega
    · split
      · simp only [List.length_cons]; omega
      · simp only [List.length_cons]; omega
noncomputable def risenD (V : Nat → List Int) : Nat → List (List Int)
  | 0 => []
  | k + 1 => insL (V k) (risenD V k)
theorem risenD_ok (V : Nat → List Int) : ∀ k, risen V (risenD V k) k
  | 0 => risen_zero V
  | k + 1 => risen_more (risenD_ok V k) rfl (insL_pw (risenD_ok V k).1) insL_mem
theorem risenD_le (V : Nat → List Int) : ∀ k, (risenD V k).length ≤ k
  | 0 => Nat.le_refl _
  | k + 1 => by have h1 := risenD_le V k; have h2 := insL_le (v := V k) (D := risenD V k); show (insL (V k) (risenD V k)).length ≤ k + 1; omega
/-- The places of lists in a list of lists. -/
noncomputable def ranksO (V : Nat → List Int) (D : List (List Int)) : Nat → List Int
  | 0 => []
  | k + 1 => ranksO V D k ++ [fIx (fun x => V k = x) D]
@[simp] theorem ranksO_len (V : Nat → List Int) (D : List (List Int)) : ∀ k, (ranksO V D k).length = k
  | 0 => rfl
  | k + 1 => by show (ranksO V D k ++ [_]).length = k + 1; rw [List.length_append, ranksO_len V D k]; rfl
theorem ranksO_get {V : Nat → List Int} {D : List (List Int)} : ∀ {k i : Nat}, i < k → (ranksO V D k)[i]? = some (fIx (fun x => V i = x) D)
  | 0, i, h => absurd h (Nat.not_lt_zero _)
  | k + 1, i, h => by
    show (ranksO V D k ++ [fIx (fun x => V k = x) D])[i]? = _
    by_cases e : i < k
    · rw [List.getElem?_append_left (by rw [ranksO_len]; exact e)]
      exact ranksO_get e
    · have e2 : i = k := by omega
      subst e2
      rw [List.getElem?_append_right (by rw [ranksO_len]; exact Nat.le_refl _), ranksO_len, Nat.sub_self]
      rfl
open Classical in
theorem fIx_lt {α : Type} {p : α → Prop} {L : List α} (h : ∃ l ∈ L, p l) : 0 ≤ fIx p L ∧ fIx p L < L.length := by
  refine ⟨(fIx_ge p L).2 h, ?_⟩
  unfold fIx
  rw [if_pos h]
  obtain ⟨l, hl, hp⟩ := h
  have := List.findIdx_lt_length_of_exists (p := fun l => decide (p l)) ⟨l, hl, by simpa using hp⟩
  omega
noncomputable def rankD (n : Int) (l : List Int) : List (List Int) := risenD (viewL n l) l.length
noncomputable def ranksL (n : Int) (l : List Int) : List Int := ranksO (viewL n l) (rankD n l) l.length
theorem viewL_len (n : Int) (l : List Int) (k : Nat) : (viewL n l k).length = l.length := by
  unfold viewL; split
  · exact gapsR_len n l k
  · rw [List.length_reverse, gapsR_len]
theorem risen_len {n : Int} {l : List Int} {D : List (List Int)} {k : Nat} (h : risen (viewL n l) D k) : ∀ x ∈ D, x.length = l.length := fun x hx => by
  obtain ⟨i, _, e⟩ := (h.2 x).1 hx
  rw [← e, viewL_len]
@[simp] theorem ranksL_len (n : Int) (l : List Int) : (ranksL n l).length = l.length := by unfold ranksL; rw [ranksO_len]
theorem ranksL_in (n : Int) (l : List Int) : ∀ x ∈ ranksL n l, 0 ≤ x ∧ x < l.length := fun x hx => by
  obtain ⟨i, hi, rfl⟩ := List.mem_iff_getElem.1 hx
  have hi2 : i < l.length := by rw [ranksL_len] at hi; exact hi
  have h1 := risenD_ok (viewL n l) l.length
  have h2 := risenD_le (viewL n l) l.length
  have e : (ranksL n l)[i] = fIx (fun x => viewL n l i = x) (rankD n l) := by
    have := List.getElem?_eq_getElem hi
    rw [show (ranksL n l)[i]? = some (fIx (fun x => viewL n l i = x) (rankD n l)) from ranksO_get hi2] at this
    exact (Option.some.inj this).symm
  rw [e]
  have := fIx_lt (p := fun x => viewL n l i = x) (L := rankD n l) ⟨viewL n l i, (h1.2 _).2 ⟨i, hi2, rfl⟩, rfl⟩
  unfold rankD at this ⊢
  omega
end Sx
