/- Plain words: dirty places counted, sensors that see a place. -/
import Derived.Test.YteaabofmnlbmkaaMxF
import Derived.Test.YteaabofmnlbmkaaMxE
set_option linter.all false
namespace Sx
set_option linter.unusedSimpArgs false
set_option linter.unusedVariables false
theorem sum_snoc {l : List Int} {k : Nat} (h : k < l.length) : (l.take (k + 1)).sum = (l.take k).sum + l[k] := by rw [take_snoc h, List.sum_append]; simp
theorem sum_bd {l : List Int} {M : Int} (h0 : 0 ≤ M) (h : ∀ x ∈ l, 0 ≤ x ∧ x ≤ M) : ∀ k, k ≤ l.length → 0 ≤ (l.take k).sum ∧ (l.take k).sum ≤ k * M
  | 0, _ => by simp
  | k + 1, hk => by
    obtain ⟨h1, h2⟩ := sum_bd h0 h k (by omega)
    have h3 := h _ (List.getElem_mem (show k < l.length by omega))
    rw [sum_snoc (by omega), Int.natCast_add, Int.add_mul]
    omega
open Classical in
noncomputable def cntsR (n : Int) (b : Bool) (L : List (List Int)) : List Int := if chasers n b L then (dirts n b L (lng L).toNat).map List.sum else []
theorem cntsR_yes {n : Int} {b : Bool} {L : List (List Int)} (h : chasers n b L) : cntsR n b L = (dirts n b L (lng L).toNat).map List.sum := if_pos h
theorem cntsR_no {n : Int} {b : Bool} {L : List (List Int)} (h : ¬ chasers n b L) : cntsR n b L = [] := if_neg h
theorem cntsR_len {n : Int} {b : Bool} {L : List (List Int)} : (cntsR n b L).length ≤ 61 := by
  by_cases h : chasers n b L
  · rw [cntsR_yes h, List.length_map, dirts_len]
    have := (lng_bd L (chasers_len h)).2.1
    omega
  · rw [cntsR_no h]; simp
theorem cnts_snoc {D : List (List Int)} {k : Nat} (h : k < D.length) : (D.take (k + 1)).map List.sum = (D.take k).map List.sum ++ [(D[k]).sum] := by rw [take_snoc h, List.map_append]; rfl
/-- How many sensors see a place. -/
def seenC (n : Int) (b : Bool) (S : List (Int × Int)) (p : Nat) : Int := ((S.filter fun s => decide (gap n b s.1 p ≤ s.2)).length : Nat)
def seenL (n : Int) (b : Bool) (S : List (Int × Int)) : List Int := (List.range n.toNat).map (seenC n b S)
@[simp] theorem seenL_len (n : Int) (b : Bool) (S : List (Int × Int)) : (seenL n b S).length = n.toNat := by simp [seenL]
theorem seenL_get {n : Int} {b : Bool} {S : List (Int × Int)} {p : Nat} (h : p < (seenL n b S).length) : (seenL n b S)[p] = seenC n b S p := by simp [seenL]
theorem seenC_bd (n : Int) (b : Bool) (S : List (Int × Int)) (p : Nat) : 0 ≤ seenC n b S p ∧ seenC n b S p ≤ S.length := by
  unfold seenC
  have := List.length_filter_le (fun s : Int × Int => decide (gap n b s.1 p ≤ s.2)) S
  omega
theorem seenC_snoc {n : Int} {b : Bool} {S : List (Int × Int)} {p k : Nat} (h : k < S.length) : seenC n b (S.take (k + 1)) p = seenC n b (S.take k) p + if gap n b S[k].1 p ≤ S[k].2 then 1 else 0 := by
  unfold seenC
  rw [take_snoc h, List.filter_append, List.length_append]
  by_cases e : gap n b S[k].1 p ≤ S[k].2
  · rw [if_pos e]; simp [List.filter_cons, e]
  · rw [if_neg e]; simp [List.filter_cons, e]
/-- The list while it is filled: places below p are done, p has looked at k sensors. -/
def seenK (n : Int) (b : Bool) (S : List (Int × Int)) (p k : Nat) : List Int := (List.range n.toNat).map fun q => if q < p then seenC n b S q else if q = p then seenC n b (S.take k) q else 0
@[simp] theorem seenK_len (n : Int) (b : Bool) (S : List (Int × Int)) (p k : Nat) : (seenK n b S p k).length = n.toNat := by simp [seenK]
theorem seenK_get {n : Int} {b : Bool} {S : List (Int × Int)} {p k q : Nat} (h : q < (seenK n b S p k).length) : (seenK n b S p k)[q] = if q < p then seenC n b S q else if q = p then seenC n b (S.take k) q else 0 := by simp [seenK]
theorem seenK_at {n : Int} {b : Bool} {S : List (Int × Int)} {p k : Nat} (h : p < (seenK n b S p k).length) : (seenK n b S p k)[p] = seenC n b (S.take k) p := by rw [seenK_get, if_neg (by omega), if_pos rfl]
theorem seenC_0 (n : Int) (b : Bool) (p : Nat) : seenC n b [] p = 0 := rfl
theorem seenK_00 (n : Int) (b : Bool) (S : List (Int × Int)) : List.replicate n.toNat (0 : Int) = seenK n b S 0 0 := by
  apply List.ext_getElem
  · simp
  · intro i h1 h2
    rw [seenK_get]
    simp
    intro e; subst e; rfl
theorem seenK_next (n : Int) (b : Bool) (S : List (Int × Int)) (p : Nat) {k : Nat} (hk : ¬ k < S.length) : seenK n b S p k = seenK n b S (p + 1) 0 := by
  apply List.ext_getElem
  · simp
  · intro i h1 h2
    rw [seenK_get, seenK_get]
    by_cases e : i < p
    · rw [if_pos e, if_pos (by omega)]
    · rw [if_neg e]
      by_cases e2 : i = p
      · subst e2; rw [if_pos rfl, if_pos (by omega), List.take_of_length_le (by omega)]
      · rw [if_neg e2, if_neg (by omega)]
        split
        · rw [List.take_zero, seenC_0]
        · rfl
theorem seenK_all {n : Int} (b : Bool) (S : List (Int × Int)) {p : Nat} (hp : ¬ p < n.toNat) : seenK n b S p 0 = seenL n b S := by
  apply List.ext_getElem
  · simp
  · intro i h1 h2
    simp at h1
    rw [seenK_get, seenL_get, if_pos (by omega)]
theorem seenK_set {n : Int} {b : Bool} {S : List (Int × Int)} {p k : Nat} (hk : k < S.length) (h : gap n b S[k].1 p ≤ S[k].2) : (seenK n b S p k).set p (seenC n b (S.take k) p + 1) = seenK n b S p (k + 1) := by
  apply List.ext_getElem
  · simp
  · intro i h1 h2
    rw [List.getElem_set, seenK_get, seenK_get]
    by_cases e : p = i
    · subst e
      rw [if_pos rfl, if_neg (by omega), if_pos rfl, seenC_snoc hk, if_pos h]
    · rw [if_neg e]
      by_cases e2 : i < p
      · rw [if_pos e2, if_pos e2]
      · rw [if_neg e2, if_neg (by omega), if_neg e2, if_neg (by omega)]
theorem seenK_skip {n : Int} {b : Bool} {S : List (Int × Int)} {p k : Nat} (hk : k < S.length) (h : ¬ gap n b S[k].1 p ≤ S[k].2) : seenK n b S p k = seenK n b S p (k + 1) := by
  apply List.ext_getElem
  · simp
  · intro i h1 h2
    rw [seenK_get, seenK_get]
    by_cases e2 : i < p
    · rw [if_pos e2, if_pos e2]
    · rw [if_neg e2, if_neg e2]
      by_cases e : i = p
      · subst e; rw [if_pos rfl, if_pos rfl, seenC_snoc hk, if_neg h, Int.add_zero]
      · rw [if_neg e, if_neg e]
def watchL (y : Yd) : List Int := y.w.map fun p => (seenL y.n y.b y.S).getD p.toNat 0
open Classical in
noncomputable def watchR (y : Yd) : List Int := if good y then watchL y else []
theorem watchR_yes {y : Yd} (h : good y) : watchR y = watchL y := if_pos h
theorem watchR_no {y : Yd} (h : ¬ good y) : watchR y = [] := if_neg h
theorem watchR_len {y : Yd} : (watchR y).length ≤ y.w.length := by
  by_cases h : good y
  · rw [watchR_yes h]; simp [watchL]
  · rw [watchR_no h]; simp
noncomputable def yNorm (y : Yd) : Yd := if good y then y else ⟨0, false, [], [], [], 0⟩
theorem yNorm_yes {y : Yd} (h : good y) : yNorm y = y := if_pos h
theorem yNorm_no {y : Yd} (h : ¬ good y) : yNorm y = ⟨0, false, [], [], [], 0⟩ := if_neg h
theorem yNorm_fit {y : Yd} {m : Nat} (h : fitY m y) : fitY m (yNorm y) := by
  unfold yNorm; split
  · exact h
  · exact ⟨Nat.zero_le _, Nat.zero_le _, Nat.zero_le _⟩
end Sx
