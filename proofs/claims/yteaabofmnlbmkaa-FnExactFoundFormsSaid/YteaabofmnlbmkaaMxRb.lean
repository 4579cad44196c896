/- Plain words: the elected robot. -/
import Derived.Test.YteaabofmnlbmkaaMxRa
set_option linter.all false
namespace Sx
theorem ix_first {R : List Int} {r : Int} (h : r ∈ R) : ∃ k, ∃ hk : k < R.length, ixOf R r = (k : Int) ∧ R[k] = r ∧ r ∉ R.take k := by
  have hk : R.idxOf r < R.length := List.idxOf_lt_length_iff.2 h
  have hg : R[R.idxOf r] = r := List.getElem_idxOf hk
  refine ⟨R.idxOf r, hk, by unfold ixOf; rw [if_pos h], hg, fun hm => ?_⟩
  have h1 := congrArg (List.idxOf r) (List.take_append_drop (R.idxOf r) R).symm
  rw [List.idxOf_append, if_pos hm] at h1
  have h2 := List.idxOf_lt_length_iff.2 hm
  rw [List.length_take] at h2
  omega
theorem count_at {R : List Int} {k : Nat} (hk : k < R.length) : R.count R[k] = (R.take k).count R[k] + 1 + (R.drop (k + 1)).count R[k] := by
  obtain ⟨x, hx⟩ : ∃ x, R[k] = x := ⟨_, rfl⟩
  rw [hx]
  have e : R = R.take k ++ (x :: R.drop (k + 1)) := by rw [← hx, ← List.drop_eq_getElem_cons hk, List.take_append_drop]
  have h2 := congrArg (List.count x) e
  rw [List.count_append, List.count_cons_self] at h2
  omega
/-- The number of the elected one of the first k, or -1. -/
def elK (R : List Int) : Nat → Int
  | 0 => -1
  | k + 1 => if R.count (R.getD k 0) = 1 ∧ (elK R k < 0 ∨ R.getD k 0 < R.getD (elK R k).toNat 0) then (k : Int) else elK R k
theorem elK_yes {R : List Int} {k : Nat} (h : R.count (R.getD k 0) = 1 ∧ (elK R k < 0 ∨ R.getD k 0 < R.getD (elK R k).toNat 0)) : elK R (k + 1) = k := if_pos h
theorem elK_no {R : List Int} {k : Nat} (h : ¬ (R.count (R.getD k 0) = 1 ∧ (elK R k < 0 ∨ R.getD k 0 < R.getD (elK R k).toNat 0))) : elK R (k + 1) = elK R k := if_neg h
theorem elK_bd (R : List Int) : ∀ k, -1 ≤ elK R k ∧ elK R k < k
  | 0 => ⟨Int.le_refl _, by show (-1 : Int) < 0; decide⟩
  | k + 1 => by
    have := elK_bd R k
    by_cases h : R.count (R.getD k 0) = 1 ∧ (elK R k < 0 ∨ R.getD k 0 < R.getD (elK R k).toNat 0)
    · rw [elK_yes h]; omega
    · rw [elK_no h]; omega
theorem elK_spec (R : List Int) : ∀ k, (elK R k = -1 ∧ ∀ i, i < k → R.count (R.getD i 0) ≠ 1) ∨ (∃ e : Nat, e < k ∧ elK R k = e ∧ R.count (R.getD e 0) = 1 ∧ ∀ i, i < k → R.count (R.getD i 0) = 1 → R.getD e 0 ≤ R.getD i 0)
  | 0 => .inl ⟨rfl, fun i h => by omega⟩
  | k + 1 => by
    by_cases h : R.count (R.getD k 0) = 1 ∧ (elK R k < 0 ∨ R.getD k 0 < R.getD (elK R k).toNat 0)
    · refine .inr ⟨k, by omega, elK_yes h, h.1, fun i hi hc => ?_⟩
      by_cases e : i = k
      · rw [e]; exact Int.le_refl _
      · rcases elK_spec R k with ⟨_, g⟩ | ⟨m, g1, g2, g3, g4⟩
        · exact absurd hc (g i (by omega))
        · rw [g2, Int.toNat_natCast] at h
          have := g4 i (by omega) hc
          omega
    · rw [elK_no h]
      rcases elK_spec R k with ⟨g0, g⟩ | ⟨m, g1, g2, g3, g4⟩
      · refine .inl ⟨g0, fun i hi hc => ?_⟩
        by_cases e : i = k
        · subst e; exact h ⟨hc, .inl (by omega)⟩
        · exact g i (by omega) hc
      · refine .inr ⟨m, by omega, g2, g3, fun i hi hc => ?_⟩
        by_cases e : i = k
        · subst e
          rw [g2, Int.toNat_natCast] at h
          have : ¬ R.getD i 0 < R.getD m 0 := fun x => h ⟨hc, .inr x⟩
          omega
        · exact g4 i (by omega) hc
theorem elI_get {R : List Int} {i : Nat} (h : i < R.length) : R.getD i 0 = R[i] := by rw [List.getD_eq_getElem?_getD, List.getElem?_eq_getElem h]; rfl
/-- No rank less than r is that of one robot alone. -/
def elInv (R : List Int) (r : Int) : Prop := ∀ i, i < R.length → R.count (R.getD i 0) = 1 → r ≤ R.getD i 0
theorem el_found {R : List Int} {r : Int} {k : Nat} (h : elInv R r) (hk : k < R.length) (e : R[k] = r) (h1 : r ∉ R.take k) (h2 : r ∉ R.drop (k + 1)) : elK R R.length = k := by
  have hc : R.count (R.getD k 0) = 1 := by
    rw [elI_get hk, count_at hk, e, List.count_eq_zero.2 h1, List.count_eq_zero.2 h2]
  rcases elK_spec R R.length with ⟨_, g⟩ | ⟨m, g1, g2, g3, g4⟩
  · exact absurd hc (g k hk)
  · have a := g4 k hk hc
    have b := h m g1 g3
    have er : R[m] = r := by rw [elI_get hk, elI_get g1, e] at a; rw [elI_get g1] at b; omega
    rw [g2]
    rcases Nat.lt_trichotomy m k with x | x | x
    · exact absurd (List.mem_iff_getElem.2 ⟨m, by rw [List.length_take]; omega, by rw [List.getElem_take]; exact er⟩) h1
    · rw [x]
    · exact absurd (List.mem_iff_getElem.2 ⟨m - (k + 1), by rw [List.length_drop]; omega, by rw [List.getElem_drop]; simp only [show k + 1 + (m - (k + 1)) = m by omega]; exact er⟩) h2
theorem el_next {R : List Int} {r : Int} (h : elInv R r) (hr : R.count r ≠ 1) : elInv R (r + 1) := fun i hi hc => by
  have := h i hi hc
  have hne : R.getD i 0 ≠ r := fun e => hr (by rw [← e]; exact hc)
  omega
theorem el_many {R : List Int} {r : Int} {k : Nat} (hk : k < R.length) (e : R[k] = r) (h2 : r ∈ R.drop (k + 1)) : R.count r ≠ 1 := by
  have := count_at hk
  rw [e] at this
  have := List.one_le_count_iff.2 h2
  omega
theorem el_zero {R : List Int} {r : Int} (h : r ∉ R) : R.count r ≠ 1 := by rw [List.count_eq_zero.2 h]; omega
theorem el_none {R : List Int} (h : elInv R R.length) (hb : ∀ x ∈ R, 0 ≤ x ∧ x < R.length) : elK R R.length = -1 := by
  rcases elK_spec R R.length with ⟨g, _⟩ | ⟨m, g1, g2, g3, g4⟩
  · exact g
  · have := h m g1 g3
    rw [elI_get g1] at this
    have := hb _ (List.getElem_mem g1)
    omega
theorem el_start {R : List Int} (hb : ∀ x ∈ R, 0 ≤ x ∧ x < R.length) : elInv R 0 := fun i hi _ => by
  rw [elI_get hi]
  exact (hb _ (List.getElem_mem hi)).1
theorem count_take {R : List Int} {k : Nat} (h : k < R.length) (x : Int) : (R.take (k + 1)).count x = (R.take k).count x + if R[k] = x then 1 else 0 := by
  rw [take_snoc h, List.count_append, List.count_singleton]
  simp
noncomputable def elI (n : Int) (l : List Int) : Int := elK (ranksL n l) l.length
theorem elI_bd (n : Int) (l : List Int) : -1 ≤ elI n l ∧ elI n l < l.length := elK_bd _ _
/-- The place of the elected robot, or -1. -/
noncomputable def elP (n : Int) (l : List Int) : Int := if elI n l < 0 then -1 else l.getD (elI n l).toNat 0
end Sx
