/- Plain words: valid logs. -/
import Derived.Test.YtfhklahhkjahiaaDoorMxQ
set_option linter.all false
namespace Sx
theorem bef_appL {c : UInt8} {s t : List UInt8} (h : c ∈ s) : bef c (s ++ t) = bef c s := by
  have h1 := split_eq h
  conv => lhs; rw [h1.1]
  rw [List.append_assoc, List.cons_append, bef_app h1.2]
/-- A line within the first part. -/
theorem line_in {D P : List UInt8} {a : Nat} (ha : a ≤ D.length) : (D ++ P).drop a = D.drop a ++ P := List.drop_append_of_le_length ha
theorem good_L1 {D P : List UInt8} {j : Nat} (h : ∀ i < j, goodB D i) : (∀ i ≤ j, atB (D ++ P) i = atB D i) ∧ ∀ i < j, goodB (D ++ P) i := by
  induction j with
  | zero => exact ⟨fun i hi => by rw [Nat.le_zero.1 hi]; rfl, fun i hi => by omega⟩
  | succ j ih =>
    obtain ⟨h1, h2⟩ := ih fun i hi => h i (by omega)
    have hg := h j (by omega)
    have ha : atB D j ≤ D.length := at_le fun i hi => h i (by omega)
    have e0 : (D ++ P).drop (atB (D ++ P) j) = D.drop (atB D j) ++ P := by rw [h1 j (Nat.le_refl _)]; exact line_in ha
    have e1 : lnB (D ++ P) j = lnB D j := by unfold lnB; rw [e0]; exact bef_appL hg.1
    refine ⟨fun i hi => ?_, fun i hi => ?_⟩
    · by_cases e : i = j + 1
      · subst e
        rw [at_succ rfl, at_succ rfl, h1 j (Nat.le_refl _)]
        have : bef 10 ((D ++ P).drop (atB D j)) = bef 10 (D.drop (atB D j)) := by
          rw [line_in ha]; exact bef_appL hg.1
        rw [this]
      · exact h1 i (by omega)
    · by_cases e : i = j
      · subst e
        refine ⟨by rw [e0]; exact List.mem_append.2 (.inl hg.1), by rw [e1]; exact hg.2⟩
      · exact h2 i (by omega)
theorem good_L2 {D P : List UInt8} {j : Nat} (h : ∀ i < j, goodB (D ++ P) i) (hl : atB (D ++ P) j ≤ D.length) : (∀ i < j, goodB D i) ∧ ∀ i ≤ j, atB D i = atB (D ++ P) i := by
  induction j with
  | zero => exact ⟨fun i hi => by omega, fun i hi => by rw [Nat.le_zero.1 hi]; rfl⟩
  | succ j ih =>
    have e2 := at_succ (s := D ++ P) (j := j) rfl
    obtain ⟨h1, h2⟩ := ih (fun i hi => h i (by omega)) (by omega)
    have hg := h j (by omega)
    have ha : atB (D ++ P) j ≤ D.length := by omega
    have e0 : (D ++ P).drop (atB (D ++ P) j) = D.drop (atB (D ++ P) j) ++ P := line_in ha
    have hm : (10 : UInt8) ∈ D.drop (atB (D ++ P) j) := by
      have h3 := hg.1
      rw [e0] at h3 e2
      by_cases hx : (10 : UInt8) ∈ D.drop (atB (D ++ P) j)
      · exact hx
      · exfalso
        have h4 := split_eq h3
        have h5 : (D.drop (atB (D ++ P) j)).length ≤ (bef 10 (D.drop (atB (D ++ P) j) ++ P)).length := by
          rcases Nat.lt_or_ge (bef 10 (D.drop (atB (D ++ P) j) ++ P)).length (D.drop (atB (D ++ P) j)).length with h6 | h6
          · exfalso
            apply hx
            have h7 := congrArg (fun l => l[(bef 10 (D.drop (atB (D ++ P) j) ++ P)).length]?) h4.1
            simp only [List.getElem?_append_left h6] at h7
            rw [List.getElem?_append_right (Nat.le_refl _)] at h7
            simp only [Nat.sub_self, List.getElem?_cons_zero] at h7
            exact List.mem_of_getElem? h7
          · exact h6
        rw [List.length_drop] at h5
        omega
    have e1 : lnB (D ++ P) j = lnB D j := by
      unfold lnB
      rw [e0, h2 j (Nat.le_refl _)]
      exact bef_appL hm
    have hgD : goodB D j := ⟨by rw [h2 j (Nat.le_refl _)]; exact hm, by rw [← e1]; exact hg.2⟩
    refine ⟨fun i hi => ?_, fun i hi => ?_⟩
    · by_cases e : i = j
      · subst e; exact hgD
      · exact h1 i (by omega)
    · by_cases e : i = j + 1
      · subst e
        rw [at_succ rfl, at_succ rfl, h2 j (Nat.le_refl _), e0, bef_appL hm]
      · exact h2 i (by omega)
/-- The end of the first part is the end of a record just if all of it is read by itself. -/
theorem ends_iff {D P : List UInt8} : (D.length : Int) ∈ endsB (D ++ P) ↔ atB D (cntB D) = D.length := by
  have hs := cnt_spec (D ++ P)
  have hd := cnt_spec D
  unfold endsB
  rw [List.mem_map]
  constructor
  · rintro ⟨j, hj, e⟩
    have hj : j < cntB (D ++ P) + 1 := List.mem_range.1 hj
    have e : atB (D ++ P) j = D.length := by omega
    obtain ⟨h1, h2⟩ := good_L2 (D := D) (P := P) (j := j) (fun i hi => hs.2.1 i (by omega)) (by omega)
    have e3 : atB D j = D.length := by rw [h2 j (Nat.le_refl _), e]
    have hng : ¬ goodB D j := fun h => by
      have := h.1
      rw [e3, List.drop_length] at this
      cases this
    rw [cnt_stop (by omega) h1 hng, e3]
  · intro e
    obtain ⟨h1, h2⟩ := good_L1 (D := D) (P := P) hd.2.1
    refine ⟨cntB D, List.mem_range.2 ?_, by rw [h1 _ (Nat.le_refl _), e]⟩
    rcases Nat.lt_or_ge (cntB (D ++ P)) (cntB D) with h | h
    · exfalso
      exact hs.2.2 (by omega) (h2 _ h)
    · omega
/-- A log is valid. -/
def logOk (D P : List UInt8) (n : Int) : Prop := (D.length : Int) + P.length ≤ 30000 ∧ (atB (D ++ P) (cntB (D ++ P)) : Int) = (D.length : Int) + P.length ∧ (atB D (cntB D) : Int) = D.length ∧ (cntB (D ++ P) : Int) = n
noncomputable instance (D P : List UInt8) (n : Int) : Decidable (logOk D P n) := Classical.propDecidable _
abbrev lgv (D P : List UInt8) (n : Int) : AV := .agg [.str D, .str P, i64 n]
def apOk (D P : List UInt8) (n : Int) (c r : List UInt8) : Prop := (logOk D P n ∧ recOk c r) ∧ n ≠ 60
noncomputable instance (D P : List UInt8) (n : Int) (c r : List UInt8) : Decidable (apOk D P n c r) := Classical.propDecidable _
noncomputable def apP (D P : List UInt8) (n : Int) (c r : List UInt8) : List UInt8 := if apOk D P n c r then P ++ lineB n c r else P
noncomputable def apN (D P : List UInt8) (n : Int) (c r : List UInt8) : Int := if apOk D P n c r then n + 1 else n
noncomputable def apC (D P : List UInt8) (n : Int) (c r : List UInt8) : Int := if apOk D P n c r then 0 else if logOk D P n ∧ recOk c r then 2 else 1
theorem logOk_n {D P : List UInt8} {n : Int} (h : logOk D P n) : 0 ≤ n ∧ n ≤ 60 := by
  have := h.2.2.2
  have := (cnt_spec (D ++ P)).1
  omega
theorem line_len {k : Int} {c r : List UInt8} (h0 : 0 ≤ k) (hk : k < 1000000000000) (h : recOk c r) : (lineB k c r).length ≤ 440 := by
  have h1 := text_len h0 hk h
  have h2 := seal_len (textB k c r)
  unfold lineB
  simp
  omega
theorem rec_len {c r : List UInt8} (h : recOk c r) : (c.length : Int) ≤ 160 ∧ (r.length : Int) ≤ 250 := ⟨h.2.1.2, h.2.2.2.2⟩
end Sx
