/- Plain words about dirty lists. -/
import Derived.Test.YteaabofmnlbmkaaMxB
set_option linter.all false
namespace Sx
open Classical in
noncomputable def ind (n : Nat) (S : Nat → Prop) : List Int := (List.range n).map fun q => if S q then (1 : Int) else 0
@[simp] theorem ind_len (n : Nat) (S : Nat → Prop) : (ind n S).length = n := by simp [ind]
theorem ind_congr {n : Nat} {S T : Nat → Prop} (h : ∀ q, q < n → (S q ↔ T q)) : ind n S = ind n T := by
  unfold ind
  apply List.map_congr_left
  intro q hq
  have := h q (List.mem_range.1 hq)
  by_cases hs : S q
  · rw [if_pos hs, if_pos (this.1 hs)]
  · rw [if_neg hs, if_neg fun ht => hs (this.2 ht)]
theorem ind_get {n : Nat} {S : Nat → Prop} {q : Nat} (h : q < (ind n S).length) : (ind n S)[q] = 0 ↔ ¬ S q := by
  rw [show (ind n S)[q] = _ from List.getElem_map (h := h) .., List.getElem_range]
  split <;> simp_all
open Classical in
theorem ind_at {n : Nat} {S : Nat → Prop} {q : Nat} (h : q < (ind n S).length) : (ind n S)[q] = if S q then (1 : Int) else 0 :=
  (List.getElem_map (h := h) ..).trans (by rw [List.getElem_range])
theorem ind_set {n : Nat} {S : Nat → Prop} {j : Nat} : (ind n S).set j 1 = ind n fun q => S q ∨ q = j := by
  apply List.ext_getElem
  · simp [ind_len]
  · intro i h1 h2
    rw [List.getElem_set, ind_at, ind_at]
    by_cases e : j = i
    · subst e; simp
    · rw [if_neg e]
      by_cases hs : S i
      · rw [if_pos hs, if_pos (.inl hs)]
      · rw [if_neg hs, if_neg]
        rintro (h | h)
        · exact hs h
        · exact e h.symm
theorem ind_zero (n : Nat) : List.replicate n (0 : Int) = ind n fun _ => False := by
  apply List.ext_getElem <;> simp [ind]
theorem ind_01 {n : Nat} {S : Nat → Prop} : ∀ x ∈ ind n S, 0 ≤ x ∧ x ≤ 1 := fun x hx => by
  unfold ind at hx
  obtain ⟨q, _, rfl⟩ := List.mem_map.1 hx
  split <;> omega
def nbrs (n : Int) (b : Bool) (p : Int) : List Int := ((List.range n.toNat).filter fun q : Nat => decide (gap n b p (q : Int) = 1)).map fun q : Nat => (q : Int)
theorem nbrs_mem {n : Int} {b : Bool} {p q : Int} : q ∈ nbrs n b p ↔ (0 ≤ q ∧ q < n) ∧ gap n b p q = 1 := by
  simp only [nbrs, List.mem_map, List.mem_filter, List.mem_range, decide_eq_true_eq]
  constructor
  · rintro ⟨k, ⟨h1, h2⟩, rfl⟩; exact ⟨by omega, h2⟩
  · rintro ⟨h1, h2⟩; exact ⟨q.toNat, ⟨by omega, by rw [show ((q.toNat : Nat) : Int) = q by omega]; exact h2⟩, by omega⟩
theorem nbrs_len (n : Int) (b : Bool) (p : Int) : (nbrs n b p).length ≤ n.toNat := by
  unfold nbrs
  rw [List.length_map]
  have := List.length_filter_le (fun q : Nat => decide (gap n b p q = 1)) (List.range n.toNat)
  rwa [List.length_range] at this
theorem filter_snoc {k : Nat} (f : Nat → Bool) : ((List.range (k + 1)).filter f).map (fun q : Nat => (q : Int)) = ((List.range k).filter f).map (fun q : Nat => (q : Int)) ++ if f k = true then [(k : Int)] else [] := by
  rw [List.range_succ, List.filter_append, List.map_append]
  congr 1
  by_cases h : f k = true <;> simp [List.filter_cons, h]
theorem gap_0 {n : Int} {b : Bool} {p q : Int} (hp : 0 ≤ p ∧ p < n) (hq : 0 ≤ q ∧ q < n) : gap n b p q = 0 ↔ p = q := by
  unfold gap; split <;> omega
/-- A place and its neighbors. -/
theorem nbrs_self {n : Int} {b : Bool} {p q : Int} (hp : 0 ≤ p ∧ p < n) : q ∈ nbrs n b p ++ [p] ↔ (0 ≤ q ∧ q < n) ∧ gap n b p q ≤ 1 := by
  rw [List.mem_append, nbrs_mem, List.mem_singleton]
  constructor
  · rintro (⟨h1, h2⟩ | rfl)
    · exact ⟨h1, by omega⟩
    · exact ⟨hp, by have := (gap_0 (b := b) hp hp).2 rfl; omega⟩
  · rintro ⟨h1, h2⟩
    by_cases e : p = q
    · exact .inr e.symm
    · have h3 := gap_bd (b := b) hp h1
      have h4 : ¬ gap n b p q = 0 := fun h => e ((gap_0 (b := b) hp h1).1 h)
      exact .inl ⟨h1, by omega⟩
def passes (fr to : List Int) (p q : Int) : Prop := ∃ x ∈ fr.zip to, p ≠ q ∧ x.1 = q ∧ x.2 = p
def caught (fr to : List Int) (p q : Int) : Prop := ∃ x ∈ fr.zip to, x.2 = q ∨ (p ≠ q ∧ x.1 = q ∧ x.2 = p)
open Classical in
noncomputable instance (fr to : List Int) (p q : Int) : Decidable (passes fr to p q) := propDecidable _
open Classical in
noncomputable instance (fr to : List Int) (p q : Int) : Decidable (caught fr to p q) := propDecidable _
theorem caught_iff {fr to : List Int} {p q : Int} (h : fr.length = to.length) : caught fr to p q ↔ q ∈ to ∨ passes fr to p q := by
  unfold caught passes
  constructor
  · rintro ⟨x, hx, h1 | h1⟩
    · exact .inl (h1 ▸ (List.of_mem_zip hx).2)
    · exact .inr ⟨x, hx, h1⟩
  · rintro (h1 | ⟨x, hx, h1⟩)
    · obtain ⟨i, hi, rfl⟩ := List.getElem_of_mem h1
      refine ⟨(fr[i], to[i]), ?_, .inl rfl⟩
      rw [List.mem_iff_getElem]
      exact ⟨i, by simp; omega, by simp⟩
    · exact ⟨x, hx, .inr h1⟩
/-- A fugitive at p comes to q. -/
def runs (n : Int) (b : Bool) (dirty fr to : List Int) (p q : Nat) : Prop := dirty.getD p 0 ≠ 0 ∧ gap n b p q ≤ 1 ∧ ¬ caught fr to p q
theorem skip_step {n : Int} {b : Bool} {d fr to : List Int} {k q : Nat} (hk : k < d.length) (h : d[k] = 0) : (∃ p, p < k + 1 ∧ runs n b d fr to p q) ↔ ∃ p, p < k ∧ runs n b d fr to p q := by
  constructor
  · rintro ⟨p, h1, h2⟩
    refine ⟨p, ?_, h2⟩
    by_cases e : p = k
    · subst e
      exact (h2.1 (by simp [List.getD_eq_getElem?_getD, hk, h])).elim
    · omega
  · rintro ⟨p, h1, h2⟩
    exact ⟨p, by omega, h2⟩
theorem one_step {n : Int} {b : Bool} {d fr to : List Int} {k q : Nat} : (∃ p, p < k + 1 ∧ runs n b d fr to p q) ↔ (∃ p, p < k ∧ runs n b d fr to p q) ∨ runs n b d fr to k q := by
  constructor
  · rintro ⟨p, h1, h2⟩
    by_cases e : p = k
    · subst e; exact .inr h2
    · exact .inl ⟨p, by omega, h2⟩
  · rintro (⟨p, h1, h2⟩ | h)
    · exact ⟨p, by omega, h2⟩
    · exact ⟨k, by omega, h⟩
theorem mem_take_snoc {N : List Int} {j : Nat} {q : Int} (hj : j < N.length) : q ∈ N.take (j + 1) ↔ q ∈ N.take j ∨ q = N[j] := by
  rw [take_snoc hj, List.mem_append, List.mem_singleton]
/-- All of a place's neighbors have been looked at. -/
theorem nbrs_step {n : Int} {b : Bool} {d fr to : List Int} {k q : Nat} (hk : k < d.length) (hn : (d.length : Int) = n) (h : ¬ d[k] = 0) (hq : q < n.toNat) :
    ((∃ p, p < k ∧ runs n b d fr to p q) ∨ ((q : Int) ∈ nbrs n b k ++ [(k : Int)] ∧ ¬ caught fr to k q)) ↔ ∃ p, p < k + 1 ∧ runs n b d fr to p q := by
  rw [one_step, nbrs_self (by omega)]
  have hd : d.getD k 0 ≠ 0 := by simpa [List.getD_eq_getElem?_getD, hk] using h
  unfold runs
  constructor
  · rintro (h1 | ⟨⟨h1, h2⟩, h3⟩)
    · exact .inl h1
    · exact .inr ⟨hd, h2, h3⟩
  · rintro (h1 | ⟨h1, h2, h3⟩)
    · exact .inl h1
    · exact .inr ⟨⟨by omega, h2⟩, h3⟩
theorem or_more {A : Prop} {B : Nat → Prop} {q j : Nat} (h : q = j → ¬ B q) : (A ∨ (q < j ∧ B q)) ↔ (A ∨ (q < j + 1 ∧ B q)) :=
  ⟨fun h1 => h1.imp id fun h2 => ⟨by omega, h2.2⟩, fun h1 => h1.imp id fun h2 => ⟨by
    by_cases e : q = j
    · exact (h e h2.2).elim
    · omega, h2.2⟩⟩
theorem getD_ne {d : List Int} {k : Nat} (hk : k < d.length) (h : ¬ d[k] = 0) : d.getD k 0 ≠ 0 := by simpa [List.getD_eq_getElem?_getD, hk] using h
noncomputable def stepD (n : Int) (b : Bool) (dirty fr to : List Int) : List Int := ind n.toNat fun q => ∃ p, p < n.toNat ∧ runs n b dirty fr to p q
@[simp] theorem stepD_len (n : Int) (b : Bool) (dirty fr to : List Int) : (stepD n b dirty fr to).length = n.toNat := ind_len _ _
abbrev bits (n : Int) (dirty : List Int) : Prop := (∀ x ∈ dirty, 0 ≤ x ∧ x ≤ 1) ∧ (dirty.length : Int) = n
def okStep (n : Int) (b : Bool) (dirty fr to : List Int) : Prop := okPl n b fr ∧ okPl n b to ∧ fr.length = to.length ∧ bits n dirty ∧ ∀ x ∈ fr.zip to, gap n b x.1 x.2 ≤ 1
open Classical in
noncomputable instance (n : Int) (b : Bool) (dirty fr to : List Int) : Decidable (okStep n b dirty fr to) := propDecidable _
noncomputable def stepR (n : Int) (b : Bool) (dirty fr to : List Int) : List Int := if okStep n b dirty fr to then stepD n b dirty fr to else []
theorem stepR_yes {n : Int} {b : Bool} {dirty fr to : List Int} (h : okStep n b dirty fr to) : stepR n b dirty fr to = stepD n b dirty fr to := if_pos h
theorem stepR_no {n : Int} {b : Bool} {dirty fr to : List Int} (h : ¬ okStep n b dirty fr to) : stepR n b dirty fr to = [] := if_neg h
theorem stepR_len (n : Int) (b : Bool) (dirty fr to : List Int) : (stepR n b dirty fr to).length ≤ 24 := by
  unfold stepR
  split
  · rename_i h; rw [stepD_len]; have := h.1.1; omega
  · simp
end Sx
