/- Plain words about ways that are never caught. -/
import Derived.Test.YtbgamclegbaalaaMxF
set_option linter.all false
namespace Sx
set_option linter.unusedSimpArgs false
set_option linter.unusedVariables false
theorem prop_eq {p q : Prop} {d : Decidable p} {e : Decidable q} (h : p ↔ q) : AV.prop p d = AV.prop q e := by
  have : p = q := propext h
  subst this
  rw [Subsingleton.elim d e]
def sumR (k : Nat) (g : Nat → Int) : Int := ((List.range k).map g).sum
theorem sumR_0 (g : Nat → Int) : sumR 0 g = 0 := rfl
theorem sumR_succ (k : Nat) (g : Nat → Int) : sumR (k + 1) g = sumR k g + g k := by simp [sumR, List.range_succ]
theorem sumR_congr {k : Nat} {f g : Nat → Int} (h : ∀ q, q < k → f q = g q) : sumR k f = sumR k g := by
  induction k with
  | zero => rfl
  | succ k ih => rw [sumR_succ, sumR_succ, ih fun q hq => h q (by omega), h k (by omega)]
theorem sumR_add (k : Nat) (f g : Nat → Int) : sumR k (fun q => f q + g q) = sumR k f + sumR k g := by
  induction k with
  | zero => rfl
  | succ k ih => rw [sumR_succ, sumR_succ, sumR_succ, ih]; omega
theorem sumR_nn {k : Nat} {g : Nat → Int} (h : ∀ q, q < k → 0 ≤ g q) : 0 ≤ sumR k g := by
  induction k with
  | zero => exact Int.le_refl _
  | succ k ih => rw [sumR_succ]; have := ih fun q hq => h q (by omega); have := h k (by omega); omega
theorem sumR_ne {k : Nat} {g : Nat → Int} (h : ∀ q, q < k → 0 ≤ g q) : sumR k g ≠ 0 ↔ ∃ q, q < k ∧ g q ≠ 0 := by
  induction k with
  | zero => exact ⟨fun h => (h rfl).elim, fun ⟨q, h, _⟩ => by omega⟩
  | succ k ih =>
    have h1 := ih fun q hq => h q (by omega)
    have h2 := h k (by omega)
    have h3 := sumR_nn fun q (hq : q < k) => h q (by omega)
    rw [sumR_succ]
    constructor
    · intro hn
      by_cases e : g k = 0
      · obtain ⟨q, hq, hg⟩ := h1.1 (by omega)
        exact ⟨q, by omega, hg⟩
      · exact ⟨k, by omega, e⟩
    · rintro ⟨q, hq, hg⟩
      by_cases e : q = k
      · subst e; omega
      · have := h1.2 ⟨q, by omega, hg⟩; omega
theorem sumR_one {k p : Nat} (hp : p < k) (c : Int) : sumR k (fun q => if q = p then c else 0) = c := by
  induction k with
  | zero => omega
  | succ k ih =>
    rw [sumR_succ]
    by_cases e : k = p
    · subst e
      rw [if_pos rfl, sumR_congr (g := fun _ => 0) fun q hq => if_neg (by omega)]
      have : ∀ k, sumR k (fun _ => 0) = 0 := fun k => by
        induction k with
        | zero => rfl
        | succ k ih => rw [sumR_succ, ih]; rfl
      rw [this]; omega
    · rw [if_neg e, ih (by omega)]; omega
theorem sumR_le {k : Nat} {g : Nat → Int} {P : Nat → Bool} {m : Int} (h0 : 0 ≤ m) (h : ∀ q, q < k → g q ≤ if P q = true then m else 0) : sumR k g ≤ (((List.range k).filter P).length : Int) * m := by
  induction k with
  | zero => simp [sumR]
  | succ k ih =>
    have h1 := ih fun q hq => h q (by omega)
    have h2 := h k (by omega)
    rw [sumR_succ, List.range_succ, List.filter_append, List.length_append]
    by_cases e : P k = true
    · rw [if_pos e] at h2
      have : (List.filter P [k]).length = 1 := by simp [List.filter_cons, e]
      rw [this, Int.natCast_add, Int.add_mul]
      omega
    · rw [if_neg e] at h2
      have : (List.filter P [k]).length = 0 := by simp [List.filter_cons, e]
      rw [this, Int.natCast_add, Int.add_mul]
      omega
theorem cnt3' : ((List.range 25).all fun n => (List.range n).all fun p => [true, false].all fun b => decide (((List.range n).filter fun q : Nat => decide (gap n b p q ≤ 1)).length ≤ 3)) = true := by decide +kernel
theorem cnt3 {n p : Nat} {b : Bool} (hn : n ≤ 24) (hp : p < n) : ((List.range n).filter fun q : Nat => decide (gap n b p q ≤ 1)).length ≤ 3 := by
  have h1 := List.all_eq_true.1 cnt3' n (List.mem_range.2 (by omega))
  have h2 := List.all_eq_true.1 h1 p (List.mem_range.2 hp)
  have h3 := List.all_eq_true.1 h2 b (by cases b <;> simp)
  exact of_decide_eq_true h3
/-- A step that no chaser passes. -/
def okq (n : Int) (b : Bool) (L : List (List Int)) (t : Nat) (p q : Nat) : Prop := gap n b p q ≤ 1 ∧ ¬ passes (plAt L t) (plAt L ((t : Int) + 1)) p q
open Classical in
noncomputable instance (n : Int) (b : Bool) (L : List (List Int)) (t p q : Nat) : Decidable (okq n b L t p q) := propDecidable _
noncomputable def wyF (n : Int) (b : Bool) (L : List (List Int)) (T : Nat) (most : Int) : Nat → Nat → Int
  | 0, p => if (p : Int) ∈ plAt L T then 0 else 1
  | f + 1, p => if (p : Int) ∈ plAt L ((T - (f + 1) : Nat) : Int) then 0 else min (sumR n.toNat fun q => if okq n b L (T - (f + 1)) p q then wyF n b L T most f q else 0) most
noncomputable def wy (n : Int) (b : Bool) (L : List (List Int)) (T : Nat) (most : Int) (t p : Nat) : Int := wyF n b L T most (T - t) p
section
variable {n : Int} {b : Bool} {L : List (List Int)} {T : Nat} {most : Int}
theorem wy_last (p : Nat) : wy n b L T most T p = if (p : Int) ∈ plAt L T then 0 else 1 := by
  unfold wy; rw [Nat.sub_self]; rfl
theorem wy_step {t : Nat} (h : t < T) (p : Nat) : wy n b L T most t p = if (p : Int) ∈ plAt L t then 0 else min (sumR n.toNat fun q => if okq n b L t p q then wy n b L T most (t + 1) q else 0) most := by
  obtain ⟨f, hf⟩ : ∃ f, T - t = f + 1 := ⟨T - t - 1, by omega⟩
  have e : T - (f + 1) = t := by omega
  have e2 : T - (t + 1) = f := by omega
  unfold wy
  rw [hf, e2]
  show (if (p : Int) ∈ plAt L ((T - (f + 1) : Nat) : Int) then 0 else min (sumR n.toNat fun q => if okq n b L (T - (f + 1)) p q then wyF n b L T most f q else 0) most) = _
  rw [e]
theorem wyF_nn (hm : 1 ≤ most) : ∀ f p, 0 ≤ wyF n b L T most f p ∧ wyF n b L T most f p ≤ most
  | 0, p => by unfold wyF; split <;> omega
  | f + 1, p => by
    unfold wyF
    split
    · omega
    · have := sumR_nn (k := n.toNat) (g := fun q => if okq n b L (T - (f + 1)) p q then wyF n b L T most f q else 0) fun q _ => by
        show (0 : Int) ≤ if okq n b L (T - (f + 1)) p q then wyF n b L T most f q else 0
        split
        · exact (wyF_nn hm f q).1
        · omega
      omega
theorem wy_nn (hm : 1 ≤ most) (t p : Nat) : 0 ≤ wy n b L T most t p ∧ wy n b L T most t p ≤ most := wyF_nn hm _ p
theorem sum_le (hn : n ≤ 24) {p : Nat} (hp : p < n.toNat) {t : Nat} {w : Nat → Int} {m : Int} (h0 : 0 ≤ m) (h : ∀ q, q < n.toNat → w q ≤ m) : sumR n.toNat (fun q => if okq n b L t p q then w q else 0) ≤ 3 * m := by
  have h1 : (n.toNat : Int) = n := by omega
  have h2 := cnt3 (b := b) (show n.toNat ≤ 24 by omega) hp
  rw [h1] at h2
  have h3 := sumR_le (k := n.toNat) (g := fun q => if okq n b L t p q then w q else 0) (P := fun q : Nat => decide (gap n b p q ≤ 1)) h0 fun q hq => by
    show (if okq n b L t p q then w q else 0) ≤ _
    by_cases hk : okq n b L t p q
    · rw [if_pos hk, if_pos (by simpa using hk.1)]; exact h q hq
    · rw [if_neg hk]; split <;> omega
  have h4 : ((List.filter (fun q : Nat => decide (gap n b p q ≤ 1)) (List.range n.toNat)).length : Int) * m ≤ 3 * m := Int.mul_le_mul_of_nonneg_right (by omega) h0
  omega
theorem wyF_le (hm : 1 ≤ most) (hn : n ≤ 24) : ∀ f p, p < n.toNat → wyF n b L T most f p ≤ 3 ^ f
  | 0, p, _ => by unfold wyF; split <;> simp
  | f + 1, p, hp => by
    have h1 : (0 : Int) ≤ 3 ^ f := Int.pow_nonneg (by omega)
    unfold wyF
    split
    · exact Int.pow_nonneg (by omega)
    · have := sum_le (b := b) (L := L) (t := T - (f + 1)) hn hp h1 fun q hq => wyF_le hm hn f q hq
      rw [Int.pow_succ]
      omega
theorem wy_le (hm : 1 ≤ most) (hn : n ≤ 24) {t p : Nat} (hp : p < n.toNat) : wy n b L T most t p ≤ 3 ^ (T - t) := wyF_le hm hn _ p hp
theorem pow30 {k : Nat} (h : k ≤ 30) : (3 : Int) ^ k ≤ 205891132094649 := by
  have : (3 : Int) ^ k ≤ 3 ^ 30 := by
    have := Nat.pow_le_pow_right (show 0 < 3 by omega) h
    exact_mod_cast this
  exact this
theorem wy_zero {t : Nat} (ht : t ≤ T) {p : Nat} (h : (p : Int) ∈ plAt L t) : wy n b L T most t p = 0 := by
  by_cases e : t = T
  · subst e; rw [wy_last, if_pos h]
  · rw [wy_step (by omega), if_pos h]
/-- What the program adds up. -/
noncomputable def implS (n : Int) (b : Bool) (L : List (List Int)) (t p : Nat) (w : Nat → Int) (N : List Int) : Int := by
  classical exact (N.map fun q => if caught (plAt L t) (plAt L ((t : Int) + 1)) p q then 0 else w q.toNat).sum
theorem nbrs_sum (h : Int → Int) (p : Int) : ((nbrs n b p).map h).sum = sumR n.toNat fun q => if gap n b p q = 1 then h q else 0 := by
  unfold nbrs
  generalize n.toNat = k
  induction k with
  | zero => rfl
  | succ k ih =>
    rw [sumR_succ, ← ih, List.range_succ, List.filter_append, List.map_append, List.map_append, List.sum_append]
    congr 1
    by_cases e : gap n b p k = 1
    · simp [List.filter_cons, e]
    · simp [List.filter_cons, e]
theorem implS_eq {t p : Nat} (hp : p < n.toNat) {w : Nat → Int} (hw : ∀ q, q < n.toNat → (q : Int) ∈ plAt L ((t : Int) + 1) → w q = 0) :
    implS n b L t p w (nbrs n b p ++ [(p : Int)]) = sumR n.toNat fun q => if okq n b L t p q then w q else 0 := by
  classical
  unfold implS
  rw [List.map_append, List.sum_append, nbrs_sum]
  have e1 : ((List.map (fun q : Int => if caught (plAt L t) (plAt L ((t : Int) + 1)) p q then 0 else w q.toNat) [(p : Int)]).sum) = sumR n.toNat fun q => if q = p then (if caught (plAt L t) (plAt L ((t : Int) + 1)) p p then 0 else w p) else 0 := by
    rw [sumR_one hp]; simp
  rw [e1, ← sumR_add]
  refine sumR_congr fun q hq => ?_
  have hc : ∀ q : Nat, caught (plAt L t) (plAt L ((t : Int) + 1)) p q ↔ (q : Int) ∈ plAt L ((t : Int) + 1) ∨ passes (plAt L t) (plAt L ((t : Int) + 1)) p q := fun q => caught_iff (by simp)
  have key : (if caught (plAt L t) (plAt L ((t : Int) + 1)) p q then 0 else w q) = if passes (plAt L t) (plAt L ((t : Int) + 1)) p q then 0 else w q := by
    by_cases h1 : (q : Int) ∈ plAt L ((t : Int) + 1)
    · rw [if_pos ((hc q).2 (.inl h1)), hw q hq h1]; simp
    · by_cases h2 : passes (plAt L t) (plAt L ((t : Int) + 1)) p q
      · rw [if_pos ((hc q).2 (.inr h2)), if_pos h2]
      · rw [if_neg (fun h => ((hc q).1 h).elim h1 h2), if_neg h2]
  by_cases e : q = p
  · subst e
    have hg : gap n b q q = 0 := (gap_0 (b := b) (by omega) (by omega)).2 rfl
    rw [if_neg (by omega), if_pos rfl, key]
    by_cases h2 : passes (plAt L t) (plAt L ((t : Int) + 1)) q q
    · rw [if_pos h2, if_neg (fun h : okq n b L t q q => h.2 h2)]; rfl
    · rw [if_neg h2, if_pos (show okq n b L t q q from ⟨by omega, h2⟩)]; omega
  · rw [if_neg e, Int.add_zero]
    have hg0 : gap n b p q ≠ 0 := fun h => e (by have := (gap_0 (b := b) (n := n) (p := p) (q := q) (by omega) (by omega)).1 h; omega)
    have hgb := gap_bd (n := n) (b := b) (x := p) (y := q) (by omega) (by omega)
    by_cases hg : gap n b p q = 1
    · rw [if_pos hg]
      have : (q : Int).toNat = q := by omega
      rw [this, key]
      by_cases h2 : passes (plAt L t) (plAt L ((t : Int) + 1)) p q
      · rw [if_pos h2, if_neg (fun h : okq n b L t p q => h.2 h2)]
      · rw [if_neg h2, if_pos (show okq n b L t p q from ⟨by omega, h2⟩)]
    · rw [if_neg hg, if_neg (fun h : okq n b L t p q => hg (by have := h.1; omega))]
theorem implS_snoc (t p : Nat) (w : Nat → Int) {N : List Int} {j : Nat} (hj : j < N.length) : implS n b L t p w (N.take (j + 1)) = implS n b L t p w (N.take j) + (by classical exact if caught (plAt L t) (plAt L ((t : Int) + 1)) p N[j] then 0 else w N[j].toNat) := by
  unfold implS
  rw [take_snoc hj, List.map_append, List.sum_append]
  simp
theorem implS_0 (t p : Nat) (w : Nat → Int) : implS n b L t p w [] = 0 := rfl
/-- alive -/
def aliv (n : Int) (b : Bool) (L : List (List Int)) (T t p : Nat) : Prop := wy n b L T 1 t p ≠ 0
open Classical in
noncomputable instance (t p : Nat) : Decidable (aliv n b L T t p) := propDecidable _
theorem aliv_last (p : Nat) : aliv n b L T T p ↔ (p : Int) ∉ plAt L T := by
  unfold aliv; rw [wy_last]; split <;> simp_all
theorem aliv_step {t : Nat} (h : t < T) {p : Nat} (hp : p < n.toNat) : aliv n b L T t p ↔ (p : Int) ∉ plAt L t ∧ ∃ q ∈ nbrs n b p ++ [(p : Int)], aliv n b L T (t + 1) q.toNat ∧ ¬ caught (plAt L t) (plAt L ((t : Int) + 1)) p q := by
  have h0 : ∀ q, q < n.toNat → 0 ≤ if okq n b L t p q then wy n b L T 1 (t + 1) q else 0 := fun q _ => by
    split
    · exact (wy_nn (by omega) _ _).1
    · omega
  have h1 := sumR_nn h0
  have h2 := sumR_ne h0
  have hc : ∀ q : Int, caught (plAt L t) (plAt L ((t : Int) + 1)) p q ↔ q ∈ plAt L ((t : Int) + 1) ∨ passes (plAt L t) (plAt L ((t : Int) + 1)) p q := fun q => caught_iff (by simp)
  show wy n b L T 1 t p ≠ 0 ↔ _
  rw [wy_step h]
  split
  · rename_i hin
    exact ⟨fun h => (h rfl).elim, fun h => (h.1 hin).elim⟩
  · rename_i hin
    have e : ∀ S : Int, 0 ≤ S → (min S 1 ≠ 0 ↔ S ≠ 0) := by intro S h; omega
    rw [e _ h1, h2]
    clear e h2 h1 h0
    constructor
    · rintro ⟨q, hq, hg⟩
      by_cases hk : okq n b L t p q
      · rw [if_pos hk] at hg
        refine ⟨hin, (q : Int), (nbrs_self (by omega)).2 ⟨by omega, hk.1⟩, by simpa [aliv] using hg, fun h => ?_⟩
        rcases (hc q).1 h with h | h
        · exact hg (wy_zero (by omega) (by rw [Int.natCast_add]; exact h))
        · exact hk.2 h
      · rw [if_neg hk] at hg; exact (hg rfl).elim
    · rintro ⟨_, q, hq, ha, hn⟩
      have h3 := (nbrs_self (b := b) (n := n) (p := (p : Int)) (q := q) (by omega)).1 hq
      have e2 : ((q.toNat : Nat) : Int) = q := by omega
      refine ⟨q.toNat, by omega, ?_⟩
      rw [if_pos ⟨by rw [e2]; exact h3.2, by rw [e2]; exact fun h => hn ((hc q).2 (.inr h))⟩]
      exact ha
/-- The next place of the walk. -/
def nextP (n : Int) (b : Bool) (L : List (List Int)) (T t : Nat) (out : List Int) (q : Nat) : Prop :=
  aliv n b L T t q ∧ (t = 0 ∨ gap n b (out.getD (t - 1) 0) q ≤ 1 ∧ ¬ passes (plAt L ((t : Int) - 1)) (plAt L t) (out.getD (t - 1) 0) q)
open Classical in
noncomputable instance (t : Nat) (out : List Int) (q : Nat) : Decidable (nextP n b L T t out q) := propDecidable _
noncomputable def nextQ (n : Int) (b : Bool) (L : List (List Int)) (T t : Nat) (out : List Int) : Option Nat := (List.range n.toNat).find? fun q => decide (nextP n b L T t out q)
noncomputable def fwN (n : Int) (b : Bool) (L : List (List Int)) (T : Nat) : Nat → Option (List Int)
  | 0 => some []
  | t + 1 => (fwN n b L T t).bind fun l => (nextQ n b L T t l).map fun q : Nat => l ++ [(q : Int)]
theorem fwN_none {t s : Nat} (h : fwN n b L T t = none) (hs : t ≤ s) : fwN n b L T s = none := by
  induction s with
  | zero => have : t = 0 := by omega
            subst this; exact h
  | succ s ih =>
    by_cases e : t = s + 1
    · subst e; exact h
    · unfold fwN; rw [ih (by omega)]; rfl
theorem fwN_len {t : Nat} {l : List Int} (h : fwN n b L T t = some l) : l.length = t := by
  induction t generalizing l with
  | zero => cases h; rfl
  | succ t ih =>
    unfold fwN at h
    cases hq : fwN n b L T t with
    | none => rw [hq] at h; cases h
    | some l' =>
      rw [hq] at h
      simp only [Option.bind_some, Option.map_eq_some_iff] at h
      obtain ⟨q, _, rfl⟩ := h
      simp [ih hq]
theorem fwN_in {t : Nat} {l : List Int} (h : fwN n b L T t = some l) : ∀ x ∈ l, 0 ≤ x ∧ x < n := by
  induction t generalizing l with
  | zero => cases h; exact nofun
  | succ t ih =>
    unfold fwN at h
    cases hq : fwN n b L T t with
    | none => rw [hq] at h; cases h
    | some l' =>
      rw [hq] at h
      simp only [Option.bind_some, Option.map_eq_some_iff] at h
      obtain ⟨q, h1, rfl⟩ := h
      intro x hx
      rcases List.mem_append.1 hx with hx | hx
      · exact ih hq x hx
      · have h3 := List.mem_range.1 (List.mem_of_find?_eq_some h1)
        rw [List.mem_singleton] at hx
        omega
theorem nextQ_some {t q : Nat} {out : List Int} (hq : q < n.toNat) (h : nextP n b L T t out q) (hlt : ∀ p, p < q → ¬ nextP n b L T t out p) : nextQ n b L T t out = some q := by
  unfold nextQ
  rw [List.find?_eq_some_iff_getElem]
  refine ⟨by simpa using h, q, by simpa using hq, by simp, fun j hj => ?_⟩
  simpa using hlt j hj
theorem nextQ_none {t : Nat} {out : List Int} (h : ∀ p, p < n.toNat → ¬ nextP n b L T t out p) : nextQ n b L T t out = none := by
  unfold nextQ
  rw [List.find?_eq_none]
  intro x hx
  simpa using h x (List.mem_range.1 hx)
end
open Classical in
noncomputable def chaseE (n : Int) (b : Bool) (L : List (List Int)) : Int := if chasers n b L then fIx (fun d => ¬ (1 : Int) ∈ d) (dirts n b L 61) else -1
theorem chaseE_yes {n : Int} {b : Bool} {L : List (List Int)} (h : chasers n b L) : chaseE n b L = fIx (fun d => ¬ (1 : Int) ∈ d) (dirts n b L 61) := if_pos h
theorem chaseE_no {n : Int} {b : Bool} {L : List (List Int)} (h : ¬ chasers n b L) : chaseE n b L = -1 := if_neg h
end Sx
