/- Plain words: what holds of all crowds. -/
import Derived.Test.YteaabofmnlbmkaaGreatMxVa
import Derived.Test.YteaabofmnlbmkaaGreatMxVc
import Derived.Test.YteaabofmnlbmkaaGreatMxVd
import Derived.Test.YteaabofmnlbmkaaGreatMxVe
import Derived.Test.YteaabofmnlbmkaaGreatMxA
set_option linter.all false
namespace Sx
theorem fact12 : factAll 12 = true := allC_all fact12b fact12a
theorem factV_of {n : Int} {l : List Int} (hc : crowd n l) : factV n.toNat l = true := by
  have hm := crowd_all hc
  have hn := hc.1.1
  have hl := hc.1.2
  have key : factAll n.toNat = true := by
    rcases n_cases hn with h | h | h | h | h | h | h | h | h | h <;> subst h
    · exact fact3
    · exact fact4
    · exact fact5
    · exact fact6
    · exact fact7
    · exact fact8
    · exact fact9
    · exact fact10
    · exact fact11
    · exact fact12
  have := List.all_eq_true.1 key l hm
  rw [Bool.or_eq_true] at this
  rcases this with h | h
  · rw [List.isEmpty_iff] at h
    subst h
    simp at hl
  · exact h
/-- Periods, axes, views. -/
structure ViewFacts (n : Int) (l : List Int) : Prop where
  per : ∃ s : Nat, perI n l = (s : Int) + 1 ∧ n.toNat % (s + 1) = 0 ∧ ((axL n l).length = 0 ∨ (axL n l).length = n.toNat / (s + 1))
  twice : 1 < l.length → perI n l ≠ n → ∀ v ∈ viewsC n l, (viewsC n l).count v ≠ 1
  rigid : (perI n l = n ∧ axL n l = []) ↔ ((∀ v ∈ viewsC n l, (viewsC n l).count v = 1) ∧ ∀ i, i < l.length → wayL n l i ≠ 0)
theorem view_facts {n : Int} {l : List Int} (hc : crowd n l) : ViewFacts n l := by
  have hf := factV_of hc
  have hn := hc.1.1
  have hnn : ((n.toNat : Nat) : Int) = n := Int.toNat_of_nonneg (by omega)
  unfold factV at hf
  rw [hnn] at hf
  split at hf
  · cases hf
  · rename_i s t hp
    have hper := perC_head hp
    simp only [Bool.and_eq_true, Bool.or_eq_true, beq_iff_eq] at hf
    obtain ⟨⟨⟨h1, h2⟩, h3⟩, h4⟩ := hf
    have hpn : perI n l = n ↔ s + 1 = n.toNat := by rw [hper]; omega
    refine ⟨⟨s, hper, h1, h2⟩, fun hl hne v hv => ?_, ?_⟩
    · rcases h3 with (h3 | h3) | h3
      · have := Nat.le_of_ble_eq_true h3
        omega
      · exact absurd (hpn.2 h3) hne
      · have := List.all_eq_true.1 h3 v hv
        simpa using this
    · have h5 : (s + 1 = n.toNat ∧ axL n l = []) ↔ ((∀ v ∈ viewsC n l, (viewsC n l).count v = 1) ∧ ∀ i, i < l.length → wayL n l i ≠ 0) := by
        have e1 : (s + 1 = n.toNat ∧ axL n l = []) ↔ (s + 1 == n.toNat && (axK n l n.toNat).isEmpty) = true := by
          rw [Bool.and_eq_true, beq_iff_eq, List.isEmpty_iff]
          exact Iff.rfl
        rw [e1, h4, Bool.and_eq_true, List.all_eq_true, List.all_eq_true]
        constructor
        · rintro ⟨a, b⟩
          exact ⟨fun v hv => by simpa using a v hv, fun i hi => by simpa using b i (List.mem_range.2 hi)⟩
        · rintro ⟨a, b⟩
          exact ⟨fun v hv => by simpa using a v hv, fun i hi => by simpa using b i (List.mem_range.1 hi)⟩
      rw [hpn]
      exact h5
end Sx
/- Plain words: ranks and views, gaps that go around. -/
namespace Sx
theorem sum_count {α : Type} [BEq α] [LawfulBEq α] : ∀ {D A : List α}, D.Nodup → (∀ x ∈ A, x ∈ D) → A.length = (D.map fun d => A.count d).sum
  | [], A, _, h => by
    cases A with
    | nil => rfl
    | cons x A => exact absurd (h x (List.mem_cons_self ..)) (List.not_mem_nil)
  | d :: D, A, hn, h => by
    rw [List.nodup_cons] at hn
    have ih := sum_count (D := D) (A := A.filter fun x => !(x == d)) hn.2 fun x hx => by
      rw [List.mem_filter] at hx
      rcases List.mem_cons.1 (h x hx.1) with e | e
      · have := hx.2
        rw [e] at this
        simp at this
      · exact e
    have e1 : (D.map fun y => (A.filter fun x => !(x == d)).count y) = D.map fun y => A.count y := by
      refine List.map_congr_left fun y hy => ?_
      have hyd : y ≠ d := fun e => hn.1 (e ▸ hy)
      exact List.count_filter (by simpa using hyd)
    have e2 : A.length = A.count d + (A.filter fun x => !(x == d)).length := by
      have := List.length_eq_countP_add_countP (fun x => x == d) (l := A)
      rw [List.count, this, ← List.countP_eq_length_filter]
      congr 1
      refine List.countP_congr fun x _ => ?_
      simp
    rw [List.map_cons, List.sum_cons, e2, ih, e1]
theorem sum_ge {α : Type} {f : α → Nat} : ∀ {D : List α}, (∀ d ∈ D, 1 ≤ f d) → D.length ≤ (D.map f).sum ∧ ((D.map f).sum = D.length ↔ ∀ d ∈ D, f d = 1)
  | [], _ => ⟨Nat.le_refl _, ⟨fun _ d h => absurd h List.not_mem_nil, fun _ => rfl⟩⟩
  | d :: D, h => by
    have h1 := h d (List.mem_cons_self ..)
    obtain ⟨h2, h3⟩ := sum_ge (D := D) fun x hx => h x (List.mem_cons_of_mem _ hx)
    rw [List.map_cons, List.sum_cons, List.length_cons]
    refine ⟨by omega, fun e x hx => ?_, fun g => ?_⟩
    · rcases List.mem_cons.1 hx with e2 | e2
      · subst e2; omega
      · exact h3.1 (by omega) x e2
    · rw [h3.2 fun x hx => g x (List.mem_cons_of_mem _ hx), g d (List.mem_cons_self ..)]
      omega
/-- The rising list of the views. -/
theorem rankD_ok (n : Int) (l : List Int) : risen (viewL n l) (rankD n l) l.length := risenD_ok _ _
theorem viewsC_mem {n : Int} {l : List Int} {x : List Int} : x ∈ viewsC n l ↔ ∃ i, i < l.length ∧ viewL n l i = x := by
  unfold viewsC
  rw [List.mem_map]
  exact ⟨fun ⟨i, h, e⟩ => ⟨i, List.mem_range.1 h, e⟩, fun ⟨i, h, e⟩ => ⟨i, List.mem_range.2 h, e⟩⟩
theorem viewsC_len (n : Int) (l : List Int) : (viewsC n l).length = l.length := by unfold viewsC; rw [List.length_map, List.length_range]
theorem rankD_nodup (n : Int) (l : List Int) : (rankD n l).Nodup := List.Pairwise.imp (fun {a b} h e => by rw [e, cmpL_self] at h; exact absurd h (by decide)) (rankD_ok n l).1
theorem rankD_len (n : Int) (l : List Int) : (rankD n l).length = l.length ↔ ∀ v ∈ viewsC n l, (viewsC n l).count v = 1 := by
  have hm : ∀ x, x ∈ rankD n l ↔ x ∈ viewsC n l := fun x => by rw [viewsC_mem]; exact (rankD_ok n l).2 x
  have h1 := sum_count (D := rankD n l) (A := viewsC n l) (rankD_nodup n l) fun x hx => (hm x).2 hx
  obtain ⟨h2, h3⟩ := sum_ge (f := fun d => (viewsC n l).count d) (D := rankD n l) fun d hd => List.one_le_count_iff.2 ((hm d).1 hd)
  rw [viewsC_len] at h1
  rw [h1, eq_comm, h3]
  exact ⟨fun g v hv => g v ((hm v).2 hv), fun g v hv => g v ((hm v).1 hv)⟩
/-! ranks -/
theorem ranksL_get {n : Int} {l : List Int} {i : Nat} (hi : i < (ranksL n l).length) : (ranksL n l)[i] = fIx (fun x => viewL n l i = x) (rankD n l) := by
  have hi2 : i < l.length := by rw [ranksL_len] at hi; exact hi
  have := List.getElem?_eq_getElem hi
  rw [show (ranksL n l)[i]? = some (fIx (fun x => viewL n l i = x) (rankD n l)) from ranksO_get hi2] at this
  exact (Option.some.inj this).symm
open Classical in
theorem fIx_get {p : List Int → Prop} {L : List (List Int)} (h : ∃ l ∈ L, p l) : ∃ k : Nat, ∃ hk : k < L.length, fIx p L = (k : Int) ∧ p L[k] := by
  have hq : ∃ l ∈ L, decide (p l) = true := by
    obtain ⟨l, hl, hp⟩ := h
    exact ⟨l, hl, by simpa using hp⟩
  have hk := List.findIdx_lt_length_of_exists hq
  refine ⟨List.findIdx (fun l => decide (p l)) L, hk, ?_, ?_⟩
  · unfold fIx
    rw [if_pos h]
  · have := List.findIdx_getElem (w := hk)
    simpa using this
theorem rank_at {n : Int} {l : List Int} {i : Nat} (hi : i < l.length) : ∃ k : Nat, ∃ hk : k < (rankD n l).length, (ranksL n l)[i]'(by rw [ranksL_len]; exact hi) = (k : Int) ∧ (rankD n l)[k] = viewL n l i := by
  obtain ⟨k, hk, h1, h2⟩ := fIx_get (p := fun x => viewL n l i = x) (L := rankD n l) ⟨viewL n l i, ((rankD_ok n l).2 _).2 ⟨i, hi, rfl⟩, rfl⟩
  exact ⟨k, hk, by rw [ranksL_get, h1], h2.symm⟩
theorem rank_same {n : Int} {l : List Int} {i j : Nat} (hi : i < l.length) (hj : j < l.length) : (ranksL n l)[i]'(by rw [ranksL_len]; exact hi) = (ranksL n l)[j]'(by rw [ranksL_len]; exact hj) ↔ viewL n l i = viewL n l j := by
  constructor
  · intro e
    obtain ⟨a, ha, a1, a2⟩ := rank_at (n := n) hi
    obtain ⟨b, hb, b1, b2⟩ := rank_at (n := n) hj
    have : a = b := by rw [a1, b1] at e; exact_mod_cast e
    subst this
    rw [← a2, ← b2]
  · intro e
    rw [ranksL_get, ranksL_get, e]
/-- The greatest of the first k ranks, or 0. -/
def mostK (R : List Int) : Nat → Int
  | 0 => 0
  | k + 1 => max (mostK R k) (R.getD k 0)
theorem mostK_ge {R : List Int} : ∀ {k i : Nat}, i < k → R.getD i 0 ≤ mostK R k
  | 0, i, h => absurd h (Nat.not_lt_zero _)
  | k + 1, i, h => by
    show R.getD i 0 ≤ max (mostK R k) (R.getD k 0)
    by_cases e : i = k
    · subst e; omega
    · have := mostK_ge (R := R) (k := k) (i := i) (by omega); omega
theorem mostK_le {R : List Int} {m : Int} (h0 : 0 ≤ m) : ∀ {k : Nat}, (∀ i, i < k → R.getD i 0 ≤ m) → mostK R k ≤ m
  | 0, _ => h0
  | k + 1, h => by
    have h1 := mostK_le (R := R) h0 (k := k) fun i hi => h i (by omega)
    have h2 := h k (by omega)
    show max (mostK R k) (R.getD k 0) ≤ m
    omega
theorem most_eq {n : Int} {l : List Int} (hl : 0 < l.length) : mostK (ranksL n l) l.length = ((rankD n l).length : Int) - 1 := by
  have hD : 0 < (rankD n l).length := by
    obtain ⟨k, hk, _⟩ := rank_at (n := n) hl
    omega
  have hg : ∀ i, (hi : i < l.length) → (ranksL n l).getD i 0 = (ranksL n l)[i]'(by rw [ranksL_len]; exact hi) := fun i hi => elI_get _
  refine Int.le_antisymm (mostK_le (by omega) fun i hi => ?_) ?_
  · obtain ⟨k, hk, e, _⟩ := rank_at (n := n) hi
    rw [hg i hi, e]
    omega
  · obtain ⟨i, hi, e⟩ := ((rankD_ok n l).2 _).1 (List.getElem_mem (show (rankD n l).length - 1 < (rankD n l).length by omega))
    obtain ⟨k, hk, e1, e2⟩ := rank_at (n := n) hi
    have hkk : k = (rankD n l).length - 1 := by
      rcases Nat.lt_trichotomy k ((rankD n l).length - 1) with h | h | h
      · have := List.pairwise_iff_getElem.1 (rankD_nodup n l) k _ hk (by omega) h
        exact absurd (e2.trans e) this
      · exact h
      · omega
    have := mostK_ge (R := ranksL n l) hi
    rw [hg i hi, e1] at this
    omega
theorem rigid_most {n : Int} {l : List Int} (hc : crowd n l) : (perI n l = n ∧ axL n l = []) ↔ (mostK (ranksL n l) l.length = (l.length : Int) - 1 ∧ ∀ i, i < l.length → wayL n l i ≠ 0) := by
  have h1 := (view_facts hc).rigid
  have h2 := rankD_len n l
  have hl := hc.1.2
  have h3 := most_eq (n := n) (l := l) (by omega)
  rw [h1, ← h2, h3]
  have : ((rankD n l).length : Int) - 1 = (l.length : Int) - 1 ↔ (rankD n l).length = l.length := by omega
  rw [this]
theorem rank_count {n : Int} {l : List Int} {i : Nat} (hi : i < l.length) : (ranksL n l).count ((ranksL n l).getD i 0) = (viewsC n l).count (viewL n l i) := by
  have hr : ranksL n l = (viewsC n l).map fun v => fIx (fun x => v = x) (rankD n l) := by
    refine List.ext_getElem (by rw [ranksL_len, List.length_map, viewsC_len]) fun j h1 h2 => ?_
    rw [ranksL_get, List.getElem_map]
    unfold viewsC
    rw [List.getElem_map, List.getElem_range]
  have hi2 : i < (ranksL n l).length := by rw [ranksL_len]; exact hi
  rw [elI_get hi2, List.count_eq_countP, List.count_eq_countP]
  have hv : viewsC n l = (List.range l.length).map (viewL n l) := rfl
  conv => lhs; arg 2; rw [hr]
  rw [hv, List.countP_map, List.countP_map, List.countP_map]
  refine List.countP_congr fun j hj => ?_
  have hj := List.mem_range.1 hj
  have hs := rank_same (n := n) hj hi
  rw [ranksL_get] at hs
  simp only [Function.comp, beq_iff_eq]
  exact hs
/-- No robot is elected where a turn changes nothing. -/
theorem no_elect {n : Int} {l : List Int} (hc : crowd n l) (hl : 1 < l.length) (hp : perI n l ≠ n) : elI n l = -1 := by
  rcases elK_spec (ranksL n l) l.length with ⟨h, _⟩ | ⟨e, h1, h2, h3, _⟩
  · exact h
  · rw [rank_count h1] at h3
    exact absurd h3 ((view_facts hc).twice hl hp _ (viewsC_mem.2 ⟨e, h1, rfl⟩))
theorem per_div {n : Int} {l : List Int} (hc : crowd n l) : 0 < perI n l ∧ n % perI n l = 0 ∧ ((axL n l).length = 0 ∨ ((axL n l).length : Int) = n / perI n l) := by
  obtain ⟨s, h1, h2, h3⟩ := (view_facts hc).per
  have hn := hc.1.1
  have hnn : ((n.toNat : Nat) : Int) = n := Int.toNat_of_nonneg (by omega)
  have e : perI n l = ((s + 1 : Nat) : Int) := by rw [h1]; omega
  rw [e, ← hnn]
  refine ⟨by omega, by exact_mod_cast h2, ?_⟩
  rcases h3 with h3 | h3
  · left; rw [hnn]; exact h3
  · right; rw [hnn, h3, ← hnn]; norm_cast
end Sx
/- Plain words: the gaps around sum to the size; views and ways. -/
namespace Sx
theorem sumR_shift (k : Nat) (f : Nat → Int) : sumR (k + 1) f = f 0 + sumR k (fun q => f (q + 1)) := by
  induction k with
  | zero => rw [sumR_succ, sumR_0, sumR_0]; omega
  | succ k ih => rw [sumR_succ, ih, sumR_succ]; omega
theorem sumR_turn {m : Nat} {g : Nat → Int} (h : ∀ x, g (x + m) = g x) : ∀ i, sumR m (fun k => g (i + k)) = sumR m g
  | 0 => sumR_congr fun q _ => by rw [Nat.zero_add]
  | i + 1 => by
    have h1 : sumR (m + 1) (fun k => g (i + k)) = sumR m (fun k => g (i + k)) + g (i + m) := sumR_succ m (fun k => g (i + k))
    have h2 : sumR (m + 1) (fun k => g (i + k)) = g i + sumR m (fun q => g (i + (q + 1))) := sumR_shift m (fun k => g (i + k))
    have h3 := sumR_turn h i
    have h4 := h i
    have h5 : sumR m (fun k => g (i + 1 + k)) = sumR m (fun q => g (i + (q + 1))) := sumR_congr fun q _ => by rw [show i + 1 + q = i + (q + 1) by omega]
    rw [h5]; omega
theorem sum_rev : ∀ l : List Int, l.reverse.sum = l.sum
  | [] => rfl
  | a :: l => by rw [List.reverse_cons, List.sum_append, sum_rev l]; simp; omega
theorem gapsR_sum {n : Int} {l : List Int} (hc : crowd n l) (i : Nat) : (gapsR n l i).sum = n := by
  have hn := hc.1.1
  have hl := hc.1.2
  have e1 : (gapsR n l i).sum = sumR l.length (fun k => gapAt n l 0 (i + k)) := by
    show sumR l.length (gapAt n l i) = _
    refine sumR_congr fun q _ => ?_
    unfold gapAt
    rw [Nat.zero_add]
  have hp : ∀ x, gapAt n l 0 (x + l.length) = gapAt n l 0 x := fun x => by
    unfold gapAt
    rw [Nat.zero_add, Nat.zero_add, Nat.add_mod_right, show x + l.length + 1 = x + 1 + l.length by omega, Nat.add_mod_right]
  rw [e1, sumR_turn (g := gapAt n l 0) hp i]
  have hk : ∀ k, k + 1 ≤ l.length → sumR k (gapAt n l 0) = l.getD k 0 - l.getD 0 0 := fun k => by
    induction k with
    | zero => intro _; rw [sumR_0]; omega
    | succ k ih =>
      intro h
      rw [sumR_succ, ih (by omega)]
      have a1 := hc.2.1 _ (List.getElem_mem (show k < l.length by omega))
      have a2 := hc.2.1 _ (List.getElem_mem (show k + 1 < l.length by omega))
      have a3 := hc.2.2 k (by omega)
      rw [getI (by omega), getI (by omega)] at a3
      have e : (l[k + 1] - l[k] + n) % n = l[k + 1] - l[k] := by rw [Int.add_emod_right]; exact Int.emod_eq_of_lt (by omega) (by omega)
      have e2 : gapAt n l 0 k = l[k + 1] - l[k] := by
        unfold gapAt
        rw [Nat.zero_add, Nat.mod_eq_of_lt (by omega), Nat.mod_eq_of_lt (by omega), getI (by omega), getI (by omega), gp_1 (by omega), e]
      rw [e2, getI (show k < l.length by omega), getI (show k + 1 < l.length by omega)]
      omega
  obtain ⟨m, hm⟩ : ∃ m, l.length = m + 1 := ⟨l.length - 1, by omega⟩
  have h0 := hc.2.1 _ (List.getElem_mem (show 0 < l.length by omega))
  have h1 := hc.2.1 _ (List.getElem_mem (show m < l.length by omega))
  have hz : (m + 1) % l.length = 0 := by rw [hm]; exact Nat.mod_self _
  have hlast : gapAt n l 0 m = l[0] - l[m] + n := by
    unfold gapAt
    rw [Nat.zero_add, Nat.mod_eq_of_lt (show m < l.length by omega), hz, getI (by omega), getI (by omega)]
    by_cases e : m = 0
    · subst e
      rw [gp_0 (by rw [Int.sub_self, Int.zero_add, Int.emod_self])]; omega
    · have := List.pairwise_iff_getElem.1 (rise_pw hc.2.2) 0 m (by omega) (by omega) (by omega)
      have e : (l[0] - l[m] + n) % n = l[0] - l[m] + n := Int.emod_eq_of_lt (by omega) (by omega)
      rw [gp_1 (by omega), e]
  rw [hm, sumR_succ, hk m (by omega), hlast, getI (by omega), getI (by omega)]
  omega
theorem gapsR_bd {n : Int} {l : List Int} (hn : 0 < n) (i : Nat) : ∀ x ∈ gapsR n l i, 0 ≤ x ∧ x ≤ n := fun x hx => by
  unfold gapsR at hx
  obtain ⟨k, _, rfl⟩ := List.mem_map.1 hx
  have := gp_bd (n := n) (a := l.getD ((i + k) % l.length) 0) (b := l.getD ((i + k + 1) % l.length) 0) hn
  unfold gapAt
  omega
theorem way_facts (n : Int) (l : List Int) (i : Nat) : (0 < wayL n l i → viewL n l i = gapsR n l i) ∧ (wayL n l i < 0 → viewL n l i = (gapsR n l i).reverse) ∧ (wayL n l i = 0 ↔ gapsR n l i = (gapsR n l i).reverse) := by
  unfold wayL viewL
  refine ⟨fun h => if_pos (by omega), fun h => if_neg (by omega), fun h => cmpL_eq (by omega), fun h => ?_⟩
  rw [← h, cmpL_self]; rfl
end Sx
