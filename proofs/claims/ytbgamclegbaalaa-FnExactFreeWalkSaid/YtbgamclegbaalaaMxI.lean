/- Tables of ways while they are filled. -/
import Derived.Test.YtbgamclegbaalaaMxH
set_option linter.all false
namespace Sx
set_option linter.unusedSimpArgs false
set_option linter.unusedVariables false
noncomputable def wrow (n : Int) (b : Bool) (L : List (List Int)) (T : Nat) (most : Int) (t k : Nat) : List Int := (List.range k).map (wy n b L T most t)
noncomputable def wtab (n : Int) (b : Bool) (L : List (List Int)) (T : Nat) (most : Int) (u : Nat) : List (List Int) := (List.range (T + 1)).map fun t => if t < u then [] else wrow n b L T most t n.toNat
noncomputable def wtK (n : Int) (b : Bool) (L : List (List Int)) (T : Nat) (most : Int) (t k : Nat) : List (List Int) := (wtab n b L T most (t + 1)).set t (wrow n b L T most t k)
section
variable {n : Int} {b : Bool} {L : List (List Int)} {T : Nat} {most : Int} {t k : Nat}
@[simp] theorem wrow_len : (wrow n b L T most t k).length = k := by simp [wrow]
theorem wrow_get {q : Nat} (h : q < (wrow n b L T most t k).length) : (wrow n b L T most t k)[q] = wy n b L T most t q := by simp [wrow]
theorem wrow_succ : wrow n b L T most t (k + 1) = wrow n b L T most t k ++ [wy n b L T most t k] := by simp [wrow, List.range_succ]
theorem wtab_len (u : Nat) : (wtab n b L T most u).length = T + 1 := by simp [wtab]
theorem wtK_len : (wtK n b L T most t k).length = T + 1 := by simp [wtK, wtab]
theorem wtab_all : List.replicate (T + 1) ([] : List Int) = wtab n b L T most (T + 1) := by
  apply List.ext_getElem
  · simp [wtab]
  · intro i h1 h2
    simp [wtab] at h2 ⊢
    omega
theorem wtab_get {u i : Nat} (h : i < (wtab n b L T most u).length) : (wtab n b L T most u)[i] = if i < u then [] else wrow n b L T most i n.toNat := by simp [wtab]
theorem wtK_0 (h : t ≤ T) : wtab n b L T most (t + 1) = wtK n b L T most t 0 := by
  unfold wtK
  apply List.ext_getElem
  · simp
  · intro i h1 h2
    rw [List.getElem_set, wtab_get]
    by_cases e : t = i
    · subst e; rw [if_pos rfl]; simp [wrow]
    · rw [if_neg e]
theorem wtK_n : wtK n b L T most t n.toNat = wtab n b L T most t := by
  unfold wtK
  apply List.ext_getElem
  · simp [wtab]
  · intro i h1 h2
    rw [List.getElem_set, wtab_get, wtab_get]
    by_cases e : t = i
    · subst e; rw [if_pos rfl]; simp
    · rw [if_neg e]
      by_cases e2 : i < t
      · rw [if_pos (by omega), if_pos e2]
      · rw [if_neg (by omega), if_neg e2]
theorem wtK_get {i : Nat} (h : i < (wtK n b L T most t k).length) : (wtK n b L T most t k)[i] = if t = i then wrow n b L T most t k else (wtab n b L T most (t + 1)).getD i [] := by
  have e : ∀ l : List (List Int), l = wtK n b L T most t k → ∀ h : i < l.length, l[i] = if t = i then wrow n b L T most t k else (wtab n b L T most (t + 1)).getD i [] := by
    intro l hl h
    subst hl
    have h2 : i < (wtab n b L T most (t + 1)).length := by rw [wtab_len]; rw [wtK_len] at h; exact h
    have : ((wtab n b L T most (t + 1)).set t (wrow n b L T most t k))[i]'(by simpa using h2) = _ := List.getElem_set ..
    refine Eq.trans this ?_
    rw [List.getD_eq_getElem?_getD]
    simp [h2]
  exact e _ rfl h
theorem wtK_at (h : t < (wtK n b L T most t k).length) : (wtK n b L T most t k)[t] = wrow n b L T most t k := by
  rw [wtK_get, if_pos rfl]
theorem wtK_next (h : t + 1 < (wtK n b L T most t k).length) : (wtK n b L T most t k)[t + 1] = wrow n b L T most (t + 1) n.toNat := by
  rw [wtK_get, if_neg (by omega), List.getD_eq_getElem?_getD]
  rw [wtK_len] at h
  have h2 : t + 1 < (wtab n b L T most (t + 1)).length := by rw [wtab_len]; omega
  rw [List.getElem?_eq_getElem h2, wtab_get, if_neg (by omega)]
  rfl
theorem wtK_set : (wtK n b L T most t k).set t (wrow n b L T most t (k + 1)) = wtK n b L T most t (k + 1) := by
  unfold wtK
  rw [List.set_set]
theorem implS_bd {p : Nat} {w : Nat → Int} {N : List Int} {M : Int} (h0 : 0 ≤ M) (h : ∀ q ∈ N, 0 ≤ w q.toNat ∧ w q.toNat ≤ M) : ∀ j, j ≤ N.length → 0 ≤ implS n b L t p w (N.take j) ∧ implS n b L t p w (N.take j) ≤ j * M
  | 0, _ => by rw [List.take_zero, implS_0]; omega
  | j + 1, hj => by
    obtain ⟨h1, h2⟩ := implS_bd (p := p) (w := w) h0 h j (by omega)
    have h3 := h _ (List.getElem_mem (show j < N.length by omega))
    rw [implS_snoc t p w (show j < N.length by omega), Int.natCast_add, Int.add_mul]
    split <;> omega
end
/-- How many free walks there are. -/
def cntOk (n : Int) (b : Bool) (L : List (List Int)) : Prop := chasers n b L ∧ lng L ≤ 31
open Classical in
noncomputable instance (n : Int) (b : Bool) (L : List (List Int)) : Decidable (cntOk n b L) := propDecidable _
noncomputable def cntR (n : Int) (b : Bool) (L : List (List Int)) : Int := if cntOk n b L then sumR n.toNat (wy n b L (lng L - 1).toNat 2305843009213693952 0) else 0
theorem cntR_yes {n : Int} {b : Bool} {L : List (List Int)} {T : Nat} (h : cntOk n b L) (hT : lng L = T + 1) : cntR n b L = sumR n.toNat (wy n b L T 2305843009213693952 0) := by
  unfold cntR
  rw [if_pos h, show (lng L - 1).toNat = T by omega]
theorem cntR_no {n : Int} {b : Bool} {L : List (List Int)} (h : ¬ cntOk n b L) : cntR n b L = 0 := if_neg h
theorem cnt_bd {n : Int} {b : Bool} {L : List (List Int)} {T : Nat} {most : Int} (hm : 1 ≤ most) (hn : n ≤ 24) (hT : T ≤ 30) : ∀ k, k ≤ n.toNat → 0 ≤ sumR k (wy n b L T most 0) ∧ sumR k (wy n b L T most 0) ≤ k * 205891132094649
  | 0, _ => by rw [sumR_0]; omega
  | k + 1, hk => by
    obtain ⟨h1, h2⟩ := cnt_bd (b := b) (L := L) hm hn hT k (by omega)
    have h3 := wy_nn (n := n) (b := b) (L := L) (T := T) (most := most) hm 0 k
    have h4 := wy_le (n := n) (b := b) (L := L) (T := T) (most := most) (t := 0) (p := k) hm hn (by omega)
    have h5 := pow30 (k := T - 0) (by omega)
    rw [sumR_succ]
    omega
end Sx
