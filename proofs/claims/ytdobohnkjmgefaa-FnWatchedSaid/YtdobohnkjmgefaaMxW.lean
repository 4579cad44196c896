/- Plain words: one more sensor. -/
import Derived.Test.YtdobohnkjmgefaaMxV
set_option linter.all false
namespace Sx
theorem seenC_app (n : Int) (b : Bool) (S : List (Int × Int)) (s : Int × Int) (p : Nat) : seenC n b (S ++ [s]) p = seenC n b S p + if gap n b s.1 p ≤ s.2 then 1 else 0 := by
  have h := seenC_snoc (n := n) (b := b) (S := S ++ [s]) (p := p) (k := S.length) (by simp)
  rw [List.take_left' rfl, show List.take (S.length + 1) (S ++ [s]) = S ++ [s] from List.take_of_length_le (by simp)] at h
  rw [h, show (S ++ [s])[S.length]'(by simp) = s by simp]
theorem seenD {n : Int} {b : Bool} {S : List (Int × Int)} {p : Int} (h : 0 ≤ p ∧ p < n) : (seenL n b S).getD p.toNat 0 = seenC n b S p.toNat := by
  have hl : p.toNat < (seenL n b S).length := by rw [seenL_len]; omega
  rw [List.getD_eq_getElem?_getD, List.getElem?_eq_getElem hl, seenL_get]
  rfl
theorem watch_len (y : Yd) : (watchL y).length = y.w.length := by simp [watchL]
theorem watch_get {y : Yd} (hg : good y) {k : Nat} (hk : k < y.w.length) : (watchL y)[k]'(by rw [watch_len]; exact hk) = seenC y.n y.b y.S (y.w[k]).toNat := by
  have hwk := hg.2.1.2.1 _ (List.getElem_mem hk)
  simp only [watchL, List.getElem_map]
  exact seenD hwk
theorem more_y {y : Yd} {a c d : Int} (h : wkOk y ⟨3, a, c, d⟩) : wkR y ⟨3, a, c, d⟩ = { y with S := y.S ++ [(a, c)], c := y.c + 1 } := by
  rw [wkR_yes h]
  unfold nxt made
  rw [if_neg (show ¬ (3 : Int) = 1 by decide), if_neg (show ¬ (3 : Int) = 2 by decide), if_pos rfl]
theorem more_len {y : Yd} {a c d : Int} (h : wkOk y ⟨3, a, c, d⟩) : (watchL (wkR y ⟨3, a, c, d⟩)).length = y.w.length := by
  rw [watch_len, more_y h]
theorem more_get {y : Yd} {a c d : Int} (h : wkOk y ⟨3, a, c, d⟩) {k : Nat} (hk : k < y.w.length) : (watchL (wkR y ⟨3, a, c, d⟩))[k]'(by rw [more_len h]; exact hk) = seenC y.n y.b y.S (y.w[k]).toNat + if gap y.n y.b a (y.w[k]).toNat ≤ c then 1 else 0 := by
  have hg := wkR_good h
  have e := more_y h
  have hl : k < (wkR y ⟨3, a, c, d⟩).w.length := by rw [e]; exact hk
  rw [watch_get hg hl]
  simp only [e]
  exact seenC_app _ _ _ _ _
theorem more_ge {y : Yd} {a c d : Int} (h : wkOk y ⟨3, a, c, d⟩) {k : Nat} (hk : k < y.w.length) : (watchL y)[k]'(by rw [watch_len]; exact hk) ≤ (watchL (wkR y ⟨3, a, c, d⟩))[k]'(by rw [more_len h]; exact hk) := by
  rw [more_get h hk, watch_get h.1 hk]
  split <;> omega
theorem more_0 {y : Yd} {d : Int} (hl : 0 < y.w.length) (h : wkOk y ⟨3, y.w[0]'hl, 2, d⟩) : (watchL (wkR y ⟨3, y.w[0]'hl, 2, d⟩))[0]'(by rw [more_len h]; exact hl) = (watchL y)[0]'(by rw [watch_len]; exact hl) + 1 := by
  have hw := h.1.2.1.2.1 _ (List.getElem_mem hl)
  rw [more_get h hl, watch_get h.1 hl, Int.toNat_of_nonneg hw.1, if_pos (by rw [(gap_0 hw hw).2 rfl]; decide)]
end Sx
