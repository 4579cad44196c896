/- Plain words: yards behind jobs. -/
import Derived.Test.YtdobohnkjmgefaaMxL
set_option linter.all false
namespace Sx
theorem nxt_fit {y : Yd} (j : Jb) (hg : good y) : fitY 1099511627776 (nxt y j) := by
  have h1 : (y.w.length : Int) ≤ 61 := hg.2.1.1.2
  have h2 := hg.2.2.1.2
  have h3 := hg.2.2.2.1.2
  show (made y j).w.length ≤ _ ∧ (made y j).S.length ≤ _ ∧ (made y j).K.length ≤ _
  unfold made
  split
  · simp; omega
  split
  · simp; omega
  split
  · simp; omega
  split
  · simp; omega
  split
  · have := List.length_eraseIdx_le (l := y.S) (i := j.a.toNat)
    exact ⟨show y.w.length ≤ _ by omega, show (y.S.eraseIdx j.a.toNat).length ≤ _ by omega, show y.K.length ≤ _ by omega⟩
  split
  · simp; omega
  · omega
theorem doR_fit {y : Yd} (j : Jb) (hg : good y) : fitY 1099511627776 (doR y j) := by
  by_cases h : doOk y j
  · rw [doR_yes h]; exact nxt_fit j hg
  · rw [doR_no h]; exact ⟨by simp [zeroY], by simp [zeroY], by simp [zeroY]⟩
theorem wkR_fit {y : Yd} (j : Jb) : fitY 1099511627776 (wkR y j) := by
  by_cases h : wkOk y j
  · rw [wkR_yes h]; exact nxt_fit j h.1
  · rw [wkR_no h]; exact ⟨by simp [zeroY], by simp [zeroY], by simp [zeroY]⟩
theorem doR_good {y : Yd} {j : Jb} (h : doOk y j) : good (doR y j) := by rw [doR_yes h]; exact h.2
theorem made_n (y : Yd) (j : Jb) : (made y j).n = y.n := by
  unfold made
  (repeat' split) <;> rfl
theorem made_b (y : Yd) (j : Jb) : (made y j).b = y.b := by
  unfold made
  (repeat' split) <;> rfl
theorem nxt_n (y : Yd) (j : Jb) : (nxt y j).n = y.n := made_n y j
theorem nxt_b (y : Yd) (j : Jb) : (nxt y j).b = y.b := made_b y j
theorem nxt_yv (y : Yd) (j : Jb) : yv (nxt y j) = .agg [i64 y.n, bv y.b, ints (made y j).w, sens (made y j).S, cars (made y j).K, i64 (y.c + 1)] := by
  show AV.agg [i64 (made y j).n, bv (made y j).b, ints (made y j).w, sens (made y j).S, cars (made y j).K, i64 (y.c + 1)] = _
  rw [made_n, made_b]
end Sx
