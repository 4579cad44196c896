/- Plain words: runs of crowds by a rule. -/
import Derived.Test.YteaabofmnlbmkaaMxRc
set_option linter.all false
namespace Sx
noncomputable def runL (n : Int) (l r : List Int) : Nat → List Int
  | 0 => l
  | k + 1 => if stepOk n (runL n l r k) r then srt n (tgts n (runL n l r k) r (runL n l r k).length) else runL n l r k
noncomputable def runD (n : Int) (l r : List Int) : Nat → Nat
  | 0 => 0
  | k + 1 => if stepOk n (runL n l r k) r then runD n l r k + 1 else runD n l r k
theorem run_yes {n : Int} {l r : List Int} {k : Nat} (h : stepOk n (runL n l r k) r) : runL n l r (k + 1) = srt n (tgts n (runL n l r k) r (runL n l r k).length) ∧ runD n l r (k + 1) = runD n l r k + 1 := ⟨if_pos h, if_pos h⟩
theorem run_no {n : Int} {l r : List Int} {k : Nat} (h : ¬ stepOk n (runL n l r k) r) : runL n l r (k + 1) = runL n l r k ∧ runD n l r (k + 1) = runD n l r k := ⟨if_neg h, if_neg h⟩
theorem run_crowd {n : Int} {l r : List Int} (hc : crowd n l) : ∀ k, crowd n (runL n l r k) ∧ (runL n l r k).length = l.length
  | 0 => ⟨hc, rfl⟩
  | k + 1 => by
    have ih := run_crowd (r := r) hc k
    by_cases h : stepOk n (runL n l r k) r
    · rw [(run_yes h).1]
      have := step_crowd ih.1 h
      exact ⟨this.1, this.2.trans ih.2⟩
    · rw [(run_no h).1]; exact ih
theorem run_stop {n : Int} {l r : List Int} {k : Nat} (h : ¬ stepOk n (runL n l r k) r) : ∀ m, runL n l r (k + m) = runL n l r k ∧ runD n l r (k + m) = runD n l r k
  | 0 => ⟨rfl, rfl⟩
  | m + 1 => by
    have ih := run_stop h m
    have h2 : ¬ stepOk n (runL n l r (k + m)) r := by rw [ih.1]; exact h
    rw [show k + (m + 1) = k + m + 1 by omega, (run_no h2).1, (run_no h2).2]
    exact ih
theorem run_stop2 {n : Int} {l r : List Int} {k t : Nat} (h : ¬ stepOk n (runL n l r k) r) (hk : k ≤ t) : runL n l r t = runL n l r k ∧ runD n l r t = runD n l r k := by
  have := run_stop h (t - k)
  rwa [show k + (t - k) = t by omega] at this
theorem runD_le (n : Int) (l r : List Int) : ∀ k, runD n l r k ≤ k
  | 0 => Nat.le_refl _
  | k + 1 => by
    have := runD_le n l r k
    by_cases h : stepOk n (runL n l r k) r
    · rw [(run_yes h).2]; omega
    · rw [(run_no h).2]; omega
def rcOk (n : Int) (l r : List Int) (t : Int) : Prop := crowd n l ∧ isRule r ∧ 0 ≤ t ∧ t ≤ 20
open Classical in
noncomputable instance (n : Int) (l r : List Int) (t : Int) : Decidable (rcOk n l r t) := propDecidable _
noncomputable def rcN (n : Int) (l r : List Int) (t : Int) : Int := if rcOk n l r t then n else 0
noncomputable def rcL (n : Int) (l r : List Int) (t : Int) : List Int := if rcOk n l r t then runL n l r t.toNat else []
noncomputable def rcD (n : Int) (l r : List Int) (t : Int) : Int := if rcOk n l r t then (runD n l r t.toNat : Nat) else 0
theorem rc_yes {n : Int} {l r : List Int} {t : Int} (h : rcOk n l r t) : rcN n l r t = n ∧ rcL n l r t = runL n l r t.toNat ∧ rcD n l r t = (runD n l r t.toNat : Nat) := ⟨if_pos h, if_pos h, if_pos h⟩
theorem rc_no {n : Int} {l r : List Int} {t : Int} (h : ¬ rcOk n l r t) : rcN n l r t = 0 ∧ rcL n l r t = [] ∧ rcD n l r t = 0 := ⟨if_neg h, if_neg h, if_neg h⟩
theorem rcL_len (n : Int) (l r : List Int) (t : Int) : (rcL n l r t).length ≤ l.length := by
  by_cases h : rcOk n l r t
  · rw [(rc_yes h).2.1, (run_crowd h.1 _).2]; exact Nat.le_refl _
  · rw [(rc_no h).2.1]; exact Nat.zero_le _
end Sx
