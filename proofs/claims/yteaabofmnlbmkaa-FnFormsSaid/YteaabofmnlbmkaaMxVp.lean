/- Plain words: the turned and mirrored crowds of all forms, counted. -/
import Derived.Test.YteaabofmnlbmkaaMxVn
set_option linter.all false
namespace Sx
set_option maxRecDepth 100000
def perN (n : Int) (l : List Int) : Nat := match perC n l with
  | [] => 1
  | s :: _ => s + 1
def burnK (n r : Nat) : Nat → Nat
  | 0 => 0
  | m + 1 => if (bitsK m n).length = r then burnK n r m + (n / perN n (bitsK m n) + (axK n (bitsK m n) n).length) else burnK n r m
theorem burnK_yes {n r m : Nat} (h : (bitsK m n).length = r) : burnK n r (m + 1) = burnK n r m + (n / perN n (bitsK m n) + (axK n (bitsK m n) n).length) := if_pos h
theorem burnK_no {n r m : Nat} (h : ¬ (bitsK m n).length = r) : burnK n r (m + 1) = burnK n r m := if_neg h
theorem burnK_le (n r : Nat) : ∀ m, burnK n r m ≤ 2 * n * m
  | 0 => Nat.le_refl _
  | m + 1 => by
    have ih := burnK_le n r m
    have e : 2 * n * (m + 1) = 2 * n * m + 2 * n := by rw [Nat.mul_add, Nat.mul_one]
    by_cases h : (bitsK m n).length = r
    · rw [burnK_yes h, e]
      have h1 : n / perN n (bitsK m n) ≤ n := Nat.div_le_self _ _
      have h2 := axK_le n (bitsK m n) n
      omega
    · rw [burnK_no h, e]; omega
theorem perN_eq {n : Int} {l : List Int} (hc : crowd n l) : perI n l = (perN n l : Nat) := by
  obtain ⟨s, t, h⟩ : ∃ s t, perC n l = s :: t := by
    have hn := hc.1.1
    have : (n.toNat - 1) ∈ perC n l := by
      unfold perC
      rw [List.mem_filter, List.mem_range]
      refine ⟨by omega, ?_⟩
      rw [decide_eq_true_eq, show (((n.toNat - 1 : Nat) : Int) + 1) = n by omega]
      exact trn_n hc
    cases h : perC n l with
    | nil => rw [h] at this; cases this
    | cons s t => exact ⟨s, t, rfl⟩
  rw [perC_head h]
  unfold perN
  rw [h]
  show (s : Int) + 1 = ((s + 1 : Nat) : Int)
  omega
def burnOk (n : Nat) : Bool := (List.range 7).all fun r => decide (burnK n r (2 ^ n) = cfK n r (2 ^ n) * 2 * n)
theorem burn3 : burnOk 3 = true := by decide +kernel
theorem burn4 : burnOk 4 = true := by decide +kernel
theorem burn5 : burnOk 5 = true := by decide +kernel
theorem burn6 : burnOk 6 = true := by decide +kernel
theorem burn7 : burnOk 7 = true := by decide +kernel
theorem burn8 : burnOk 8 = true := by decide +kernel
theorem burn_eq {n r : Nat} (h : 3 ≤ n ∧ n ≤ 8) (hr : r ≤ 6) : burnK n r (2 ^ n) = cfK n r (2 ^ n) * 2 * n := by
  have key : burnOk n = true := by
    have : n = 3 ∨ n = 4 ∨ n = 5 ∨ n = 6 ∨ n = 7 ∨ n = 8 := by omega
    rcases this with h | h | h | h | h | h <;> subst h
    · exact burn3
    · exact burn4
    · exact burn5
    · exact burn6
    · exact burn7
    · exact burn8
  have := List.all_eq_true.1 key r (List.mem_range.2 (by omega))
  simpa using this
end Sx
