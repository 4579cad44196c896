/- Plain words: gaps and views of robots. -/
import Derived.Test.YteaabofmnlbmkaaMxZ
set_option linter.all false
namespace Sx
/-- The gap from a place to another one. -/
def gp (n a b : Int) : Int := if (b - a + n) % n = 0 then n else (b - a + n) % n
theorem gp_0 {n a b : Int} (h : (b - a + n) % n = 0) : gp n a b = n := if_pos h
theorem gp_1 {n a b : Int} (h : ¬ (b - a + n) % n = 0) : gp n a b = (b - a + n) % n := if_neg h
theorem gp_bd {n a b : Int} (hn : 0 < n) : 0 < gp n a b ∧ gp n a b ≤ n := by
  have h1 := Int.emod_nonneg (b - a + n) (show n ≠ 0 by omega)
  have h2 := Int.emod_lt_of_pos (b - a + n) hn
  unfold gp; split <;> omega
/-- The k-th gap of a robot to the right. -/
def gapAt (n : Int) (l : List Int) (i k : Nat) : Int := gp n (l.getD ((i + k) % l.length) 0) (l.getD ((i + k + 1) % l.length) 0)
def gapsR (n : Int) (l : List Int) (i : Nat) : List Int := (List.range l.length).map (gapAt n l i)
def gapsK (n : Int) (l : List Int) (i k : Nat) : List Int := (List.range k).map (gapAt n l i)
@[simp] theorem gapsR_len (n : Int) (l : List Int) (i : Nat) : (gapsR n l i).length = l.length := by simp [gapsR]
theorem gapsK_succ (n : Int) (l : List Int) (i k : Nat) : gapsK n l i (k + 1) = gapsK n l i k ++ [gapAt n l i k] := by simp [gapsK, List.range_succ]
/-- The gaps to the left, in turn. -/
def gapsL (n : Int) (l : List Int) (i k : Nat) : List Int := (List.range k).map fun j => gapAt n l i (l.length - 1 - j)
theorem gapsL_succ (n : Int) (l : List Int) (i k : Nat) : gapsL n l i (k + 1) = gapsL n l i k ++ [gapAt n l i (l.length - 1 - k)] := by simp [gapsL, List.range_succ]
theorem gapsL_all (n : Int) (l : List Int) (i : Nat) : gapsL n l i l.length = (gapsR n l i).reverse := by
  apply List.ext_getElem
  · simp [gapsL]
  · intro j h1 h2
    simp [gapsL, gapsR]
theorem mod_lt {a m : Nat} (h : 0 < m) : a % m < m := Nat.mod_lt _ h
/-- The way of a robot: the sign of how its gaps compare, turned. -/
def viewL (n : Int) (l : List Int) (i : Nat) : List Int := if cmpL (gapsR n l i) (gapsR n l i).reverse ≤ 0 then gapsR n l i else (gapsR n l i).reverse
def wayL (n : Int) (l : List Int) (i : Nat) : Int := - cmpL (gapsR n l i) (gapsR n l i).reverse
end Sx
