/- Plain words about the dirty lists of a chase. -/
import Derived.Test.YteaabofmnlbmkaaMxD
set_option linter.all false
namespace Sx
noncomputable def dirtN (n : Int) (b : Bool) (L : List (List Int)) : Nat → List Int
  | 0 => dirty0 n (plAt L 0)
  | t + 1 => stepD n b (dirtN n b L t) (plAt L (t : Int)) (plAt L ((t : Int) + 1))
noncomputable def dirts (n : Int) (b : Bool) (L : List (List Int)) (m : Nat) : List (List Int) := (List.range m).map (dirtN n b L)
@[simp] theorem dirts_len (n : Int) (b : Bool) (L : List (List Int)) (m : Nat) : (dirts n b L m).length = m := by simp [dirts]
theorem dirts_get (n : Int) (b : Bool) (L : List (List Int)) (m : Nat) {k : Nat} (h : k < (dirts n b L m).length) : (dirts n b L m)[k] = dirtN n b L k := by simp [dirts]
theorem dirts_succ (n : Int) (b : Bool) (L : List (List Int)) (m : Nat) : dirts n b L (m + 1) = dirts n b L m ++ [dirtN n b L m] := by simp [dirts, List.range_succ]
theorem dirts_one (n : Int) (b : Bool) (L : List (List Int)) : dirts n b L 1 = [dirty0 n (plAt L 0)] := rfl
theorem dirtN_bits {n : Int} {b : Bool} {L : List (List Int)} (h0 : 0 ≤ n) : ∀ t, bits n (dirtN n b L t)
  | 0 => ⟨fun x hx => by
      unfold dirtN dirty0 at hx
      obtain ⟨q, _, rfl⟩ := List.mem_map.1 hx
      unfold dirt; split <;> omega, by unfold dirtN; rw [dirty0_len]; omega⟩
  | t + 1 => ⟨fun x hx => by unfold dirtN at hx; exact ind_01 x hx, by unfold dirtN; rw [stepD_len]; omega⟩
theorem dirts_bits {n : Int} {b : Bool} {L : List (List Int)} (h0 : 0 ≤ n) {m : Nat} : ∀ d ∈ dirts n b L m, bits n d := fun d hd => by
  unfold dirts at hd
  obtain ⟨q, _, rfl⟩ := List.mem_map.1 hd
  exact dirtN_bits h0 q
def dirtOk (n : Int) (b : Bool) (L : List (List Int)) (t : Int) : Prop := chasers n b L ∧ 0 ≤ t ∧ t ≤ 60
open Classical in
noncomputable instance (n : Int) (b : Bool) (L : List (List Int)) (t : Int) : Decidable (dirtOk n b L t) := propDecidable _
noncomputable def dirtR (n : Int) (b : Bool) (L : List (List Int)) (t : Int) : List Int := if dirtOk n b L t then dirtN n b L t.toNat else []
theorem dirtR_yes {n : Int} {b : Bool} {L : List (List Int)} {t : Int} (h : dirtOk n b L t) : dirtR n b L t = dirtN n b L t.toNat := if_pos h
theorem dirtR_no {n : Int} {b : Bool} {L : List (List Int)} {t : Int} (h : ¬ dirtOk n b L t) : dirtR n b L t = [] := if_neg h
theorem dirtR_len {n : Int} {b : Bool} {L : List (List Int)} {t : Int} : (dirtR n b L t).length ≤ 1099511627776 := by
  by_cases h : dirtOk n b L t
  · rw [dirtR_yes h]
    have h2 := (dirtN_bits (b := b) (L := L) (show 0 ≤ n by have := h.1.1.1; omega) t.toNat).2
    have h3 := h.1.1
    unfold road at h3
    omega
  · rw [dirtR_no h]; simp
def tot (L : List (List Int)) : Nat := (L.map List.length).sum
theorem tot_take {L : List (List Int)} {k : Nat} (h : k < L.length) : tot (L.take (k + 1)) = tot (L.take k) + L[k].length := by
  unfold tot; rw [take_snoc h, List.map_append, List.sum_append]; simp
end Sx
