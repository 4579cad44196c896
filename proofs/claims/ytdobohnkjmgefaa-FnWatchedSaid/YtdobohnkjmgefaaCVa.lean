/- Contracts: lists that are compared element by element. -/
import Derived.Test.YtdobohnkjmgefaaCe
set_option linter.all false
namespace Sx
open Go Go.Proofs
set_option maxRecDepth 100000
set_option maxHeartbeats 8000000
set_option linter.unusedSimpArgs false
set_option linter.unusedSectionVars false
variable [Glb]
theorem vInts_c (a b : List Int) (hl : a.length ≤ 1099511627776) (hb : b.length ≤ 1099511627776) : C 46 [ints a, ints b] [] (pr (a = b)) [] false := by
  refine mkC false false Try.func46 rfl ?_
  refine And.intro nofun ?_
  iterate 2 refine lm ?_
  refine twoN (fun _ => ?_) (fun _ => ?_)
  iterate 2 rotate_left
  · rename_i h1
    refine dv0 rfl ?_
    exact fun h => h1 (by rw [h])
  · rename_i h1
    refine loop_up (β := Nat) (fun k => [(5, i64 k), (4, .unk)]) (fun k => []) [] (fun k => k ≤ a.length ∧ a.take k = b.take k) (fun k => a.length - k) (0) ?_ ?_ ?_
    · simp
    · refine weak.mk [] [] rfl rfl ?_ ?_
      repeat' first | exact trivial | exact rfl | exact Iff.rfl | assumption | refine And.intro ?_ ?_
    · rintro k ⟨hk, hi⟩ R hR
      by_cases hkl : k < a.length
      · refine lm ?_
        refine tY (by first | omega | assumption | exact rfl | exact Iff.rfl) ?_
        refine drawP.mkS (Z (Z ?_))
        refine Z ?_
        apply exP.mk
        exact rfl
        apply exP.mk
        exact rfl
        apply exP.mk
        iterate 2 refine Z ?_
        refine jkm (by omega) ?_
        exact rfl
        apply exP.mk
        refine gm (by omega) ?_
        exact rfl
        apply exP.mk
        exact rfl
        apply exP.mk
        exact rfl
        apply exP.mk
        iterate 2 refine Z ?_
        refine jkm (by omega) ?_
        exact rfl
        apply exP.mk
        refine gm (by omega) ?_
        exact rfl
        apply exP.mk
        exact rfl
        refine twoN (fun _ => ?_) (fun _ => ?_)
        rotate_left
        refine nw (by omega) (by omega) ?_
        rotate_left
        · rename_i h3
          refine dv0 rfl ?_
          exact fun h => h3 (by subst h; rfl)
        · rename_i h3
          refine hR (k + 1) _ _ ?_ (weak.mk [] [] rfl rfl ?_ ?_)
          repeat' first | exact trivial | exact rfl | exact Iff.rfl | assumption | refine And.intro ?_ ?_
          exact ⟨⟨by omega, (eq_take (by omega) (by omega)).2 ⟨hi, h3⟩⟩, by omega⟩
      · refine lm ?_
        refine tN (by first | omega | assumption | exact fun h => h (by assumption) | exact fun h => h rfl | exact fun h => h Iff.rfl) ?_
        rotate_left
        rw [List.take_of_length_le (by omega), List.take_of_length_le (by omega)] at hi
        refine dv0 rfl ?_
        exact hi
theorem vSensors_c (a b : List (Int × Int)) (hl : a.length ≤ 1099511627776) (hb : b.length ≤ 1099511627776) : C 144 [sens a, sens b] [] (pr (a = b)) [] false := by
  refine mkC false false Try.func144 rfl ?_
  refine And.intro nofun ?_
  iterate 2 refine lm ?_
  refine twoN (fun _ => ?_) (fun _ => ?_)
  iterate 2 rotate_left
  · rename_i h1
    refine dv0 rfl ?_
    exact fun h => h1 (by rw [h])
  · rename_i h1
    refine loop_up (β := Nat) (fun k => [(5, i64 k), (4, .unk)]) (fun k => []) [] (fun k => k ≤ a.length ∧ a.take k = b.take k) (fun k => a.length - k) (0) ?_ ?_ ?_
    · simp
    · refine weak.mk [] [] rfl rfl ?_ ?_
      repeat' first | exact trivial | exact rfl | exact Iff.rfl | assumption | refine And.intro ?_ ?_
    · rintro k ⟨hk, hi⟩ R hR
      by_cases hkl : k < a.length
      · refine lm ?_
        refine tY (by first | omega | assumption | exact rfl | exact Iff.rfl) ?_
        refine drawP.mkS (Z (Z ?_))
        refine Z ?_
        apply exP.mk
        exact rfl
        apply exP.mk
        exact rfl
        apply exP.mk
        iterate 2 refine Z ?_
        refine jkm (by omega) ?_
        exact rfl
        apply exP.mk
        refine gm (by omega) ?_
        exact rfl
        apply exP.mk
        exact rfl
        apply exP.mk
        exact rfl
        apply exP.mk
        iterate 2 refine Z ?_
        refine jkm (by omega) ?_
        exact rfl
        apply exP.mk
        refine gm (by omega) ?_
        exact rfl
        apply exP.mk
        refine stP.mk (by kernel_rfl) ?_
        exact rfl
        refine twoN (fun _ => ?_) (fun _ => ?_)
        rotate_left
        refine nw (by omega) (by omega) ?_
        rotate_left
        · rename_i h3
          refine dv0 rfl ?_
          exact fun h => h3 (by subst h; exact ⟨rfl, rfl⟩)
        · rename_i h3
          refine hR (k + 1) _ _ ?_ (weak.mk [] [] rfl rfl ?_ ?_)
          repeat' first | exact trivial | exact rfl | exact Iff.rfl | assumption | refine And.intro ?_ ?_
          exact ⟨⟨by omega, (eq_take (by omega) (by omega)).2 ⟨hi, Prod.ext h3.1 h3.2⟩⟩, by omega⟩
      · refine lm ?_
        refine tN (by first | omega | assumption | exact fun h => h (by assumption) | exact fun h => h rfl | exact fun h => h Iff.rfl) ?_
        rotate_left
        rw [List.take_of_length_le (by omega), List.take_of_length_le (by omega)] at hi
        refine dv0 rfl ?_
        exact hi
theorem vCarriers_c (a b : List (Int × Int × Int)) (hl : a.length ≤ 1099511627776) (hb : b.length ≤ 1099511627776) : C 145 [cars a, cars b] [] (pr (a = b)) [] false := by
  refine mkC false false Try.func145 rfl ?_
  refine And.intro nofun ?_
  iterate 2 refine lm ?_
  refine twoN (fun _ => ?_) (fun _ => ?_)
  iterate 2 rotate_left
  · rename_i h1
    refine dv0 rfl ?_
    exact fun h => h1 (by rw [h])
  · rename_i h1
    refine loop_up (β := Nat) (fun k => [(5, i64 k), (4, .unk)]) (fun k => []) [] (fun k => k ≤ a.length ∧ a.take k = b.take k) (fun k => a.length - k) (0) ?_ ?_ ?_
    · simp
    · refine weak.mk [] [] rfl rfl ?_ ?_
      repeat' first | exact trivial | exact rfl | exact Iff.rfl | assumption | refine And.intro ?_ ?_
    · rintro k ⟨hk, hi⟩ R hR
      by_cases hkl : k < a.length
      · refine lm ?_
        refine tY (by first | omega | assumption | exact rfl | exact Iff.rfl) ?_
        refine drawP.mkS (Z (Z ?_))
        refine Z ?_
        apply exP.mk
        exact rfl
        apply exP.mk
        exact rfl
        apply exP.mk
        iterate 2 refine Z ?_
        refine jkm (by omega) ?_
        exact rfl
        apply exP.mk
        refine gm (by omega) ?_
        exact rfl
        apply exP.mk
        exact rfl
        apply exP.mk
        exact rfl
        apply exP.mk
        iterate 2 refine Z ?_
        refine jkm (by omega) ?_
        exact rfl
        apply exP.mk
        refine gm (by omega) ?_
        exact rfl
        apply exP.mk
        refine stP.mk (by kernel_rfl) ?_
        exact rfl
        refine twoN (fun _ => ?_) (fun _ => ?_)
        rotate_left
        refine nw (by omega) (by omega) ?_
        rotate_left
        · rename_i h3
          refine dv0 rfl ?_
          exact fun h => h3 (by subst h; exact ⟨rfl, rfl, rfl⟩)
        · rename_i h3
          refine hR (k + 1) _ _ ?_ (weak.mk [] [] rfl rfl ?_ ?_)
          repeat' first | exact trivial | exact rfl | exact Iff.rfl | assumption | refine And.intro ?_ ?_
          exact ⟨⟨by omega, (eq_take (by omega) (by omega)).2 ⟨hi, Prod.ext h3.1 (Prod.ext h3.2.1 h3.2.2)⟩⟩, by omega⟩
      · refine lm ?_
        refine tN (by first | omega | assumption | exact fun h => h (by assumption) | exact fun h => h rfl | exact fun h => h Iff.rfl) ?_
        rotate_left
        rw [List.take_of_length_le (by omega), List.take_of_length_le (by omega)] at hi
        refine dv0 rfl ?_
        exact hi
theorem vYard_c (y z : Yd) (hy : fitY 1099511627776 y) (hz : fitY 1099511627776 z) : C 56 [yv y, yv z] [] (pr (y = z)) [] false := by
  have h1 := hy.1
  have h2 := hy.2.1
  have h3 := hy.2.2
  have h4 := hz.1
  have h5 := hz.2.1
  have h6 := hz.2.2
  refine mkC false false Try.func56 rfl ?_
  refine And.intro nofun ?_
  iterate 3 refine Z ?_
  refine And.intro (Nat.le_of_ble_eq_true rfl) ?_
  refine Z ?_
  refine And.intro (Nat.le_of_ble_eq_true rfl) ?_
  refine stP.mk (by kernel_rfl) ?_
  refine twoP.mk (fun _ => ?_) (fun _ => ?_)
  iterate 2 refine Z ?_
  refine callW.mk [] 2 _ _ _ (vInts_c _ _ (by first | omega | assumption | (simp; omega) | (simp; done) | exact trivial) (by first | omega | assumption | (simp; omega) | (simp; done) | exact trivial)) rfl rfl trivial nofun ?_
  refine twoP.mk (fun _ => ?_) (fun _ => ?_)
  iterate 2 refine Z ?_
  refine callW.mk [] 2 _ _ _ (vSensors_c _ _ (by first | omega | assumption | (simp; omega) | (simp; done) | exact trivial) (by first | omega | assumption | (simp; omega) | (simp; done) | exact trivial)) rfl rfl trivial nofun ?_
  refine twoP.mk (fun _ => ?_) (fun _ => ?_)
  iterate 2 refine Z ?_
  refine callW.mk [] 2 _ _ _ (vCarriers_c _ _ (by first | omega | assumption | (simp; omega) | (simp; done) | exact trivial) (by first | omega | assumption | (simp; omega) | (simp; done) | exact trivial)) rfl rfl trivial nofun ?_
  refine twoP.mk (fun _ => ?_) (fun _ => ?_)
  iterate 2 refine Z ?_
  iterate 5 rotate_left
  · rename_i q1 q2 q3 q4
    refine dv0 rfl ?_
    exact ⟨fun h => by cases y; cases z; simp_all, fun h => by rw [h]⟩
  · rename_i q1 q2 q3 q4
    refine dv0 rfl ?_
    exact fun h => q4 (by rw [h])
  · rename_i q1 q2 q3
    refine dv0 rfl ?_
    exact fun h => q3 (by rw [h])
  · rename_i q1 q2
    refine dv0 rfl ?_
    exact fun h => q2 (by rw [h])
  · rename_i q1
    refine dv0 rfl ?_
    exact fun h => q1 (by rw [h]; exact ⟨rfl, Iff.rfl⟩)
end Sx
