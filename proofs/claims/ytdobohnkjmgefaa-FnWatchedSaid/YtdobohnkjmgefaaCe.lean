/- Contracts: yards. -/
import Derived.Test.YtdobohnkjmgefaaMxE
import Derived.Test.YtdobohnkjmgefaaCc
set_option linter.all false
namespace Sx
open Go Go.Proofs
set_option maxRecDepth 100000
set_option maxHeartbeats 4000000
set_option linter.unusedSimpArgs false
set_option linter.unusedSectionVars false
variable [Glb]
theorem has1_c (n : Int) (b : Bool) (hr : road n b) (x : Int) : C 203 [rd n b, .sl 1 [i64 x]] [] (pr (0 ≤ x ∧ x < n)) [] false := by
  have h := has_c n b hr [x] (by simp)
  rw [pr_eq (q := 0 ≤ x ∧ x < n) (by simp)] at h
  exact h
theorem isLine_c (n : Int) (b : Bool) : C 146 [rd n b] [] (pr (lineP n b)) [] false := by
  refine mkC false false Try.func146 rfl ?_
  refine And.intro nofun ?_
  refine Z ?_
  refine callW.mk [] 1 _ _ _ (IsRoad_c _ _) rfl rfl trivial nofun ?_
  refine twoP.mk (fun _ => ?_) (fun _ => ?_)
  refine Z ?_
  iterate 2 rotate_left
  · rename_i h
    refine dv0 rfl ?_
    exact ⟨fun h2 => ⟨h, h2⟩, fun h2 => h2.2⟩
  · rename_i h
    refine dv0 rfl ?_
    exact fun h2 => h h2.1
theorem l3Line_c (n : Int) (b : Bool) (p : Int) : C 248 [rd n b, i64 p] [] (pr (lineP n b ∧ 0 ≤ p ∧ p < n)) [] false := by
  refine mkC false false Try.func248 rfl ?_
  refine And.intro nofun ?_
  refine Z ?_
  refine callW.mk [] 1 _ _ _ (l2Road_c _ _) rfl rfl trivial nofun ?_
  refine twoP.mk (fun _ => ?_) (fun _ => ?_)
  refine Z ?_
  refine twoN (fun _ => ?_) (fun _ => ?_)
  refine Z ?_
  refine nw (by omega) (by omega) ?_
  refine callW.mk [] 1 _ _ _ (in_c _ _ _) rfl rfl trivial nofun ?_
  iterate 3 rotate_left
  · rename_i h1 h2
    refine dv0 rfl ?_
    exact ⟨fun h => ⟨⟨h1, h2⟩, by omega⟩, fun h => by omega⟩
  · rename_i h1 h2
    refine dv0 rfl ?_
    exact fun h => h.1.2 h2
  · rename_i h1
    refine dv0 rfl ?_
    exact fun h => h1 h.1.1
theorem areSensors_c (n : Int) (b : Bool) (hr : road n b) (S : List (Int × Int)) (hS : S.length ≤ 1099511627776) : C 148 [rd n b, sens S] [] (pr (sensOk n S)) [] false := by
  refine mkC false false Try.func148 rfl ?_
  refine And.intro nofun ?_
  refine Z ?_
  refine lm ?_
  rotate_left
  refine loop_up (β := Nat) (fun k => [(9, i64 k), (4, .unk)]) (fun k => []) [] (fun k => k ≤ S.length ∧ ∀ s ∈ S.take k, (0 ≤ s.1 ∧ s.1 < n) ∧ 0 ≤ s.2 ∧ s.2 ≤ 12) (fun k => S.length - k) (0) ?_ ?_ ?_
  · simp
  · refine weak.mk [] [0] rfl rfl ?_ ?_
    repeat' first | exact trivial | exact rfl | exact Iff.rfl | assumption | refine And.intro ?_ ?_
  · rintro k ⟨hk, hi⟩ R hR
    refine twoP.mk (fun _ => ?_) (fun _ => ?_)
    iterate 2 refine Z ?_
    refine jkm (by omega) ?_
    refine gm (by omega) ?_
    iterate 11 refine Z ?_
    refine callW.mk [] 3 _ _ _ (has1_c _ _ (by first | omega | assumption | (simp; omega) | (simp; done) | exact hi _ (List.getElem_mem _)) _) rfl rfl trivial nofun ?_
    refine twoN (fun _ => ?_) (fun _ => ?_)
    rotate_left
    refine Z ?_
    refine callW.mk [] 3 _ _ _ (within_c _ _ _) rfl rfl trivial nofun ?_
    refine twoN (fun _ => ?_) (fun _ => ?_)
    rotate_left
    refine nw (by omega) (by omega) ?_
    rotate_left
    refine lm ?_
    rotate_left
    · rename_i h1 h2
      refine dv0 rfl ?_
      exact fun h => h2 (h.1 _ (List.getElem_mem _)).1
    · rename_i h1 h2 h3
      refine dv0 rfl ?_
      exact fun h => h3 (h.1 _ (List.getElem_mem _)).2
    · rename_i h1 h2 h3
      refine hR (k + 1) _ _ ?_ (weak.mk [] [0] rfl rfl ?_ ?_)
      repeat' first | exact trivial | exact rfl | exact Iff.rfl | assumption | refine And.intro ?_ ?_
      exact ⟨⟨by omega, (all_take (by omega)).2 ⟨hi, h2, h3⟩⟩, by omega⟩
    · rename_i h1
      rw [take_all h1] at hi
      refine dv0 rfl ?_
      exact ⟨fun h => ⟨hi, h⟩, fun h => h.2⟩
theorem areCarriers_c (n : Int) (b : Bool) (hr : road n b) (S : List (Int × Int × Int)) (hS : S.length ≤ 1099511627776) : C 149 [rd n b, cars S] [] (pr (carsOk n S)) [] false := by
  refine mkC false false Try.func149 rfl ?_
  refine And.intro nofun ?_
  refine Z ?_
  refine lm ?_
  rotate_left
  refine loop_up (β := Nat) (fun k => [(9, i64 k), (4, .unk)]) (fun k => []) [] (fun k => k ≤ S.length ∧ ∀ s ∈ S.take k, (0 ≤ s.1 ∧ s.1 < n) ∧ (0 ≤ s.2.1 ∧ s.2.1 ≤ 48) ∧ 0 ≤ s.2.2 ∧ s.2.2 ≤ 20) (fun k => S.length - k) (0) ?_ ?_ ?_
  · simp
  · refine weak.mk [] [0] rfl rfl ?_ ?_
    repeat' first | exact trivial | exact rfl | exact Iff.rfl | assumption | refine And.intro ?_ ?_
  · rintro k ⟨hk, hi⟩ R hR
    refine twoP.mk (fun _ => ?_) (fun _ => ?_)
    iterate 2 refine Z ?_
    refine jkm (by omega) ?_
    refine gm (by omega) ?_
    iterate 11 refine Z ?_
    refine callW.mk [] 3 _ _ _ (has1_c _ _ (by first | omega | assumption | (simp; omega) | (simp; done) | exact hi _ (List.getElem_mem _)) _) rfl rfl trivial nofun ?_
    refine twoN (fun _ => ?_) (fun _ => ?_)
    rotate_left
    refine Z ?_
    refine callW.mk [] 3 _ _ _ (within_c _ _ _) rfl rfl trivial nofun ?_
    refine twoN (fun _ => ?_) (fun _ => ?_)
    rotate_left
    refine Z ?_
    refine callW.mk [] 3 _ _ _ (within_c _ _ _) rfl rfl trivial nofun ?_
    refine twoN (fun _ => ?_) (fun _ => ?_)
    rotate_left
    refine nw (by omega) (by omega) ?_
    rotate_left
    refine lm ?_
    rotate_left
    · rename_i h1 h2
      refine dv0 rfl ?_
      exact fun h => h2 (h.1 _ (List.getElem_mem _)).1
    · rename_i h1 h2 h3
      refine dv0 rfl ?_
      exact fun h => h3 (h.1 _ (List.getElem_mem _)).2.1
    · rename_i h1 h2 h3 h4
      refine dv0 rfl ?_
      exact fun h => h4 (h.1 _ (List.getElem_mem _)).2.2
    · rename_i h1 h2 h3 h4
      refine hR (k + 1) _ _ ?_ (weak.mk [] [0] rfl rfl ?_ ?_)
      repeat' first | exact trivial | exact rfl | exact Iff.rfl | assumption | refine And.intro ?_ ?_
      exact ⟨⟨by omega, (all_take (by omega)).2 ⟨hi, h2, h3, h4⟩⟩, by omega⟩
    · rename_i h1
      rw [take_all h1] at hi
      refine dv0 rfl ?_
      exact ⟨fun h => ⟨hi, h⟩, fun h => h.2⟩
theorem l9Sensors_c (n : Int) (b : Bool) (S : List (Int × Int)) (hS : S.length ≤ 1099511627776) : C 212 [rd n b, sens S] [] (pr (lineP n b ∧ sensOk n S)) [] false := by
  refine mkC false false Try.func212 rfl ?_
  refine And.intro nofun ?_
  refine Z ?_
  rotate_left
  refine loop_up (β := Nat) (fun k => [(5, i64 k), (4, .unk)]) (fun k => []) [] (fun k => k ≤ S.length ∧ ∀ s ∈ S.take k, lineP n b ∧ (0 ≤ s.1 ∧ s.1 < n) ∧ 0 ≤ s.2 ∧ s.2 ≤ 12) (fun k => S.length - k) (0) ?_ ?_ ?_
  · simp
  · refine weak.mk [] [0] rfl rfl ?_ ?_
    repeat' first | exact trivial | exact rfl | exact Iff.rfl | assumption | refine And.intro ?_ ?_
  · rintro k ⟨hk, hi⟩ R hR
    refine lm ?_
    refine twoP.mk (fun _ => ?_) (fun _ => ?_)
    refine drawP.mk 17 (Z (Z (Z (Z ?_))))
    apply exP.mk
    exact rfl
    apply exP.mk
    exact rfl
    apply exP.mk
    exact rfl
    apply exP.mk
    iterate 2 refine Z ?_
    refine jkm (by omega) ?_
    exact rfl
    apply exP.mk
    refine Z ?_
    exact rfl
    apply exP.mk
    refine gm (by omega) ?_
    exact rfl
    apply exP.mk
    refine callP.mk _ _ _ (l3Line_c _ _ _) trivial nofun trivial ?_
    exact rfl
    apply exP.mk
    exact rfl
    apply exP.mk
    exact rfl
    refine twoN (fun _ => ?_) (fun _ => ?_)
    rotate_left
    apply exP.mk
    exact rfl
    apply exP.mk
    exact rfl
    apply exP.mk
    iterate 2 refine Z ?_
    refine jkm (by omega) ?_
    exact rfl
    apply exP.mk
    refine Z ?_
    exact rfl
    apply exP.mk
    refine gm (by omega) ?_
    exact rfl
    apply exP.mk
    refine callP.mk _ _ _ (in_c _ _ _) trivial nofun trivial ?_
    exact rfl
    apply exP.mk
    exact rfl
    refine twoN (fun _ => ?_) (fun _ => ?_)
    rotate_left
    refine nw (by omega) (by omega) ?_
    rotate_left
    refine callW.mk [] 1 _ _ _ (l2Road_c _ _) rfl rfl trivial nofun ?_
    refine twoP.mk (fun _ => ?_) (fun _ => ?_)
    refine Z ?_
    refine twoN (fun _ => ?_) (fun _ => ?_)
    refine lm ?_
    iterate 3 rotate_left
    · rename_i h1 h2
      refine dv0 rfl ?_
      exact fun h => h2 ⟨h.1, (h.2.1 _ (List.getElem_mem _)).1⟩
    · rename_i h1 h2 h3
      refine dv0 rfl ?_
      exact fun h => h3 (h.2.1 _ (List.getElem_mem _)).2
    · rename_i h1 h2 h3
      refine hR (k + 1) _ _ ?_ (weak.mk [] [0] rfl rfl ?_ ?_)
      repeat' first | exact trivial | exact rfl | exact Iff.rfl | assumption | refine And.intro ?_ ?_
      exact ⟨⟨by omega, (all_take (by omega)).2 ⟨hi, h2.1, h2.2, h3⟩⟩, by omega⟩
    · rename_i h1 h2 h3
      rw [take_all h1] at hi
      refine dv0 rfl ?_
      exact ⟨fun h => ⟨⟨h2, h3⟩, fun s hs => (hi s hs).2, h⟩, fun h => h.2.2⟩
    · rename_i h1 h2 h3
      refine dv0 rfl ?_
      exact fun h => h.1.2 h3
    · rename_i h1 h2
      refine dv0 rfl ?_
      exact fun h => h2 h.1.1
theorem l7Carrier_c (n : Int) (b : Bool) (x y z : Int) : C 249 [rd n b, .agg [i64 x, i64 y, i64 z]] [] (pr (lineP n b ∧ (0 ≤ x ∧ x < n) ∧ (0 ≤ y ∧ y ≤ 48) ∧ 0 ≤ z ∧ z ≤ 20)) [] false := by
  refine mkC false false Try.func249 rfl ?_
  refine And.intro nofun ?_
  iterate 3 refine Z ?_
  refine callW.mk [] 2 _ _ _ (l3Line_c _ _ _) rfl rfl trivial nofun ?_
  refine twoP.mk (fun _ => ?_) (fun _ => ?_)
  refine Z ?_
  refine callW.mk [] 2 _ _ _ (in_c _ _ _) rfl rfl trivial nofun ?_
  refine twoP.mk (fun _ => ?_) (fun _ => ?_)
  refine Z ?_
  refine callW.mk [] 2 _ _ _ (in_c _ _ _) rfl rfl trivial nofun ?_
  iterate 3 rotate_left
  · rename_i h1 h2
    refine dv0 rfl ?_
    exact ⟨fun h => ⟨h1.1, h1.2, h2, h⟩, fun h => h.2.2.2⟩
  · rename_i h1 h2
    refine dv0 rfl ?_
    exact fun h => h2 h.2.2.1
  · rename_i h1
    refine dv0 rfl ?_
    exact fun h => h1 ⟨h.1, h.2.1⟩
theorem l7Carriers_c (n : Int) (b : Bool) (S : List (Int × Int × Int)) (hS : S.length ≤ 1099511627776) : C 213 [rd n b, cars S] [] (pr (lineP n b ∧ carsOk n S)) [] false := by
  refine mkC false false Try.func213 rfl ?_
  refine And.intro nofun ?_
  refine Z ?_
  rotate_left
  refine loop_up (β := Nat) (fun k => [(5, i64 k), (4, .unk)]) (fun k => []) [] (fun k => k ≤ S.length ∧ ∀ s ∈ S.take k, lineP n b ∧ (0 ≤ s.1 ∧ s.1 < n) ∧ (0 ≤ s.2.1 ∧ s.2.1 ≤ 48) ∧ 0 ≤ s.2.2 ∧ s.2.2 ≤ 20) (fun k => S.length - k) (0) ?_ ?_ ?_
  · simp
  · refine weak.mk [] [0] rfl rfl ?_ ?_
    repeat' first | exact trivial | exact rfl | exact Iff.rfl | assumption | refine And.intro ?_ ?_
  · rintro k ⟨hk, hi⟩ R hR
    refine lm ?_
    refine twoP.mk (fun _ => ?_) (fun _ => ?_)
    refine drawP.mk 7 (Z (Z (Z (Z ?_))))
    apply exP.mk
    exact rfl
    apply exP.mk
    exact rfl
    apply exP.mk
    exact rfl
    apply exP.mk
    iterate 2 refine Z ?_
    refine jkm (by omega) ?_
    exact rfl
    apply exP.mk
    refine gm (by omega) ?_
    exact rfl
    apply exP.mk
    refine callP.mk _ _ _ (l7Carrier_c _ _ _ _ _) trivial nofun trivial ?_
    exact rfl
    apply exP.mk
    exact rfl
    refine twoN (fun _ => ?_) (fun _ => ?_)
    rotate_left
    refine nw (by omega) (by omega) ?_
    rotate_left
    refine callW.mk [] 1 _ _ _ (l2Road_c _ _) rfl rfl trivial nofun ?_
    refine twoP.mk (fun _ => ?_) (fun _ => ?_)
    refine Z ?_
    refine twoN (fun _ => ?_) (fun _ => ?_)
    refine lm ?_
    iterate 3 rotate_left
    · rename_i h1 h2
      refine dv0 rfl ?_
      exact fun h => h2 ⟨h.1, h.2.1 _ (List.getElem_mem _)⟩
    · rename_i h1 h2
      refine hR (k + 1) _ _ ?_ (weak.mk [] [0] rfl rfl ?_ ?_)
      repeat' first | exact trivial | exact rfl | exact Iff.rfl | assumption | refine And.intro ?_ ?_
      exact ⟨⟨by omega, (all_take (by omega)).2 ⟨hi, h2⟩⟩, by omega⟩
    · rename_i h1 h2 h3
      rw [take_all h1] at hi
      refine dv0 rfl ?_
      exact ⟨fun h => ⟨⟨h2, h3⟩, fun s hs => (hi s hs).2, h⟩, fun h => h.2.2⟩
    · rename_i h1 h2 h3
      refine dv0 rfl ?_
      exact fun h => h.1.2 h3
    · rename_i h1 h2
      refine dv0 rfl ?_
      exact fun h => h2 h.1.1
theorem l12Good_c (y : Yd) (hy : fitY 1099511627776 y) : C 115 [yv y] [] (pr (good y)) [] false := by
  have h1 := hy.1
  have h2 := hy.2.1
  have h3 := hy.2.2
  refine mkC false false Try.func115 rfl ?_
  refine And.intro nofun ?_
  iterate 3 refine Z ?_
  refine twoP.mk (fun _ => ?_) (fun _ => ?_)
  rotate_left
  refine Z ?_
  refine And.intro (Nat.le_of_ble_eq_true rfl) ?_
  refine Z ?_
  refine callW.mk [] 1 _ _ _ (l2Walk_c _ _ _ (by first | omega | assumption | (simp; omega) | (simp; done))) rfl rfl trivial nofun ?_
  refine twoN (fun _ => ?_) (fun _ => ?_)
  rotate_left
  refine Z ?_
  refine callW.mk [] 1 _ _ _ (in_c _ _ _) rfl rfl trivial nofun ?_
  refine twoN (fun _ => ?_) (fun _ => ?_)
  rotate_left
  refine Z ?_
  refine And.intro (Nat.le_of_ble_eq_true rfl) ?_
  refine Z ?_
  refine callW.mk [] 1 _ _ _ (l9Sensors_c _ _ _ (by first | omega | assumption | (simp; omega) | (simp; done))) rfl rfl trivial nofun ?_
  refine twoP.mk (fun _ => ?_) (fun _ => ?_)
  refine Z ?_
  refine And.intro (Nat.le_of_ble_eq_true rfl) ?_
  refine Z ?_
  refine callW.mk [] 1 _ _ _ (l7Carriers_c _ _ _ (by first | omega | assumption | (simp; omega) | (simp; done))) rfl rfl trivial nofun ?_
  iterate 2 rotate_left
  · rename_i q1
    refine dv0 rfl ?_
    exact fun h => h.1.2 q1
  · rename_i q1 q2
    refine dv0 rfl ?_
    exact fun h => q2 ⟨h.1.1, h.2.1⟩
  · rename_i q1 q2 q3
    refine dv0 rfl ?_
    exact fun h => q3 h.2.2.2.2
  · rename_i q1 q2 q3 q4
    refine dv0 rfl ?_
    exact ⟨fun h => ⟨q4.1, q2.2, q4.2, h.2, q3⟩, fun h => ⟨h.1, h.2.2.2.1⟩⟩
  · rename_i q1 q2 q3 q4
    refine dv0 rfl ?_
    exact fun h => q4 ⟨h.1, h.2.2.1⟩
theorem sIsYard_c (y : Yd) (hy : fitY 1099511627776 y) : C 47 [yv y] [] (pr (good y)) [] false := by
  refine mkC false false Try.func47 rfl ?_
  refine And.intro nofun ?_
  refine Z ?_
  refine callW.mk [] 1 _ _ _ (l12Good_c _ (by first | omega | assumption | (simp; omega) | (simp; done))) rfl rfl trivial nofun ?_
  rotate_left
  refine dv0 rfl ?_
  exact Iff.rfl
theorem IsYard_c (y : Yd) (hy : fitY 1099511627776 y) : C 57 [yv y] [] (pr (good y)) [] false := by
  have h1 := hy.1
  have h2 := hy.2.1
  have h3 := hy.2.2
  refine mkC false false Try.func57 rfl ?_
  refine And.intro nofun ?_
  by_cases hl : lineP y.n y.b
  · have hr := hl.1
    iterate 2 refine Z ?_
    refine And.intro (Nat.le_of_ble_eq_true rfl) ?_
    refine callW.mk [] 1 _ _ _ (isLine_c _ _) rfl rfl trivial nofun ?_
    refine tY (by first | omega | assumption | exact rfl | exact Iff.rfl) ?_
    refine Z ?_
    refine And.intro (Nat.le_of_ble_eq_true rfl) ?_
    refine Z ?_
    refine callW.mk [] 1 _ _ _ (isWalk_c _ _ (by first | omega | assumption | (simp; omega) | (simp; done)) _ (by first | omega | assumption | (simp; omega) | (simp; done))) rfl rfl trivial nofun ?_
    refine twoP.mk (fun _ => ?_) (fun _ => ?_)
    refine Z ?_
    refine And.intro (Nat.le_of_ble_eq_true rfl) ?_
    refine Z ?_
    refine callW.mk [] 1 _ _ _ (areSensors_c _ _ (by first | omega | assumption | (simp; omega) | (simp; done)) _ (by first | omega | assumption | (simp; omega) | (simp; done))) rfl rfl trivial nofun ?_
    refine twoP.mk (fun _ => ?_) (fun _ => ?_)
    refine Z ?_
    refine And.intro (Nat.le_of_ble_eq_true rfl) ?_
    refine Z ?_
    refine callW.mk [] 1 _ _ _ (areCarriers_c _ _ (by first | omega | assumption | (simp; omega) | (simp; done)) _ (by first | omega | assumption | (simp; omega) | (simp; done))) rfl rfl trivial nofun ?_
    refine twoP.mk (fun _ => ?_) (fun _ => ?_)
    refine Z ?_
    refine callW.mk [] 1 _ _ _ (within_c _ _ _) rfl rfl trivial nofun ?_
    iterate 4 rotate_left
    · rename_i q2 q3 q4
      refine dv0 rfl ?_
      exact ⟨fun h => ⟨hl, q2, q3, q4, h⟩, fun h => h.2.2.2.2⟩
    · rename_i q2 q3 q4
      refine dv0 rfl ?_
      exact fun h => q4 h.2.2.2.1
    · rename_i q2 q3
      refine dv0 rfl ?_
      exact fun h => q3 h.2.2.1
    · rename_i q2
      refine dv0 rfl ?_
      exact fun h => q2 h.2.1
  · iterate 2 refine Z ?_
    refine And.intro (Nat.le_of_ble_eq_true rfl) ?_
    refine callW.mk [] 1 _ _ _ (isLine_c _ _) rfl rfl trivial nofun ?_
    refine tN (by first | omega | assumption | exact fun h => h (by assumption) | exact fun h => h rfl | exact fun h => h Iff.rfl) ?_
    rotate_left
    refine dv0 rfl ?_
    exact fun h => hl h.1
theorem szSensorS_c (l : List (Int × Int)) (hl : l.length ≤ 9223372036854775807) (k : Int) (h0 : 0 ≤ k) (hk : k ≤ 1048576) : C 113 [sens l, i64 k] [] (i64 (if k - l.length < 0 then -1 else k - l.length)) [] false := by
  refine mkC false false Try.func113 rfl ?_
  refine And.intro nofun ?_
  refine lm ?_
  refine nw (by omega) (by omega) ?_
  refine twoP.mk (fun _ => ?_) (fun _ => ?_)
  iterate 2 rotate_left
  · rename_i h
    refine dv0 rfl ?_
    exact ⟨rfl, by rw [if_pos h]⟩
  · rename_i h
    refine dv0 rfl ?_
    exact ⟨rfl, by rw [if_neg h]⟩
theorem szCarrierS_c (l : List (Int × Int × Int)) (hl : l.length ≤ 9223372036854775807) (k : Int) (h0 : 0 ≤ k) (hk : k ≤ 1048576) : C 114 [cars l, i64 k] [] (i64 (if k - l.length < 0 then -1 else k - l.length)) [] false := by
  refine mkC false false Try.func114 rfl ?_
  refine And.intro nofun ?_
  refine lm ?_
  refine nw (by omega) (by omega) ?_
  refine twoP.mk (fun _ => ?_) (fun _ => ?_)
  iterate 2 rotate_left
  · rename_i h
    refine dv0 rfl ?_
    exact ⟨rfl, by rw [if_pos h]⟩
  · rename_i h
    refine dv0 rfl ?_
    exact ⟨rfl, by rw [if_neg h]⟩
theorem szYard_c (y : Yd) (hy : fitY 9223372036854775807 y) : C 23 [yv y, i64 1048576] [] (i64 (szY y 1048576)) [] false := by
  have h1 := hy.1
  have h2 := hy.2.1
  have h3 := hy.2.2
  refine mkC false false Try.func23 rfl ?_
  refine And.intro nofun ?_
  iterate 2 refine Z ?_
  refine callW.mk [] 1 _ _ _ (szIntS_c _ (by first | omega | assumption | (simp; omega) | (simp; done)) _ (by first | omega | assumption | (simp; omega) | (simp; done)) (by first | omega | assumption | (simp; omega) | (simp; done))) rfl rfl trivial nofun ?_
  refine twoP.mk (fun _ => ?_) (fun _ => ?_)
  rotate_left
  refine Z ?_
  refine callW.mk [] 1 _ _ _ (szSensorS_c _ (by first | omega | assumption | (simp; omega) | (simp; done)) _ (by first | omega | assumption | (simp; omega) | (simp; done)) (by first | omega | assumption | (simp; omega) | (simp; done))) rfl rfl trivial nofun ?_
  refine twoP.mk (fun _ => ?_) (fun _ => ?_)
  rotate_left
  refine Z ?_
  refine callW.mk [] 1 _ _ _ (szCarrierS_c _ (by first | omega | assumption | (simp; omega) | (simp; done)) _ (by first | omega | assumption | (simp; omega) | (simp; done)) (by first | omega | assumption | (simp; omega) | (simp; done))) rfl rfl trivial nofun ?_
  refine twoP.mk (fun _ => ?_) (fun _ => ?_)
  iterate 2 rotate_left
  all_goals
    refine dv0 rfl ?_
    exact ⟨rfl, by unfold szY; omega⟩
theorem toSensor_c (x y : Int) : C 215 [.agg [i64 x, i64 y]] [] (.agg [i64 x, i64 y]) [] false := by
  refine mkC false false Try.func215 rfl ?_
  refine And.intro nofun ?_
  iterate 19 refine Z ?_
  rotate_left
  refine dv0 rfl ?_
  exact ⟨⟨rfl, rfl⟩, ⟨rfl, rfl⟩, trivial⟩
theorem toCarrier_c (x y z : Int) : C 216 [.agg [i64 x, i64 y, i64 z]] [] (.agg [i64 x, i64 y, i64 z]) [] false := by
  refine mkC false false Try.func216 rfl ?_
  refine And.intro nofun ?_
  iterate 25 refine Z ?_
  rotate_left
  refine dv0 rfl ?_
  exact ⟨⟨rfl, rfl⟩, ⟨rfl, rfl⟩, ⟨rfl, rfl⟩, trivial⟩
theorem toSensorS_c (l : List (Int × Int)) (hl : l.length ≤ 1099511627776) : C 117 [sens l] [] (.loc 0) [rowS l] false := by
  refine mkC false false Try.func117 rfl ?_
  refine And.intro nofun ?_
  refine lm ?_
  iterate 2 refine Z ?_
  refine jk (by omega) ?_
  refine ixb (by omega) (by omega) ?_
  iterate 2 refine Z ?_
  refine er ?_
  rotate_left
  refine loop_up (β := Nat) (fun k => [(4, i64 k)]) (fun k => [(0, rowS (l.take k ++ (List.replicate l.length (0, 0)).drop k))]) [] (fun k => k ≤ l.length) (fun k => l.length - k) (0) ?_ ?_ ?_
  · omega
  · refine weak.mk [] [0] rfl rfl ?_ ?_
    repeat' first | exact trivial | exact rfl | exact Iff.rfl | assumption | refine And.intro ?_ ?_
    simp [sen, i64, ofVal, ofVal1]
    exact .inr rfl
  · rintro k hk R hR
    have hm : (l.take k ++ (List.replicate l.length ((0, 0) : Int × Int)).drop k).length = l.length := by simp; omega
    refine lm ?_
    refine twoP.mk (fun _ => ?_) (fun _ => ?_)
    iterate 2 refine Z ?_
    refine jkm (by omega) ?_
    refine gm (by omega) ?_
    refine callW.mk [] 1 _ _ _ (toSensor_c _ _) rfl rfl trivial nofun ?_
    iterate 2 refine Z ?_
    refine jkm (by omega) ?_
    iterate 2 refine Z ?_
    refine gm (by omega) ?_
    refine Z ?_
    refine eset' ?_
    refine nw (by omega) (by omega) ?_
    iterate 2 rotate_left
    · rename_i h1
      refine hR (k + 1) _ _ ?_ (weak.mk [] [0] rfl rfl ?_ ?_)
      repeat' first | exact trivial | exact rfl | exact Iff.rfl | assumption | refine And.intro ?_ ?_
      · exact ⟨by omega, by omega⟩
      · exact map_congr (by rw [set_at (take_len hk) (by simp; omega), take_snoc (by omega)])
    · rename_i h1
      refine doneV.mk [] [0] rfl rfl ?_ ?_ ?_
      repeat' first | exact trivial | exact rfl | exact Iff.rfl | assumption | exact pureI | refine And.intro ?_ ?_
      · rw [take_all h1, List.drop_of_length_le (by simp; omega), List.append_nil]
      · exact pureSen
theorem toCarrierS_c (l : List (Int × Int × Int)) (hl : l.length ≤ 1099511627776) : C 118 [cars l] [] (.loc 0) [rowK l] false := by
  refine mkC false false Try.func118 rfl ?_
  refine And.intro nofun ?_
  refine lm ?_
  iterate 2 refine Z ?_
  refine jk (by omega) ?_
  refine ixb (by omega) (by omega) ?_
  iterate 2 refine Z ?_
  refine er ?_
  rotate_left
  refine loop_up (β := Nat) (fun k => [(4, i64 k)]) (fun k => [(0, rowK (l.take k ++ (List.replicate l.length (0, 0, 0)).drop k))]) [] (fun k => k ≤ l.length) (fun k => l.length - k) (0) ?_ ?_ ?_
  · omega
  · refine weak.mk [] [0] rfl rfl ?_ ?_
    repeat' first | exact trivial | exact rfl | exact Iff.rfl | assumption | refine And.intro ?_ ?_
    simp [car, i64, ofVal, ofVal1]
    exact .inr rfl
  · rintro k hk R hR
    have hm : (l.take k ++ (List.replicate l.length ((0, 0, 0) : Int × Int × Int)).drop k).length = l.length := by simp; omega
    refine lm ?_
    refine twoP.mk (fun _ => ?_) (fun _ => ?_)
    iterate 2 refine Z ?_
    refine jkm (by omega) ?_
    refine gm (by omega) ?_
    refine callW.mk [] 1 _ _ _ (toCarrier_c _ _ _) rfl rfl trivial nofun ?_
    iterate 2 refine Z ?_
    refine jkm (by omega) ?_
    iterate 2 refine Z ?_
    refine gm (by omega) ?_
    refine Z ?_
    refine eset' ?_
    refine nw (by omega) (by omega) ?_
    iterate 2 rotate_left
    · rename_i h1
      refine hR (k + 1) _ _ ?_ (weak.mk [] [0] rfl rfl ?_ ?_)
      repeat' first | exact trivial | exact rfl | exact Iff.rfl | assumption | refine And.intro ?_ ?_
      · exact ⟨by omega, by omega⟩
      · exact map_congr (by rw [set_at (take_len hk) (by simp; omega), take_snoc (by omega)])
    · rename_i h1
      refine doneV.mk [] [0] rfl rfl ?_ ?_ ?_
      repeat' first | exact trivial | exact rfl | exact Iff.rfl | assumption | exact pureI | refine And.intro ?_ ?_
      · rw [take_all h1, List.drop_of_length_le (by simp; omega), List.append_nil]
      · exact pureCar
theorem toYard_c (y : Yd) (hy : fitY 1099511627776 y) : C 25 [yv y] [] (.agg [i64 y.n, bv y.b, .loc 0, .loc 1, .loc 2, i64 y.c]) [row y.w, rowS y.S, rowK y.K] false := by
  have h1 := hy.1
  have h2 := hy.2.1
  have h3 := hy.2.2
  refine mkC false false Try.func25 rfl ?_
  refine And.intro nofun ?_
  iterate 4 refine Z ?_
  refine And.intro (Nat.le_of_ble_eq_true rfl) ?_
  refine callW.mk [] 3 _ _ _ (toRoad_c _ _) rfl rfl trivial nofun ?_
  iterate 6 refine Z ?_
  refine callW.mk [] 3 _ _ _ (toIntS_c _ (by first | omega | assumption | (simp; omega) | (simp; done))) rfl rfl trivial nofun ?_
  iterate 6 refine Z ?_
  refine callW.mk [] 4 _ _ _ (toSensorS_c _ (by first | omega | assumption | (simp; omega) | (simp; done))) rfl rfl trivial nofun ?_
  iterate 6 refine Z ?_
  refine callW.mk [] 5 _ _ _ (toCarrierS_c _ (by first | omega | assumption | (simp; omega) | (simp; done))) rfl rfl trivial nofun ?_
  iterate 15 refine Z ?_
  rotate_left
  refine doneV.mk [] [3, 4, 5] rfl rfl ?_ ?_ ?_
  repeat' first | exact trivial | exact rfl | exact Iff.rfl | assumption | exact pureI | refine And.intro ?_ ?_
  · exact pureSen
  · exact pureCar
theorem eqRoad_c (n : Int) (b : Bool) (m : Int) (d : Bool) : C 122 [rd n b, rd m d] [] (pr (n = m ∧ b = d)) [] false := by
  refine mkC false false Try.func122 rfl ?_
  refine And.intro nofun ?_
  iterate 4 refine Z ?_
  refine twoN (fun _ => ?_) (fun _ => ?_)
  rotate_left
  iterate 2 refine Z ?_
  refine twoN (fun _ => ?_) (fun _ => ?_)
  iterate 2 rotate_left
  · rename_i h1
    refine dv0 rfl ?_
    exact fun h => h1 h.1
  · rename_i h1 h2
    refine dv0 rfl ?_
    exact fun h => h2 (by rw [h.2])
  · rename_i h1 h2
    refine dv0 rfl ?_
    exact (show n = m ∧ b = d from ⟨h1, Bool.eq_iff_iff.2 h2⟩)
theorem eqSensor_c (x y : Int × Int) : C 217 [sen x, sen y] [] (pr (x = y)) [] false := by
  refine mkC false false Try.func217 rfl ?_
  refine And.intro nofun ?_
  iterate 4 refine Z ?_
  refine twoN (fun _ => ?_) (fun _ => ?_)
  rotate_left
  iterate 2 refine Z ?_
  refine twoN (fun _ => ?_) (fun _ => ?_)
  iterate 2 rotate_left
  · rename_i h1
    refine dv0 rfl ?_
    exact fun h => h1 (by rw [h])
  · rename_i h1 h2
    refine dv0 rfl ?_
    exact fun h => h2 (by rw [h])
  · rename_i h1 h2
    refine dv0 rfl ?_
    exact Prod.ext h1 h2
theorem eqCarrier_c (x y : Int × Int × Int) : C 218 [car x, car y] [] (pr (x = y)) [] false := by
  refine mkC false false Try.func218 rfl ?_
  refine And.intro nofun ?_
  iterate 4 refine Z ?_
  refine twoN (fun _ => ?_) (fun _ => ?_)
  rotate_left
  iterate 2 refine Z ?_
  refine twoN (fun _ => ?_) (fun _ => ?_)
  rotate_left
  iterate 2 refine Z ?_
  refine twoN (fun _ => ?_) (fun _ => ?_)
  iterate 2 rotate_left
  · rename_i h1
    refine dv0 rfl ?_
    exact fun h => h1 (by rw [h])
  · rename_i h1 h2
    refine dv0 rfl ?_
    exact fun h => h2 (by rw [h])
  · rename_i h1 h2 h3
    refine dv0 rfl ?_
    exact fun h => h3 (by rw [h])
  · rename_i h1 h2 h3
    refine dv0 rfl ?_
    exact Prod.ext h1 (Prod.ext h2 h3)
theorem eqSensorS_c (a b : List (Int × Int)) (hl : a.length ≤ 1099511627776) (hb : b.length ≤ 1099511627776) : C 123 [sens a, sens b] [] (pr (a = b)) [] false := by
  refine mkC false false Try.func123 rfl ?_
  refine And.intro nofun ?_
  iterate 2 refine lm ?_
  refine twoN (fun _ => ?_) (fun _ => ?_)
  iterate 2 rotate_left
  · rename_i h1
    refine dv0 rfl ?_
    exact fun h => h1 (by rw [h])
  · rename_i h1
    refine loop_up (β := Nat) (fun k => [(5, i64 k), (4, .unk)]) (fun k => []) [] (fun k => k ≤ a.length ∧ a.take k = b.take k) (fun k => a.length - k) (0) ?_ ?_ ?_
    · simp
    · refine weak.mk [] [] rfl rfl ?_ ?_
      repeat' first | exact trivial | exact rfl | exact Iff.rfl | assumption | refine And.intro ?_ ?_
    · rintro k ⟨hk, hi⟩ R hR
      by_cases hkl : k < a.length
      · refine lm ?_
        refine tY (by first | omega | assumption | exact rfl | exact Iff.rfl) ?_
        refine drawP.mk 10 (Z (Z (Z (Z ?_))))
        apply exP.mk
        exact rfl
        apply exP.mk
        exact rfl
        apply exP.mk
        iterate 2 refine Z ?_
        refine jkm (by omega) ?_
        exact rfl
        apply exP.mk
        refine gm (by omega) ?_
        exact rfl
        apply exP.mk
        exact rfl
        apply exP.mk
        exact rfl
        apply exP.mk
        iterate 2 refine Z ?_
        refine jkm (by omega) ?_
        exact rfl
        apply exP.mk
        refine gm (by omega) ?_
        exact rfl
        apply exP.mk
        refine callP.mk _ _ _ ((eqSensor_c a[k] (b[k]'(by omega)))) (by repeat' first | exact trivial | assumption | exact knownSS | exact knownApp knownSS knownNil | refine And.intro ?_ ?_) nofun trivial ?_
        exact rfl
        apply exP.mk
        exact rfl
        refine twoN (fun _ => ?_) (fun _ => ?_)
        rotate_left
        refine nw (by omega) (by omega) ?_
        rotate_left
        · rename_i h3
          refine dv0 rfl ?_
          exact fun h => h3 (by subst h; rfl)
        · rename_i h3
          refine hR (k + 1) _ _ ?_ (weak.mk [] [] rfl rfl ?_ ?_)
          repeat' first | exact trivial | exact rfl | exact Iff.rfl | assumption | refine And.intro ?_ ?_
          exact ⟨⟨by omega, (eq_take (by omega) (by omega)).2 ⟨hi, h3⟩⟩, by omega⟩
      · refine lm ?_
        refine tN (by first | omega | assumption | exact fun h => h (by assumption) | exact fun h => h rfl | exact fun h => h Iff.rfl) ?_
        rotate_left
        rw [List.take_of_length_le (by omega), List.take_of_length_le (by omega)] at hi
        refine dv0 rfl ?_
        exact hi
theorem eqCarrierS_c (a b : List (Int × Int × Int)) (hl : a.length ≤ 1099511627776) (hb : b.length ≤ 1099511627776) : C 124 [cars a, cars b] [] (pr (a = b)) [] false := by
  refine mkC false false Try.func124 rfl ?_
  refine And.intro nofun ?_
  iterate 2 refine lm ?_
  refine twoN (fun _ => ?_) (fun _ => ?_)
  iterate 2 rotate_left
  · rename_i h1
    refine dv0 rfl ?_
    exact fun h => h1 (by rw [h])
  · rename_i h1
    refine loop_up (β := Nat) (fun k => [(5, i64 k), (4, .unk)]) (fun k => []) [] (fun k => k ≤ a.length ∧ a.take k = b.take k) (fun k => a.length - k) (0) ?_ ?_ ?_
    · simp
    · refine weak.mk [] [] rfl rfl ?_ ?_
      repeat' first | exact trivial | exact rfl | exact Iff.rfl | assumption | refine And.intro ?_ ?_
    · rintro k ⟨hk, hi⟩ R hR
      by_cases hkl : k < a.length
      · refine lm ?_
        refine tY (by first | omega | assumption | exact rfl | exact Iff.rfl) ?_
        refine drawP.mk 10 (Z (Z (Z (Z ?_))))
        apply exP.mk
        exact rfl
        apply exP.mk
        exact rfl
        apply exP.mk
        iterate 2 refine Z ?_
        refine jkm (by omega) ?_
        exact rfl
        apply exP.mk
        refine gm (by omega) ?_
        exact rfl
        apply exP.mk
        exact rfl
        apply exP.mk
        exact rfl
        apply exP.mk
        iterate 2 refine Z ?_
        refine jkm (by omega) ?_
        exact rfl
        apply exP.mk
        refine gm (by omega) ?_
        exact rfl
        apply exP.mk
        refine callP.mk _ _ _ ((eqCarrier_c a[k] (b[k]'(by omega)))) (by repeat' first | exact trivial | assumption | exact knownSS | exact knownApp knownSS knownNil | refine And.intro ?_ ?_) nofun trivial ?_
        exact rfl
        apply exP.mk
        exact rfl
        refine twoN (fun _ => ?_) (fun _ => ?_)
        rotate_left
        refine nw (by omega) (by omega) ?_
        rotate_left
        · rename_i h3
          refine dv0 rfl ?_
          exact fun h => h3 (by subst h; rfl)
        · rename_i h3
          refine hR (k + 1) _ _ ?_ (weak.mk [] [] rfl rfl ?_ ?_)
          repeat' first | exact trivial | exact rfl | exact Iff.rfl | assumption | refine And.intro ?_ ?_
          exact ⟨⟨by omega, (eq_take (by omega) (by omega)).2 ⟨hi, h3⟩⟩, by omega⟩
      · refine lm ?_
        refine tN (by first | omega | assumption | exact fun h => h (by assumption) | exact fun h => h rfl | exact fun h => h Iff.rfl) ?_
        rotate_left
        rw [List.take_of_length_le (by omega), List.take_of_length_le (by omega)] at hi
        refine dv0 rfl ?_
        exact hi
theorem eqYard_c (y z : Yd) (hy : fitY 1099511627776 y) (hz : fitY 1099511627776 z) : C 27 [yv y, yv z] [] (pr (y = z)) [] false := by
  have h1 := hy.1
  have h2 := hy.2.1
  have h3 := hy.2.2
  have h4 := hz.1
  have h5 := hz.2.1
  have h6 := hz.2.2
  refine mkC false false Try.func27 rfl ?_
  refine And.intro nofun ?_
  iterate 3 refine Z ?_
  refine And.intro (Nat.le_of_ble_eq_true rfl) ?_
  refine Z ?_
  refine And.intro (Nat.le_of_ble_eq_true rfl) ?_
  refine callW.mk [] 2 _ _ _ (eqRoad_c _ _ _ _) rfl rfl trivial nofun ?_
  refine twoN (fun _ => ?_) (fun _ => ?_)
  rotate_left
  iterate 2 refine Z ?_
  refine callW.mk [] 2 _ _ _ (eqIntS_c _ _ (by first | omega | assumption | (simp; omega) | (simp; done)) (by first | omega | assumption | (simp; omega) | (simp; done))) rfl rfl trivial nofun ?_
  refine twoN (fun _ => ?_) (fun _ => ?_)
  rotate_left
  iterate 2 refine Z ?_
  refine callW.mk [] 2 _ _ _ (eqSensorS_c _ _ (by first | omega | assumption | (simp; omega) | (simp; done)) (by first | omega | assumption | (simp; omega) | (simp; done))) rfl rfl trivial nofun ?_
  refine twoN (fun _ => ?_) (fun _ => ?_)
  rotate_left
  iterate 2 refine Z ?_
  refine callW.mk [] 2 _ _ _ (eqCarrierS_c _ _ (by first | omega | assumption | (simp; omega) | (simp; done)) (by first | omega | assumption | (simp; omega) | (simp; done))) rfl rfl trivial nofun ?_
  refine twoN (fun _ => ?_) (fun _ => ?_)
  rotate_left
  iterate 2 refine Z ?_
  refine twoN (fun _ => ?_) (fun _ => ?_)
  iterate 2 rotate_left
  · rename_i q1
    refine dv0 rfl ?_
    exact fun h => q1 (by rw [h]; exact ⟨rfl, rfl⟩)
  · rename_i q1 q2
    refine dv0 rfl ?_
    exact fun h => q2 (by rw [h])
  · rename_i q1 q2 q3
    refine dv0 rfl ?_
    exact fun h => q3 (by rw [h])
  · rename_i q1 q2 q3 q4
    refine dv0 rfl ?_
    exact fun h => q4 (by rw [h])
  · rename_i q1 q2 q3 q4 q5
    refine dv0 rfl ?_
    exact fun h => q5 (by rw [h])
  · rename_i q1 q2 q3 q4 q5
    refine dv0 rfl ?_
    exact Yd.ext' q1 q2 q3 q4 q5
end Sx
