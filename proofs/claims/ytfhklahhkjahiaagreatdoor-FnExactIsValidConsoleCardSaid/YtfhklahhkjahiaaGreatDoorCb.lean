/- Contracts: gaps, walks, chasers. -/
import Derived.Test.YtfhklahhkjahiaaGreatDoorMxB
import Derived.Test.YtfhklahhkjahiaaGreatDoorCa
set_option linter.all false
namespace Sx
open Go Go.Proofs
set_option maxRecDepth 100000
set_option maxHeartbeats 4000000
set_option linter.unusedSimpArgs false
set_option linter.unusedSectionVars false
variable [Glb]
theorem most_c (a b : Int) : C 60 [i64 a, i64 b] [] (i64 (max a b)) [] false := by
  refine mkC false false Tryz.func60 rfl ?_
  refine And.intro nofun ?_
  refine twoP.mk (fun _ => ?_) (fun _ => ?_)
  iterate 2 rotate_left
  all_goals
    refine dv0 rfl ?_
    exact ⟨rfl, by omega⟩
theorem least_c (a b : Int) : C 61 [i64 a, i64 b] [] (i64 (min a b)) [] false := by
  refine mkC false false Tryz.func61 rfl ?_
  refine And.intro nofun ?_
  refine twoP.mk (fun _ => ?_) (fun _ => ?_)
  iterate 2 rotate_left
  all_goals
    refine dv0 rfl ?_
    exact ⟨rfl, by omega⟩
theorem gap_c (n : Int) (b : Bool) (x y : Int) (hn : 0 ≤ n ∧ n ≤ 1099511627776) (hx : -1099511627776 ≤ x ∧ x ≤ 1099511627776) (hy : -1099511627776 ≤ y ∧ y ≤ 1099511627776) : C 53 [rd n b, i64 x, i64 y] [] (i64 (gap n b x y)) [] false := by
  refine mkC false false Tryz.func53 rfl ?_
  refine And.intro nofun ?_
  refine Z ?_
  iterate 2 refine nw (by omega) (by omega) ?_
  refine nr ?_
  refine Z ?_
  refine twoP.mk (fun _ => ?_) (fun _ => ?_)
  refine Z ?_
  refine nw (by omega) (by omega) ?_
  refine nr ?_
  iterate 2 rotate_left
  · rename_i h
    refine dv0 rfl ?_
    exact ⟨rfl, by unfold gap; rw [if_pos h]⟩
  · rename_i h
    refine dv0 rfl ?_
    exact ⟨rfl, by unfold gap; rw [if_neg h]⟩
theorem l2Gap_c (n : Int) (b : Bool) (x y : Int) (hn : 0 ≤ n ∧ n ≤ 1099511627776) (hx : -1099511627776 ≤ x ∧ x ≤ 1099511627776) (hy : -1099511627776 ≤ y ∧ y ≤ 1099511627776) : C 43 [rd n b, i64 x, i64 y] [] (i64 (gap n b x y)) [] false := by
  refine mkC false false Tryz.func43 rfl ?_
  refine And.intro nofun ?_
  refine Z ?_
  iterate 2 refine nw (by omega) (by omega) ?_
  refine callW.mk [] 1 _ _ _ (most_c _ _) rfl rfl trivial nofun ?_
  refine Z ?_
  refine twoP.mk (fun _ => ?_) (fun _ => ?_)
  refine Z ?_
  refine nw (by omega) (by omega) ?_
  refine callW.mk [] 1 _ _ _ (least_c _ _) rfl rfl trivial nofun ?_
  iterate 2 rotate_left
  · rename_i h
    refine dv0 rfl ?_
    exact ⟨rfl, by unfold gap; rw [if_pos h]⟩
  · rename_i h
    refine dv0 rfl ?_
    exact ⟨rfl, by unfold gap; rw [if_neg h]⟩
theorem isWalk_c (n : Int) (b : Bool) (hr : road n b) (w : List Int) (hw : w.length ≤ 1099511627776) : C 32 [rd n b, ints w] [] (pr (walk n b w)) [] false := by
  refine mkC false false Tryz.func32 rfl ?_
  refine And.intro nofun ?_
  refine Z ?_
  refine lm ?_
  refine callW.mk [] 1 _ _ _ (within_c _ _ _) rfl rfl trivial nofun ?_
  refine twoN (fun _ => ?_) (fun _ => ?_)
  rotate_left
  refine callW.mk [] 1 _ _ _ (has_c _ _ (by first | omega | assumption | (simp; omega) | (simp; done)) _ (by first | omega | assumption | (simp; omega) | (simp; done))) rfl rfl trivial nofun ?_
  refine twoN (fun _ => ?_) (fun _ => ?_)
  iterate 2 rotate_left
  · rename_i h1
    refine dv0 rfl ?_
    exact fun h => h1 h.1
  · rename_i h1 h2
    refine dv0 rfl ?_
    exact fun h => h2 h.2.1
  · rename_i h1 h2
    refine loop_up (β := Nat) (fun k => [(5, i64 (k + 1)), (4, .unk)]) (fun k => []) [] (fun k => k < w.length ∧ near n b w (k + 1)) (fun k => w.length - k) (0) ?_ ?_ ?_
    · exact ⟨by omega, near_1 n b w⟩
    · refine weak.mk [] [0] rfl rfl ?_ ?_
      repeat' first | exact trivial | exact rfl | exact Iff.rfl | assumption | refine And.intro ?_ ?_
    · rintro k ⟨hk, hi⟩ R hR
      have b1 : ∀ i (h : i < w.length), 0 ≤ w[i] ∧ w[i] < n := fun i h => h2 _ (List.getElem_mem h)
      have b2 := b1 k hk
      by_cases hk1 : k + 1 < w.length
      · have b3 := b1 (k + 1) hk1
        refine lm ?_
        refine tY (by first | omega | assumption | exact rfl | exact Iff.rfl) ?_
        refine drawP.mk 12 (Z (Z (Z (Z ?_))))
        apply exP.mk
        exact rfl
        apply exP.mk
        exact rfl
        apply exP.mk
        exact rfl
        apply exP.mk
        refine nw (by omega) (by omega) ?_
        exact rfl
        apply exP.mk
        iterate 2 refine Z ?_
        refine jqm (by omega) ?_
        exact rfl
        apply exP.mk
        refine gm (by omega) ?_
        exact rfl
        apply exP.mk
        exact rfl
        apply exP.mk
        exact rfl
        apply exP.mk
        iterate 2 refine Z ?_
        refine jpm (by omega) ?_
        exact rfl
        apply exP.mk
        refine gm (by omega) ?_
        exact rfl
        apply exP.mk
        refine callP.mk _ _ _ (gap_c _ _ _ _ (by first | omega | assumption | (simp; omega) | (simp; done) | exact h2 _ (List.getElem_mem _)) (by first | omega | assumption | (simp; omega) | (simp; done) | exact h2 _ (List.getElem_mem _)) (by first | omega | assumption | (simp; omega) | (simp; done) | exact h2 _ (List.getElem_mem _))) trivial nofun trivial ?_
        exact rfl
        apply exP.mk
        exact rfl
        refine twoP.mk (fun _ => ?_) (fun _ => ?_)
        rotate_left
        refine nw (by omega) (by omega) ?_
        rotate_left
        · rename_i h3
          refine dv0 rfl ?_
          exact fun h => Int.not_le.2 h3 (h.2.2 k hk1 hk1)
        · rename_i h3
          refine hR (k + 1) _ _ ?_ (weak.mk [] [0] rfl rfl ?_ ?_)
          repeat' first | exact trivial | exact rfl | exact Iff.rfl | assumption | refine And.intro ?_ ?_
          exact ⟨⟨hk1, near_succ hi hk1 (Int.not_lt.1 h3)⟩, by omega⟩
      · refine lm ?_
        refine tN (by first | omega | assumption | exact fun h => h (by assumption) | exact fun h => h rfl | exact fun h => h Iff.rfl) ?_
        rotate_left
        refine dv0 rfl ?_
        exact ⟨h1, h2, near_le hi (by omega)⟩
theorem l2Walk_c (n : Int) (b : Bool) (w : List Int) (hw : w.length ≤ 1099511627776) : C 22 [rd n b, ints w] [] (pr (road n b ∧ walk n b w)) [] false := by
  refine mkC false false Tryz.func22 rfl ?_
  refine And.intro nofun ?_
  refine Z ?_
  rotate_left
  refine loop_up (β := Nat) (fun k => [(5, i64 k), (4, .unk)]) (fun k => []) [] (fun k => k ≤ w.length ∧ (∀ x ∈ w.take k, road n b ∧ 0 ≤ x ∧ x < n) ∧ near n b w k) (fun k => w.length - k) (0) ?_ ?_ ?_
  · exact ⟨by omega, by simp, near_0 n b w⟩
  · refine weak.mk [] [0] rfl rfl ?_ ?_
    repeat' first | exact trivial | exact rfl | exact Iff.rfl | assumption | refine And.intro ?_ ?_
  · rintro k ⟨hk, hx, hi⟩ R hR
    by_cases hk1 : 0 < k
    · have b3 : 0 ≤ w[k - 1]'(by omega) ∧ w[k - 1]'(by omega) < n := (hx _ (by rw [List.mem_take_iff_getElem]; exact ⟨k - 1, by omega, rfl⟩)).2
      refine lm ?_
      iterate 2 refine twoP.mk (fun _ => ?_) (fun _ => ?_)
      refine drawP.mk 25 (Z (Z (Z (Z ?_))))
      apply exP.mk
      exact rfl
      apply exP.mk
      exact rfl
      apply exP.mk
      exact rfl
      apply exP.mk
      iterate 2 refine Z ?_
      refine jkm (by omega) ?_
      exact rfl
      apply exP.mk
      refine gm (by omega) ?_
      exact rfl
      apply exP.mk
      refine callP.mk _ _ _ (l2Place_c _ _ _) trivial nofun trivial ?_
      exact rfl
      apply exP.mk
      exact rfl
      apply exP.mk
      exact rfl
      refine twoN (fun _ => ?_) (fun _ => ?_)
      rotate_left
      apply exP.mk
      exact rfl
      apply exP.mk
      exact rfl
      apply exP.mk
      exact rfl
      refine tY (by first | omega | assumption | exact rfl | exact Iff.rfl) ?_
      apply exP.mk
      exact rfl
      apply exP.mk
      exact rfl
      apply exP.mk
      exact rfl
      apply exP.mk
      refine nw (by omega) (by omega) ?_
      exact rfl
      apply exP.mk
      iterate 2 refine Z ?_
      refine jmm (by omega) (by omega) ?_
      exact rfl
      apply exP.mk
      refine gm (by omega) ?_
      exact rfl
      apply exP.mk
      exact rfl
      apply exP.mk
      exact rfl
      apply exP.mk
      iterate 2 refine Z ?_
      refine jkm (by omega) ?_
      exact rfl
      apply exP.mk
      refine gm (by omega) ?_
      exact rfl
      apply exP.mk
      refine callP.mk _ _ _ (l2Gap_c _ _ _ _ (by first | omega | assumption | (simp; omega) | (simp; done) | exact hx _ (List.getElem_mem _)) (by first | omega | assumption | (simp; omega) | (simp; done) | exact hx _ (List.getElem_mem _)) (by first | omega | assumption | (simp; omega) | (simp; done) | exact hx _ (List.getElem_mem _))) trivial nofun trivial ?_
      exact rfl
      apply exP.mk
      exact rfl
      refine twoP.mk (fun _ => ?_) (fun _ => ?_)
      rotate_left
      refine nw (by omega) (by omega) ?_
      rotate_left
      refine callW.mk [] 1 _ _ _ (l2Road_c _ _) rfl rfl trivial nofun ?_
      refine twoP.mk (fun _ => ?_) (fun _ => ?_)
      refine lm ?_
      refine callW.mk [] 1 _ _ _ (in_c _ _ _) rfl rfl trivial nofun ?_
      iterate 2 rotate_left
      refine callW.mk [] 1 _ _ _ (l2Road_c _ _) rfl rfl trivial nofun ?_
      refine twoP.mk (fun _ => ?_) (fun _ => ?_)
      refine lm ?_
      refine callW.mk [] 1 _ _ _ (in_c _ _ _) rfl rfl trivial nofun ?_
      iterate 2 rotate_left
      · rename_i h1 h2 h3
        refine dv0 rfl ?_
        exact fun h => h3 ⟨h.1, h.2.2.1 _ (List.getElem_mem _)⟩
      · rename_i h1 h2 h3 h4
        refine dv0 rfl ?_
        exact fun h => by
          have := h.2.2.2 (k - 1) (by omega) (by omega)
          simp only [show k - 1 + 1 = k by omega] at this
          omega
      · rename_i h1 h2 h3 h4
        refine hR (k + 1) _ _ ?_ (weak.mk [] [0] rfl rfl ?_ ?_)
        repeat' first | exact trivial | exact rfl | exact Iff.rfl | assumption | refine And.intro ?_ ?_
        exact ⟨⟨by omega, (all_take (by omega)).2 ⟨hx, h3⟩, near_step hi hk1 (by omega) (by omega)⟩, by omega⟩
      · rename_i h1 h2 h3
        refine dv0 rfl ?_
        exact ⟨fun h => by omega, fun h => h.2.1⟩
      · rename_i h1 h2 h3
        refine dv0 rfl ?_
        exact fun h => h3 h.1
      · rename_i h1 h2
        rw [take_all h1] at hx
        refine dv0 rfl ?_
        exact ⟨fun h => ⟨h2, h, fun x h => (hx x h).2, near_le hi (by omega)⟩, fun h => h.2.1⟩
      · rename_i h1 h2
        refine dv0 rfl ?_
        exact fun h => h2 h.1
    · refine lm ?_
      refine twoP.mk (fun _ => ?_) (fun _ => ?_)
      refine tY (by first | omega | assumption | exact rfl | exact Iff.rfl) ?_
      refine drawP.mk 25 (Z (Z (Z (Z ?_))))
      apply exP.mk
      exact rfl
      apply exP.mk
      exact rfl
      apply exP.mk
      exact rfl
      apply exP.mk
      iterate 2 refine Z ?_
      refine jkm (by omega) ?_
      exact rfl
      apply exP.mk
      refine gm (by omega) ?_
      exact rfl
      apply exP.mk
      refine callP.mk _ _ _ (l2Place_c _ _ _) trivial nofun trivial ?_
      exact rfl
      apply exP.mk
      exact rfl
      apply exP.mk
      exact rfl
      refine twoN (fun _ => ?_) (fun _ => ?_)
      rotate_left
      apply exP.mk
      exact rfl
      apply exP.mk
      exact rfl
      apply exP.mk
      exact rfl
      refine tN (by first | omega | assumption | exact fun h => h (by assumption) | exact fun h => h rfl | exact fun h => h Iff.rfl) ?_
      refine nw (by omega) (by omega) ?_
      rotate_left
      refine callW.mk [] 1 _ _ _ (l2Road_c _ _) rfl rfl trivial nofun ?_
      refine twoP.mk (fun _ => ?_) (fun _ => ?_)
      refine lm ?_
      refine callW.mk [] 1 _ _ _ (in_c _ _ _) rfl rfl trivial nofun ?_
      iterate 2 rotate_left
      · rename_i h1 h3
        refine dv0 rfl ?_
        exact fun h => h3 ⟨h.1, h.2.2.1 _ (List.getElem_mem _)⟩
      · rename_i h1 h3
        refine hR (k + 1) _ _ ?_ (weak.mk [] [0] rfl rfl ?_ ?_)
        repeat' first | exact trivial | exact rfl | exact Iff.rfl | assumption | refine And.intro ?_ ?_
        exact ⟨⟨by omega, (all_take (by omega)).2 ⟨hx, h3⟩, by rw [show k = 0 by omega]; exact near_1 n b w⟩, by omega⟩
      · rename_i h1 h2
        refine dv0 rfl ?_
        exact ⟨fun h => by omega, fun h => by have := h.2.1; omega⟩
      · rename_i h1 h2
        refine dv0 rfl ?_
        exact fun h => h2 h.1
theorem szIntS_c (l : List Int) (hl : l.length ≤ 9223372036854775807) (k : Int) (h0 : 0 ≤ k) (hk : k ≤ 1048576) : C 19 [ints l, i64 k] [] (i64 (if k - l.length < 0 then -1 else k - l.length)) [] false := by
  refine mkC false false Tryz.func19 rfl ?_
  refine And.intro nofun ?_
  refine lm ?_
  refine nw (by omega) (by omega) ?_
  refine twoP.mk (fun _ => ?_) (fun _ => ?_)
  iterate 2 rotate_left
  · rename_i h
    refine dv0 rfl ?_
    exact ⟨rfl, by rw [if_pos h]⟩
  · rename_i h
    refine dv0 rfl ?_
    exact ⟨rfl, by rw [if_neg h]⟩
end Sx
