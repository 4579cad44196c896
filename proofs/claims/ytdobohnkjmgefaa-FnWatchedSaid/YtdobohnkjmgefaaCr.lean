/- Contracts: a job, said. -/
import Derived.Test.YtdobohnkjmgefaaCq
set_option linter.all false
namespace Sx
open Go Go.Proofs
set_option maxRecDepth 100000
set_option maxHeartbeats 4000000
set_option linter.unusedSimpArgs false
set_option linter.unusedSectionVars false
variable [Glb]
theorem mayI {p q : Prop} (h : p ↔ q) : p ↔ q := h
theorem mayN {p : Prop} (h : ¬ p) : p → False := h
theorem l12Number_c (y : Yd) (hy : fitY 1099511627776 y) (a : Int) : C 250 [yv y, i64 a] [] (pr (0 ≤ a ∧ a < (y.S.length : Int))) [] false := by
  refine mkC false false Try.func250 rfl ?_
  refine And.intro nofun ?_
  iterate 2 refine Z ?_
  refine lm ?_
  refine nw (by omega) (by omega) ?_
  refine callW.mk [] 1 _ _ _ (in_c _ _ _) rfl rfl trivial nofun ?_
  rotate_left
  refine doneV.mk [] [] rfl rfl ?_ ?_ ?_
  repeat' first | exact trivial | exact rfl | exact Iff.rfl | assumption | exact pureI | exact (show _ = _ by omega) | exact (show _ ≤ _ by omega) | exact (show _ < _ by omega) | exact (show ¬ _ by omega) | refine And.intro ?_ ?_
  exact (show _ ↔ _ from ⟨fun h => ⟨h.1, by have := h.2; omega⟩, fun h => ⟨h.1, by have := h.2; omega⟩⟩)
theorem l12May_c (y : Yd) (hy : fitY 1099511627776 y) (k a b c : Int) : C 221 [yv y, .agg [i64 k, i64 a, i64 b, i64 c]] [] (pr (may y ⟨k, a, b, c⟩)) [] false := by
  refine mkC false false Try.func221 rfl ?_
  refine And.intro nofun ?_
  iterate 3 refine Z ?_
  refine twoP.mk (fun _ => ?_) (fun _ => ?_)
  refine Z ?_
  refine callW.mk [] 2 _ _ _ (in_c _ _ _) rfl rfl trivial nofun ?_
  refine twoP.mk (fun _ => ?_) (fun _ => ?_)
  refine Z ?_
  refine twoP.mk (fun _ => ?_) (fun _ => ?_)
  refine Z ?_
  iterate 3 rotate_left
  refine twoP.mk (fun _ => ?_) (fun _ => ?_)
  refine Z ?_
  refine lm ?_
  refine twoP.mk (fun _ => ?_) (fun _ => ?_)
  refine Z ?_
  refine twoP.mk (fun _ => ?_) (fun _ => ?_)
  refine Z ?_
  refine twoP.mk (fun _ => ?_) (fun _ => ?_)
  refine Z ?_
  iterate 4 rotate_left
  refine twoP.mk (fun _ => ?_) (fun _ => ?_)
  refine Z ?_
  rotate_left
  refine twoP.mk (fun _ => ?_) (fun _ => ?_)
  refine Z ?_
  refine callW.mk [] 2 _ _ _ (l12Number_c _ (by first | omega | assumption | (simp; omega) | (simp; done)) _) rfl rfl trivial nofun ?_
  refine twoP.mk (fun _ => ?_) (fun _ => ?_)
  refine Z ?_
  iterate 2 rotate_left
  refine twoP.mk (fun _ => ?_) (fun _ => ?_)
  refine Z ?_
  refine callW.mk [] 2 _ _ _ (l12Number_c _ (by first | omega | assumption | (simp; omega) | (simp; done)) _) rfl rfl trivial nofun ?_
  refine twoP.mk (fun _ => ?_) (fun _ => ?_)
  refine Z ?_
  refine twoP.mk (fun _ => ?_) (fun _ => ?_)
  refine Z ?_
  iterate 3 rotate_left
  refine Z ?_
  rotate_left
  all_goals refine dv0 rfl ?_
  all_goals first | exact (mayI (by simp only [may]; omega)) | exact (mayN (by simp only [may]; omega))
end Sx
