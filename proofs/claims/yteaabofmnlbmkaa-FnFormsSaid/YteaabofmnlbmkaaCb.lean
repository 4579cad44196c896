/- Contracts: gaps, walks, chasers. -/
import Derived.Test.YteaabofmnlbmkaaMxA
import Derived.Test.YteaabofmnlbmkaaCa
set_option linter.all false
namespace Sx
open Go Go.Proofs
set_option maxRecDepth 100000
set_option maxHeartbeats 4000000
set_option linter.unusedSimpArgs false
set_option linter.unusedSectionVars false
variable [Glb]
theorem most_c (a b : Int) : C 60 [i64 a, i64 b] [] (i64 (max a b)) [] false := by
  refine mkC false false Try.func60 rfl ?_; refine And.intro nofun ?_; refine twoP.mk (fun _ => ?_) (fun _ => ?_); iterate 2 rotate_left
  all_goals
    refine dv0 rfl ?_
    exact ⟨rfl, by omega⟩
theorem least_c (a b : Int) : C 76 [i64 a, i64 b] [] (i64 (min a b)) [] false := by
  refine mkC false false Try.func76 rfl ?_; refine And.intro nofun ?_; refine twoP.mk (fun _ => ?_) (fun _ => ?_); iterate 2 rotate_left
  all_goals
    refine dv0 rfl ?_
    exact ⟨rfl, by omega⟩
end Sx
