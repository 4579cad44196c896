/- Contracts: the laws of records coded and logs recovered. -/
import Derived.Test.YtfhklahhkjahiaaGreatDoorCLc
import Derived.Test.YtfhklahhkjahiaaGreatDoorCw
set_option linter.all false
namespace Sx
open Go Go.Proofs
set_option maxRecDepth 100000
set_option maxHeartbeats 4000000
set_option linter.unusedSimpArgs false
set_option linter.unusedSectionVars false
variable [Glb]
variable [HasTab]
theorem eqLogs_c (a b : List UInt8) (n : Int) (c d : List UInt8) (m : Int) : C 18 [.agg [.str a, .str b, i64 n], .agg [.str c, .str d, i64 m]] [] (pr (a = c ∧ b = d ∧ n = m)) [] false := by
  refine mkC false false Tryz.func18 rfl ?_
  refine And.intro nofun ?_
  iterate 4 refine Z ?_
  refine twoN (fun _ => ?_) (fun _ => ?_)
  rotate_left
  iterate 2 refine Z ?_
  refine twoN (fun _ => ?_) (fun _ => ?_)
  rotate_left
  iterate 2 refine Z ?_
  refine twoN (fun _ => ?_) (fun _ => ?_)
  iterate 2 rotate_left
  · rename_i h1
    refine dv0 rfl ?_
    exact (show ¬ _ from fun h => h1 h.1)
  · rename_i h1 h2
    refine dv0 rfl ?_
    exact (show ¬ _ from fun h => h2 h.2.1)
  · rename_i h1 h2 h3
    refine dv0 rfl ?_
    exact (show ¬ _ from fun h => h3 h.2.2)
  · rename_i h1 h2 h3
    refine dv0 rfl ?_
    exact ⟨h1, h2, h3⟩
end Sx
