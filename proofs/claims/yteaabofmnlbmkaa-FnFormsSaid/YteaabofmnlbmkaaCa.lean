/- Contracts: numbers, lists, roads. -/
import Derived.Test.YteaabofmnlbmkaaMxA
import Derived.Test.YteaabofmnlbmkaaProg
set_option linter.all false
namespace Sx
open Go Go.Proofs
set_option maxRecDepth 100000
set_option maxHeartbeats 4000000
set_option linter.unusedSimpArgs false
set_option linter.unusedSectionVars false
variable [Glb]
abbrev C (f : FuncId) (args : List AV) (muts : List Ent) (r : AV) (muts' : List Ent) (al : Bool) : Prop := Cf Try.prog f args muts (is r muts') al
abbrev CE {α : Type} (f : FuncId) (args : List AV) (muts : List Ent) (p : α → Prop) (rf : α → AV) (mf : α → List Ent) (al : Bool) : Prop := Cf Try.prog f args muts (some' p rf mf) al
theorem within_c (a b c : Int) : C 69 [i64 a, i64 b, i64 c] [] (pr (b ≤ a ∧ a ≤ c)) [] false := by
  refine mkC false false Try.func69 rfl ?_; refine And.intro nofun ?_; refine twoP.mk (fun _ => ?_) (fun _ => ?_); iterate 2 rotate_left
  all_goals refine dv0 rfl ?_
  · exact (show _ ↔ _ by omega)
  · exact (show ¬ _ by omega)
theorem in_c (a b c : Int) : C 67 [i64 a, i64 b, i64 c] [] (pr (b ≤ a ∧ a ≤ c)) [] false := by
  refine mkC false false Try.func67 rfl ?_; refine And.intro nofun ?_; refine twoP.mk (fun _ => ?_) (fun _ => ?_); iterate 2 rotate_left
  all_goals refine dv0 rfl ?_
  · exact (show _ ↔ _ by omega)
  · exact (show ¬ _ by omega)
end Sx
