/- What the statements read of this seat's types. -/
import Derived.Test.YteaabofmnlbmkaaSxC
import Derived.Test.YteaabofmnlbmkaaMxA
import Derived.Test.YteaabofmnlbmkaaProg
set_option linter.all false
namespace Sx
open Go Go.Proofs
set_option maxRecDepth 100000
set_option maxHeartbeats 4000000
def RRoad (x : AV) : Prop := ∃ n b, inInt n ∧ x = rd n b
theorem RF.noAgg {α : Type} {f : α → AV} {Q : α → Prop} (hf : ∀ a cs, f a ≠ .agg cs) (e : AV) (h : RF f Q e) (cs : List AV) : e ≠ .agg cs := by
  obtain ⟨a, _, rfl⟩ := h
  exact hf a cs
theorem RRoad.agg (e : AV) (h : RRoad e) : ∃ cs, e = .agg cs := let ⟨_, _, _, h⟩ := h; ⟨_, h⟩
end Sx
