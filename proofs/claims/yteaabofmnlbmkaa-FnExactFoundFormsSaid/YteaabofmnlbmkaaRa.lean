/- What the statements read of this seat's types. -/
import Derived.Test.YteaabofmnlbmkaaSxC
import Derived.Test.YteaabofmnlbmkaaMxB
import Derived.Test.YteaabofmnlbmkaaProg
set_option linter.all false
namespace Sx
open Go Go.Proofs
set_option maxRecDepth 100000
set_option maxHeartbeats 4000000
theorem rdInt : Reads Try.prog 3 (RF i64 inInt) := reads_i (by kernel_rfl)
theorem rdBool : Reads Try.prog 4 (RF bv fun _ => True) := reads_b (by kernel_rfl)
theorem rdInts : Reads Try.prog 22 (RF ints (okL inInt)) := reads_l (by kernel_rfl) (by kernel_rfl) (by omega) rdInt
def RRoad (x : AV) : Prop := ∃ n b, inInt n ∧ x = rd n b
theorem RF.noAgg {α : Type} {f : α → AV} {Q : α → Prop} (hf : ∀ a cs, f a ≠ .agg cs) (e : AV) (h : RF f Q e) (cs : List AV) : e ≠ .agg cs := by
  obtain ⟨a, _, rfl⟩ := h
  exact hf a cs
theorem RRoad.agg (e : AV) (h : RRoad e) : ∃ cs, e = .agg cs := let ⟨_, _, _, h⟩ := h; ⟨_, h⟩
theorem arInts {ts : List TypeId} {Rs : List (AV → Prop)} (rest : ArgsR Try.prog ts Rs) : ArgsR Try.prog (22 :: ts) (RF ints (okL inInt) :: Rs) := arg_atom rdInts (by kernel_rfl) (by kernel_rfl) (RF.noAgg nofun) rest
theorem arInt {ts : List TypeId} {Rs : List (AV → Prop)} (rest : ArgsR Try.prog ts Rs) : ArgsR Try.prog (3 :: ts) (RF i64 inInt :: Rs) := arg_atom rdInt (by kernel_rfl) (by kernel_rfl) (RF.noAgg nofun) rest
theorem rdIntss : Reads Try.prog 75 (RF intss (okL (okL inInt))) := reads_l (by kernel_rfl) (by kernel_rfl) (by omega) rdInts
theorem arIntss {ts : List TypeId} {Rs : List (AV → Prop)} (rest : ArgsR Try.prog ts Rs) : ArgsR Try.prog (75 :: ts) (RF intss (okL (okL inInt)) :: Rs) := arg_atom rdIntss (by kernel_rfl) (by kernel_rfl) (RF.noAgg nofun) rest
end Sx
