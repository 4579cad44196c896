/- What the statements read of this seat's types. -/
import Derived.Test.YtdobohnkjmgefaaSxC
import Derived.Test.YtdobohnkjmgefaaMxB
import Derived.Test.YtdobohnkjmgefaaProg
set_option linter.all false
namespace Sx
open Go Go.Proofs
set_option maxRecDepth 100000
set_option maxHeartbeats 4000000
theorem rdInt : Reads Try.prog 3 (RF i64 inInt) := reads_i (by kernel_rfl)
theorem rdBool : Reads Try.prog 4 (RF bv fun _ => True) := reads_b (by kernel_rfl)
theorem rdInts : Reads Try.prog 26 (RF ints (okL inInt)) := reads_l (by kernel_rfl) (by kernel_rfl) (by omega) rdInt
def RRoad (x : AV) : Prop := ∃ n b, inInt n ∧ x = rd n b
theorem rdRoad : Reads Try.prog 23 RRoad := reads_st (by kernel_rfl) (l := [(3, 0), (4, 1)]) (by kernel_rfl) (Rs := [RF i64 inInt, RF bv fun _ => True]) ⟨rfl, rdInt, by
  rw [show (0 + Try.prog.cellsOf 3) = 1 by kernel_rfl]
  exact ⟨rfl, rdBool, by show _ = _; kernel_rfl⟩⟩ (by
  rintro vs ⟨_, _, ⟨n, hn, rfl⟩, rfl, _, _, ⟨b, _, rfl⟩, rfl, rfl⟩
  exact ⟨n, b, hn, rfl⟩)
theorem RF.noAgg {α : Type} {f : α → AV} {Q : α → Prop} (hf : ∀ a cs, f a ≠ .agg cs) (e : AV) (h : RF f Q e) (cs : List AV) : e ≠ .agg cs := by
  obtain ⟨a, _, rfl⟩ := h
  exact hf a cs
theorem RRoad.agg (e : AV) (h : RRoad e) : ∃ cs, e = .agg cs := let ⟨_, _, _, h⟩ := h; ⟨_, h⟩
theorem arRoad {ts : List TypeId} {Rs : List (AV → Prop)} (rest : ArgsR Try.prog ts Rs) : ArgsR Try.prog (23 :: ts) (RRoad :: Rs) := arg_struct rdRoad (by kernel_rfl) (by kernel_rfl) RRoad.agg rest
theorem arInts {ts : List TypeId} {Rs : List (AV → Prop)} (rest : ArgsR Try.prog ts Rs) : ArgsR Try.prog (26 :: ts) (RF ints (okL inInt) :: Rs) := arg_atom rdInts (by kernel_rfl) (by kernel_rfl) (RF.noAgg nofun) rest
theorem arInt {ts : List TypeId} {Rs : List (AV → Prop)} (rest : ArgsR Try.prog ts Rs) : ArgsR Try.prog (3 :: ts) (RF i64 inInt :: Rs) := arg_atom rdInt (by kernel_rfl) (by kernel_rfl) (RF.noAgg nofun) rest
theorem rdIntss : Reads Try.prog 24 (RF intss (okL (okL inInt))) := reads_l (by kernel_rfl) (by kernel_rfl) (by omega) rdInts
theorem arIntss {ts : List TypeId} {Rs : List (AV → Prop)} (rest : ArgsR Try.prog ts Rs) : ArgsR Try.prog (24 :: ts) (RF intss (okL (okL inInt)) :: Rs) := arg_atom rdIntss (by kernel_rfl) (by kernel_rfl) (RF.noAgg nofun) rest
end Sx
