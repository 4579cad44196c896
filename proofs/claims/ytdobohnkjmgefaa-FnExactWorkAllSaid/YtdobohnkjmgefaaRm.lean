/- What the statements read of lists of jobs. -/
import Derived.Test.YtdobohnkjmgefaaRj
import Derived.Test.YtdobohnkjmgefaaMxT
set_option linter.all false
namespace Sx
open Go Go.Proofs
set_option maxRecDepth 100000
set_option maxHeartbeats 4000000
theorem rdJobv : Reads Try.prog 59 (RF jv fun _ => True) := reads_st (by kernel_rfl) (l := [(3, 0), (3, 1), (3, 2), (3, 3)]) (by kernel_rfl) (Rs := [RF i64 inInt, RF i64 inInt, RF i64 inInt, RF i64 inInt]) ⟨rfl, rdInt, by
  rw [show (0 + Try.prog.cellsOf 3) = 1 by kernel_rfl]
  refine ⟨rfl, rdInt, ?_⟩
  rw [show (1 + Try.prog.cellsOf 3) = 2 by kernel_rfl]
  refine ⟨rfl, rdInt, ?_⟩
  rw [show (2 + Try.prog.cellsOf 3) = 3 by kernel_rfl]
  exact ⟨rfl, rdInt, by show _ = _; kernel_rfl⟩⟩ (by
  rintro vs ⟨_, _, ⟨k, hk, rfl⟩, rfl, _, _, ⟨a, ha, rfl⟩, rfl, _, _, ⟨b, hb, rfl⟩, rfl, _, _, ⟨c, hc, rfl⟩, rfl, rfl⟩
  exact ⟨⟨k, a, b, c⟩, trivial, rfl⟩)
theorem rdJobs : Reads Try.prog 65 (RF jobs (okL fun _ => True)) := reads_l (by kernel_rfl) (by kernel_rfl) (by omega) rdJobv
theorem arJobs {ts : List TypeId} {Rs : List (AV → Prop)} (rest : ArgsR Try.prog ts Rs) : ArgsR Try.prog (65 :: ts) (RF jobs (okL fun _ => True) :: Rs) := arg_atom rdJobs (by kernel_rfl) (by kernel_rfl) (RF.noAgg nofun) rest
end Sx
