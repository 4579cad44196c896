/- What the statements read of jobs. -/
import Derived.Test.YtdobohnkjmgefaaRa
import Derived.Test.YtdobohnkjmgefaaMxE
import Derived.Test.YtdobohnkjmgefaaProg
set_option linter.all false
namespace Sx
open Go Go.Proofs
set_option maxRecDepth 100000
set_option maxHeartbeats 4000000
def RJob (x : AV) : Prop := ∃ k a b c, (inInt k ∧ inInt a ∧ inInt b ∧ inInt c) ∧ x = AV.agg [i64 k, i64 a, i64 b, i64 c]
theorem rdJob : Reads Try.prog 59 RJob := reads_st (by kernel_rfl) (l := [(3, 0), (3, 1), (3, 2), (3, 3)]) (by kernel_rfl) (Rs := [RF i64 inInt, RF i64 inInt, RF i64 inInt, RF i64 inInt]) ⟨rfl, rdInt, by
  rw [show (0 + Try.prog.cellsOf 3) = 1 by kernel_rfl]
  refine ⟨rfl, rdInt, ?_⟩
  rw [show (1 + Try.prog.cellsOf 3) = 2 by kernel_rfl]
  refine ⟨rfl, rdInt, ?_⟩
  rw [show (2 + Try.prog.cellsOf 3) = 3 by kernel_rfl]
  exact ⟨rfl, rdInt, by show _ = _; kernel_rfl⟩⟩ (by
  rintro vs ⟨_, _, ⟨k, hk, rfl⟩, rfl, _, _, ⟨a, ha, rfl⟩, rfl, _, _, ⟨b, hb, rfl⟩, rfl, _, _, ⟨c, hc, rfl⟩, rfl, rfl⟩
  exact ⟨k, a, b, c, ⟨hk, ha, hb, hc⟩, rfl⟩)
theorem RJob.agg (e : AV) (h : RJob e) : ∃ cs, e = .agg cs := let ⟨_, _, _, _, _, h⟩ := h; ⟨_, h⟩
theorem arJob {ts : List TypeId} {Rs : List (AV → Prop)} (rest : ArgsR Try.prog ts Rs) : ArgsR Try.prog (59 :: ts) (RJob :: Rs) := arg_struct rdJob (by kernel_rfl) (by kernel_rfl) RJob.agg rest
end Sx
