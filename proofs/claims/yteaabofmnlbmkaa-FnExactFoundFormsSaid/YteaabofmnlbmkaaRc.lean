/- What the statements read of crowds. -/
import Derived.Test.YteaabofmnlbmkaaRa
set_option linter.all false
namespace Sx
open Go Go.Proofs
set_option maxRecDepth 100000
set_option maxHeartbeats 4000000
def RCrowd (x : AV) : Prop := ∃ (n : Int) (l : List Int), okL inInt l ∧ x = .agg [i64 n, ints l]
theorem rdCrowd : Reads Try.prog 24 RCrowd := reads_st (by kernel_rfl) (l := [(3, 0), (22, 1)]) (by kernel_rfl) (Rs := [RF i64 inInt, RF ints (okL inInt)]) ⟨rfl, rdInt, by
  rw [show (0 + Try.prog.cellsOf 3) = 1 by kernel_rfl]
  exact ⟨rfl, rdInts, by show _ = _; kernel_rfl⟩⟩ (by
  rintro vs ⟨_, _, ⟨n, hn, rfl⟩, rfl, _, _, ⟨l, hl, rfl⟩, rfl, rfl⟩
  exact ⟨n, l, hl, rfl⟩)
theorem RCrowd.agg (e : AV) (h : RCrowd e) : ∃ cs, e = .agg cs := let ⟨_, _, _, h⟩ := h; ⟨_, h⟩
theorem arCrowd {ts : List TypeId} {Rs : List (AV → Prop)} (rest : ArgsR Try.prog ts Rs) : ArgsR Try.prog (24 :: ts) (RCrowd :: Rs) := arg_struct rdCrowd (by kernel_rfl) (by kernel_rfl) RCrowd.agg rest
end Sx
