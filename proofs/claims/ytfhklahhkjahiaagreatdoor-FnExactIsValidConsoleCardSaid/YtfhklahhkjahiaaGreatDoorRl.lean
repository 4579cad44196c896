/- What the statements read of records. -/
import Derived.Test.YtfhklahhkjahiaaGreatDoorRa
import Derived.Test.YtfhklahhkjahiaaGreatDoorMxM
import Derived.Test.YtfhklahhkjahiaaGreatDoorProg
set_option linter.all false
namespace Sx
open Go Go.Proofs
set_option maxRecDepth 100000
set_option maxHeartbeats 4000000
theorem rdStr : Reads Tryz.prog 9 (RF AV.str fitS) := reads_s (by kernel_rfl)
def RRec (x : AV) : Prop := ∃ c r, fitS c ∧ fitS r ∧ x = rec2 c r
theorem RRec.agg (e : AV) (h : RRec e) : ∃ cs, e = .agg cs := let ⟨_, _, _, _, h⟩ := h; ⟨_, h⟩
theorem arStr {ts : List TypeId} {Rs : List (AV → Prop)} (rest : ArgsR Tryz.prog ts Rs) : ArgsR Tryz.prog (9 :: ts) (RF AV.str fitS :: Rs) := arg_atom rdStr (by kernel_rfl) (by kernel_rfl) (RF.noAgg nofun) rest
def RLog (x : AV) : Prop := ∃ D P n, fitS D ∧ fitS P ∧ x = AV.agg [.str D, .str P, i64 n]
theorem rdLog : Reads Tryz.prog 30 RLog := reads_st (by kernel_rfl) (l := [(9, 0), (9, 1), (3, 2)]) (by kernel_rfl) (Rs := [RF AV.str fitS, RF AV.str fitS, RF i64 inInt]) ⟨rfl, rdStr, by
  rw [show (0 + Tryz.prog.cellsOf 9) = 1 by kernel_rfl]
  refine ⟨rfl, rdStr, ?_⟩
  rw [show (1 + Tryz.prog.cellsOf 9) = 2 by kernel_rfl]
  exact ⟨rfl, rdInt, by show _ = _; kernel_rfl⟩⟩ (by
  rintro vs ⟨_, _, ⟨D, hD, rfl⟩, rfl, _, _, ⟨P, hP, rfl⟩, rfl, _, _, ⟨n, hn, rfl⟩, rfl, rfl⟩
  exact ⟨D, P, n, hD, hP, rfl⟩)
theorem RLog.agg (e : AV) (h : RLog e) : ∃ cs, e = .agg cs := let ⟨_, _, _, _, _, h⟩ := h; ⟨_, h⟩
theorem arLog {ts : List TypeId} {Rs : List (AV → Prop)} (rest : ArgsR Tryz.prog ts Rs) : ArgsR Tryz.prog (30 :: ts) (RLog :: Rs) := arg_struct rdLog (by kernel_rfl) (by kernel_rfl) RLog.agg rest
theorem arBool {ts : List TypeId} {Rs : List (AV → Prop)} (rest : ArgsR Tryz.prog ts Rs) : ArgsR Tryz.prog (4 :: ts) (RF bv (fun _ => True) :: Rs) := arg_atom rdBool (by kernel_rfl) (by kernel_rfl) (RF.noAgg nofun) rest
end Sx
