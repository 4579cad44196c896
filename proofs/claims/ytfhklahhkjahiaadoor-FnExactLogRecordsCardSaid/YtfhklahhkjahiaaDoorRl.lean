/- What the statements read of records. -/
import Derived.Test.YtfhklahhkjahiaaDoorRa
import Derived.Test.YtfhklahhkjahiaaDoorMxM
import Derived.Test.YtfhklahhkjahiaaDoorProg
set_option linter.all false
namespace Sx
open Go Go.Proofs
set_option maxRecDepth 100000
set_option maxHeartbeats 4000000
theorem rdStr : Reads Tryd.prog 9 (RF AV.str fitS) := reads_s (by kernel_rfl)
def RRec (x : AV) : Prop := ∃ c r, fitS c ∧ fitS r ∧ x = rec2 c r
theorem rdRec : Reads Tryd.prog 23 RRec := reads_st (by kernel_rfl) (l := [(9, 0), (9, 1)]) (by kernel_rfl) (Rs := [RF AV.str fitS, RF AV.str fitS]) ⟨rfl, rdStr, by
  rw [show (0 + Tryd.prog.cellsOf 9) = 1 by kernel_rfl]
  exact ⟨rfl, rdStr, by show _ = _; kernel_rfl⟩⟩ (by
  rintro vs ⟨_, _, ⟨c, hc, rfl⟩, rfl, _, _, ⟨r, hr, rfl⟩, rfl, rfl⟩
  exact ⟨c, r, hc, hr, rfl⟩)
theorem RRec.agg (e : AV) (h : RRec e) : ∃ cs, e = .agg cs := let ⟨_, _, _, _, h⟩ := h; ⟨_, h⟩
theorem arRec {ts : List TypeId} {Rs : List (AV → Prop)} (rest : ArgsR Tryd.prog ts Rs) : ArgsR Tryd.prog (23 :: ts) (RRec :: Rs) := arg_struct rdRec (by kernel_rfl) (by kernel_rfl) RRec.agg rest
theorem arStr {ts : List TypeId} {Rs : List (AV → Prop)} (rest : ArgsR Tryd.prog ts Rs) : ArgsR Tryd.prog (9 :: ts) (RF AV.str fitS :: Rs) := arg_atom rdStr (by kernel_rfl) (by kernel_rfl) (RF.noAgg nofun) rest
def RLog (x : AV) : Prop := ∃ D P n, fitS D ∧ fitS P ∧ x = AV.agg [.str D, .str P, i64 n]
theorem rdLog : Reads Tryd.prog 36 RLog := reads_st (by kernel_rfl) (l := [(9, 0), (9, 1), (3, 2)]) (by kernel_rfl) (Rs := [RF AV.str fitS, RF AV.str fitS, RF i64 inInt]) ⟨rfl, rdStr, by
  rw [show (0 + Tryd.prog.cellsOf 9) = 1 by kernel_rfl]
  refine ⟨rfl, rdStr, ?_⟩
  rw [show (1 + Tryd.prog.cellsOf 9) = 2 by kernel_rfl]
  exact ⟨rfl, rdInt, by show _ = _; kernel_rfl⟩⟩ (by
  rintro vs ⟨_, _, ⟨D, hD, rfl⟩, rfl, _, _, ⟨P, hP, rfl⟩, rfl, _, _, ⟨n, hn, rfl⟩, rfl, rfl⟩
  exact ⟨D, P, n, hD, hP, rfl⟩)
theorem RLog.agg (e : AV) (h : RLog e) : ∃ cs, e = .agg cs := let ⟨_, _, _, _, _, h⟩ := h; ⟨_, h⟩
theorem arLog {ts : List TypeId} {Rs : List (AV → Prop)} (rest : ArgsR Tryd.prog ts Rs) : ArgsR Tryd.prog (36 :: ts) (RLog :: Rs) := arg_struct rdLog (by kernel_rfl) (by kernel_rfl) RLog.agg rest
theorem arBool {ts : List TypeId} {Rs : List (AV → Prop)} (rest : ArgsR Tryd.prog ts Rs) : ArgsR Tryd.prog (4 :: ts) (RF bv (fun _ => True) :: Rs) := arg_atom rdBool (by kernel_rfl) (by kernel_rfl) (RF.noAgg nofun) rest
end Sx
