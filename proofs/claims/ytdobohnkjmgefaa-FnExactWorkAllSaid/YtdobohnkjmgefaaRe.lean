/- What the statements read of yards. -/
import Derived.Test.YtdobohnkjmgefaaRa
import Derived.Test.YtdobohnkjmgefaaMxE
import Derived.Test.YtdobohnkjmgefaaProg
set_option linter.all false
namespace Sx
open Go Go.Proofs
set_option maxRecDepth 100000
set_option maxHeartbeats 4000000
theorem rdSen : Reads Try.prog 206 (RF sen fun _ => True) := reads_st (by kernel_rfl) (l := [(3, 0), (3, 1)]) (by kernel_rfl) (Rs := [RF i64 inInt, RF i64 inInt]) ⟨rfl, rdInt, by
  rw [show (0 + Try.prog.cellsOf 3) = 1 by kernel_rfl]
  exact ⟨rfl, rdInt, by show _ = _; kernel_rfl⟩⟩ (by
  rintro vs ⟨_, _, ⟨n, hn, rfl⟩, rfl, _, _, ⟨m, _, rfl⟩, rfl, rfl⟩
  exact ⟨(n, m), trivial, rfl⟩)
theorem rdCar : Reads Try.prog 210 (RF car fun _ => True) := reads_st (by kernel_rfl) (l := [(3, 0), (3, 1), (3, 2)]) (by kernel_rfl) (Rs := [RF i64 inInt, RF i64 inInt, RF i64 inInt]) ⟨rfl, rdInt, by
  rw [show (0 + Try.prog.cellsOf 3) = 1 by kernel_rfl]
  refine ⟨rfl, rdInt, ?_⟩
  rw [show (1 + Try.prog.cellsOf 3) = 2 by kernel_rfl]
  exact ⟨rfl, rdInt, by show _ = _; kernel_rfl⟩⟩ (by
  rintro vs ⟨_, _, ⟨n, hn, rfl⟩, rfl, _, _, ⟨m, _, rfl⟩, rfl, _, _, ⟨k, _, rfl⟩, rfl, rfl⟩
  exact ⟨(n, m, k), trivial, rfl⟩)
theorem rdSens : Reads Try.prog 36 (RF sens (okL fun _ => True)) := reads_l (by kernel_rfl) (by kernel_rfl) (by omega) rdSen
theorem rdCars : Reads Try.prog 37 (RF cars (okL fun _ => True)) := reads_l (by kernel_rfl) (by kernel_rfl) (by omega) rdCar
def RYard (x : AV) : Prop := ∃ y, fitY 9223372036854775807 y ∧ x = yv y
theorem rdYard : Reads Try.prog 39 RYard := reads_st (by kernel_rfl) (l := [(23, 0), (26, 2), (36, 3), (37, 4), (3, 5)]) (by kernel_rfl) (Rs := [RRoad, RF ints (okL inInt), RF sens (okL fun _ => True), RF cars (okL fun _ => True), RF i64 inInt]) ⟨rfl, rdRoad, by
  rw [show (0 + Try.prog.cellsOf 23) = 2 by kernel_rfl]
  refine ⟨rfl, rdInts, ?_⟩
  rw [show (2 + Try.prog.cellsOf 26) = 3 by kernel_rfl]
  refine ⟨rfl, rdSens, ?_⟩
  rw [show (3 + Try.prog.cellsOf 36) = 4 by kernel_rfl]
  refine ⟨rfl, rdCars, ?_⟩
  rw [show (4 + Try.prog.cellsOf 37) = 5 by kernel_rfl]
  exact ⟨rfl, rdInt, by show _ = _; kernel_rfl⟩⟩ (by
  rintro vs ⟨_, _, ⟨n, b, _, rfl⟩, rfl, _, _, ⟨w, hw, rfl⟩, rfl, _, _, ⟨S, hS, rfl⟩, rfl, _, _, ⟨K, hK, rfl⟩, rfl, _, _, ⟨c, _, rfl⟩, rfl, rfl⟩
  exact ⟨⟨n, b, w, S, K, c⟩, ⟨hw.2, hS.2, hK.2⟩, rfl⟩)
theorem RYard.agg (e : AV) (h : RYard e) : ∃ cs, e = .agg cs := let ⟨_, _, h⟩ := h; ⟨_, h⟩
theorem arYard {ts : List TypeId} {Rs : List (AV → Prop)} (rest : ArgsR Try.prog ts Rs) : ArgsR Try.prog (39 :: ts) (RYard :: Rs) := arg_struct rdYard (by kernel_rfl) (by kernel_rfl) RYard.agg rest
end Sx
