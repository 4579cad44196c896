/- What the statements read of consoles. -/
import Derived.Test.YtfhklahhkjahiaaGreatDoorRe
import Derived.Test.YtfhklahhkjahiaaGreatDoorRl
import Derived.Test.YtfhklahhkjahiaaGreatDoorMxS
import Derived.Test.YtfhklahhkjahiaaGreatDoorProg
set_option linter.all false
namespace Sx
open Go Go.Proofs
set_option maxRecDepth 100000
set_option maxHeartbeats 4000000
def RCon (x : AV) : Prop := ∃ y D P n, fitY 9223372036854775807 y ∧ fitS D ∧ fitS P ∧ x = conv y D P n
theorem rdCon : Reads Tryz.prog 32 RCon := reads_st (by kernel_rfl) (l := [(28, 0), (30, 6)]) (by kernel_rfl) (Rs := [RYard, RLog]) ⟨rfl, rdYard, by
  rw [show (0 + Tryz.prog.cellsOf 28) = 6 by kernel_rfl]
  exact ⟨rfl, rdLog, by show _ = _; kernel_rfl⟩⟩ (by
  rintro vs ⟨_, _, ⟨y, hy, rfl⟩, rfl, _, _, ⟨D, P, n, hD, hP, rfl⟩, rfl, rfl⟩
  exact ⟨y, D, P, n, hy, hD, hP, rfl⟩)
theorem RCon.agg (e : AV) (h : RCon e) : ∃ cs, e = .agg cs := let ⟨_, _, _, _, _, _, _, h⟩ := h; ⟨_, h⟩
theorem arCon {ts : List TypeId} {Rs : List (AV → Prop)} (rest : ArgsR Tryz.prog ts Rs) : ArgsR Tryz.prog (32 :: ts) (RCon :: Rs) := arg_struct rdCon (by kernel_rfl) (by kernel_rfl) RCon.agg rest
end Sx
