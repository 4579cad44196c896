/- Contracts: what the laws' draws begin with. -/
import Derived.Test.YtfhklahhkjahiaaDoorCa
import Derived.Test.YtfhklahhkjahiaaDoorMxU
set_option linter.all false
namespace Sx
open Go Go.Proofs
set_option maxRecDepth 100000
set_option maxHeartbeats 8000000
set_option linter.unusedSimpArgs false
set_option linter.unusedSectionVars false
variable [Glb]
theorem vBig_c (L : List UInt8) (hL : L.length ≤ 9223372036854775807) : C 34 [.sl 1 (L.map i8)] [] (pr (65536 < (L.length : Int))) [] false := by
  refine mkC false false Tryd.func34 rfl ?_
  refine And.intro nofun ?_
  refine lm ?_
  rotate_left
  refine doneV.mk [] [] rfl rfl ?_ ?_ ?_
  repeat' first | exact trivial | exact rfl | exact Iff.rfl | assumption | exact pureI | exact (show _ = _ by omega) | exact (show _ ≤ _ by omega) | exact (show _ < _ by omega) | exact (show ¬ _ by omega) | refine And.intro ?_ ?_
theorem vCut_c (L : List UInt8) (hL : L.length ≤ 1099511627) (n : Int) (hn : 0 ≤ n) : CE 37 [.sl 1 (L.map i8), i64 n] [] (fun e : List UInt8 => e.length ≤ L.length + 1) (fun _ => .loc 0) (fun e => [.row .plain 1 (e.map i8)]) false := by
  refine mkE false false Tryd.func37 rfl ?_
  refine And.intro nofun ?_
  refine lm ?_
  refine twoP.mk (fun _ => ?_) (fun _ => ?_)
  refine lm ?_
  iterate 4 refine Z ?_
  refine jkm1 (by omega) ?_
  refine esub ?_
  iterate 4 refine Z ?_
  refine leP.mk (by first | (simp [big]; omega) | (simp [big]; done)) ?_
  refine nr ?_
  iterate 10 refine Z ?_
  refine leP.mk (by first | (simp [big]; omega) | (simp [big]; done)) ?_
  refine er ?_
  rotate_left
  iterate 4 refine Z ?_
  refine jnm1 (by omega) (by omega) ?_
  refine esub ?_
  iterate 4 refine Z ?_
  refine leP.mk (by first | (simp [big]; omega) | (simp [big]; done)) ?_
  refine nr ?_
  iterate 10 refine Z ?_
  refine leP.mk (by first | (simp [big]; omega) | (simp [big]; done)) ?_
  refine er ?_
  rotate_left
  · refine doneE.mk ((List.drop L.length (List.take (List.map i8 L).length L) ++ [UInt8.ofNat ((L.length : Int) % 256).toNat])) ?_ ?_
    rotate_left
    focus
      refine doneV.mk [] [2] rfl rfl ?_ ?_ ?_
      repeat' first | exact trivial | exact rfl | exact Iff.rfl | assumption | exact pureI | exact (show _ = _ by omega) | exact (show _ ≤ _ by omega) | exact (show _ < _ by omega) | exact (show ¬ _ by omega) | refine And.intro ?_ ?_
    rotate_right
    · simp only [List.length_append, List.length_singleton, List.length_drop, List.length_take]; omega
    · exact u8_row _ _
    · exact pureM fun _ => rfl
  · refine doneE.mk ((List.drop n.toNat (List.take (List.map i8 L).length L) ++ [UInt8.ofNat (n % 256).toNat])) ?_ ?_
    rotate_left
    focus
      refine doneV.mk [] [2] rfl rfl ?_ ?_ ?_
      repeat' first | exact trivial | exact rfl | exact Iff.rfl | assumption | exact pureI | exact (show _ = _ by omega) | exact (show _ ≤ _ by omega) | exact (show _ < _ by omega) | exact (show ¬ _ by omega) | refine And.intro ?_ ?_
    rotate_right
    · simp only [List.length_append, List.length_singleton, List.length_drop, List.length_take]; omega
    · exact u8_row _ _
    · exact pureM fun _ => rfl
end Sx
