/- Contracts: the law of records. -/
import Derived.Test.YtfhklahhkjahiaaDoorCv
set_option linter.all false
namespace Sx
open Go Go.Proofs
set_option maxRecDepth 100000
set_option maxHeartbeats 4000000
set_option linter.unusedSimpArgs false
set_option linter.unusedSectionVars false
variable [Glb]
theorem specIsValidRecord_c (c r : List UInt8) (hc : c.length ≤ 1099511627) (hr : r.length ≤ 1099511627) : C 41 [rec2 c r] [] (pr (recOk c r)) [] false := by
  refine mkC false false Tryd.func41 rfl ?_
  refine And.intro nofun ?_
  refine Z ?_
  refine callW.mk [] 1 _ _ _ (l12Record_c _ _ (by first | omega | assumption | (simp; omega) | (simp; done)) (by first | omega | assumption | (simp; omega) | (simp; done))) rfl rfl trivial nofun ?_
  rotate_left
  refine doneV.mk [] [] rfl rfl ?_ ?_ ?_
  repeat' first | exact trivial | exact rfl | exact Iff.rfl | assumption | exact pureI | exact (show _ = _ by omega) | exact (show _ ≤ _ by omega) | exact (show _ < _ by omega) | exact (show ¬ _ by omega) | refine And.intro ?_ ?_
theorem szLogRecord_c (c r : List UInt8) (hc : fitS c) (hr : fitS r) (l : Int) (hl : l = 1048576) : C 12 [rec2 c r, i64 l] [] (i64 (if 1048576 < (c.length : Int) + (r.length : Int) then -1 else 1048576 - c.length - r.length)) [] false := by
  subst hl
  have hc : c.length ≤ 9223372036854775807 := hc
  have hr : r.length ≤ 9223372036854775807 := hr
  refine mkC false false Tryd.func12 rfl ?_
  refine And.intro nofun ?_
  iterate 2 refine Z ?_
  refine lenS.mk _ rfl ?_
  refine nw (by omega) (by omega) ?_
  refine twoP.mk (fun _ => ?_) (fun _ => ?_)
  rotate_left
  refine Z ?_
  refine lenS.mk _ rfl ?_
  refine nw (by omega) (by omega) ?_
  refine twoP.mk (fun _ => ?_) (fun _ => ?_)
  iterate 2 rotate_left
  · rw [if_pos (by omega)]
    refine doneV.mk [] [] rfl rfl ?_ ?_ ?_
    repeat' first | exact trivial | exact rfl | exact Iff.rfl | assumption | exact pureI | exact (show _ = _ by omega) | exact (show _ ≤ _ by omega) | exact (show _ < _ by omega) | exact (show ¬ _ by omega) | refine And.intro ?_ ?_
  · rw [if_pos (by omega)]
    refine doneV.mk [] [] rfl rfl ?_ ?_ ?_
    repeat' first | exact trivial | exact rfl | exact Iff.rfl | assumption | exact pureI | exact (show _ = _ by omega) | exact (show _ ≤ _ by omega) | exact (show _ < _ by omega) | exact (show ¬ _ by omega) | refine And.intro ?_ ?_
  · rw [if_neg (by omega)]
    refine doneV.mk [] [] rfl rfl ?_ ?_ ?_
    repeat' first | exact trivial | exact rfl | exact Iff.rfl | assumption | exact pureI | exact (show _ = _ by omega) | exact (show _ ≤ _ by omega) | exact (show _ < _ by omega) | exact (show ¬ _ by omega) | refine And.intro ?_ ?_
theorem toLogRecord_c (c r : List UInt8) : C 14 [rec2 c r] [] (rec2 c r) [] false := by
  refine mkC false false Tryd.func14 rfl ?_
  refine And.intro nofun ?_
  iterate 19 refine Z ?_
  rotate_left
  refine doneV.mk [] [] rfl rfl ?_ ?_ ?_
  repeat' first | exact trivial | exact rfl | exact Iff.rfl | assumption | exact pureI | exact (show _ = _ by omega) | exact (show _ ≤ _ by omega) | exact (show _ < _ by omega) | exact (show ¬ _ by omega) | refine And.intro ?_ ?_
end Sx
