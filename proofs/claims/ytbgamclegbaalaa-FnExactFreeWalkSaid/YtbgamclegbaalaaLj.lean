/- The law FreeWalk returns true for every input. -/
import Derived.Test.YtbgamclegbaalaaCo
import Derived.Test.YtbgamclegbaalaaRa
import Derived.SizedLaws
import Derived.ProofKit
import Derived.Test.YtbgamclegbaalaaRows
set_option linter.all false
namespace Go.Proofs.Ytbgamclegbaalaa
set_option maxRecDepth 100000
open Go Go.ChangeShapes Go.WideShapes Go.ChangeAt Go.RowKit Sx
theorem own : ownKnob Try.prog.godebug = none := by kernel_rfl
theorem laidOut : laidOutB Try.prog = true := by kernel_rfl
set_option maxRecDepth 100000 in
theorem FnExactFreeWalk_lifted (os : Os) (started : os.Started) (H : Type) (enc : TypeId × Value → H) :
    ReturnsInHanded {} Try.checked os 13 .any (Rows.fnExactFreeWalkSpec.pre6 enc Try.prog Try.f13 Rows.fnExactFreeWalkRow.domain false) (Rows.fnExactFreeWalkSpec.post enc Try.prog Try.f13 false true false false) := by
  refine returnsInHanded_of_change_sized (C := Try.checked) own started (by kernel_rfl) Try.func13
    (ChangeSpec.witness6 (enc := enc) (C := Try.checked) false ⟨#[], #[.agg #[.int .i64 0, .bool false], .slice none 0 0], []⟩ 8 (by kernel_rfl) (by kernel_rfl) (by kernel_rfl) (by kernel_rfl)) ?_
  intro W base args ds gs before hval hW _ _ _
  exact Sx.law_row (Rs := [RRoad, RF intss (okL (okL inInt))]) (tb := 4) Try.func13 rfl rfl laidOut (of_decide_eq_true (by kernel_rfl)) (arRoad (arIntss trivial)) rfl rfl (by kernel_rfl)
    (len2 (by kernel_rfl) fun _ _ => rfl) (all2 fun _ _ h0 h1 => by obtain ⟨n, b, _, rfl⟩ := h0; obtain ⟨L, hL, rfl⟩ := h1; exact ( FnExactFreeWalk_c n b L hL.2 (fun l h => (hL.1 l h).2)).h) W base args ds gs before hval hW
theorem FnExactFreeWalk_holds : Rows.FnExactFreeWalkSaid :=
  OpenClaim.holds_of_wide 13 Try.f13 rfl rfl rfl rfl rfl rfl rfl ⟨rfl, rfl, rfl, rfl, rfl⟩ rfl rfl rfl rfl rfl (by kernel_rfl) Try.func13 (by kernel_rfl)
    (of_decide_eq_true (by kernel_rfl)) (by unfold Func.isWrapper; first | (rw [if_pos (by decide +kernel)]; kernel_rfl) | (rw [if_neg (by decide +kernel)]; exact ⟨rfl, rfl⟩))
    (fun os started H enc _ => FnExactFreeWalk_lifted os started H enc)
end Go.Proofs.Ytbgamclegbaalaa
