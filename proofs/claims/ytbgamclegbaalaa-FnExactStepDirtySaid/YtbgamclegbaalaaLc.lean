/- The law StepDirty returns true for every input. -/
import Derived.Test.YtbgamclegbaalaaCc
import Derived.Test.YtbgamclegbaalaaRa
import Derived.SizedLaws
import Derived.ProofKit
import Derived.Test.YtbgamclegbaalaaRows
set_option linter.all false
namespace Go.Proofs.Ytbgamclegbaalaa
set_option maxRecDepth 100000
open Go Go.ChangeShapes Go.WideShapes Go.ChangeAt Go.RowKit Sx
theorem own : ownKnob Try.prog.godebug = none := by kernel_rfl
theorem laidOut : laidOutB Try.prog = true := by kernel_rfl
set_option maxRecDepth 100000 in
theorem FnExactStepDirty_lifted (os : Os) (started : os.Started) (H : Type) (enc : TypeId × Value → H) :
    ReturnsInHanded {} Try.checked os 5 .any (Rows.fnExactStepDirtySpec.pre6 enc Try.prog Try.f5 Rows.fnExactStepDirtyRow.domain false) (Rows.fnExactStepDirtySpec.post enc Try.prog Try.f5 false true false false) := by
  refine returnsInHanded_of_change_sized (C := Try.checked) own started (by kernel_rfl) Try.func5
    (ChangeSpec.witness6 (enc := enc) (C := Try.checked) false ⟨#[], #[.agg #[.int .i64 0, .bool false], .slice none 0 0, .slice none 0 0, .slice none 0 0], []⟩ 8 (by kernel_rfl) (by kernel_rfl) (by kernel_rfl) (by kernel_rfl)) ?_
  intro W base args ds gs before hval hW _ _ _
  exact Sx.law_row (Rs := [RRoad, RF ints (okL inInt), RF ints (okL inInt), RF ints (okL inInt)]) (tb := 4) Try.func5 rfl rfl laidOut (of_decide_eq_true (by kernel_rfl)) (arRoad (arInts (arInts (arInts trivial)))) rfl rfl (by kernel_rfl)
    (len4 (by kernel_rfl) fun _ _ _ _ => rfl) (all4 fun _ _ _ _ h0 h1 h2 h3 => by obtain ⟨n, b, _, rfl⟩ := h0; obtain ⟨d, hd, rfl⟩ := h1; obtain ⟨fr, hf, rfl⟩ := h2; obtain ⟨to, ht, rfl⟩ := h3; exact ( FnExactStepDirty_c n b d fr to hd.2 hf.2 ht.2).h) W base args ds gs before hval hW
theorem FnExactStepDirty_holds : Rows.FnExactStepDirtySaid :=
  OpenClaim.holds_of_wide 5 Try.f5 rfl rfl rfl rfl rfl rfl rfl ⟨rfl, rfl, rfl, rfl, rfl⟩ rfl rfl rfl rfl rfl (by kernel_rfl) Try.func5 (by kernel_rfl)
    (of_decide_eq_true (by kernel_rfl)) (by unfold Func.isWrapper; first | (rw [if_pos (by decide +kernel)]; kernel_rfl) | (rw [if_neg (by decide +kernel)]; exact ⟨rfl, rfl⟩))
    (fun os started H enc _ => FnExactStepDirty_lifted os started H enc)
end Go.Proofs.Ytbgamclegbaalaa
