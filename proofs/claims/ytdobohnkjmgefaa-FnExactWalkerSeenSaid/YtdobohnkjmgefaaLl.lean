/- The law WalkerSeen returns true for every input. -/
import Derived.Test.YtdobohnkjmgefaaCl
import Derived.Test.YtdobohnkjmgefaaRa
import Derived.Test.YtdobohnkjmgefaaRe
import Derived.SizedLaws
import Derived.ProofKit
import Derived.Test.YtdobohnkjmgefaaRows
set_option linter.all false
namespace Go.Proofs.Ytdobohnkjmgefaa
set_option maxRecDepth 100000
open Go Go.ChangeShapes Go.WideShapes Go.ChangeAt Go.RowKit Sx
theorem own : ownKnob Try.prog.godebug = none := by kernel_rfl
theorem laidOut : laidOutB Try.prog = true := by kernel_rfl
set_option maxRecDepth 100000 in
theorem FnExactWalkerSeen_lifted (os : Os) (started : os.Started) (H : Type) (enc : TypeId × Value → H) :
    ReturnsInHanded {} Try.checked os 4 .any (Rows.fnExactWalkerSeenSpec.pre6 enc Try.prog Try.f4 Rows.fnExactWalkerSeenRow.domain false) (Rows.fnExactWalkerSeenSpec.post enc Try.prog Try.f4 false true false false) := by
  refine returnsInHanded_of_change_sized (C := Try.checked) own started (by kernel_rfl) Try.func4
    (ChangeSpec.witness6 (enc := enc) (C := Try.checked) false ⟨#[], #[.agg #[.int .i64 0, .bool false, .slice none 0 0, .slice none 0 0, .slice none 0 0, .int .i64 0]], []⟩ 8 (by kernel_rfl) (by kernel_rfl) (by kernel_rfl) (by kernel_rfl)) ?_
  intro W base args ds gs before hval hW _ _ _
  exact Sx.law_row (Rs := [RYard]) (tb := 4) Try.func4 rfl rfl laidOut (of_decide_eq_true (by kernel_rfl)) (arYard trivial) rfl rfl (by kernel_rfl)
    (len1 (by kernel_rfl) fun _ => rfl) (all1 fun _ h0 => by obtain ⟨y, hy, rfl⟩ := h0; exact ( FnExactWalkerSeen_c y hy).h) W base args ds gs before hval hW
theorem FnExactWalkerSeen_holds : Rows.FnExactWalkerSeenSaid :=
  OpenClaim.holds_of_wide 4 Try.f4 rfl rfl rfl rfl rfl rfl rfl ⟨rfl, rfl, rfl, rfl, rfl⟩ rfl rfl rfl rfl rfl (by kernel_rfl) Try.func4 (by kernel_rfl)
    (of_decide_eq_true (by kernel_rfl)) (by unfold Func.isWrapper; first | (rw [if_pos (by decide +kernel)]; kernel_rfl) | (rw [if_neg (by decide +kernel)]; exact ⟨rfl, rfl⟩))
    (fun os started H enc _ => FnExactWalkerSeen_lifted os started H enc)
end Go.Proofs.Ytdobohnkjmgefaa
