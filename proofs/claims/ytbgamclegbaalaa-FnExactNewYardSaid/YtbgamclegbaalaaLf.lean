/- The law NewYard returns true for every input. -/
import Derived.Test.YtbgamclegbaalaaCf
import Derived.Test.YtbgamclegbaalaaRa
import Derived.SizedLaws
import Derived.ProofKit
import Derived.Test.YtbgamclegbaalaaRows
set_option linter.all false
namespace Go.Proofs.Ytbgamclegbaalaa
set_option maxRecDepth 100000
open Go Go.ChangeShapes Go.WideShapes Go.ChangeAt Go.RowKit Sx
theorem own : ownKnob Try.prog.godebug = none := by kernel_rfl
theorem laidOut : laidOutB Try.prog = true := by kernel_rfl
set_option maxRecDepth 100000 in
theorem FnExactNewYard_lifted (os : Os) (started : os.Started) (H : Type) (enc : TypeId × Value → H) :
    ReturnsInHanded {} Try.checked os 11 .any (Rows.fnExactNewYardSpec.pre6 enc Try.prog Try.f11 Rows.fnExactNewYardRow.domain false) (Rows.fnExactNewYardSpec.post enc Try.prog Try.f11 false true false false) := by
  refine returnsInHanded_of_change_sized (C := Try.checked) own started (by kernel_rfl) Try.func11
    (ChangeSpec.witness6 (enc := enc) (C := Try.checked) false ⟨#[], #[.int .i64 0, .int .i64 0], []⟩ 8 (by kernel_rfl) (by kernel_rfl) (by kernel_rfl) (by kernel_rfl)) ?_
  intro W base args ds gs before hval hW _ _ _
  exact Sx.law_row (Rs := [RF i64 inInt, RF i64 inInt]) (tb := 4) Try.func11 rfl rfl laidOut (of_decide_eq_true (by kernel_rfl)) (arInt (arInt trivial)) rfl rfl (by kernel_rfl)
    (len2 (by kernel_rfl) fun _ _ => rfl) (all2 fun _ _ h0 h1 => by obtain ⟨n, _, rfl⟩ := h0; obtain ⟨a, _, rfl⟩ := h1; exact ( FnExactNewYard_c n a).h) W base args ds gs before hval hW
theorem FnExactNewYard_holds : Rows.FnExactNewYardSaid :=
  OpenClaim.holds_of_wide 11 Try.f11 rfl rfl rfl rfl rfl rfl rfl ⟨rfl, rfl, rfl, rfl, rfl⟩ rfl rfl rfl rfl rfl (by kernel_rfl) Try.func11 (by kernel_rfl)
    (of_decide_eq_true (by kernel_rfl)) (by unfold Func.isWrapper; first | (rw [if_pos (by decide +kernel)]; kernel_rfl) | (rw [if_neg (by decide +kernel)]; exact ⟨rfl, rfl⟩))
    (fun os started H enc _ => FnExactNewYard_lifted os started H enc)
end Go.Proofs.Ytbgamclegbaalaa
