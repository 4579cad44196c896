/- The law WorkYard returns true for every input. -/
import Derived.Test.YtdobohnkjmgefaaSxC
import Derived.Test.YtdobohnkjmgefaaCy
import Derived.Test.YtdobohnkjmgefaaRa
import Derived.Test.YtdobohnkjmgefaaRe
import Derived.Test.YtdobohnkjmgefaaRj
import Derived.SizedLaws
import Derived.ProofKit
import Derived.Test.YtdobohnkjmgefaaRows
set_option linter.all false
namespace Go.Proofs.Ytdobohnkjmgefaa
set_option maxRecDepth 100000
open Go Go.ChangeShapes Go.WideShapes Go.ChangeAt Go.RowKit Sx
theorem own : ownKnob Try.prog.godebug = none := by kernel_rfl
theorem laidOut : laidOutB Try.prog = true := by kernel_rfl
set_option maxRecDepth 100000 in
theorem FnExactWorkYard_lifted (os : Os) (started : os.Started) (H : Type) (enc : TypeId × Value → H) :
    ReturnsInHanded {} Try.checked os 6 .any (Rows.fnExactWorkYardSpec.pre6 enc Try.prog Try.f6 Rows.fnExactWorkYardRow.domain false) (Rows.fnExactWorkYardSpec.post enc Try.prog Try.f6 false true false false) := by
  refine returnsInHanded_of_change_sized (C := Try.checked) own started (by kernel_rfl) Try.func6
    (ChangeSpec.witness6 (enc := enc) (C := Try.checked) false ⟨#[], #[.agg #[.int .i64 0, .bool false, .slice none 0 0, .slice none 0 0, .slice none 0 0, .int .i64 0], .agg #[.int .i64 0, .int .i64 0, .int .i64 0, .int .i64 0]], []⟩ 8 (by kernel_rfl) (by kernel_rfl) (by kernel_rfl) (by kernel_rfl)) ?_
  intro W base args ds gs before hval hW _ _ _
  letI : Sx.Glb := Sx.glb0
  exact Sx.law_row (Rs := [RYard, RJob]) (tb := 4) Try.func6 rfl rfl laidOut (of_decide_eq_true (by kernel_rfl)) (arYard (arJob trivial)) rfl rfl (by kernel_rfl)
    (len2 (by kernel_rfl) fun _ _ => rfl) (all2 fun _ _ h0 h1 => by obtain ⟨y, hy, rfl⟩ := h0; obtain ⟨k, a, b, c, _, rfl⟩ := h1; exact ( FnExactWorkYard_c y hy k a b c).h) (fun _ => trivial) W base args ds gs before hval hW
theorem FnExactWorkYard_holds : Rows.FnExactWorkYardSaid :=
  OpenClaim.holds_of_wide 6 Try.f6 rfl rfl rfl rfl rfl rfl rfl ⟨rfl, rfl, rfl, rfl, rfl⟩ rfl rfl rfl rfl rfl (by kernel_rfl) Try.func6 (by kernel_rfl)
    (of_decide_eq_true (by kernel_rfl)) (by unfold Func.isWrapper; first | (rw [if_pos (by decide +kernel)]; kernel_rfl) | (rw [if_neg (by decide +kernel)]; exact ⟨rfl, rfl⟩))
    (fun os started H enc _ => FnExactWorkYard_lifted os started H enc)
end Go.Proofs.Ytdobohnkjmgefaa
