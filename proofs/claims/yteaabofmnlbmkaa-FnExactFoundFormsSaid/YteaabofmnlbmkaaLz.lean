/- The law FoundForms returns true for every input. -/
import Derived.Test.YteaabofmnlbmkaaSxC
import Derived.Test.YteaabofmnlbmkaaCSf
import Derived.Test.YteaabofmnlbmkaaRa
import Derived.Test.YteaabofmnlbmkaaRc
import Derived.SizedLaws
import Derived.ProofKit
import Derived.Test.YteaabofmnlbmkaaRows
set_option linter.all false
namespace Go.Proofs.Yteaabofmnlbmkaa
set_option maxRecDepth 100000
open Go Go.ChangeShapes Go.WideShapes Go.ChangeAt Go.RowKit Sx
theorem own : ownKnob Try.prog.godebug = none := by kernel_rfl
theorem laidOut : laidOutB Try.prog = true := by kernel_rfl
set_option maxRecDepth 100000 in
theorem FnExactFoundForms_lifted (os : Os) (started : os.Started) (H : Type) (enc : TypeId × Value → H) :
    ReturnsInHanded {} Try.checked os 9 .any (Rows.fnExactFoundFormsSpec.pre6 enc Try.prog Try.f9 Rows.fnExactFoundFormsRow.domain false) (Rows.fnExactFoundFormsSpec.post enc Try.prog Try.f9 false true false false) := by
  refine returnsInHanded_of_change_sized (C := Try.checked) own started (by kernel_rfl) Try.func9
    (ChangeSpec.witness6 (enc := enc) (C := Try.checked) false ⟨#[], #[.agg #[.int .i64 0, .slice none 0 0], .slice none 0 0], []⟩ 8 (by kernel_rfl) (by kernel_rfl) (by kernel_rfl) (by kernel_rfl)) ?_
  intro W base args ds gs before hval hW _ _ _
  letI : Sx.Glb := Sx.glb0
  exact Sx.law_row (Rs := [RCrowd, RF ints (okL inInt)]) (tb := 4) Try.func9 rfl rfl laidOut (of_decide_eq_true (by kernel_rfl)) (arCrowd (arInts trivial)) rfl rfl (by kernel_rfl)
    (len2 (by kernel_rfl) fun _ _ => rfl) (all2 fun _ _ h0 h1 => by obtain ⟨n, l, hl, rfl⟩ := h0; obtain ⟨r, hr, rfl⟩ := h1; exact ( FnExactFoundForms_c n l r hl.2 hr.2).h) (fun _ => trivial) W base args ds gs before hval hW
theorem FnExactFoundForms_holds : Rows.FnExactFoundFormsSaid :=
  OpenClaim.holds_of_wide 9 Try.f9 rfl rfl rfl rfl rfl rfl rfl ⟨rfl, rfl, rfl, rfl, rfl⟩ rfl rfl rfl rfl rfl (by kernel_rfl) Try.func9 (by kernel_rfl)
    (of_decide_eq_true (by kernel_rfl)) (by unfold Func.isWrapper; first | (rw [if_pos (by decide +kernel)]; kernel_rfl) | (rw [if_neg (by decide +kernel)]; exact ⟨rfl, rfl⟩))
    (fun os started H enc _ => FnExactFoundForms_lifted os started H enc)
end Go.Proofs.Yteaabofmnlbmkaa
