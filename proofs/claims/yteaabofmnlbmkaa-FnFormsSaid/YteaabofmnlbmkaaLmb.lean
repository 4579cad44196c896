/- The law Forms returns true for every input. -/
import Derived.Test.YteaabofmnlbmkaaSxC
import Derived.Test.YteaabofmnlbmkaaCGj
import Derived.Test.YteaabofmnlbmkaaRa
import Derived.Test.YteaabofmnlbmkaaRb
import Derived.SizedLaws
import Derived.ProofKit
import Derived.Test.YteaabofmnlbmkaaRows
set_option linter.all false
namespace Go.Proofs.Yteaabofmnlbmkaa
set_option maxRecDepth 100000
open Go Go.ChangeShapes Go.WideShapes Go.ChangeAt Go.RowKit Sx
theorem own : ownKnob Try.prog.godebug = none := by kernel_rfl
theorem laidOut : laidOutB Try.prog = true := by kernel_rfl
set_option maxRecDepth 100000 in
theorem FnForms_lifted (os : Os) (started : os.Started) (H : Type) (enc : TypeId × Value → H) :
    ReturnsInHanded {} Try.checked os 10 .any (Rows.fnFormsSpec.pre6 enc Try.prog Try.f10 Rows.fnFormsRow.domain false) (Rows.fnFormsSpec.post enc Try.prog Try.f10 false true false false) := by
  refine returnsInHanded_of_change_sized (C := Try.checked) own started (by kernel_rfl) Try.func10
    (ChangeSpec.witness6 (enc := enc) (C := Try.checked) false ⟨#[], #[.slice none 0 0], []⟩ 8 (by kernel_rfl) (by kernel_rfl) (by kernel_rfl) (by kernel_rfl)) ?_
  intro W base args ds gs before hval hW _ _ _
  letI : Sx.Glb := Sx.glb0
  exact Sx.law_row (Rs := [RF (fun L : List UInt8 => .sl 1 (L.map i8)) (okL fun _ => True)]) (tb := 4) Try.func10 rfl rfl laidOut (of_decide_eq_true (by kernel_rfl)) (arBytes trivial) rfl rfl (by kernel_rfl)
    (len1 (by kernel_rfl) fun _ => rfl) (all1 fun _ h0 => by obtain ⟨L, hL, rfl⟩ := h0; exact ( FnForms_c L hL.2).h) (fun _ => trivial) W base args ds gs before hval hW
theorem FnForms_holds : Rows.FnFormsSaid :=
  OpenClaim.holds_of_wide 10 Try.f10 rfl rfl rfl rfl rfl rfl rfl ⟨rfl, rfl, rfl, rfl, rfl⟩ rfl rfl rfl rfl rfl (by kernel_rfl) Try.func10 (by kernel_rfl)
    (of_decide_eq_true (by kernel_rfl)) (by unfold Func.isWrapper; first | (rw [if_pos (by decide +kernel)]; kernel_rfl) | (rw [if_neg (by decide +kernel)]; exact ⟨rfl, rfl⟩))
    (fun os started H enc _ => FnForms_lifted os started H enc)
end Go.Proofs.Yteaabofmnlbmkaa
