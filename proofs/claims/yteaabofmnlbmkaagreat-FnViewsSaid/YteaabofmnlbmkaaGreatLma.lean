/- The law Views returns true for every input. -/
import Derived.Test.YteaabofmnlbmkaaGreatSxC
import Derived.Test.YteaabofmnlbmkaaGreatCGd
import Derived.Test.YteaabofmnlbmkaaGreatRa
import Derived.Test.YteaabofmnlbmkaaGreatRb
import Derived.SizedLaws
import Derived.ProofKit
import Derived.Test.YteaabofmnlbmkaaGreatRows
set_option linter.all false
namespace Go.Proofs.YteaabofmnlbmkaaGreat
set_option maxRecDepth 100000
open Go Go.ChangeShapes Go.WideShapes Go.ChangeAt Go.RowKit Sx
theorem own : ownKnob Tryz.prog.godebug = none := by kernel_rfl
theorem laidOut : laidOutB Tryz.prog = true := by kernel_rfl
set_option maxRecDepth 100000 in
theorem FnViews_lifted (os : Os) (started : os.Started) (H : Type) (enc : TypeId × Value → H) :
    ReturnsInHanded {} Tryz.checked os 3 .any (Rows.fnViewsSpec.pre6 enc Tryz.prog Tryz.f3 Rows.fnViewsRow.domain false) (Rows.fnViewsSpec.post enc Tryz.prog Tryz.f3 false true false false) := by
  refine returnsInHanded_of_change_sized (C := Tryz.checked) own started (by kernel_rfl) Tryz.func3
    (ChangeSpec.witness6 (enc := enc) (C := Tryz.checked) false ⟨#[], #[.slice none 0 0], []⟩ 8 (by kernel_rfl) (by kernel_rfl) (by kernel_rfl) (by kernel_rfl)) ?_
  intro W base args ds gs before hval hW _ _ _
  letI : Sx.Glb := Sx.glb0
  exact Sx.law_row (Rs := [RF (fun L : List UInt8 => .sl 1 (L.map i8)) (okL fun _ => True)]) (tb := 4) Tryz.func3 rfl rfl laidOut (of_decide_eq_true (by kernel_rfl)) (arBytes trivial) rfl rfl (by kernel_rfl)
    (len1 (by kernel_rfl) fun _ => rfl) (all1 fun _ h0 => by obtain ⟨L, hL, rfl⟩ := h0; exact ( FnViews_c L hL.2).h) (fun _ => trivial) W base args ds gs before hval hW
theorem FnViews_holds : Rows.FnViewsSaid :=
  OpenClaim.holds_of_wide 3 Tryz.f3 rfl rfl rfl rfl rfl rfl rfl ⟨rfl, rfl, rfl, rfl, rfl⟩ rfl rfl rfl rfl rfl (by kernel_rfl) Tryz.func3 (by kernel_rfl)
    (of_decide_eq_true (by kernel_rfl)) (by unfold Func.isWrapper; first | (rw [if_pos (by decide +kernel)]; kernel_rfl) | (rw [if_neg (by decide +kernel)]; exact ⟨rfl, rfl⟩))
    (fun os started H enc _ => FnViews_lifted os started H enc)
end Go.Proofs.YteaabofmnlbmkaaGreat
