/- The law WorkAll returns true for every input. -/
import Derived.Test.YtdobohnkjmgefaaSxC
import Derived.Test.YtdobohnkjmgefaaCJb
import Derived.Test.YtdobohnkjmgefaaRa
import Derived.Test.YtdobohnkjmgefaaRe
import Derived.Test.YtdobohnkjmgefaaRm
import Derived.SizedLaws
import Derived.ProofKit
import Derived.Test.YtdobohnkjmgefaaRows
set_option linter.all false
namespace Go.Proofs.Ytdobohnkjmgefaa
set_option maxRecDepth 100000
open Go Go.ChangeShapes Go.WideShapes Go.ChangeAt Go.RowKit Sx
theorem own : ownKnob Try.prog.godebug = none := by kernel_rfl
theorem laidOut : laidOutB Try.prog = true := by kernel_rfl
set_option maxRecDepth 100000 in
theorem FnExactWorkAll_lifted (os : Os) (started : os.Started) (H : Type) (enc : TypeId × Value → H) :
    ReturnsInHanded {} Try.checked os 7 .any (Rows.fnExactWorkAllSpec.pre6 enc Try.prog Try.f7 Rows.fnExactWorkAllRow.domain false) (Rows.fnExactWorkAllSpec.post enc Try.prog Try.f7 false true false false) := by
  refine returnsInHanded_of_change_sized (C := Try.checked) own started (by kernel_rfl) Try.func7
    (ChangeSpec.witness6 (enc := enc) (C := Try.checked) false ⟨#[], #[.agg #[.int .i64 0, .bool false, .slice none 0 0, .slice none 0 0, .slice none 0 0, .int .i64 0], .slice none 0 0], []⟩ 8 (by kernel_rfl) (by kernel_rfl) (by kernel_rfl) (by kernel_rfl)) ?_
  intro W base args ds gs before hval hW _ _ _
  letI : Sx.Glb := Sx.glb0
  exact Sx.law_row (Rs := [RYard, RF jobs (okL fun _ => True)]) (tb := 4) Try.func7 rfl rfl laidOut (of_decide_eq_true (by kernel_rfl)) (arYard (arJobs trivial)) rfl rfl (by kernel_rfl)
    (len2 (by kernel_rfl) fun _ _ => rfl) (all2 fun _ _ h0 h1 => by obtain ⟨y, hy, rfl⟩ := h0; obtain ⟨L, hL, rfl⟩ := h1; exact ( FnExactWorkAll_c y hy L hL.2).h) (fun _ => trivial) W base args ds gs before hval hW
theorem FnExactWorkAll_holds : Rows.FnExactWorkAllSaid :=
  OpenClaim.holds_of_wide 7 Try.f7 rfl rfl rfl rfl rfl rfl rfl ⟨rfl, rfl, rfl, rfl, rfl⟩ rfl rfl rfl rfl rfl (by kernel_rfl) Try.func7 (by kernel_rfl)
    (of_decide_eq_true (by kernel_rfl)) (by unfold Func.isWrapper; first | (rw [if_pos (by decide +kernel)]; kernel_rfl) | (rw [if_neg (by decide +kernel)]; exact ⟨rfl, rfl⟩))
    (fun os started H enc _ => FnExactWorkAll_lifted os started H enc)
end Go.Proofs.Ytdobohnkjmgefaa
