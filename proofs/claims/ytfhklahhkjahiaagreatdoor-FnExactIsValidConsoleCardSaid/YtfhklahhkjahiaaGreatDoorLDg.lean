/- The law IsValidConsole returns true for every input. -/
import Derived.Test.YtfhklahhkjahiaaGreatDoorSxC
import Derived.Test.YtfhklahhkjahiaaGreatDoorCLg
import Derived.Test.YtfhklahhkjahiaaGreatDoorRa
import Derived.Test.YtfhklahhkjahiaaGreatDoorRl
import Derived.Test.YtfhklahhkjahiaaGreatDoorRe
import Derived.Test.YtfhklahhkjahiaaGreatDoorRk
import Derived.SizedLaws
import Derived.ProofKit
import Derived.OpenShut
import Derived.LaidMore
import Derived.Lay
import Derived.LaidSub
import Derived.SevenTiedAt
import Derived.Stop.Joined
import Derived.Test.YtfhklahhkjahiaaGreatDoorCards
import Derived.Test.YtfhklahhkjahiaaGreatDoorTie
set_option linter.all false
namespace Go.Proofs.YtfhklahhkjahiaaGreatDoor
set_option maxRecDepth 100000
open Go Go.ChangeShapes Go.WideShapes Go.ChangeAt Go.RowKit Sx
theorem own : ownKnob Tryz.prog.godebug = none := by kernel_rfl
theorem laidOut : laidOutB Tryz.prog = true := by kernel_rfl
abbrev tabName : String := "internal/strconv.uint64pow10"
@[reducible] def glbT : Sx.Glb := ⟨fun w => Lib.TabIs Tryz.prog w tabName .u64 Lib.pow10Tab⟩
theorem tab_of {W : World} (h : laidMetH Tryz.prog Rows.fnExactIsValidConsoleRow.laid W) : Lib.TabIs Tryz.prog W tabName .u64 Lib.pow10Tab := by
  rw [MakeChecks.laidMetH_plain _ _ _ (by kernel_rfl)] at h
  have h2 : laidMet Tryz.prog [(tabName, Lib.tabData .u64 Lib.pow10Tab)] W := laidMet.filter (fun x => x.1 == tabName) h
  exact Lib.tabIs_of_head (g := 1) (t := 139) (by kernel_rfl) (by kernel_rfl) Tryz.underlying139 (by kernel_rfl) (by kernel_rfl) (by kernel_rfl) h2
set_option maxRecDepth 100000 in
theorem FnExactIsValidConsole_lifted (os : Os) (started : os.Started) (H : Type) (enc : TypeId × Value → H) :
    ReturnsInHanded {} Tryz.checked os 3 .any (fun w args => (Rows.fnExactIsValidConsoleSpec.pre enc Tryz.prog Tryz.f3 Rows.fnExactIsValidConsoleRow.domain false w args ∧ laidMetH Tryz.prog Rows.fnExactIsValidConsoleRow.laid w) ∧ sizedMet enc Tryz.prog Tryz.f3 (OpenSpec.ofChange Rows.fnExactIsValidConsoleSpec) false w args) (Rows.fnExactIsValidConsoleSpec.post enc Tryz.prog Tryz.f3 false true false false) := by
  refine returnsInHanded_of_change_and (C := Tryz.checked) (X := fun w _ => laidMetH Tryz.prog Rows.fnExactIsValidConsoleRow.laid w) (fun _ _ _ hh h => h.of_heap hh) own started (by kernel_rfl) Tryz.func3
    (ChangeSpec.witness_shaped (enc := enc) (C := Tryz.checked) (os := os) (X := fun w _ => laidMetH Tryz.prog Rows.fnExactIsValidConsoleRow.laid w) false (World.laidAll Tryz.prog os Rows.fnExactIsValidConsoleRow.laid) #[.agg #[.int .i64 0, .bool false, .slice none 0 0, .slice none 0 0, .slice none 0 0, .int .i64 0, .string ⟨#[]⟩, .string ⟨#[]⟩, .int .i64 0]] 8 (World.laidAll_os _ _ _)
      (World.shaped_of_ZipB (by kernel_rfl) (by kernel_rfl)) (by kernel_rfl) (by kernel_rfl) (by kernel_rfl)
      (by rw [MakeChecks.laidMetH_plain _ _ _ (by kernel_rfl)]; exact laidMet_laidAll _ (by kernel_rfl) (by kernel_rfl))) ?_
  intro W base args ds gs before hval hW _ _ hL _
  letI : Sx.Glb := glbT
  letI : Sx.HasTab := ⟨fun _ h => h⟩
  exact Sx.law_rowG (Rs := [RCon]) (tb := 4) Tryz.func3 rfl rfl laidOut (of_decide_eq_true (by kernel_rfl)) (arCon trivial) rfl rfl (by kernel_rfl)
    (len1 (by kernel_rfl) fun _ => rfl) (all1 fun _ h0 => by obtain ⟨y, D, P, n, hy, hD, hP, rfl⟩ := h0; exact ( FnExactIsValidConsole_c y hy D P n hD hP).h) W base args ds gs before (gw_tab (g := 1) (by kernel_rfl) (tab_of hL) fun _ h => h) hval hW
theorem FnExactIsValidConsole_row : Rows.FnExactIsValidConsoleSaid :=
  OpenClaim.holds_of_wide 3 Tryz.f3 rfl rfl rfl rfl rfl rfl rfl ⟨rfl, rfl, rfl, rfl, rfl⟩ rfl rfl rfl rfl rfl (by kernel_rfl) Tryz.func3 (by kernel_rfl)
    (of_decide_eq_true (by kernel_rfl)) (by unfold Func.isWrapper; first | (rw [if_pos (by decide +kernel)]; kernel_rfl) | (rw [if_neg (by decide +kernel)]; exact ⟨rfl, rfl⟩))
    (fun os started H enc _ => FnExactIsValidConsole_lifted os started H enc)
theorem FnExactIsValidConsole_holds : Rows.FnExactIsValidConsoleCardSaid :=
  Claim7.holds_tied_plain_at .later [] [.data, .data, .data] true (true, "8b6858513f088bdd84f7510ac131d02b1eaa10ccf68b54dd739c264f68bc24d6") false FnExactIsValidConsole_row (fun _ h => by cases h) (by kernel_rfl) (fun _ h => by cases h) fnExactIsValidConsole_row_tie rfl ⟨rfl, rfl⟩ (by kernel_rfl) rfl
    (fun f fn hf hfn => by
      obtain rfl : f = 3 := Option.some.inj ((show Tryz.prog.funcNamed Rows.fnExactIsValidConsoleRow.func = some 3 by kernel_rfl).symm.trans hf) |>.symm
      obtain rfl : fn = Tryz.f3 := (Option.some.inj (Tryz.func3.symm.trans hfn)).symm
      exact ⟨by kernel_rfl, fun j t ht => by
        rw [Tryz.params3] at ht
        have hm : t ∈ [32] := by simpa using Array.mem_of_getElem? ht
        have hall : ([32].all fun u => !Tryz.prog.wantsStandIn u) = true := by kernel_rfl
        exact (show Tryz.prog.wantsStandIn t = false by simpa using List.all_eq_true.1 hall t hm)⟩)
    (by kernel_rfl)
end Go.Proofs.YtfhklahhkjahiaaGreatDoor
