/- The law Crashes returns true for every input. -/
import Derived.Test.YtfhklahhkjahiaaDoorSxC
import Derived.Test.YtfhklahhkjahiaaDoorCLk
import Derived.Test.YtfhklahhkjahiaaDoorRa
import Derived.Test.YtfhklahhkjahiaaDoorRb
import Derived.SizedLaws
import Derived.ProofKit
import Derived.OpenShut
import Derived.LaidMore
import Derived.Lay
import Derived.LaidSub
import Derived.SevenTiedAt
import Derived.Stop.Joined
import Derived.Test.YtfhklahhkjahiaaDoorCards
import Derived.Test.YtfhklahhkjahiaaDoorTie
set_option linter.all false
namespace Go.Proofs.YtfhklahhkjahiaaDoor
set_option maxRecDepth 100000
open Go Go.ChangeShapes Go.WideShapes Go.ChangeAt Go.RowKit Sx
theorem own : ownKnob Tryd.prog.godebug = none := by kernel_rfl
theorem laidOut : laidOutB Tryd.prog = true := by kernel_rfl
abbrev tabName : String := "internal/strconv.uint64pow10"
@[reducible] def glbT : Sx.Glb := ⟨fun w => Lib.TabIs Tryd.prog w tabName .u64 Lib.pow10Tab⟩
theorem tab_of {W : World} (h : laidMetH Tryd.prog Rows.fnCrashesRow.laid W) : Lib.TabIs Tryd.prog W tabName .u64 Lib.pow10Tab := by
  rw [MakeChecks.laidMetH_plain _ _ _ (by kernel_rfl)] at h
  have h2 : laidMet Tryd.prog [(tabName, Lib.tabData .u64 Lib.pow10Tab)] W := laidMet.filter (fun x => x.1 == tabName) h
  exact Lib.tabIs_of_head (g := 1) (t := 117) (by kernel_rfl) (by kernel_rfl) Tryd.underlying117 (by kernel_rfl) (by kernel_rfl) (by kernel_rfl) h2
set_option maxRecDepth 100000 in
theorem FnCrashes_lifted (os : Os) (started : os.Started) (H : Type) (enc : TypeId × Value → H) :
    ReturnsInHanded {} Tryd.checked os 11 .any (fun w args => (Rows.fnCrashesSpec.pre enc Tryd.prog Tryd.f11 Rows.fnCrashesRow.domain false w args ∧ laidMetH Tryd.prog Rows.fnCrashesRow.laid w) ∧ sizedMet enc Tryd.prog Tryd.f11 (OpenSpec.ofChange Rows.fnCrashesSpec) false w args) (Rows.fnCrashesSpec.post enc Tryd.prog Tryd.f11 false true false false) := by
  refine returnsInHanded_of_change_and (C := Tryd.checked) (X := fun w _ => laidMetH Tryd.prog Rows.fnCrashesRow.laid w) (fun _ _ _ hh h => h.of_heap hh) own started (by kernel_rfl) Tryd.func11
    (ChangeSpec.witness_shaped (enc := enc) (C := Tryd.checked) (os := os) (X := fun w _ => laidMetH Tryd.prog Rows.fnCrashesRow.laid w) false (World.laidAll Tryd.prog os Rows.fnCrashesRow.laid) #[.slice none 0 0] 8 (World.laidAll_os _ _ _)
      (World.shaped_of_ZipB (by kernel_rfl) (by kernel_rfl)) (by kernel_rfl) (by kernel_rfl) (by kernel_rfl)
      (by rw [MakeChecks.laidMetH_plain _ _ _ (by kernel_rfl)]; exact laidMet_laidAll _ (by kernel_rfl) (by kernel_rfl))) ?_
  intro W base args ds gs before hval hW _ _ hL _
  letI : Sx.Glb := glbT
  letI : Sx.HasTab := ⟨fun _ h => h⟩
  exact Sx.law_rowG (Rs := [RF (fun L : List UInt8 => .sl 1 (L.map i8)) (okL fun _ => True)]) (tb := 4) Tryd.func11 rfl rfl laidOut (of_decide_eq_true (by kernel_rfl)) (arBytes trivial) rfl rfl (by kernel_rfl)
    (len1 (by kernel_rfl) fun _ => rfl) (all1 fun _ h0 => by obtain ⟨L, hL, rfl⟩ := h0; exact ( FnCrashes_c L hL.2).h) W base args ds gs before (gw_tab (g := 1) (by kernel_rfl) (tab_of hL) fun _ h => h) hval hW
theorem FnCrashes_row : Rows.FnCrashesSaid :=
  OpenClaim.holds_of_wide 11 Tryd.f11 rfl rfl rfl rfl rfl rfl rfl ⟨rfl, rfl, rfl, rfl, rfl⟩ rfl rfl rfl rfl rfl (by kernel_rfl) Tryd.func11 (by kernel_rfl)
    (of_decide_eq_true (by kernel_rfl)) (by unfold Func.isWrapper; first | (rw [if_pos (by decide +kernel)]; kernel_rfl) | (rw [if_neg (by decide +kernel)]; exact ⟨rfl, rfl⟩))
    (fun os started H enc _ => FnCrashes_lifted os started H enc)
theorem FnCrashes_holds : Rows.FnCrashesCardSaid :=
  Claim7.holds_tied_plain_at .later [] [.data, .data, .data] true (true, "9370d2ff4b8bbd440a0a48178843d55aa48fdda937426254e2a38f0fe387621c") false FnCrashes_row (fun _ h => by cases h) (by kernel_rfl) (fun _ h => by cases h) fnCrashes_row_tie rfl ⟨rfl, rfl⟩ (by kernel_rfl) rfl
    (fun f fn hf hfn => by
      obtain rfl : f = 11 := Option.some.inj ((show Tryd.prog.funcNamed Rows.fnCrashesRow.func = some 11 by kernel_rfl).symm.trans hf) |>.symm
      obtain rfl : fn = Tryd.f11 := (Option.some.inj (Tryd.func11.symm.trans hfn)).symm
      exact ⟨by kernel_rfl, fun j t ht => by
        rw [Tryd.params11] at ht
        have hm : t ∈ [53] := by simpa using Array.mem_of_getElem? ht
        have hall : ([53].all fun u => !Tryd.prog.wantsStandIn u) = true := by kernel_rfl
        exact (show Tryd.prog.wantsStandIn t = false by simpa using List.all_eq_true.1 hall t hm)⟩)
    (by kernel_rfl)
end Go.Proofs.YtfhklahhkjahiaaDoor
