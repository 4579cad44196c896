/-
  No cell of these rows narrows 'for every input' (looked for: loops, veiled, ifaces, maps, wideKeys, modest, calm, conditions, laid).
  DERIVED. THE GIVEN ROWS OF THIS SEAT. 8 by the template 'for every input the law returns true; each argument reads behind the call as it read before'; 0 by the template 'total and deterministic' (their statements: YteaabofmnlbmkaaTotals.lean).
  GIVEN WITH THE SEED: the statements are not yours to turn. If you find one false, say at which input.
  Laid BY PROGRAM, IN A SANDBOX (cutbox-rows.mjs): the forced cells as the released guide's own fill.sh prints them over the translation a5e23de3440fa776… (all of the seat's roots in one cut). By AI agents, Wed Nov 11 2026. No macro, syntax, notation, axiom, sorry.
-/
import Derived.Test.YteaabofmnlbmkaaChecked
import GoSem.Claim
import GoSem.ClaimJoined
import GoSem.ClaimMapViews
import Derived.JoinedTies
import Derived.KernelRfl
namespace Go.Proofs.Yteaabofmnlbmkaa
/- THE CELL 'sum', in the pinned program and in every row, IS THE sha256 OF THE DUMP (.gsa) THAT YteaabofmnlbmkaaProg.lean LOADS. Nothing in Lean hashes anything: it is a label: what it is worth is what the hold of that sum in a sandbox is worth. -/
noncomputable def Try.pinned : Pinned := { name := "yteaabofmnlbmkaa", sum := "a5e23de3440fa776db0575ca410749abfb884540c1506592ca0582893a1de6d5", checked := Try.checked }
namespace Rows
def none {H : Type} : Left H := { results := [], args := [] }

/-- 'laws.FnExactFirstForm': WHATEVER THE INPUT: true; the input reads as it did. -/
def fnExactFirstFormSpec : ChangeSpec := { name := "fnExactFirstForm", fn := fun _ => fun
  | [d] => { results := [.lit (.bool true)], args := [d] }
  | _ => none }
def fnExactFirstFormRow : OpenClaim := { program := "yteaabofmnlbmkaa", sum := "a5e23de3440fa776db0575ca410749abfb884540c1506592ca0582893a1de6d5", func := "loop.example/g01148/laws.FnExactFirstForm", spec := "fnExactFirstForm", unfollowed := true, recurses := true, apart := false }
def FnExactFirstFormSaid : Prop := fnExactFirstFormRow.holds Try.pinned (OpenSpec.ofChange fnExactFirstFormSpec)

/-- ITS FALSE NEIGHBOUR: 'it returns false'. Refute it at one input. -/
def fnExactFirstFormWrong : ChangeSpec := { name := "fnExactFirstForm", fn := fun _ => fun
  | [d] => { results := [.lit (.bool false)], args := [d] }
  | _ => none }
def FnExactFirstFormWrongFalsely : Prop := fnExactFirstFormRow.holds Try.pinned (OpenSpec.ofChange fnExactFirstFormWrong)

/-- 'laws.FnExactRanksOf': WHATEVER THE INPUT: true; the input reads as it did. -/
def fnExactRanksOfSpec : ChangeSpec := { name := "fnExactRanksOf", fn := fun _ => fun
  | [d] => { results := [.lit (.bool true)], args := [d] }
  | _ => none }
def fnExactRanksOfRow : OpenClaim := { program := "yteaabofmnlbmkaa", sum := "a5e23de3440fa776db0575ca410749abfb884540c1506592ca0582893a1de6d5", func := "loop.example/g01148/laws.FnExactRanksOf", spec := "fnExactRanksOf", unfollowed := true, recurses := true, apart := false }
def FnExactRanksOfSaid : Prop := fnExactRanksOfRow.holds Try.pinned (OpenSpec.ofChange fnExactRanksOfSpec)

/-- ITS FALSE NEIGHBOUR: 'it returns false'. Refute it at one input. -/
def fnExactRanksOfWrong : ChangeSpec := { name := "fnExactRanksOf", fn := fun _ => fun
  | [d] => { results := [.lit (.bool false)], args := [d] }
  | _ => none }
def FnExactRanksOfWrongFalsely : Prop := fnExactRanksOfRow.holds Try.pinned (OpenSpec.ofChange fnExactRanksOfWrong)

/-- 'laws.FnExactElectPlace': WHATEVER THE INPUT: true; the input reads as it did. -/
def fnExactElectPlaceSpec : ChangeSpec := { name := "fnExactElectPlace", fn := fun _ => fun
  | [d] => { results := [.lit (.bool true)], args := [d] }
  | _ => none }
def fnExactElectPlaceRow : OpenClaim := { program := "yteaabofmnlbmkaa", sum := "a5e23de3440fa776db0575ca410749abfb884540c1506592ca0582893a1de6d5", func := "loop.example/g01148/laws.FnExactElectPlace", spec := "fnExactElectPlace", unfollowed := true, recurses := true, apart := false }
def FnExactElectPlaceSaid : Prop := fnExactElectPlaceRow.holds Try.pinned (OpenSpec.ofChange fnExactElectPlaceSpec)

/-- ITS FALSE NEIGHBOUR: 'it returns false'. Refute it at one input. -/
def fnExactElectPlaceWrong : ChangeSpec := { name := "fnExactElectPlace", fn := fun _ => fun
  | [d] => { results := [.lit (.bool false)], args := [d] }
  | _ => none }
def FnExactElectPlaceWrongFalsely : Prop := fnExactElectPlaceRow.holds Try.pinned (OpenSpec.ofChange fnExactElectPlaceWrong)

/-- 'laws.FnExactElectTime': WHATEVER THE INPUT: true; the input reads as it did. -/
def fnExactElectTimeSpec : ChangeSpec := { name := "fnExactElectTime", fn := fun _ => fun
  | [d] => { results := [.lit (.bool true)], args := [d] }
  | _ => none }
def fnExactElectTimeRow : OpenClaim := { program := "yteaabofmnlbmkaa", sum := "a5e23de3440fa776db0575ca410749abfb884540c1506592ca0582893a1de6d5", func := "loop.example/g01148/laws.FnExactElectTime", spec := "fnExactElectTime", unfollowed := true, recurses := true, apart := false }
def FnExactElectTimeSaid : Prop := fnExactElectTimeRow.holds Try.pinned (OpenSpec.ofChange fnExactElectTimeSpec)

/-- ITS FALSE NEIGHBOUR: 'it returns false'. Refute it at one input. -/
def fnExactElectTimeWrong : ChangeSpec := { name := "fnExactElectTime", fn := fun _ => fun
  | [d] => { results := [.lit (.bool false)], args := [d] }
  | _ => none }
def FnExactElectTimeWrongFalsely : Prop := fnExactElectTimeRow.holds Try.pinned (OpenSpec.ofChange fnExactElectTimeWrong)

/-- 'laws.FnExactStepCrowd': WHATEVER THE INPUT: true; the input reads as it did. -/
def fnExactStepCrowdSpec : ChangeSpec := { name := "fnExactStepCrowd", fn := fun _ => fun
  | [d1, d2] => { results := [.lit (.bool true)], args := [d1, d2] }
  | _ => none }
def fnExactStepCrowdRow : OpenClaim := { program := "yteaabofmnlbmkaa", sum := "a5e23de3440fa776db0575ca410749abfb884540c1506592ca0582893a1de6d5", func := "loop.example/g01148/laws.FnExactStepCrowd", spec := "fnExactStepCrowd", unfollowed := true, recurses := true, apart := false }
def FnExactStepCrowdSaid : Prop := fnExactStepCrowdRow.holds Try.pinned (OpenSpec.ofChange fnExactStepCrowdSpec)

/-- ITS FALSE NEIGHBOUR: 'it returns false'. Refute it at one input. -/
def fnExactStepCrowdWrong : ChangeSpec := { name := "fnExactStepCrowd", fn := fun _ => fun
  | [d1, d2] => { results := [.lit (.bool false)], args := [d1, d2] }
  | _ => none }
def FnExactStepCrowdWrongFalsely : Prop := fnExactStepCrowdRow.holds Try.pinned (OpenSpec.ofChange fnExactStepCrowdWrong)

/-- 'laws.FnExactRunCrowd': WHATEVER THE INPUT: true; the input reads as it did. -/
def fnExactRunCrowdSpec : ChangeSpec := { name := "fnExactRunCrowd", fn := fun _ => fun
  | [d1, d2, d3] => { results := [.lit (.bool true)], args := [d1, d2, d3] }
  | _ => none }
def fnExactRunCrowdRow : OpenClaim := { program := "yteaabofmnlbmkaa", sum := "a5e23de3440fa776db0575ca410749abfb884540c1506592ca0582893a1de6d5", func := "loop.example/g01148/laws.FnExactRunCrowd", spec := "fnExactRunCrowd", unfollowed := true, recurses := true, apart := false }
def FnExactRunCrowdSaid : Prop := fnExactRunCrowdRow.holds Try.pinned (OpenSpec.ofChange fnExactRunCrowdSpec)

/-- ITS FALSE NEIGHBOUR: 'it returns false'. Refute it at one input. -/
def fnExactRunCrowdWrong : ChangeSpec := { name := "fnExactRunCrowd", fn := fun _ => fun
  | [d1, d2, d3] => { results := [.lit (.bool false)], args := [d1, d2, d3] }
  | _ => none }
def FnExactRunCrowdWrongFalsely : Prop := fnExactRunCrowdRow.holds Try.pinned (OpenSpec.ofChange fnExactRunCrowdWrong)

/-- 'laws.FnExactFoundForms': WHATEVER THE INPUT: true; the input reads as it did. -/
def fnExactFoundFormsSpec : ChangeSpec := { name := "fnExactFoundForms", fn := fun _ => fun
  | [d1, d2] => { results := [.lit (.bool true)], args := [d1, d2] }
  | _ => none }
def fnExactFoundFormsRow : OpenClaim := { program := "yteaabofmnlbmkaa", sum := "a5e23de3440fa776db0575ca410749abfb884540c1506592ca0582893a1de6d5", func := "loop.example/g01148/laws.FnExactFoundForms", spec := "fnExactFoundForms", unfollowed := true, recurses := true, apart := false }
def FnExactFoundFormsSaid : Prop := fnExactFoundFormsRow.holds Try.pinned (OpenSpec.ofChange fnExactFoundFormsSpec)

/-- ITS FALSE NEIGHBOUR: 'it returns false'. Refute it at one input. -/
def fnExactFoundFormsWrong : ChangeSpec := { name := "fnExactFoundForms", fn := fun _ => fun
  | [d1, d2] => { results := [.lit (.bool false)], args := [d1, d2] }
  | _ => none }
def FnExactFoundFormsWrongFalsely : Prop := fnExactFoundFormsRow.holds Try.pinned (OpenSpec.ofChange fnExactFoundFormsWrong)

/-- 'laws.FnForms': WHATEVER THE INPUT: true; the input reads as it did. -/
def fnFormsSpec : ChangeSpec := { name := "fnForms", fn := fun _ => fun
  | [d] => { results := [.lit (.bool true)], args := [d] }
  | _ => none }
def fnFormsRow : OpenClaim := { program := "yteaabofmnlbmkaa", sum := "a5e23de3440fa776db0575ca410749abfb884540c1506592ca0582893a1de6d5", func := "loop.example/g01148/laws.FnForms", spec := "fnForms", unfollowed := true, recurses := true, apart := false }
def FnFormsSaid : Prop := fnFormsRow.holds Try.pinned (OpenSpec.ofChange fnFormsSpec)

/-- ITS FALSE NEIGHBOUR: 'it returns false'. Refute it at one input. -/
def fnFormsWrong : ChangeSpec := { name := "fnForms", fn := fun _ => fun
  | [d] => { results := [.lit (.bool false)], args := [d] }
  | _ => none }
def FnFormsWrongFalsely : Prop := fnFormsRow.holds Try.pinned (OpenSpec.ofChange fnFormsWrong)

/- THE SECOND FORM. 'bulk': how many values and letters a reading holds, each counted each time it is reached (what is shared counts as often as it is met; a slice's spare places count too). A statement '..UptoSaid' is the law's where the arguments, and the package variables that the reading takes, are together of bulk at most 1048576: NARROWER than '..Said'. Prove '..Said' where nothing that the law and all that it calls make is longer than what came in: it says more and counts as full. Else prove '..UptoSaid'. A law counts once. -/
mutual
def uptoBulk {H : Type} : DataW H → Nat
  | .lit (.string bytes) => bytes.length + 1
  | .lit _ => 1
  | .nil => 1
  | .ptr d => uptoBulk d + 1
  | .slice elems spare => uptoBulkAll elems + uptoBulkAll spare + 1
  | .agg parts => uptoBulkAll parts + 1
  | .iface _ d => uptoBulk d + 1
  | .map entries => uptoBulkEntries entries + 1
  | .held _ => 1
def uptoBulkAll {H : Type} : List (DataW H) → Nat
  | [] => 0
  | d :: r => uptoBulk d + uptoBulkAll r
def uptoBulkEntries {H : Type} : List (Lit × DataW H) → Nat
  | [] => 0
  | x :: r => uptoBulkEntry x + uptoBulkEntries r
def uptoBulkEntry {H : Type} : Lit × DataW H → Nat
  | (.string bytes, d) => bytes.length + uptoBulk d + 1
  | (_, d) => uptoBulk d + 1
 end
def uptoSmall : (H : Type) → List (DataW H) → Bool := fun _ ds => decide (uptoBulkAll ds ≤ 1048576)
def OpenSpec.upto (s : _root_.Go.ChangeSpec) : _root_.Go.OpenSpec := { _root_.Go.OpenSpec.ofChange s with cond := some uptoSmall }

/-- 'laws.FnExactFirstForm', WHERE WHAT IT READS IS OF BULK AT MOST 1048576: true; the input reads as it did. -/
def fnExactFirstFormUptoRow : OpenClaim := { program := "yteaabofmnlbmkaa", sum := "a5e23de3440fa776db0575ca410749abfb884540c1506592ca0582893a1de6d5", func := "loop.example/g01148/laws.FnExactFirstForm", spec := "fnExactFirstForm", unfollowed := true, recurses := true, apart := false, narrowed := true }
def FnExactFirstFormUptoSaid : Prop := fnExactFirstFormUptoRow.holds Try.pinned (OpenSpec.upto fnExactFirstFormSpec)

/-- 'laws.FnExactRanksOf', WHERE WHAT IT READS IS OF BULK AT MOST 1048576: true; the input reads as it did. -/
def fnExactRanksOfUptoRow : OpenClaim := { program := "yteaabofmnlbmkaa", sum := "a5e23de3440fa776db0575ca410749abfb884540c1506592ca0582893a1de6d5", func := "loop.example/g01148/laws.FnExactRanksOf", spec := "fnExactRanksOf", unfollowed := true, recurses := true, apart := false, narrowed := true }
def FnExactRanksOfUptoSaid : Prop := fnExactRanksOfUptoRow.holds Try.pinned (OpenSpec.upto fnExactRanksOfSpec)

/-- 'laws.FnExactElectPlace', WHERE WHAT IT READS IS OF BULK AT MOST 1048576: true; the input reads as it did. -/
def fnExactElectPlaceUptoRow : OpenClaim := { program := "yteaabofmnlbmkaa", sum := "a5e23de3440fa776db0575ca410749abfb884540c1506592ca0582893a1de6d5", func := "loop.example/g01148/laws.FnExactElectPlace", spec := "fnExactElectPlace", unfollowed := true, recurses := true, apart := false, narrowed := true }
def FnExactElectPlaceUptoSaid : Prop := fnExactElectPlaceUptoRow.holds Try.pinned (OpenSpec.upto fnExactElectPlaceSpec)

/-- 'laws.FnExactElectTime', WHERE WHAT IT READS IS OF BULK AT MOST 1048576: true; the input reads as it did. -/
def fnExactElectTimeUptoRow : OpenClaim := { program := "yteaabofmnlbmkaa", sum := "a5e23de3440fa776db0575ca410749abfb884540c1506592ca0582893a1de6d5", func := "loop.example/g01148/laws.FnExactElectTime", spec := "fnExactElectTime", unfollowed := true, recurses := true, apart := false, narrowed := true }
def FnExactElectTimeUptoSaid : Prop := fnExactElectTimeUptoRow.holds Try.pinned (OpenSpec.upto fnExactElectTimeSpec)

/-- 'laws.FnExactStepCrowd', WHERE WHAT IT READS IS OF BULK AT MOST 1048576: true; the input reads as it did. -/
def fnExactStepCrowdUptoRow : OpenClaim := { program := "yteaabofmnlbmkaa", sum := "a5e23de3440fa776db0575ca410749abfb884540c1506592ca0582893a1de6d5", func := "loop.example/g01148/laws.FnExactStepCrowd", spec := "fnExactStepCrowd", unfollowed := true, recurses := true, apart := false, narrowed := true }
def FnExactStepCrowdUptoSaid : Prop := fnExactStepCrowdUptoRow.holds Try.pinned (OpenSpec.upto fnExactStepCrowdSpec)

/-- 'laws.FnExactRunCrowd', WHERE WHAT IT READS IS OF BULK AT MOST 1048576: true; the input reads as it did. -/
def fnExactRunCrowdUptoRow : OpenClaim := { program := "yteaabofmnlbmkaa", sum := "a5e23de3440fa776db0575ca410749abfb884540c1506592ca0582893a1de6d5", func := "loop.example/g01148/laws.FnExactRunCrowd", spec := "fnExactRunCrowd", unfollowed := true, recurses := true, apart := false, narrowed := true }
def FnExactRunCrowdUptoSaid : Prop := fnExactRunCrowdUptoRow.holds Try.pinned (OpenSpec.upto fnExactRunCrowdSpec)

/-- 'laws.FnExactFoundForms', WHERE WHAT IT READS IS OF BULK AT MOST 1048576: true; the input reads as it did. -/
def fnExactFoundFormsUptoRow : OpenClaim := { program := "yteaabofmnlbmkaa", sum := "a5e23de3440fa776db0575ca410749abfb884540c1506592ca0582893a1de6d5", func := "loop.example/g01148/laws.FnExactFoundForms", spec := "fnExactFoundForms", unfollowed := true, recurses := true, apart := false, narrowed := true }
def FnExactFoundFormsUptoSaid : Prop := fnExactFoundFormsUptoRow.holds Try.pinned (OpenSpec.upto fnExactFoundFormsSpec)

/-- 'laws.FnForms', WHERE WHAT IT READS IS OF BULK AT MOST 1048576: true; the input reads as it did. -/
def fnFormsUptoRow : OpenClaim := { program := "yteaabofmnlbmkaa", sum := "a5e23de3440fa776db0575ca410749abfb884540c1506592ca0582893a1de6d5", func := "loop.example/g01148/laws.FnForms", spec := "fnForms", unfollowed := true, recurses := true, apart := false, narrowed := true }
def FnFormsUptoSaid : Prop := fnFormsUptoRow.holds Try.pinned (OpenSpec.upto fnFormsSpec)

end Rows
end Go.Proofs.Yteaabofmnlbmkaa
