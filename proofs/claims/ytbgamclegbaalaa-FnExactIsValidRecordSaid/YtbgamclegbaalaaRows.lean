/-
  No cell of these rows narrows 'for every input' (looked for: loops, veiled, ifaces, maps, wideKeys, modest, calm, conditions, laid).
  DERIVED. THE GIVEN ROWS OF THIS SEAT. 11 by the template 'for every input the law returns true; each argument reads behind the call as it read before'; 0 by the template 'total and deterministic' (their statements: YtbgamclegbaalaaTotals.lean).
  GIVEN WITH THE SEED: the statements are not yours to turn. If you find one false, say at which input.
  Laid BY PROGRAM, IN A SANDBOX (cutbox-rows.mjs): the forced cells as the released guide's own fill.sh prints them over the translation 9422a7c3b4f1d527… (all of the seat's roots in one cut). By AI agents, Wed Nov 11 2026. No macro, syntax, notation, axiom, sorry.
-/
import Derived.Test.YtbgamclegbaalaaChecked
import GoSem.Claim
import GoSem.ClaimJoined
import GoSem.ClaimMapViews
import Derived.JoinedTies
import Derived.KernelRfl
namespace Go.Proofs.Ytbgamclegbaalaa
/- THE CELL 'sum', in the pinned program and in every row, IS THE sha256 OF THE DUMP (.gsa) THAT YtbgamclegbaalaaProg.lean LOADS. Nothing in Lean hashes anything: it is a label: what it is worth is what the hold of that sum in a sandbox is worth. -/
noncomputable def Try.pinned : Pinned := { name := "ytbgamclegbaalaa", sum := "9422a7c3b4f1d527a308cafa96db165f4f742ac0f4bd2afb10d25c01e4edf9ea", checked := Try.checked }
namespace Rows
def none {H : Type} : Left H := { results := [], args := [] }

/-- 'laws.FnExactFirstDirty': WHATEVER THE INPUT: true; the input reads as it did. -/
def fnExactFirstDirtySpec : ChangeSpec := { name := "fnExactFirstDirty", fn := fun _ => fun
  | [d1, d2] => { results := [.lit (.bool true)], args := [d1, d2] }
  | _ => none }
def fnExactFirstDirtyRow : OpenClaim := { program := "ytbgamclegbaalaa", sum := "9422a7c3b4f1d527a308cafa96db165f4f742ac0f4bd2afb10d25c01e4edf9ea", func := "loop.example/g01148/laws.FnExactFirstDirty", spec := "fnExactFirstDirty", apart := false }
def FnExactFirstDirtySaid : Prop := fnExactFirstDirtyRow.holds Try.pinned (OpenSpec.ofChange fnExactFirstDirtySpec)

/-- ITS FALSE NEIGHBOUR: 'it returns false'. Refute it at one input. -/
def fnExactFirstDirtyWrong : ChangeSpec := { name := "fnExactFirstDirty", fn := fun _ => fun
  | [d1, d2] => { results := [.lit (.bool false)], args := [d1, d2] }
  | _ => none }
def FnExactFirstDirtyWrongFalsely : Prop := fnExactFirstDirtyRow.holds Try.pinned (OpenSpec.ofChange fnExactFirstDirtyWrong)

/-- 'laws.FnExactAreChasers': WHATEVER THE INPUT: true; the input reads as it did. -/
def fnExactAreChasersSpec : ChangeSpec := { name := "fnExactAreChasers", fn := fun _ => fun
  | [d1, d2] => { results := [.lit (.bool true)], args := [d1, d2] }
  | _ => none }
def fnExactAreChasersRow : OpenClaim := { program := "ytbgamclegbaalaa", sum := "9422a7c3b4f1d527a308cafa96db165f4f742ac0f4bd2afb10d25c01e4edf9ea", func := "loop.example/g01148/laws.FnExactAreChasers", spec := "fnExactAreChasers", unfollowed := true, recurses := true, apart := false }
def FnExactAreChasersSaid : Prop := fnExactAreChasersRow.holds Try.pinned (OpenSpec.ofChange fnExactAreChasersSpec)

/-- ITS FALSE NEIGHBOUR: 'it returns false'. Refute it at one input. -/
def fnExactAreChasersWrong : ChangeSpec := { name := "fnExactAreChasers", fn := fun _ => fun
  | [d1, d2] => { results := [.lit (.bool false)], args := [d1, d2] }
  | _ => none }
def FnExactAreChasersWrongFalsely : Prop := fnExactAreChasersRow.holds Try.pinned (OpenSpec.ofChange fnExactAreChasersWrong)

/-- 'laws.FnExactStepDirty': WHATEVER THE INPUT: true; the input reads as it did. -/
def fnExactStepDirtySpec : ChangeSpec := { name := "fnExactStepDirty", fn := fun _ => fun
  | [d1, d2, d3, d4] => { results := [.lit (.bool true)], args := [d1, d2, d3, d4] }
  | _ => none }
def fnExactStepDirtyRow : OpenClaim := { program := "ytbgamclegbaalaa", sum := "9422a7c3b4f1d527a308cafa96db165f4f742ac0f4bd2afb10d25c01e4edf9ea", func := "loop.example/g01148/laws.FnExactStepDirty", spec := "fnExactStepDirty", apart := false }
def FnExactStepDirtySaid : Prop := fnExactStepDirtyRow.holds Try.pinned (OpenSpec.ofChange fnExactStepDirtySpec)

/-- ITS FALSE NEIGHBOUR: 'it returns false'. Refute it at one input. -/
def fnExactStepDirtyWrong : ChangeSpec := { name := "fnExactStepDirty", fn := fun _ => fun
  | [d1, d2, d3, d4] => { results := [.lit (.bool false)], args := [d1, d2, d3, d4] }
  | _ => none }
def FnExactStepDirtyWrongFalsely : Prop := fnExactStepDirtyRow.holds Try.pinned (OpenSpec.ofChange fnExactStepDirtyWrong)

/-- 'laws.FnExactIsValidRecord': WHATEVER THE INPUT: true; the input reads as it did. -/
def fnExactIsValidRecordSpec : ChangeSpec := { name := "fnExactIsValidRecord", fn := fun _ => fun
  | [d] => { results := [.lit (.bool true)], args := [d] }
  | _ => none }
def fnExactIsValidRecordRow : OpenClaim := { program := "ytbgamclegbaalaa", sum := "9422a7c3b4f1d527a308cafa96db165f4f742ac0f4bd2afb10d25c01e4edf9ea", func := "loop.example/g01148/laws.FnExactIsValidRecord", spec := "fnExactIsValidRecord", inPlace := ["internal/bytealg.IndexByteString", "internal/bytealg.IndexString"], named := ["internal/bytealg.MaxLen"], apart := false }
def FnExactIsValidRecordSaid : Prop := fnExactIsValidRecordRow.holds Try.pinned (OpenSpec.ofChange fnExactIsValidRecordSpec)

/-- ITS FALSE NEIGHBOUR: 'it returns false'. Refute it at one input. -/
def fnExactIsValidRecordWrong : ChangeSpec := { name := "fnExactIsValidRecord", fn := fun _ => fun
  | [d] => { results := [.lit (.bool false)], args := [d] }
  | _ => none }
def FnExactIsValidRecordWrongFalsely : Prop := fnExactIsValidRecordRow.holds Try.pinned (OpenSpec.ofChange fnExactIsValidRecordWrong)

/-- 'laws.FnExactIsFree': WHATEVER THE INPUT: true; the input reads as it did. -/
def fnExactIsFreeSpec : ChangeSpec := { name := "fnExactIsFree", fn := fun _ => fun
  | [d1, d2, d3] => { results := [.lit (.bool true)], args := [d1, d2, d3] }
  | _ => none }
def fnExactIsFreeRow : OpenClaim := { program := "ytbgamclegbaalaa", sum := "9422a7c3b4f1d527a308cafa96db165f4f742ac0f4bd2afb10d25c01e4edf9ea", func := "loop.example/g01148/laws.FnExactIsFree", spec := "fnExactIsFree", unfollowed := true, recurses := true, apart := false }
def FnExactIsFreeSaid : Prop := fnExactIsFreeRow.holds Try.pinned (OpenSpec.ofChange fnExactIsFreeSpec)

/-- ITS FALSE NEIGHBOUR: 'it returns false'. Refute it at one input. -/
def fnExactIsFreeWrong : ChangeSpec := { name := "fnExactIsFree", fn := fun _ => fun
  | [d1, d2, d3] => { results := [.lit (.bool false)], args := [d1, d2, d3] }
  | _ => none }
def FnExactIsFreeWrongFalsely : Prop := fnExactIsFreeRow.holds Try.pinned (OpenSpec.ofChange fnExactIsFreeWrong)

/-- 'laws.FnExactIsYard': WHATEVER THE INPUT: true; the input reads as it did. -/
def fnExactIsYardSpec : ChangeSpec := { name := "fnExactIsYard", fn := fun _ => fun
  | [d] => { results := [.lit (.bool true)], args := [d] }
  | _ => none }
def fnExactIsYardRow : OpenClaim := { program := "ytbgamclegbaalaa", sum := "9422a7c3b4f1d527a308cafa96db165f4f742ac0f4bd2afb10d25c01e4edf9ea", func := "loop.example/g01148/laws.FnExactIsYard", spec := "fnExactIsYard", apart := false }
def FnExactIsYardSaid : Prop := fnExactIsYardRow.holds Try.pinned (OpenSpec.ofChange fnExactIsYardSpec)

/-- ITS FALSE NEIGHBOUR: 'it returns false'. Refute it at one input. -/
def fnExactIsYardWrong : ChangeSpec := { name := "fnExactIsYard", fn := fun _ => fun
  | [d] => { results := [.lit (.bool false)], args := [d] }
  | _ => none }
def FnExactIsYardWrongFalsely : Prop := fnExactIsYardRow.holds Try.pinned (OpenSpec.ofChange fnExactIsYardWrong)

/-- 'laws.FnExactCountFree': WHATEVER THE INPUT: true; the input reads as it did. -/
def fnExactCountFreeSpec : ChangeSpec := { name := "fnExactCountFree", fn := fun _ => fun
  | [d1, d2] => { results := [.lit (.bool true)], args := [d1, d2] }
  | _ => none }
def fnExactCountFreeRow : OpenClaim := { program := "ytbgamclegbaalaa", sum := "9422a7c3b4f1d527a308cafa96db165f4f742ac0f4bd2afb10d25c01e4edf9ea", func := "loop.example/g01148/laws.FnExactCountFree", spec := "fnExactCountFree", unfollowed := true, recurses := true, apart := false }
def FnExactCountFreeSaid : Prop := fnExactCountFreeRow.holds Try.pinned (OpenSpec.ofChange fnExactCountFreeSpec)

/-- ITS FALSE NEIGHBOUR: 'it returns false'. Refute it at one input. -/
def fnExactCountFreeWrong : ChangeSpec := { name := "fnExactCountFree", fn := fun _ => fun
  | [d1, d2] => { results := [.lit (.bool false)], args := [d1, d2] }
  | _ => none }
def FnExactCountFreeWrongFalsely : Prop := fnExactCountFreeRow.holds Try.pinned (OpenSpec.ofChange fnExactCountFreeWrong)

/-- 'laws.FnExactChaseEnd': WHATEVER THE INPUT: true; the input reads as it did. -/
def fnExactChaseEndSpec : ChangeSpec := { name := "fnExactChaseEnd", fn := fun _ => fun
  | [d1, d2] => { results := [.lit (.bool true)], args := [d1, d2] }
  | _ => none }
def fnExactChaseEndRow : OpenClaim := { program := "ytbgamclegbaalaa", sum := "9422a7c3b4f1d527a308cafa96db165f4f742ac0f4bd2afb10d25c01e4edf9ea", func := "loop.example/g01148/laws.FnExactChaseEnd", spec := "fnExactChaseEnd", unfollowed := true, recurses := true, apart := false }
def FnExactChaseEndSaid : Prop := fnExactChaseEndRow.holds Try.pinned (OpenSpec.ofChange fnExactChaseEndSpec)

/-- ITS FALSE NEIGHBOUR: 'it returns false'. Refute it at one input. -/
def fnExactChaseEndWrong : ChangeSpec := { name := "fnExactChaseEnd", fn := fun _ => fun
  | [d1, d2] => { results := [.lit (.bool false)], args := [d1, d2] }
  | _ => none }
def FnExactChaseEndWrongFalsely : Prop := fnExactChaseEndRow.holds Try.pinned (OpenSpec.ofChange fnExactChaseEndWrong)

/-- 'laws.FnExactNewYard': WHATEVER THE INPUT: true; the input reads as it did. -/
def fnExactNewYardSpec : ChangeSpec := { name := "fnExactNewYard", fn := fun _ => fun
  | [d1, d2] => { results := [.lit (.bool true)], args := [d1, d2] }
  | _ => none }
def fnExactNewYardRow : OpenClaim := { program := "ytbgamclegbaalaa", sum := "9422a7c3b4f1d527a308cafa96db165f4f742ac0f4bd2afb10d25c01e4edf9ea", func := "loop.example/g01148/laws.FnExactNewYard", spec := "fnExactNewYard", apart := false }
def FnExactNewYardSaid : Prop := fnExactNewYardRow.holds Try.pinned (OpenSpec.ofChange fnExactNewYardSpec)

/-- ITS FALSE NEIGHBOUR: 'it returns false'. Refute it at one input. -/
def fnExactNewYardWrong : ChangeSpec := { name := "fnExactNewYard", fn := fun _ => fun
  | [d1, d2] => { results := [.lit (.bool false)], args := [d1, d2] }
  | _ => none }
def FnExactNewYardWrongFalsely : Prop := fnExactNewYardRow.holds Try.pinned (OpenSpec.ofChange fnExactNewYardWrong)

/-- 'laws.FnExactDirtyAt': WHATEVER THE INPUT: true; the input reads as it did. -/
def fnExactDirtyAtSpec : ChangeSpec := { name := "fnExactDirtyAt", fn := fun _ => fun
  | [d1, d2, d3] => { results := [.lit (.bool true)], args := [d1, d2, d3] }
  | _ => none }
def fnExactDirtyAtRow : OpenClaim := { program := "ytbgamclegbaalaa", sum := "9422a7c3b4f1d527a308cafa96db165f4f742ac0f4bd2afb10d25c01e4edf9ea", func := "loop.example/g01148/laws.FnExactDirtyAt", spec := "fnExactDirtyAt", unfollowed := true, recurses := true, apart := false }
def FnExactDirtyAtSaid : Prop := fnExactDirtyAtRow.holds Try.pinned (OpenSpec.ofChange fnExactDirtyAtSpec)

/-- ITS FALSE NEIGHBOUR: 'it returns false'. Refute it at one input. -/
def fnExactDirtyAtWrong : ChangeSpec := { name := "fnExactDirtyAt", fn := fun _ => fun
  | [d1, d2, d3] => { results := [.lit (.bool false)], args := [d1, d2, d3] }
  | _ => none }
def FnExactDirtyAtWrongFalsely : Prop := fnExactDirtyAtRow.holds Try.pinned (OpenSpec.ofChange fnExactDirtyAtWrong)

/-- 'laws.FnExactFreeWalk': WHATEVER THE INPUT: true; the input reads as it did. -/
def fnExactFreeWalkSpec : ChangeSpec := { name := "fnExactFreeWalk", fn := fun _ => fun
  | [d1, d2] => { results := [.lit (.bool true)], args := [d1, d2] }
  | _ => none }
def fnExactFreeWalkRow : OpenClaim := { program := "ytbgamclegbaalaa", sum := "9422a7c3b4f1d527a308cafa96db165f4f742ac0f4bd2afb10d25c01e4edf9ea", func := "loop.example/g01148/laws.FnExactFreeWalk", spec := "fnExactFreeWalk", unfollowed := true, recurses := true, apart := false }
def FnExactFreeWalkSaid : Prop := fnExactFreeWalkRow.holds Try.pinned (OpenSpec.ofChange fnExactFreeWalkSpec)

/-- ITS FALSE NEIGHBOUR: 'it returns false'. Refute it at one input. -/
def fnExactFreeWalkWrong : ChangeSpec := { name := "fnExactFreeWalk", fn := fun _ => fun
  | [d1, d2] => { results := [.lit (.bool false)], args := [d1, d2] }
  | _ => none }
def FnExactFreeWalkWrongFalsely : Prop := fnExactFreeWalkRow.holds Try.pinned (OpenSpec.ofChange fnExactFreeWalkWrong)

/- THE SECOND FORM. 'bulk': how many values and letters a reading holds, each counted each time it is reached (what is shared counts as often as it is met; a slice's spare places count too). A statement '..UptoSaid' is the law's where the arguments, and the package variables that the reading takes, are together of bulk at most 1048576: NARROWER than '..Said'. Prove '..Said' where nothing that the law and all that it calls make is longer than what came in: it says more and counts as full. Else prove '..UptoSaid'. A law counts once. -/
mutual
def uptoBulk {H : Type} : DataW H → Nat
  | .lit (.string bytes) => bytes.length + 1
  | .lit _ => 1
  | .nil => 1
  | .ptr d => uptoBulk d + 1
  | .slice elems spare => uptoBulkAll elems + uptoBulkAll spare + 1
  | .agg parts => uptoBulkAll parts + 1
  | .iface _ d => uptoBulk d + 1
  | .map entries => uptoBulkEntries entries + 1
  | .held _ => 1
def uptoBulkAll {H : Type} : List (DataW H) → Nat
  | [] => 0
  | d :: r => uptoBulk d + uptoBulkAll r
def uptoBulkEntries {H : Type} : List (Lit × DataW H) → Nat
  | [] => 0
  | x :: r => uptoBulkEntry x + uptoBulkEntries r
def uptoBulkEntry {H : Type} : Lit × DataW H → Nat
  | (.string bytes, d) => bytes.length + uptoBulk d + 1
  | (_, d) => uptoBulk d + 1
 end
def uptoSmall : (H : Type) → List (DataW H) → Bool := fun _ ds => decide (uptoBulkAll ds ≤ 1048576)
def OpenSpec.upto (s : _root_.Go.ChangeSpec) : _root_.Go.OpenSpec := { _root_.Go.OpenSpec.ofChange s with cond := some uptoSmall }

/-- 'laws.FnExactFirstDirty', WHERE WHAT IT READS IS OF BULK AT MOST 1048576: true; the input reads as it did. -/
def fnExactFirstDirtyUptoRow : OpenClaim := { program := "ytbgamclegbaalaa", sum := "9422a7c3b4f1d527a308cafa96db165f4f742ac0f4bd2afb10d25c01e4edf9ea", func := "loop.example/g01148/laws.FnExactFirstDirty", spec := "fnExactFirstDirty", apart := false, narrowed := true }
def FnExactFirstDirtyUptoSaid : Prop := fnExactFirstDirtyUptoRow.holds Try.pinned (OpenSpec.upto fnExactFirstDirtySpec)

/-- 'laws.FnExactAreChasers', WHERE WHAT IT READS IS OF BULK AT MOST 1048576: true; the input reads as it did. -/
def fnExactAreChasersUptoRow : OpenClaim := { program := "ytbgamclegbaalaa", sum := "9422a7c3b4f1d527a308cafa96db165f4f742ac0f4bd2afb10d25c01e4edf9ea", func := "loop.example/g01148/laws.FnExactAreChasers", spec := "fnExactAreChasers", unfollowed := true, recurses := true, apart := false, narrowed := true }
def FnExactAreChasersUptoSaid : Prop := fnExactAreChasersUptoRow.holds Try.pinned (OpenSpec.upto fnExactAreChasersSpec)

/-- 'laws.FnExactStepDirty', WHERE WHAT IT READS IS OF BULK AT MOST 1048576: true; the input reads as it did. -/
def fnExactStepDirtyUptoRow : OpenClaim := { program := "ytbgamclegbaalaa", sum := "9422a7c3b4f1d527a308cafa96db165f4f742ac0f4bd2afb10d25c01e4edf9ea", func := "loop.example/g01148/laws.FnExactStepDirty", spec := "fnExactStepDirty", apart := false, narrowed := true }
def FnExactStepDirtyUptoSaid : Prop := fnExactStepDirtyUptoRow.holds Try.pinned (OpenSpec.upto fnExactStepDirtySpec)

/-- 'laws.FnExactIsValidRecord', WHERE WHAT IT READS IS OF BULK AT MOST 1048576: true; the input reads as it did. -/
def fnExactIsValidRecordUptoRow : OpenClaim := { program := "ytbgamclegbaalaa", sum := "9422a7c3b4f1d527a308cafa96db165f4f742ac0f4bd2afb10d25c01e4edf9ea", func := "loop.example/g01148/laws.FnExactIsValidRecord", spec := "fnExactIsValidRecord", inPlace := ["internal/bytealg.IndexByteString", "internal/bytealg.IndexString"], named := ["internal/bytealg.MaxLen"], apart := false, narrowed := true }
def FnExactIsValidRecordUptoSaid : Prop := fnExactIsValidRecordUptoRow.holds Try.pinned (OpenSpec.upto fnExactIsValidRecordSpec)

/-- 'laws.FnExactIsFree', WHERE WHAT IT READS IS OF BULK AT MOST 1048576: true; the input reads as it did. -/
def fnExactIsFreeUptoRow : OpenClaim := { program := "ytbgamclegbaalaa", sum := "9422a7c3b4f1d527a308cafa96db165f4f742ac0f4bd2afb10d25c01e4edf9ea", func := "loop.example/g01148/laws.FnExactIsFree", spec := "fnExactIsFree", unfollowed := true, recurses := true, apart := false, narrowed := true }
def FnExactIsFreeUptoSaid : Prop := fnExactIsFreeUptoRow.holds Try.pinned (OpenSpec.upto fnExactIsFreeSpec)

/-- 'laws.FnExactIsYard', WHERE WHAT IT READS IS OF BULK AT MOST 1048576: true; the input reads as it did. -/
def fnExactIsYardUptoRow : OpenClaim := { program := "ytbgamclegbaalaa", sum := "9422a7c3b4f1d527a308cafa96db165f4f742ac0f4bd2afb10d25c01e4edf9ea", func := "loop.example/g01148/laws.FnExactIsYard", spec := "fnExactIsYard", apart := false, narrowed := true }
def FnExactIsYardUptoSaid : Prop := fnExactIsYardUptoRow.holds Try.pinned (OpenSpec.upto fnExactIsYardSpec)

/-- 'laws.FnExactCountFree', WHERE WHAT IT READS IS OF BULK AT MOST 1048576: true; the input reads as it did. -/
def fnExactCountFreeUptoRow : OpenClaim := { program := "ytbgamclegbaalaa", sum := "9422a7c3b4f1d527a308cafa96db165f4f742ac0f4bd2afb10d25c01e4edf9ea", func := "loop.example/g01148/laws.FnExactCountFree", spec := "fnExactCountFree", unfollowed := true, recurses := true, apart := false, narrowed := true }
def FnExactCountFreeUptoSaid : Prop := fnExactCountFreeUptoRow.holds Try.pinned (OpenSpec.upto fnExactCountFreeSpec)

/-- 'laws.FnExactChaseEnd', WHERE WHAT IT READS IS OF BULK AT MOST 1048576: true; the input reads as it did. -/
def fnExactChaseEndUptoRow : OpenClaim := { program := "ytbgamclegbaalaa", sum := "9422a7c3b4f1d527a308cafa96db165f4f742ac0f4bd2afb10d25c01e4edf9ea", func := "loop.example/g01148/laws.FnExactChaseEnd", spec := "fnExactChaseEnd", unfollowed := true, recurses := true, apart := false, narrowed := true }
def FnExactChaseEndUptoSaid : Prop := fnExactChaseEndUptoRow.holds Try.pinned (OpenSpec.upto fnExactChaseEndSpec)

/-- 'laws.FnExactNewYard', WHERE WHAT IT READS IS OF BULK AT MOST 1048576: true; the input reads as it did. -/
def fnExactNewYardUptoRow : OpenClaim := { program := "ytbgamclegbaalaa", sum := "9422a7c3b4f1d527a308cafa96db165f4f742ac0f4bd2afb10d25c01e4edf9ea", func := "loop.example/g01148/laws.FnExactNewYard", spec := "fnExactNewYard", apart := false, narrowed := true }
def FnExactNewYardUptoSaid : Prop := fnExactNewYardUptoRow.holds Try.pinned (OpenSpec.upto fnExactNewYardSpec)

/-- 'laws.FnExactDirtyAt', WHERE WHAT IT READS IS OF BULK AT MOST 1048576: true; the input reads as it did. -/
def fnExactDirtyAtUptoRow : OpenClaim := { program := "ytbgamclegbaalaa", sum := "9422a7c3b4f1d527a308cafa96db165f4f742ac0f4bd2afb10d25c01e4edf9ea", func := "loop.example/g01148/laws.FnExactDirtyAt", spec := "fnExactDirtyAt", unfollowed := true, recurses := true, apart := false, narrowed := true }
def FnExactDirtyAtUptoSaid : Prop := fnExactDirtyAtUptoRow.holds Try.pinned (OpenSpec.upto fnExactDirtyAtSpec)

/-- 'laws.FnExactFreeWalk', WHERE WHAT IT READS IS OF BULK AT MOST 1048576: true; the input reads as it did. -/
def fnExactFreeWalkUptoRow : OpenClaim := { program := "ytbgamclegbaalaa", sum := "9422a7c3b4f1d527a308cafa96db165f4f742ac0f4bd2afb10d25c01e4edf9ea", func := "loop.example/g01148/laws.FnExactFreeWalk", spec := "fnExactFreeWalk", unfollowed := true, recurses := true, apart := false, narrowed := true }
def FnExactFreeWalkUptoSaid : Prop := fnExactFreeWalkUptoRow.holds Try.pinned (OpenSpec.upto fnExactFreeWalkSpec)

end Rows
end Go.Proofs.Ytbgamclegbaalaa
