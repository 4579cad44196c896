/-
  No cell of these rows narrows 'for every input' (looked for: loops, veiled, ifaces, maps, wideKeys, modest, calm, conditions, laid).
  DERIVED. THE GIVEN ROWS OF THIS SEAT. 10 by the template 'for every input the law returns true; each argument reads behind the call as it read before'; 0 by the template 'total and deterministic' (their statements: YtdobohnkjmgefaaTotals.lean).
  GIVEN WITH THE SEED: the statements are not yours to turn. If you find one false, say at which input.
  Laid BY PROGRAM, IN A SANDBOX (cutbox-rows.mjs): the forced cells as the released guide's own fill.sh prints them over the translation 750e876b898e2422… (all of the seat's roots in one cut). By AI agents, Wed Nov 11 2026. No macro, syntax, notation, axiom, sorry.
-/
import Derived.Test.YtdobohnkjmgefaaChecked
import GoSem.Claim
import GoSem.ClaimJoined
import GoSem.ClaimMapViews
import Derived.JoinedTies
import Derived.KernelRfl
namespace Go.Proofs.Ytdobohnkjmgefaa
/- THE CELL 'sum', in the pinned program and in every row, IS THE sha256 OF THE DUMP (.gsa) THAT YtdobohnkjmgefaaProg.lean LOADS. Nothing in Lean hashes anything: it is a label: what it is worth is what the hold of that sum in a sandbox is worth. -/
noncomputable def Try.pinned : Pinned := { name := "ytdobohnkjmgefaa", sum := "750e876b898e2422100384812cdace0a7a7184a330195524bea57761d496fd77", checked := Try.checked }
namespace Rows
def none {H : Type} : Left H := { results := [], args := [] }

/-- 'laws.FnExactDirtyCounts': WHATEVER THE INPUT: true; the input reads as it did. -/
def fnExactDirtyCountsSpec : ChangeSpec := { name := "fnExactDirtyCounts", fn := fun _ => fun
  | [d1, d2] => { results := [.lit (.bool true)], args := [d1, d2] }
  | _ => none }
def fnExactDirtyCountsRow : OpenClaim := { program := "ytdobohnkjmgefaa", sum := "750e876b898e2422100384812cdace0a7a7184a330195524bea57761d496fd77", func := "loop.example/g01148/laws.FnExactDirtyCounts", spec := "fnExactDirtyCounts", unfollowed := true, recurses := true, apart := false }
def FnExactDirtyCountsSaid : Prop := fnExactDirtyCountsRow.holds Try.pinned (OpenSpec.ofChange fnExactDirtyCountsSpec)

/-- ITS FALSE NEIGHBOUR: 'it returns false'. Refute it at one input. -/
def fnExactDirtyCountsWrong : ChangeSpec := { name := "fnExactDirtyCounts", fn := fun _ => fun
  | [d1, d2] => { results := [.lit (.bool false)], args := [d1, d2] }
  | _ => none }
def FnExactDirtyCountsWrongFalsely : Prop := fnExactDirtyCountsRow.holds Try.pinned (OpenSpec.ofChange fnExactDirtyCountsWrong)

/-- 'laws.FnExactWalkerSeen': WHATEVER THE INPUT: true; the input reads as it did. -/
def fnExactWalkerSeenSpec : ChangeSpec := { name := "fnExactWalkerSeen", fn := fun _ => fun
  | [d] => { results := [.lit (.bool true)], args := [d] }
  | _ => none }
def fnExactWalkerSeenRow : OpenClaim := { program := "ytdobohnkjmgefaa", sum := "750e876b898e2422100384812cdace0a7a7184a330195524bea57761d496fd77", func := "loop.example/g01148/laws.FnExactWalkerSeen", spec := "fnExactWalkerSeen", unfollowed := true, recurses := true, apart := false }
def FnExactWalkerSeenSaid : Prop := fnExactWalkerSeenRow.holds Try.pinned (OpenSpec.ofChange fnExactWalkerSeenSpec)

/-- ITS FALSE NEIGHBOUR: 'it returns false'. Refute it at one input. -/
def fnExactWalkerSeenWrong : ChangeSpec := { name := "fnExactWalkerSeen", fn := fun _ => fun
  | [d] => { results := [.lit (.bool false)], args := [d] }
  | _ => none }
def FnExactWalkerSeenWrongFalsely : Prop := fnExactWalkerSeenRow.holds Try.pinned (OpenSpec.ofChange fnExactWalkerSeenWrong)

/-- 'laws.FnExactNewConsole': WHATEVER THE INPUT: true; the input reads as it did. -/
def fnExactNewConsoleSpec : ChangeSpec := { name := "fnExactNewConsole", fn := fun _ => fun
  | [d] => { results := [.lit (.bool true)], args := [d] }
  | _ => none }
def fnExactNewConsoleRow : OpenClaim := { program := "ytdobohnkjmgefaa", sum := "750e876b898e2422100384812cdace0a7a7184a330195524bea57761d496fd77", func := "loop.example/g01148/laws.FnExactNewConsole", spec := "fnExactNewConsole", apart := false }
def FnExactNewConsoleSaid : Prop := fnExactNewConsoleRow.holds Try.pinned (OpenSpec.ofChange fnExactNewConsoleSpec)

/-- ITS FALSE NEIGHBOUR: 'it returns false'. Refute it at one input. -/
def fnExactNewConsoleWrong : ChangeSpec := { name := "fnExactNewConsole", fn := fun _ => fun
  | [d] => { results := [.lit (.bool false)], args := [d] }
  | _ => none }
def FnExactNewConsoleWrongFalsely : Prop := fnExactNewConsoleRow.holds Try.pinned (OpenSpec.ofChange fnExactNewConsoleWrong)

/-- 'laws.FnExactWorkYard': WHATEVER THE INPUT: true; the input reads as it did. -/
def fnExactWorkYardSpec : ChangeSpec := { name := "fnExactWorkYard", fn := fun _ => fun
  | [d1, d2] => { results := [.lit (.bool true)], args := [d1, d2] }
  | _ => none }
def fnExactWorkYardRow : OpenClaim := { program := "ytdobohnkjmgefaa", sum := "750e876b898e2422100384812cdace0a7a7184a330195524bea57761d496fd77", func := "loop.example/g01148/laws.FnExactWorkYard", spec := "fnExactWorkYard", apart := false }
def FnExactWorkYardSaid : Prop := fnExactWorkYardRow.holds Try.pinned (OpenSpec.ofChange fnExactWorkYardSpec)

/-- ITS FALSE NEIGHBOUR: 'it returns false'. Refute it at one input. -/
def fnExactWorkYardWrong : ChangeSpec := { name := "fnExactWorkYard", fn := fun _ => fun
  | [d1, d2] => { results := [.lit (.bool false)], args := [d1, d2] }
  | _ => none }
def FnExactWorkYardWrongFalsely : Prop := fnExactWorkYardRow.holds Try.pinned (OpenSpec.ofChange fnExactWorkYardWrong)

/-- 'laws.FnExactWorkAll': WHATEVER THE INPUT: true; the input reads as it did. -/
def fnExactWorkAllSpec : ChangeSpec := { name := "fnExactWorkAll", fn := fun _ => fun
  | [d1, d2] => { results := [.lit (.bool true)], args := [d1, d2] }
  | _ => none }
def fnExactWorkAllRow : OpenClaim := { program := "ytdobohnkjmgefaa", sum := "750e876b898e2422100384812cdace0a7a7184a330195524bea57761d496fd77", func := "loop.example/g01148/laws.FnExactWorkAll", spec := "fnExactWorkAll", apart := false }
def FnExactWorkAllSaid : Prop := fnExactWorkAllRow.holds Try.pinned (OpenSpec.ofChange fnExactWorkAllSpec)

/-- ITS FALSE NEIGHBOUR: 'it returns false'. Refute it at one input. -/
def fnExactWorkAllWrong : ChangeSpec := { name := "fnExactWorkAll", fn := fun _ => fun
  | [d1, d2] => { results := [.lit (.bool false)], args := [d1, d2] }
  | _ => none }
def FnExactWorkAllWrongFalsely : Prop := fnExactWorkAllRow.holds Try.pinned (OpenSpec.ofChange fnExactWorkAllWrong)

/-- 'laws.FnWatched': WHATEVER THE INPUT: true; the input reads as it did. -/
def fnWatchedSpec : ChangeSpec := { name := "fnWatched", fn := fun _ => fun
  | [d] => { results := [.lit (.bool true)], args := [d] }
  | _ => none }
def fnWatchedRow : OpenClaim := { program := "ytdobohnkjmgefaa", sum := "750e876b898e2422100384812cdace0a7a7184a330195524bea57761d496fd77", func := "loop.example/g01148/laws.FnWatched", spec := "fnWatched", unfollowed := true, recurses := true, apart := false }
def FnWatchedSaid : Prop := fnWatchedRow.holds Try.pinned (OpenSpec.ofChange fnWatchedSpec)

/-- ITS FALSE NEIGHBOUR: 'it returns false'. Refute it at one input. -/
def fnWatchedWrong : ChangeSpec := { name := "fnWatched", fn := fun _ => fun
  | [d] => { results := [.lit (.bool false)], args := [d] }
  | _ => none }
def FnWatchedWrongFalsely : Prop := fnWatchedRow.holds Try.pinned (OpenSpec.ofChange fnWatchedWrong)

/-- 'laws.FnYards': WHATEVER THE INPUT: true; the input reads as it did. -/
def fnYardsSpec : ChangeSpec := { name := "fnYards", fn := fun _ => fun
  | [d] => { results := [.lit (.bool true)], args := [d] }
  | _ => none }
def fnYardsRow : OpenClaim := { program := "ytdobohnkjmgefaa", sum := "750e876b898e2422100384812cdace0a7a7184a330195524bea57761d496fd77", func := "loop.example/g01148/laws.FnYards", spec := "fnYards", apart := false }
def FnYardsSaid : Prop := fnYardsRow.holds Try.pinned (OpenSpec.ofChange fnYardsSpec)

/-- ITS FALSE NEIGHBOUR: 'it returns false'. Refute it at one input. -/
def fnYardsWrong : ChangeSpec := { name := "fnYards", fn := fun _ => fun
  | [d] => { results := [.lit (.bool false)], args := [d] }
  | _ => none }
def FnYardsWrongFalsely : Prop := fnYardsRow.holds Try.pinned (OpenSpec.ofChange fnYardsWrong)

/-- 'laws.FnMeeting': WHATEVER THE INPUT: true; the input reads as it did. -/
def fnMeetingSpec : ChangeSpec := { name := "fnMeeting", fn := fun _ => fun
  | [d] => { results := [.lit (.bool true)], args := [d] }
  | _ => none }
def fnMeetingRow : OpenClaim := { program := "ytdobohnkjmgefaa", sum := "750e876b898e2422100384812cdace0a7a7184a330195524bea57761d496fd77", func := "loop.example/g01148/laws.FnMeeting", spec := "fnMeeting", unfollowed := true, recurses := true, apart := false }
def FnMeetingSaid : Prop := fnMeetingRow.holds Try.pinned (OpenSpec.ofChange fnMeetingSpec)

/-- ITS FALSE NEIGHBOUR: 'it returns false'. Refute it at one input. -/
def fnMeetingWrong : ChangeSpec := { name := "fnMeeting", fn := fun _ => fun
  | [d] => { results := [.lit (.bool false)], args := [d] }
  | _ => none }
def FnMeetingWrongFalsely : Prop := fnMeetingRow.holds Try.pinned (OpenSpec.ofChange fnMeetingWrong)

/-- 'laws.FnMeetTables': WHATEVER THE INPUT: true; the input reads as it did. -/
def fnMeetTablesSpec : ChangeSpec := { name := "fnMeetTables", fn := fun _ => fun
  | [d] => { results := [.lit (.bool true)], args := [d] }
  | _ => none }
def fnMeetTablesRow : OpenClaim := { program := "ytdobohnkjmgefaa", sum := "750e876b898e2422100384812cdace0a7a7184a330195524bea57761d496fd77", func := "loop.example/g01148/laws.FnMeetTables", spec := "fnMeetTables", unfollowed := true, recurses := true, apart := false }
def FnMeetTablesSaid : Prop := fnMeetTablesRow.holds Try.pinned (OpenSpec.ofChange fnMeetTablesSpec)

/-- ITS FALSE NEIGHBOUR: 'it returns false'. Refute it at one input. -/
def fnMeetTablesWrong : ChangeSpec := { name := "fnMeetTables", fn := fun _ => fun
  | [d] => { results := [.lit (.bool false)], args := [d] }
  | _ => none }
def FnMeetTablesWrongFalsely : Prop := fnMeetTablesRow.holds Try.pinned (OpenSpec.ofChange fnMeetTablesWrong)

/-- 'laws.FnChases': WHATEVER THE INPUT: true; the input reads as it did. -/
def fnChasesSpec : ChangeSpec := { name := "fnChases", fn := fun _ => fun
  | [d] => { results := [.lit (.bool true)], args := [d] }
  | _ => none }
def fnChasesRow : OpenClaim := { program := "ytdobohnkjmgefaa", sum := "750e876b898e2422100384812cdace0a7a7184a330195524bea57761d496fd77", func := "loop.example/g01148/laws.FnChases", spec := "fnChases", unfollowed := true, recurses := true, apart := false }
def FnChasesSaid : Prop := fnChasesRow.holds Try.pinned (OpenSpec.ofChange fnChasesSpec)

/-- ITS FALSE NEIGHBOUR: 'it returns false'. Refute it at one input. -/
def fnChasesWrong : ChangeSpec := { name := "fnChases", fn := fun _ => fun
  | [d] => { results := [.lit (.bool false)], args := [d] }
  | _ => none }
def FnChasesWrongFalsely : Prop := fnChasesRow.holds Try.pinned (OpenSpec.ofChange fnChasesWrong)

/- THE SECOND FORM. 'bulk': how many values and letters a reading holds, each counted each time it is reached (what is shared counts as often as it is met; a slice's spare places count too). A statement '..UptoSaid' is the law's where the arguments, and the package variables that the reading takes, are together of bulk at most 1048576: NARROWER than '..Said'. Prove '..Said' where nothing that the law and all that it calls make is longer than what came in: it says more and counts as full. Else prove '..UptoSaid'. A law counts once. -/
mutual
def uptoBulk {H : Type} : DataW H → Nat
  | .lit (.string bytes) => bytes.length + 1
  | .lit _ => 1
  | .nil => 1
  | .ptr d => uptoBulk d + 1
  | .slice elems spare => uptoBulkAll elems + uptoBulkAll spare + 1
  | .agg parts => uptoBulkAll parts + 1
  | .iface _ d => uptoBulk d + 1
  | .map entries => uptoBulkEntries entries + 1
  | .held _ => 1
def uptoBulkAll {H : Type} : List (DataW H) → Nat
  | [] => 0
  | d :: r => uptoBulk d + uptoBulkAll r
def uptoBulkEntries {H : Type} : List (Lit × DataW H) → Nat
  | [] => 0
  | x :: r => uptoBulkEntry x + uptoBulkEntries r
def uptoBulkEntry {H : Type} : Lit × DataW H → Nat
  | (.string bytes, d) => bytes.length + uptoBulk d + 1
  | (_, d) => uptoBulk d + 1
 end
def uptoSmall : (H : Type) → List (DataW H) → Bool := fun _ ds => decide (uptoBulkAll ds ≤ 1048576)
def OpenSpec.upto (s : _root_.Go.ChangeSpec) : _root_.Go.OpenSpec := { _root_.Go.OpenSpec.ofChange s with cond := some uptoSmall }

/-- 'laws.FnExactDirtyCounts', WHERE WHAT IT READS IS OF BULK AT MOST 1048576: true; the input reads as it did. -/
def fnExactDirtyCountsUptoRow : OpenClaim := { program := "ytdobohnkjmgefaa", sum := "750e876b898e2422100384812cdace0a7a7184a330195524bea57761d496fd77", func := "loop.example/g01148/laws.FnExactDirtyCounts", spec := "fnExactDirtyCounts", unfollowed := true, recurses := true, apart := false, narrowed := true }
def FnExactDirtyCountsUptoSaid : Prop := fnExactDirtyCountsUptoRow.holds Try.pinned (OpenSpec.upto fnExactDirtyCountsSpec)

/-- 'laws.FnExactWalkerSeen', WHERE WHAT IT READS IS OF BULK AT MOST 1048576: true; the input reads as it did. -/
def fnExactWalkerSeenUptoRow : OpenClaim := { program := "ytdobohnkjmgefaa", sum := "750e876b898e2422100384812cdace0a7a7184a330195524bea57761d496fd77", func := "loop.example/g01148/laws.FnExactWalkerSeen", spec := "fnExactWalkerSeen", unfollowed := true, recurses := true, apart := false, narrowed := true }
def FnExactWalkerSeenUptoSaid : Prop := fnExactWalkerSeenUptoRow.holds Try.pinned (OpenSpec.upto fnExactWalkerSeenSpec)

/-- 'laws.FnExactNewConsole', WHERE WHAT IT READS IS OF BULK AT MOST 1048576: true; the input reads as it did. -/
def fnExactNewConsoleUptoRow : OpenClaim := { program := "ytdobohnkjmgefaa", sum := "750e876b898e2422100384812cdace0a7a7184a330195524bea57761d496fd77", func := "loop.example/g01148/laws.FnExactNewConsole", spec := "fnExactNewConsole", apart := false, narrowed := true }
def FnExactNewConsoleUptoSaid : Prop := fnExactNewConsoleUptoRow.holds Try.pinned (OpenSpec.upto fnExactNewConsoleSpec)

/-- 'laws.FnExactWorkYard', WHERE WHAT IT READS IS OF BULK AT MOST 1048576: true; the input reads as it did. -/
def fnExactWorkYardUptoRow : OpenClaim := { program := "ytdobohnkjmgefaa", sum := "750e876b898e2422100384812cdace0a7a7184a330195524bea57761d496fd77", func := "loop.example/g01148/laws.FnExactWorkYard", spec := "fnExactWorkYard", apart := false, narrowed := true }
def FnExactWorkYardUptoSaid : Prop := fnExactWorkYardUptoRow.holds Try.pinned (OpenSpec.upto fnExactWorkYardSpec)

/-- 'laws.FnExactWorkAll', WHERE WHAT IT READS IS OF BULK AT MOST 1048576: true; the input reads as it did. -/
def fnExactWorkAllUptoRow : OpenClaim := { program := "ytdobohnkjmgefaa", sum := "750e876b898e2422100384812cdace0a7a7184a330195524bea57761d496fd77", func := "loop.example/g01148/laws.FnExactWorkAll", spec := "fnExactWorkAll", apart := false, narrowed := true }
def FnExactWorkAllUptoSaid : Prop := fnExactWorkAllUptoRow.holds Try.pinned (OpenSpec.upto fnExactWorkAllSpec)

/-- 'laws.FnWatched', WHERE WHAT IT READS IS OF BULK AT MOST 1048576: true; the input reads as it did. -/
def fnWatchedUptoRow : OpenClaim := { program := "ytdobohnkjmgefaa", sum := "750e876b898e2422100384812cdace0a7a7184a330195524bea57761d496fd77", func := "loop.example/g01148/laws.FnWatched", spec := "fnWatched", unfollowed := true, recurses := true, apart := false, narrowed := true }
def FnWatchedUptoSaid : Prop := fnWatchedUptoRow.holds Try.pinned (OpenSpec.upto fnWatchedSpec)

/-- 'laws.FnYards', WHERE WHAT IT READS IS OF BULK AT MOST 1048576: true; the input reads as it did. -/
def fnYardsUptoRow : OpenClaim := { program := "ytdobohnkjmgefaa", sum := "750e876b898e2422100384812cdace0a7a7184a330195524bea57761d496fd77", func := "loop.example/g01148/laws.FnYards", spec := "fnYards", apart := false, narrowed := true }
def FnYardsUptoSaid : Prop := fnYardsUptoRow.holds Try.pinned (OpenSpec.upto fnYardsSpec)

/-- 'laws.FnMeeting', WHERE WHAT IT READS IS OF BULK AT MOST 1048576: true; the input reads as it did. -/
def fnMeetingUptoRow : OpenClaim := { program := "ytdobohnkjmgefaa", sum := "750e876b898e2422100384812cdace0a7a7184a330195524bea57761d496fd77", func := "loop.example/g01148/laws.FnMeeting", spec := "fnMeeting", unfollowed := true, recurses := true, apart := false, narrowed := true }
def FnMeetingUptoSaid : Prop := fnMeetingUptoRow.holds Try.pinned (OpenSpec.upto fnMeetingSpec)

/-- 'laws.FnMeetTables', WHERE WHAT IT READS IS OF BULK AT MOST 1048576: true; the input reads as it did. -/
def fnMeetTablesUptoRow : OpenClaim := { program := "ytdobohnkjmgefaa", sum := "750e876b898e2422100384812cdace0a7a7184a330195524bea57761d496fd77", func := "loop.example/g01148/laws.FnMeetTables", spec := "fnMeetTables", unfollowed := true, recurses := true, apart := false, narrowed := true }
def FnMeetTablesUptoSaid : Prop := fnMeetTablesUptoRow.holds Try.pinned (OpenSpec.upto fnMeetTablesSpec)

/-- 'laws.FnChases', WHERE WHAT IT READS IS OF BULK AT MOST 1048576: true; the input reads as it did. -/
def fnChasesUptoRow : OpenClaim := { program := "ytdobohnkjmgefaa", sum := "750e876b898e2422100384812cdace0a7a7184a330195524bea57761d496fd77", func := "loop.example/g01148/laws.FnChases", spec := "fnChases", unfollowed := true, recurses := true, apart := false, narrowed := true }
def FnChasesUptoSaid : Prop := fnChasesUptoRow.holds Try.pinned (OpenSpec.upto fnChasesSpec)

end Rows
end Go.Proofs.Ytdobohnkjmgefaa
