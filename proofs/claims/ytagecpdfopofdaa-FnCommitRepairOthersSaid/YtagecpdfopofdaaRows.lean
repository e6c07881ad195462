/-
  No cell of these rows narrows 'for every input' (looked for: loops, veiled, ifaces, maps, wideKeys, modest, calm, conditions, laid).
  DERIVED. THE GIVEN ROWS OF THIS SEAT. 5 by the template 'for every input the law returns true; each argument reads behind the call as it read before'; 0 by the template 'total and deterministic' (their statements: YtagecpdfopofdaaTotals.lean).
  GIVEN WITH THE SEED: the statements are not yours to turn. If you find one false, say at which input.
  Laid BY PROGRAM, IN A SANDBOX (cutbox-rows.mjs): the forced cells as the released guide's own fill.sh prints them over the translation 0488d853ae73c671… (all of the seat's roots in one cut). By AI agents, Wed Nov 11 2026. No macro, syntax, notation, axiom, sorry.
-/
import Derived.Test.YtagecpdfopofdaaChecked
import GoSem.Claim
import GoSem.ClaimJoined
import GoSem.ClaimMapViews
import Derived.JoinedTies
import Derived.KernelRfl
namespace Go.Proofs.Ytagecpdfopofdaa
/- THE CELL 'sum', in the pinned program and in every row, IS THE sha256 OF THE DUMP (.gsa) THAT YtagecpdfopofdaaProg.lean LOADS. Nothing in Lean hashes anything: it is a label: what it is worth is what the hold of that sum in a sandbox is worth. -/
noncomputable def Try.pinned : Pinned := { name := "ytagecpdfopofdaa", sum := "0488d853ae73c671adcba681b8977b5cd485a61a64606023281c22bf8595f87d", checked := Try.checked }
namespace Rows
def none {H : Type} : Left H := { results := [], args := [] }

/-- 'laws.FnExactCommitNeeded': WHATEVER THE INPUT: true; the input reads as it did. -/
def fnExactCommitNeededSpec : ChangeSpec := { name := "fnExactCommitNeeded", fn := fun _ => fun
  | [d1, d2] => { results := [.lit (.bool true)], args := [d1, d2] }
  | _ => none }
def fnExactCommitNeededRow : OpenClaim := { program := "ytagecpdfopofdaa", sum := "0488d853ae73c671adcba681b8977b5cd485a61a64606023281c22bf8595f87d", func := "loop.example/groupmulticast/laws.FnExactCommitNeeded", spec := "fnExactCommitNeeded", apart := false }
def FnExactCommitNeededSaid : Prop := fnExactCommitNeededRow.holds Try.pinned (OpenSpec.ofChange fnExactCommitNeededSpec)

/-- ITS FALSE NEIGHBOUR: 'it returns false'. Refute it at one input. -/
def fnExactCommitNeededWrong : ChangeSpec := { name := "fnExactCommitNeeded", fn := fun _ => fun
  | [d1, d2] => { results := [.lit (.bool false)], args := [d1, d2] }
  | _ => none }
def FnExactCommitNeededWrongFalsely : Prop := fnExactCommitNeededRow.holds Try.pinned (OpenSpec.ofChange fnExactCommitNeededWrong)

/-- 'laws.FnExactCommitLeader': WHATEVER THE INPUT: true; the input reads as it did. -/
def fnExactCommitLeaderSpec : ChangeSpec := { name := "fnExactCommitLeader", fn := fun _ => fun
  | [d1, d2] => { results := [.lit (.bool true)], args := [d1, d2] }
  | _ => none }
def fnExactCommitLeaderRow : OpenClaim := { program := "ytagecpdfopofdaa", sum := "0488d853ae73c671adcba681b8977b5cd485a61a64606023281c22bf8595f87d", func := "loop.example/groupmulticast/laws.FnExactCommitLeader", spec := "fnExactCommitLeader", apart := false }
def FnExactCommitLeaderSaid : Prop := fnExactCommitLeaderRow.holds Try.pinned (OpenSpec.ofChange fnExactCommitLeaderSpec)

/-- ITS FALSE NEIGHBOUR: 'it returns false'. Refute it at one input. -/
def fnExactCommitLeaderWrong : ChangeSpec := { name := "fnExactCommitLeader", fn := fun _ => fun
  | [d1, d2] => { results := [.lit (.bool false)], args := [d1, d2] }
  | _ => none }
def FnExactCommitLeaderWrongFalsely : Prop := fnExactCommitLeaderRow.holds Try.pinned (OpenSpec.ofChange fnExactCommitLeaderWrong)

/-- 'laws.FnCommitLeaderMost': WHATEVER THE INPUT: true; the input reads as it did. -/
def fnCommitLeaderMostSpec : ChangeSpec := { name := "fnCommitLeaderMost", fn := fun _ => fun
  | [d] => { results := [.lit (.bool true)], args := [d] }
  | _ => none }
def fnCommitLeaderMostRow : OpenClaim := { program := "ytagecpdfopofdaa", sum := "0488d853ae73c671adcba681b8977b5cd485a61a64606023281c22bf8595f87d", func := "loop.example/groupmulticast/laws.FnCommitLeaderMost", spec := "fnCommitLeaderMost", apart := false }
def FnCommitLeaderMostSaid : Prop := fnCommitLeaderMostRow.holds Try.pinned (OpenSpec.ofChange fnCommitLeaderMostSpec)

/-- ITS FALSE NEIGHBOUR: 'it returns false'. Refute it at one input. -/
def fnCommitLeaderMostWrong : ChangeSpec := { name := "fnCommitLeaderMost", fn := fun _ => fun
  | [d] => { results := [.lit (.bool false)], args := [d] }
  | _ => none }
def FnCommitLeaderMostWrongFalsely : Prop := fnCommitLeaderMostRow.holds Try.pinned (OpenSpec.ofChange fnCommitLeaderMostWrong)

/-- 'laws.FnExactCommitRepair': WHATEVER THE INPUT: true; the input reads as it did. -/
def fnExactCommitRepairSpec : ChangeSpec := { name := "fnExactCommitRepair", fn := fun _ => fun
  | [d1, d2] => { results := [.lit (.bool true)], args := [d1, d2] }
  | _ => none }
def fnExactCommitRepairRow : OpenClaim := { program := "ytagecpdfopofdaa", sum := "0488d853ae73c671adcba681b8977b5cd485a61a64606023281c22bf8595f87d", func := "loop.example/groupmulticast/laws.FnExactCommitRepair", spec := "fnExactCommitRepair", apart := false }
def FnExactCommitRepairSaid : Prop := fnExactCommitRepairRow.holds Try.pinned (OpenSpec.ofChange fnExactCommitRepairSpec)

/-- ITS FALSE NEIGHBOUR: 'it returns false'. Refute it at one input. -/
def fnExactCommitRepairWrong : ChangeSpec := { name := "fnExactCommitRepair", fn := fun _ => fun
  | [d1, d2] => { results := [.lit (.bool false)], args := [d1, d2] }
  | _ => none }
def FnExactCommitRepairWrongFalsely : Prop := fnExactCommitRepairRow.holds Try.pinned (OpenSpec.ofChange fnExactCommitRepairWrong)

/-- 'laws.FnCommitRepairOthers': WHATEVER THE INPUT: true; the input reads as it did. -/
def fnCommitRepairOthersSpec : ChangeSpec := { name := "fnCommitRepairOthers", fn := fun _ => fun
  | [d] => { results := [.lit (.bool true)], args := [d] }
  | _ => none }
def fnCommitRepairOthersRow : OpenClaim := { program := "ytagecpdfopofdaa", sum := "0488d853ae73c671adcba681b8977b5cd485a61a64606023281c22bf8595f87d", func := "loop.example/groupmulticast/laws.FnCommitRepairOthers", spec := "fnCommitRepairOthers", apart := false }
def FnCommitRepairOthersSaid : Prop := fnCommitRepairOthersRow.holds Try.pinned (OpenSpec.ofChange fnCommitRepairOthersSpec)

/-- ITS FALSE NEIGHBOUR: 'it returns false'. Refute it at one input. -/
def fnCommitRepairOthersWrong : ChangeSpec := { name := "fnCommitRepairOthers", fn := fun _ => fun
  | [d] => { results := [.lit (.bool false)], args := [d] }
  | _ => none }
def FnCommitRepairOthersWrongFalsely : Prop := fnCommitRepairOthersRow.holds Try.pinned (OpenSpec.ofChange fnCommitRepairOthersWrong)

/- THE SECOND FORM. 'bulk': how many values and letters a reading holds, each counted each time it is reached (what is shared counts as often as it is met; a slice's spare places count too). A statement '..UptoSaid' is the law's where the arguments, and the package variables that the reading takes, are together of bulk at most 1048576: NARROWER than '..Said'. Prove '..Said' where nothing that the law and all that it calls make is longer than what came in: it says more and counts as full. Else prove '..UptoSaid'. A law counts once. -/
mutual
def uptoBulk {H : Type} : DataW H → Nat
  | .lit (.string bytes) => bytes.length + 1
  | .lit _ => 1
  | .nil => 1
  | .ptr d => uptoBulk d + 1
  | .slice elems spare => uptoBulkAll elems + uptoBulkAll spare + 1
  | .agg parts => uptoBulkAll parts + 1
  | .iface _ d => uptoBulk d + 1
  | .map entries => uptoBulkEntries entries + 1
  | .held _ => 1
def uptoBulkAll {H : Type} : List (DataW H) → Nat
  | [] => 0
  | d :: r => uptoBulk d + uptoBulkAll r
def uptoBulkEntries {H : Type} : List (Lit × DataW H) → Nat
  | [] => 0
  | x :: r => uptoBulkEntry x + uptoBulkEntries r
def uptoBulkEntry {H : Type} : Lit × DataW H → Nat
  | (.string bytes, d) => bytes.length + uptoBulk d + 1
  | (_, d) => uptoBulk d + 1
 end
def uptoSmall : (H : Type) → List (DataW H) → Bool := fun _ ds => decide (uptoBulkAll ds ≤ 1048576)
def OpenSpec.upto (s : _root_.Go.ChangeSpec) : _root_.Go.OpenSpec := { _root_.Go.OpenSpec.ofChange s with cond := some uptoSmall }

/-- 'laws.FnExactCommitNeeded', WHERE WHAT IT READS IS OF BULK AT MOST 1048576: true; the input reads as it did. -/
def fnExactCommitNeededUptoRow : OpenClaim := { program := "ytagecpdfopofdaa", sum := "0488d853ae73c671adcba681b8977b5cd485a61a64606023281c22bf8595f87d", func := "loop.example/groupmulticast/laws.FnExactCommitNeeded", spec := "fnExactCommitNeeded", apart := false, narrowed := true }
def FnExactCommitNeededUptoSaid : Prop := fnExactCommitNeededUptoRow.holds Try.pinned (OpenSpec.upto fnExactCommitNeededSpec)

/-- 'laws.FnExactCommitLeader', WHERE WHAT IT READS IS OF BULK AT MOST 1048576: true; the input reads as it did. -/
def fnExactCommitLeaderUptoRow : OpenClaim := { program := "ytagecpdfopofdaa", sum := "0488d853ae73c671adcba681b8977b5cd485a61a64606023281c22bf8595f87d", func := "loop.example/groupmulticast/laws.FnExactCommitLeader", spec := "fnExactCommitLeader", apart := false, narrowed := true }
def FnExactCommitLeaderUptoSaid : Prop := fnExactCommitLeaderUptoRow.holds Try.pinned (OpenSpec.upto fnExactCommitLeaderSpec)

/-- 'laws.FnCommitLeaderMost', WHERE WHAT IT READS IS OF BULK AT MOST 1048576: true; the input reads as it did. -/
def fnCommitLeaderMostUptoRow : OpenClaim := { program := "ytagecpdfopofdaa", sum := "0488d853ae73c671adcba681b8977b5cd485a61a64606023281c22bf8595f87d", func := "loop.example/groupmulticast/laws.FnCommitLeaderMost", spec := "fnCommitLeaderMost", apart := false, narrowed := true }
def FnCommitLeaderMostUptoSaid : Prop := fnCommitLeaderMostUptoRow.holds Try.pinned (OpenSpec.upto fnCommitLeaderMostSpec)

/-- 'laws.FnExactCommitRepair', WHERE WHAT IT READS IS OF BULK AT MOST 1048576: true; the input reads as it did. -/
def fnExactCommitRepairUptoRow : OpenClaim := { program := "ytagecpdfopofdaa", sum := "0488d853ae73c671adcba681b8977b5cd485a61a64606023281c22bf8595f87d", func := "loop.example/groupmulticast/laws.FnExactCommitRepair", spec := "fnExactCommitRepair", apart := false, narrowed := true }
def FnExactCommitRepairUptoSaid : Prop := fnExactCommitRepairUptoRow.holds Try.pinned (OpenSpec.upto fnExactCommitRepairSpec)

/-- 'laws.FnCommitRepairOthers', WHERE WHAT IT READS IS OF BULK AT MOST 1048576: true; the input reads as it did. -/
def fnCommitRepairOthersUptoRow : OpenClaim := { program := "ytagecpdfopofdaa", sum := "0488d853ae73c671adcba681b8977b5cd485a61a64606023281c22bf8595f87d", func := "loop.example/groupmulticast/laws.FnCommitRepairOthers", spec := "fnCommitRepairOthers", apart := false, narrowed := true }
def FnCommitRepairOthersUptoSaid : Prop := fnCommitRepairOthersUptoRow.holds Try.pinned (OpenSpec.upto fnCommitRepairOthersSpec)

end Rows
end Go.Proofs.Ytagecpdfopofdaa
