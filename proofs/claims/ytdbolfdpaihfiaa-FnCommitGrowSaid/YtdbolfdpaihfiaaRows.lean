/-
  No cell of these rows narrows 'for every input' (looked for: loops, veiled, ifaces, maps, wideKeys, modest, calm, conditions, laid).
  DERIVED. THE GIVEN ROWS OF THIS SEAT. 7 by the template 'for every input the law returns true; each argument reads behind the call as it read before'; 0 by the template 'total and deterministic' (their statements: YtdbolfdpaihfiaaTotals.lean).
  GIVEN WITH THE SEED: the statements are not yours to turn. If you find one false, say at which input.
  Laid BY PROGRAM, IN A SANDBOX (cutbox-rows.mjs): the forced cells as the released guide's own fill.sh prints them over the translation 8564f0b09f16769e… (all of the seat's roots in one cut). By AI agents, Wed Nov 11 2026. No macro, syntax, notation, axiom, sorry.
-/
import Derived.Test.YtdbolfdpaihfiaaChecked
import GoSem.Claim
import GoSem.ClaimJoined
import GoSem.ClaimMapViews
import Derived.JoinedTies
import Derived.KernelRfl
namespace Go.Proofs.Ytdbolfdpaihfiaa
/- THE CELL 'sum', in the pinned program and in every row, IS THE sha256 OF THE DUMP (.gsa) THAT YtdbolfdpaihfiaaProg.lean LOADS. Nothing in Lean hashes anything: it is a label: what it is worth is what the hold of that sum in a sandbox is worth. -/
noncomputable def Try.pinned : Pinned := { name := "ytdbolfdpaihfiaa", sum := "8564f0b09f16769ea604c8c938282a5314e0106b1e9e9f45ba21c5bd207330f4", checked := Try.checked }
namespace Rows
def none {H : Type} : Left H := { results := [], args := [] }

/-- 'laws.FnCommitOrder': WHATEVER THE INPUT: true; the input reads as it did. -/
def fnCommitOrderSpec : ChangeSpec := { name := "fnCommitOrder", fn := fun _ => fun
  | [d1, d2] => { results := [.lit (.bool true)], args := [d1, d2] }
  | _ => none }
def fnCommitOrderRow : OpenClaim := { program := "ytdbolfdpaihfiaa", sum := "8564f0b09f16769ea604c8c938282a5314e0106b1e9e9f45ba21c5bd207330f4", func := "loop.example/groupmulticast/laws.FnCommitOrder", spec := "fnCommitOrder", recurses := true, apart := false }
def FnCommitOrderSaid : Prop := fnCommitOrderRow.holds Try.pinned (OpenSpec.ofChange fnCommitOrderSpec)

/-- ITS FALSE NEIGHBOUR: 'it returns false'. Refute it at one input. -/
def fnCommitOrderWrong : ChangeSpec := { name := "fnCommitOrder", fn := fun _ => fun
  | [d1, d2] => { results := [.lit (.bool false)], args := [d1, d2] }
  | _ => none }
def FnCommitOrderWrongFalsely : Prop := fnCommitOrderRow.holds Try.pinned (OpenSpec.ofChange fnCommitOrderWrong)

/-- 'laws.FnCommitLeader': WHATEVER THE INPUT: true; the input reads as it did. -/
def fnCommitLeaderSpec : ChangeSpec := { name := "fnCommitLeader", fn := fun _ => fun
  | [d] => { results := [.lit (.bool true)], args := [d] }
  | _ => none }
def fnCommitLeaderRow : OpenClaim := { program := "ytdbolfdpaihfiaa", sum := "8564f0b09f16769ea604c8c938282a5314e0106b1e9e9f45ba21c5bd207330f4", func := "loop.example/groupmulticast/laws.FnCommitLeader", spec := "fnCommitLeader", recurses := true, apart := false }
def FnCommitLeaderSaid : Prop := fnCommitLeaderRow.holds Try.pinned (OpenSpec.ofChange fnCommitLeaderSpec)

/-- ITS FALSE NEIGHBOUR: 'it returns false'. Refute it at one input. -/
def fnCommitLeaderWrong : ChangeSpec := { name := "fnCommitLeader", fn := fun _ => fun
  | [d] => { results := [.lit (.bool false)], args := [d] }
  | _ => none }
def FnCommitLeaderWrongFalsely : Prop := fnCommitLeaderRow.holds Try.pinned (OpenSpec.ofChange fnCommitLeaderWrong)

/-- 'laws.FnCommitRepair': WHATEVER THE INPUT: true; the input reads as it did. -/
def fnCommitRepairSpec : ChangeSpec := { name := "fnCommitRepair", fn := fun _ => fun
  | [d] => { results := [.lit (.bool true)], args := [d] }
  | _ => none }
def fnCommitRepairRow : OpenClaim := { program := "ytdbolfdpaihfiaa", sum := "8564f0b09f16769ea604c8c938282a5314e0106b1e9e9f45ba21c5bd207330f4", func := "loop.example/groupmulticast/laws.FnCommitRepair", spec := "fnCommitRepair", recurses := true, apart := false }
def FnCommitRepairSaid : Prop := fnCommitRepairRow.holds Try.pinned (OpenSpec.ofChange fnCommitRepairSpec)

/-- ITS FALSE NEIGHBOUR: 'it returns false'. Refute it at one input. -/
def fnCommitRepairWrong : ChangeSpec := { name := "fnCommitRepair", fn := fun _ => fun
  | [d] => { results := [.lit (.bool false)], args := [d] }
  | _ => none }
def FnCommitRepairWrongFalsely : Prop := fnCommitRepairRow.holds Try.pinned (OpenSpec.ofChange fnCommitRepairWrong)

/-- 'laws.FnExactCommitIndex': WHATEVER THE INPUT: true; the input reads as it did. -/
def fnExactCommitIndexSpec : ChangeSpec := { name := "fnExactCommitIndex", fn := fun _ => fun
  | [d] => { results := [.lit (.bool true)], args := [d] }
  | _ => none }
def fnExactCommitIndexRow : OpenClaim := { program := "ytdbolfdpaihfiaa", sum := "8564f0b09f16769ea604c8c938282a5314e0106b1e9e9f45ba21c5bd207330f4", func := "loop.example/groupmulticast/laws.FnExactCommitIndex", spec := "fnExactCommitIndex", recurses := true, apart := false }
def FnExactCommitIndexSaid : Prop := fnExactCommitIndexRow.holds Try.pinned (OpenSpec.ofChange fnExactCommitIndexSpec)

/-- ITS FALSE NEIGHBOUR: 'it returns false'. Refute it at one input. -/
def fnExactCommitIndexWrong : ChangeSpec := { name := "fnExactCommitIndex", fn := fun _ => fun
  | [d] => { results := [.lit (.bool false)], args := [d] }
  | _ => none }
def FnExactCommitIndexWrongFalsely : Prop := fnExactCommitIndexRow.holds Try.pinned (OpenSpec.ofChange fnExactCommitIndexWrong)

/-- 'laws.FnCommitGrow': WHATEVER THE INPUT: true; the input reads as it did. -/
def fnCommitGrowSpec : ChangeSpec := { name := "fnCommitGrow", fn := fun _ => fun
  | [d1, d2] => { results := [.lit (.bool true)], args := [d1, d2] }
  | _ => none }
def fnCommitGrowRow : OpenClaim := { program := "ytdbolfdpaihfiaa", sum := "8564f0b09f16769ea604c8c938282a5314e0106b1e9e9f45ba21c5bd207330f4", func := "loop.example/groupmulticast/laws.FnCommitGrow", spec := "fnCommitGrow", recurses := true, apart := false }
def FnCommitGrowSaid : Prop := fnCommitGrowRow.holds Try.pinned (OpenSpec.ofChange fnCommitGrowSpec)

/-- ITS FALSE NEIGHBOUR: 'it returns false'. Refute it at one input. -/
def fnCommitGrowWrong : ChangeSpec := { name := "fnCommitGrow", fn := fun _ => fun
  | [d1, d2] => { results := [.lit (.bool false)], args := [d1, d2] }
  | _ => none }
def FnCommitGrowWrongFalsely : Prop := fnCommitGrowRow.holds Try.pinned (OpenSpec.ofChange fnCommitGrowWrong)

/-- 'laws.FnCommitIndex': WHATEVER THE INPUT: true; the input reads as it did. -/
def fnCommitIndexSpec : ChangeSpec := { name := "fnCommitIndex", fn := fun _ => fun
  | [d] => { results := [.lit (.bool true)], args := [d] }
  | _ => none }
def fnCommitIndexRow : OpenClaim := { program := "ytdbolfdpaihfiaa", sum := "8564f0b09f16769ea604c8c938282a5314e0106b1e9e9f45ba21c5bd207330f4", func := "loop.example/groupmulticast/laws.FnCommitIndex", spec := "fnCommitIndex", recurses := true, apart := false }
def FnCommitIndexSaid : Prop := fnCommitIndexRow.holds Try.pinned (OpenSpec.ofChange fnCommitIndexSpec)

/-- ITS FALSE NEIGHBOUR: 'it returns false'. Refute it at one input. -/
def fnCommitIndexWrong : ChangeSpec := { name := "fnCommitIndex", fn := fun _ => fun
  | [d] => { results := [.lit (.bool false)], args := [d] }
  | _ => none }
def FnCommitIndexWrongFalsely : Prop := fnCommitIndexRow.holds Try.pinned (OpenSpec.ofChange fnCommitIndexWrong)

/-- 'laws.FnCommitNeeded': WHATEVER THE INPUT: true; the input reads as it did. -/
def fnCommitNeededSpec : ChangeSpec := { name := "fnCommitNeeded", fn := fun _ => fun
  | [d] => { results := [.lit (.bool true)], args := [d] }
  | _ => none }
def fnCommitNeededRow : OpenClaim := { program := "ytdbolfdpaihfiaa", sum := "8564f0b09f16769ea604c8c938282a5314e0106b1e9e9f45ba21c5bd207330f4", func := "loop.example/groupmulticast/laws.FnCommitNeeded", spec := "fnCommitNeeded", recurses := true, apart := false }
def FnCommitNeededSaid : Prop := fnCommitNeededRow.holds Try.pinned (OpenSpec.ofChange fnCommitNeededSpec)

/-- ITS FALSE NEIGHBOUR: 'it returns false'. Refute it at one input. -/
def fnCommitNeededWrong : ChangeSpec := { name := "fnCommitNeeded", fn := fun _ => fun
  | [d] => { results := [.lit (.bool false)], args := [d] }
  | _ => none }
def FnCommitNeededWrongFalsely : Prop := fnCommitNeededRow.holds Try.pinned (OpenSpec.ofChange fnCommitNeededWrong)

/- THE SECOND FORM. 'bulk': how many values and letters a reading holds, each counted each time it is reached (what is shared counts as often as it is met; a slice's spare places count too). A statement '..UptoSaid' is the law's where the arguments, and the package variables that the reading takes, are together of bulk at most 1048576: NARROWER than '..Said'. Prove '..Said' where nothing that the law and all that it calls make is longer than what came in: it says more and counts as full. Else prove '..UptoSaid'. A law counts once. -/
mutual
def uptoBulk {H : Type} : DataW H → Nat
  | .lit (.string bytes) => bytes.length + 1
  | .lit _ => 1
  | .nil => 1
  | .ptr d => uptoBulk d + 1
  | .slice elems spare => uptoBulkAll elems + uptoBulkAll spare + 1
  | .agg parts => uptoBulkAll parts + 1
  | .iface _ d => uptoBulk d + 1
  | .map entries => uptoBulkEntries entries + 1
  | .held _ => 1
def uptoBulkAll {H : Type} : List (DataW H) → Nat
  | [] => 0
  | d :: r => uptoBulk d + uptoBulkAll r
def uptoBulkEntries {H : Type} : List (Lit × DataW H) → Nat
  | [] => 0
  | x :: r => uptoBulkEntry x + uptoBulkEntries r
def uptoBulkEntry {H : Type} : Lit × DataW H → Nat
  | (.string bytes, d) => bytes.length + uptoBulk d + 1
  | (_, d) => uptoBulk d + 1
 end
def uptoSmall : (H : Type) → List (DataW H) → Bool := fun _ ds => decide (uptoBulkAll ds ≤ 1048576)
def OpenSpec.upto (s : _root_.Go.ChangeSpec) : _root_.Go.OpenSpec := { _root_.Go.OpenSpec.ofChange s with cond := some uptoSmall }

/-- 'laws.FnCommitOrder', WHERE WHAT IT READS IS OF BULK AT MOST 1048576: true; the input reads as it did. -/
def fnCommitOrderUptoRow : OpenClaim := { program := "ytdbolfdpaihfiaa", sum := "8564f0b09f16769ea604c8c938282a5314e0106b1e9e9f45ba21c5bd207330f4", func := "loop.example/groupmulticast/laws.FnCommitOrder", spec := "fnCommitOrder", recurses := true, apart := false, narrowed := true }
def FnCommitOrderUptoSaid : Prop := fnCommitOrderUptoRow.holds Try.pinned (OpenSpec.upto fnCommitOrderSpec)

/-- 'laws.FnCommitLeader', WHERE WHAT IT READS IS OF BULK AT MOST 1048576: true; the input reads as it did. -/
def fnCommitLeaderUptoRow : OpenClaim := { program := "ytdbolfdpaihfiaa", sum := "8564f0b09f16769ea604c8c938282a5314e0106b1e9e9f45ba21c5bd207330f4", func := "loop.example/groupmulticast/laws.FnCommitLeader", spec := "fnCommitLeader", recurses := true, apart := false, narrowed := true }
def FnCommitLeaderUptoSaid : Prop := fnCommitLeaderUptoRow.holds Try.pinned (OpenSpec.upto fnCommitLeaderSpec)

/-- 'laws.FnCommitRepair', WHERE WHAT IT READS IS OF BULK AT MOST 1048576: true; the input reads as it did. -/
def fnCommitRepairUptoRow : OpenClaim := { program := "ytdbolfdpaihfiaa", sum := "8564f0b09f16769ea604c8c938282a5314e0106b1e9e9f45ba21c5bd207330f4", func := "loop.example/groupmulticast/laws.FnCommitRepair", spec := "fnCommitRepair", recurses := true, apart := false, narrowed := true }
def FnCommitRepairUptoSaid : Prop := fnCommitRepairUptoRow.holds Try.pinned (OpenSpec.upto fnCommitRepairSpec)

/-- 'laws.FnExactCommitIndex', WHERE WHAT IT READS IS OF BULK AT MOST 1048576: true; the input reads as it did. -/
def fnExactCommitIndexUptoRow : OpenClaim := { program := "ytdbolfdpaihfiaa", sum := "8564f0b09f16769ea604c8c938282a5314e0106b1e9e9f45ba21c5bd207330f4", func := "loop.example/groupmulticast/laws.FnExactCommitIndex", spec := "fnExactCommitIndex", recurses := true, apart := false, narrowed := true }
def FnExactCommitIndexUptoSaid : Prop := fnExactCommitIndexUptoRow.holds Try.pinned (OpenSpec.upto fnExactCommitIndexSpec)

/-- 'laws.FnCommitGrow', WHERE WHAT IT READS IS OF BULK AT MOST 1048576: true; the input reads as it did. -/
def fnCommitGrowUptoRow : OpenClaim := { program := "ytdbolfdpaihfiaa", sum := "8564f0b09f16769ea604c8c938282a5314e0106b1e9e9f45ba21c5bd207330f4", func := "loop.example/groupmulticast/laws.FnCommitGrow", spec := "fnCommitGrow", recurses := true, apart := false, narrowed := true }
def FnCommitGrowUptoSaid : Prop := fnCommitGrowUptoRow.holds Try.pinned (OpenSpec.upto fnCommitGrowSpec)

/-- 'laws.FnCommitIndex', WHERE WHAT IT READS IS OF BULK AT MOST 1048576: true; the input reads as it did. -/
def fnCommitIndexUptoRow : OpenClaim := { program := "ytdbolfdpaihfiaa", sum := "8564f0b09f16769ea604c8c938282a5314e0106b1e9e9f45ba21c5bd207330f4", func := "loop.example/groupmulticast/laws.FnCommitIndex", spec := "fnCommitIndex", recurses := true, apart := false, narrowed := true }
def FnCommitIndexUptoSaid : Prop := fnCommitIndexUptoRow.holds Try.pinned (OpenSpec.upto fnCommitIndexSpec)

/-- 'laws.FnCommitNeeded', WHERE WHAT IT READS IS OF BULK AT MOST 1048576: true; the input reads as it did. -/
def fnCommitNeededUptoRow : OpenClaim := { program := "ytdbolfdpaihfiaa", sum := "8564f0b09f16769ea604c8c938282a5314e0106b1e9e9f45ba21c5bd207330f4", func := "loop.example/groupmulticast/laws.FnCommitNeeded", spec := "fnCommitNeeded", recurses := true, apart := false, narrowed := true }
def FnCommitNeededUptoSaid : Prop := fnCommitNeededUptoRow.holds Try.pinned (OpenSpec.upto fnCommitNeededSpec)

end Rows
end Go.Proofs.Ytdbolfdpaihfiaa
