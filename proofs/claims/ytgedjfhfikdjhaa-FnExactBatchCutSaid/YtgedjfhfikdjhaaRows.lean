/-
  No cell of these rows narrows 'for every input' (looked for: loops, veiled, ifaces, maps, wideKeys, modest, calm, conditions, laid).
  DERIVED. THE GIVEN ROWS OF THIS SEAT. 4 by the template 'for every input the law returns true; each argument reads behind the call as it read before'; 0 by the template 'total and deterministic' (their statements: YtgedjfhfikdjhaaTotals.lean).
  GIVEN WITH THE SEED: the statements are not yours to turn. If you find one false, say at which input.
  Laid BY PROGRAM, IN A SANDBOX (cutbox-rows.mjs): the forced cells as the released guide's own fill.sh prints them over the translation 0942fdad4aba46f7… (all of the seat's roots in one cut). By AI agents, Wed Nov 11 2026. No macro, syntax, notation, axiom, sorry.
-/
import Derived.Test.YtgedjfhfikdjhaaChecked
import GoSem.Claim
import GoSem.ClaimJoined
import GoSem.ClaimMapViews
import Derived.JoinedTies
import Derived.KernelRfl
namespace Go.Proofs.Ytgedjfhfikdjhaa
/- THE CELL 'sum', in the pinned program and in every row, IS THE sha256 OF THE DUMP (.gsa) THAT YtgedjfhfikdjhaaProg.lean LOADS. Nothing in Lean hashes anything: it is a label: what it is worth is what the hold of that sum in a sandbox is worth. -/
noncomputable def Try.pinned : Pinned := { name := "ytgedjfhfikdjhaa", sum := "0942fdad4aba46f7d0ef575392cf617142166a0c7753e79a9df7e90f380ffa33", checked := Try.checked }
namespace Rows
def none {H : Type} : Left H := { results := [], args := [] }

/-- 'laws.FnExactBatchesValid': WHATEVER THE INPUT: true; the input reads as it did. -/
def fnExactBatchesValidSpec : ChangeSpec := { name := "fnExactBatchesValid", fn := fun _ => fun
  | [d1, d2, d3] => { results := [.lit (.bool true)], args := [d1, d2, d3] }
  | _ => none }
def fnExactBatchesValidRow : OpenClaim := { program := "ytgedjfhfikdjhaa", sum := "0942fdad4aba46f7d0ef575392cf617142166a0c7753e79a9df7e90f380ffa33", func := "loop.example/groupmulticast/laws.FnExactBatchesValid", spec := "fnExactBatchesValid", apart := false }
def FnExactBatchesValidSaid : Prop := fnExactBatchesValidRow.holds Try.pinned (OpenSpec.ofChange fnExactBatchesValidSpec)

/-- ITS FALSE NEIGHBOUR: 'it returns false'. Refute it at one input. -/
def fnExactBatchesValidWrong : ChangeSpec := { name := "fnExactBatchesValid", fn := fun _ => fun
  | [d1, d2, d3] => { results := [.lit (.bool false)], args := [d1, d2, d3] }
  | _ => none }
def FnExactBatchesValidWrongFalsely : Prop := fnExactBatchesValidRow.holds Try.pinned (OpenSpec.ofChange fnExactBatchesValidWrong)

/-- 'laws.FnExactBatchOf': WHATEVER THE INPUT: true; the input reads as it did. -/
def fnExactBatchOfSpec : ChangeSpec := { name := "fnExactBatchOf", fn := fun _ => fun
  | [d1, d2] => { results := [.lit (.bool true)], args := [d1, d2] }
  | _ => none }
def fnExactBatchOfRow : OpenClaim := { program := "ytgedjfhfikdjhaa", sum := "0942fdad4aba46f7d0ef575392cf617142166a0c7753e79a9df7e90f380ffa33", func := "loop.example/groupmulticast/laws.FnExactBatchOf", spec := "fnExactBatchOf", apart := false }
def FnExactBatchOfSaid : Prop := fnExactBatchOfRow.holds Try.pinned (OpenSpec.ofChange fnExactBatchOfSpec)

/-- ITS FALSE NEIGHBOUR: 'it returns false'. Refute it at one input. -/
def fnExactBatchOfWrong : ChangeSpec := { name := "fnExactBatchOf", fn := fun _ => fun
  | [d1, d2] => { results := [.lit (.bool false)], args := [d1, d2] }
  | _ => none }
def FnExactBatchOfWrongFalsely : Prop := fnExactBatchOfRow.holds Try.pinned (OpenSpec.ofChange fnExactBatchOfWrong)

/-- 'laws.FnExactBatchFits': WHATEVER THE INPUT: true; the input reads as it did. -/
def fnExactBatchFitsSpec : ChangeSpec := { name := "fnExactBatchFits", fn := fun _ => fun
  | [d1, d2, d3, d4] => { results := [.lit (.bool true)], args := [d1, d2, d3, d4] }
  | _ => none }
def fnExactBatchFitsRow : OpenClaim := { program := "ytgedjfhfikdjhaa", sum := "0942fdad4aba46f7d0ef575392cf617142166a0c7753e79a9df7e90f380ffa33", func := "loop.example/groupmulticast/laws.FnExactBatchFits", spec := "fnExactBatchFits", apart := false }
def FnExactBatchFitsSaid : Prop := fnExactBatchFitsRow.holds Try.pinned (OpenSpec.ofChange fnExactBatchFitsSpec)

/-- ITS FALSE NEIGHBOUR: 'it returns false'. Refute it at one input. -/
def fnExactBatchFitsWrong : ChangeSpec := { name := "fnExactBatchFits", fn := fun _ => fun
  | [d1, d2, d3, d4] => { results := [.lit (.bool false)], args := [d1, d2, d3, d4] }
  | _ => none }
def FnExactBatchFitsWrongFalsely : Prop := fnExactBatchFitsRow.holds Try.pinned (OpenSpec.ofChange fnExactBatchFitsWrong)

/-- 'laws.FnExactBatchCut': WHATEVER THE INPUT: true; the input reads as it did. -/
def fnExactBatchCutSpec : ChangeSpec := { name := "fnExactBatchCut", fn := fun _ => fun
  | [d1, d2, d3] => { results := [.lit (.bool true)], args := [d1, d2, d3] }
  | _ => none }
def fnExactBatchCutRow : OpenClaim := { program := "ytgedjfhfikdjhaa", sum := "0942fdad4aba46f7d0ef575392cf617142166a0c7753e79a9df7e90f380ffa33", func := "loop.example/groupmulticast/laws.FnExactBatchCut", spec := "fnExactBatchCut", unfollowed := true, recurses := true, apart := false }
def FnExactBatchCutSaid : Prop := fnExactBatchCutRow.holds Try.pinned (OpenSpec.ofChange fnExactBatchCutSpec)

/-- ITS FALSE NEIGHBOUR: 'it returns false'. Refute it at one input. -/
def fnExactBatchCutWrong : ChangeSpec := { name := "fnExactBatchCut", fn := fun _ => fun
  | [d1, d2, d3] => { results := [.lit (.bool false)], args := [d1, d2, d3] }
  | _ => none }
def FnExactBatchCutWrongFalsely : Prop := fnExactBatchCutRow.holds Try.pinned (OpenSpec.ofChange fnExactBatchCutWrong)

/- THE SECOND FORM. 'bulk': how many values and letters a reading holds, each counted each time it is reached (what is shared counts as often as it is met; a slice's spare places count too). A statement '..UptoSaid' is the law's where the arguments, and the package variables that the reading takes, are together of bulk at most 1048576: NARROWER than '..Said'. Prove '..Said' where nothing that the law and all that it calls make is longer than what came in: it says more and counts as full. Else prove '..UptoSaid'. A law counts once. -/
mutual
def uptoBulk {H : Type} : DataW H → Nat
  | .lit (.string bytes) => bytes.length + 1
  | .lit _ => 1
  | .nil => 1
  | .ptr d => uptoBulk d + 1
  | .slice elems spare => uptoBulkAll elems + uptoBulkAll spare + 1
  | .agg parts => uptoBulkAll parts + 1
  | .iface _ d => uptoBulk d + 1
  | .map entries => uptoBulkEntries entries + 1
  | .held _ => 1
def uptoBulkAll {H : Type} : List (DataW H) → Nat
  | [] => 0
  | d :: r => uptoBulk d + uptoBulkAll r
def uptoBulkEntries {H : Type} : List (Lit × DataW H) → Nat
  | [] => 0
  | x :: r => uptoBulkEntry x + uptoBulkEntries r
def uptoBulkEntry {H : Type} : Lit × DataW H → Nat
  | (.string bytes, d) => bytes.length + uptoBulk d + 1
  | (_, d) => uptoBulk d + 1
 end
def uptoSmall : (H : Type) → List (DataW H) → Bool := fun _ ds => decide (uptoBulkAll ds ≤ 1048576)
def OpenSpec.upto (s : _root_.Go.ChangeSpec) : _root_.Go.OpenSpec := { _root_.Go.OpenSpec.ofChange s with cond := some uptoSmall }

/-- 'laws.FnExactBatchesValid', WHERE WHAT IT READS IS OF BULK AT MOST 1048576: true; the input reads as it did. -/
def fnExactBatchesValidUptoRow : OpenClaim := { program := "ytgedjfhfikdjhaa", sum := "0942fdad4aba46f7d0ef575392cf617142166a0c7753e79a9df7e90f380ffa33", func := "loop.example/groupmulticast/laws.FnExactBatchesValid", spec := "fnExactBatchesValid", apart := false, narrowed := true }
def FnExactBatchesValidUptoSaid : Prop := fnExactBatchesValidUptoRow.holds Try.pinned (OpenSpec.upto fnExactBatchesValidSpec)

/-- 'laws.FnExactBatchOf', WHERE WHAT IT READS IS OF BULK AT MOST 1048576: true; the input reads as it did. -/
def fnExactBatchOfUptoRow : OpenClaim := { program := "ytgedjfhfikdjhaa", sum := "0942fdad4aba46f7d0ef575392cf617142166a0c7753e79a9df7e90f380ffa33", func := "loop.example/groupmulticast/laws.FnExactBatchOf", spec := "fnExactBatchOf", apart := false, narrowed := true }
def FnExactBatchOfUptoSaid : Prop := fnExactBatchOfUptoRow.holds Try.pinned (OpenSpec.upto fnExactBatchOfSpec)

/-- 'laws.FnExactBatchFits', WHERE WHAT IT READS IS OF BULK AT MOST 1048576: true; the input reads as it did. -/
def fnExactBatchFitsUptoRow : OpenClaim := { program := "ytgedjfhfikdjhaa", sum := "0942fdad4aba46f7d0ef575392cf617142166a0c7753e79a9df7e90f380ffa33", func := "loop.example/groupmulticast/laws.FnExactBatchFits", spec := "fnExactBatchFits", apart := false, narrowed := true }
def FnExactBatchFitsUptoSaid : Prop := fnExactBatchFitsUptoRow.holds Try.pinned (OpenSpec.upto fnExactBatchFitsSpec)

/-- 'laws.FnExactBatchCut', WHERE WHAT IT READS IS OF BULK AT MOST 1048576: true; the input reads as it did. -/
def fnExactBatchCutUptoRow : OpenClaim := { program := "ytgedjfhfikdjhaa", sum := "0942fdad4aba46f7d0ef575392cf617142166a0c7753e79a9df7e90f380ffa33", func := "loop.example/groupmulticast/laws.FnExactBatchCut", spec := "fnExactBatchCut", unfollowed := true, recurses := true, apart := false, narrowed := true }
def FnExactBatchCutUptoSaid : Prop := fnExactBatchCutUptoRow.holds Try.pinned (OpenSpec.upto fnExactBatchCutSpec)

end Rows
end Go.Proofs.Ytgedjfhfikdjhaa
