/-
  No cell of these rows narrows 'for every input' (looked for: loops, veiled, ifaces, maps, wideKeys, modest, calm, conditions, laid).
  DERIVED. THE GIVEN ROWS OF THIS SEAT. 5 by the template 'for every input the law returns true; each argument reads behind the call as it read before'; 0 by the template 'total and deterministic' (their statements: YtfemlfmkomkkbaaTotals.lean).
  GIVEN WITH THE SEED: the statements are not yours to turn. If you find one false, say at which input.
  Laid BY PROGRAM, IN A SANDBOX (cutbox-rows.mjs): the forced cells as the released guide's own fill.sh prints them over the translation b18ec8dbb41d4f74… (all of the seat's roots in one cut). By AI agents, Wed Nov 11 2026. No macro, syntax, notation, axiom, sorry.
-/
import Derived.Test.YtfemlfmkomkkbaaChecked
import GoSem.Claim
import GoSem.ClaimJoined
import GoSem.ClaimMapViews
import Derived.JoinedTies
import Derived.KernelRfl
namespace Go.Proofs.Ytfemlfmkomkkbaa
/- THE CELL 'sum', in the pinned program and in every row, IS THE sha256 OF THE DUMP (.gsa) THAT YtfemlfmkomkkbaaProg.lean LOADS. Nothing in Lean hashes anything: it is a label: what it is worth is what the hold of that sum in a sandbox is worth. -/
noncomputable def Try.pinned : Pinned := { name := "ytfemlfmkomkkbaa", sum := "b18ec8dbb41d4f74589ae70c3e29d06fe8683752c6884cc8447205d82175a332", checked := Try.checked }
namespace Rows
def none {H : Type} : Left H := { results := [], args := [] }

/-- 'laws.FnHybridLater': WHATEVER THE INPUT: true; the input reads as it did. -/
def fnHybridLaterSpec : ChangeSpec := { name := "fnHybridLater", fn := fun _ => fun
  | [d] => { results := [.lit (.bool true)], args := [d] }
  | _ => none }
def fnHybridLaterRow : OpenClaim := { program := "ytfemlfmkomkkbaa", sum := "b18ec8dbb41d4f74589ae70c3e29d06fe8683752c6884cc8447205d82175a332", func := "loop.example/groupmulticast/laws.FnHybridLater", spec := "fnHybridLater", apart := false }
def FnHybridLaterSaid : Prop := fnHybridLaterRow.holds Try.pinned (OpenSpec.ofChange fnHybridLaterSpec)

/-- ITS FALSE NEIGHBOUR: 'it returns false'. Refute it at one input. -/
def fnHybridLaterWrong : ChangeSpec := { name := "fnHybridLater", fn := fun _ => fun
  | [d] => { results := [.lit (.bool false)], args := [d] }
  | _ => none }
def FnHybridLaterWrongFalsely : Prop := fnHybridLaterRow.holds Try.pinned (OpenSpec.ofChange fnHybridLaterWrong)

/-- 'laws.FnHybridLeast': WHATEVER THE INPUT: true; the input reads as it did. -/
def fnHybridLeastSpec : ChangeSpec := { name := "fnHybridLeast", fn := fun _ => fun
  | [d] => { results := [.lit (.bool true)], args := [d] }
  | _ => none }
def fnHybridLeastRow : OpenClaim := { program := "ytfemlfmkomkkbaa", sum := "b18ec8dbb41d4f74589ae70c3e29d06fe8683752c6884cc8447205d82175a332", func := "loop.example/groupmulticast/laws.FnHybridLeast", spec := "fnHybridLeast", apart := false }
def FnHybridLeastSaid : Prop := fnHybridLeastRow.holds Try.pinned (OpenSpec.ofChange fnHybridLeastSpec)

/-- ITS FALSE NEIGHBOUR: 'it returns false'. Refute it at one input. -/
def fnHybridLeastWrong : ChangeSpec := { name := "fnHybridLeast", fn := fun _ => fun
  | [d] => { results := [.lit (.bool false)], args := [d] }
  | _ => none }
def FnHybridLeastWrongFalsely : Prop := fnHybridLeastRow.holds Try.pinned (OpenSpec.ofChange fnHybridLeastWrong)

/-- 'laws.FnHybridTick': WHATEVER THE INPUT: true; the input reads as it did. -/
def fnHybridTickSpec : ChangeSpec := { name := "fnHybridTick", fn := fun _ => fun
  | [d] => { results := [.lit (.bool true)], args := [d] }
  | _ => none }
def fnHybridTickRow : OpenClaim := { program := "ytfemlfmkomkkbaa", sum := "b18ec8dbb41d4f74589ae70c3e29d06fe8683752c6884cc8447205d82175a332", func := "loop.example/groupmulticast/laws.FnHybridTick", spec := "fnHybridTick", apart := false }
def FnHybridTickSaid : Prop := fnHybridTickRow.holds Try.pinned (OpenSpec.ofChange fnHybridTickSpec)

/-- ITS FALSE NEIGHBOUR: 'it returns false'. Refute it at one input. -/
def fnHybridTickWrong : ChangeSpec := { name := "fnHybridTick", fn := fun _ => fun
  | [d] => { results := [.lit (.bool false)], args := [d] }
  | _ => none }
def FnHybridTickWrongFalsely : Prop := fnHybridTickRow.holds Try.pinned (OpenSpec.ofChange fnHybridTickWrong)

/-- 'laws.FnHybridSymmetric': WHATEVER THE INPUT: true; the input reads as it did. -/
def fnHybridSymmetricSpec : ChangeSpec := { name := "fnHybridSymmetric", fn := fun _ => fun
  | [d] => { results := [.lit (.bool true)], args := [d] }
  | _ => none }
def fnHybridSymmetricRow : OpenClaim := { program := "ytfemlfmkomkkbaa", sum := "b18ec8dbb41d4f74589ae70c3e29d06fe8683752c6884cc8447205d82175a332", func := "loop.example/groupmulticast/laws.FnHybridSymmetric", spec := "fnHybridSymmetric", apart := false }
def FnHybridSymmetricSaid : Prop := fnHybridSymmetricRow.holds Try.pinned (OpenSpec.ofChange fnHybridSymmetricSpec)

/-- ITS FALSE NEIGHBOUR: 'it returns false'. Refute it at one input. -/
def fnHybridSymmetricWrong : ChangeSpec := { name := "fnHybridSymmetric", fn := fun _ => fun
  | [d] => { results := [.lit (.bool false)], args := [d] }
  | _ => none }
def FnHybridSymmetricWrongFalsely : Prop := fnHybridSymmetricRow.holds Try.pinned (OpenSpec.ofChange fnHybridSymmetricWrong)

/-- 'laws.FnHybridMerge': WHATEVER THE INPUT: true; the input reads as it did. -/
def fnHybridMergeSpec : ChangeSpec := { name := "fnHybridMerge", fn := fun _ => fun
  | [d] => { results := [.lit (.bool true)], args := [d] }
  | _ => none }
def fnHybridMergeRow : OpenClaim := { program := "ytfemlfmkomkkbaa", sum := "b18ec8dbb41d4f74589ae70c3e29d06fe8683752c6884cc8447205d82175a332", func := "loop.example/groupmulticast/laws.FnHybridMerge", spec := "fnHybridMerge", apart := false }
def FnHybridMergeSaid : Prop := fnHybridMergeRow.holds Try.pinned (OpenSpec.ofChange fnHybridMergeSpec)

/-- ITS FALSE NEIGHBOUR: 'it returns false'. Refute it at one input. -/
def fnHybridMergeWrong : ChangeSpec := { name := "fnHybridMerge", fn := fun _ => fun
  | [d] => { results := [.lit (.bool false)], args := [d] }
  | _ => none }
def FnHybridMergeWrongFalsely : Prop := fnHybridMergeRow.holds Try.pinned (OpenSpec.ofChange fnHybridMergeWrong)

/- THE SECOND FORM. 'bulk': how many values and letters a reading holds, each counted each time it is reached (what is shared counts as often as it is met; a slice's spare places count too). A statement '..UptoSaid' is the law's where the arguments, and the package variables that the reading takes, are together of bulk at most 1048576: NARROWER than '..Said'. Prove '..Said' where nothing that the law and all that it calls make is longer than what came in: it says more and counts as full. Else prove '..UptoSaid'. A law counts once. -/
mutual
def uptoBulk {H : Type} : DataW H → Nat
  | .lit (.string bytes) => bytes.length + 1
  | .lit _ => 1
  | .nil => 1
  | .ptr d => uptoBulk d + 1
  | .slice elems spare => uptoBulkAll elems + uptoBulkAll spare + 1
  | .agg parts => uptoBulkAll parts + 1
  | .iface _ d => uptoBulk d + 1
  | .map entries => uptoBulkEntries entries + 1
  | .held _ => 1
def uptoBulkAll {H : Type} : List (DataW H) → Nat
  | [] => 0
  | d :: r => uptoBulk d + uptoBulkAll r
def uptoBulkEntries {H : Type} : List (Lit × DataW H) → Nat
  | [] => 0
  | x :: r => uptoBulkEntry x + uptoBulkEntries r
def uptoBulkEntry {H : Type} : Lit × DataW H → Nat
  | (.string bytes, d) => bytes.length + uptoBulk d + 1
  | (_, d) => uptoBulk d + 1
 end
def uptoSmall : (H : Type) → List (DataW H) → Bool := fun _ ds => decide (uptoBulkAll ds ≤ 1048576)
def OpenSpec.upto (s : _root_.Go.ChangeSpec) : _root_.Go.OpenSpec := { _root_.Go.OpenSpec.ofChange s with cond := some uptoSmall }

/-- 'laws.FnHybridLater', WHERE WHAT IT READS IS OF BULK AT MOST 1048576: true; the input reads as it did. -/
def fnHybridLaterUptoRow : OpenClaim := { program := "ytfemlfmkomkkbaa", sum := "b18ec8dbb41d4f74589ae70c3e29d06fe8683752c6884cc8447205d82175a332", func := "loop.example/groupmulticast/laws.FnHybridLater", spec := "fnHybridLater", apart := false, narrowed := true }
def FnHybridLaterUptoSaid : Prop := fnHybridLaterUptoRow.holds Try.pinned (OpenSpec.upto fnHybridLaterSpec)

/-- 'laws.FnHybridLeast', WHERE WHAT IT READS IS OF BULK AT MOST 1048576: true; the input reads as it did. -/
def fnHybridLeastUptoRow : OpenClaim := { program := "ytfemlfmkomkkbaa", sum := "b18ec8dbb41d4f74589ae70c3e29d06fe8683752c6884cc8447205d82175a332", func := "loop.example/groupmulticast/laws.FnHybridLeast", spec := "fnHybridLeast", apart := false, narrowed := true }
def FnHybridLeastUptoSaid : Prop := fnHybridLeastUptoRow.holds Try.pinned (OpenSpec.upto fnHybridLeastSpec)

/-- 'laws.FnHybridTick', WHERE WHAT IT READS IS OF BULK AT MOST 1048576: true; the input reads as it did. -/
def fnHybridTickUptoRow : OpenClaim := { program := "ytfemlfmkomkkbaa", sum := "b18ec8dbb41d4f74589ae70c3e29d06fe8683752c6884cc8447205d82175a332", func := "loop.example/groupmulticast/laws.FnHybridTick", spec := "fnHybridTick", apart := false, narrowed := true }
def FnHybridTickUptoSaid : Prop := fnHybridTickUptoRow.holds Try.pinned (OpenSpec.upto fnHybridTickSpec)

/-- 'laws.FnHybridSymmetric', WHERE WHAT IT READS IS OF BULK AT MOST 1048576: true; the input reads as it did. -/
def fnHybridSymmetricUptoRow : OpenClaim := { program := "ytfemlfmkomkkbaa", sum := "b18ec8dbb41d4f74589ae70c3e29d06fe8683752c6884cc8447205d82175a332", func := "loop.example/groupmulticast/laws.FnHybridSymmetric", spec := "fnHybridSymmetric", apart := false, narrowed := true }
def FnHybridSymmetricUptoSaid : Prop := fnHybridSymmetricUptoRow.holds Try.pinned (OpenSpec.upto fnHybridSymmetricSpec)

/-- 'laws.FnHybridMerge', WHERE WHAT IT READS IS OF BULK AT MOST 1048576: true; the input reads as it did. -/
def fnHybridMergeUptoRow : OpenClaim := { program := "ytfemlfmkomkkbaa", sum := "b18ec8dbb41d4f74589ae70c3e29d06fe8683752c6884cc8447205d82175a332", func := "loop.example/groupmulticast/laws.FnHybridMerge", spec := "fnHybridMerge", apart := false, narrowed := true }
def FnHybridMergeUptoSaid : Prop := fnHybridMergeUptoRow.holds Try.pinned (OpenSpec.upto fnHybridMergeSpec)

end Rows
end Go.Proofs.Ytfemlfmkomkkbaa
