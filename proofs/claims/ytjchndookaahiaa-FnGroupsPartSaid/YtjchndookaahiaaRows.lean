/-
  No cell of these rows narrows 'for every input' (looked for: loops, veiled, ifaces, maps, wideKeys, modest, calm, conditions, laid).
  DERIVED. THE GIVEN ROWS OF THIS SEAT. 7 by the template 'for every input the law returns true; each argument reads behind the call as it read before'; 0 by the template 'total and deterministic' (their statements: YtjchndookaahiaaTotals.lean).
  GIVEN WITH THE SEED: the statements are not yours to turn. If you find one false, say at which input.
  Laid BY PROGRAM, IN A SANDBOX (cutbox-rows.mjs): the forced cells as the released guide's own fill.sh prints them over the translation f5589b36c52cf310… (all of the seat's roots in one cut). By AI agents, Wed Nov 11 2026. No macro, syntax, notation, axiom, sorry.
-/
import Derived.Test.YtjchndookaahiaaChecked
import GoSem.Claim
import GoSem.ClaimJoined
import GoSem.ClaimMapViews
import Derived.JoinedTies
import Derived.KernelRfl
namespace Go.Proofs.Ytjchndookaahiaa
/- THE CELL 'sum', in the pinned program and in every row, IS THE sha256 OF THE DUMP (.gsa) THAT YtjchndookaahiaaProg.lean LOADS. Nothing in Lean hashes anything: it is a label: what it is worth is what the hold of that sum in a sandbox is worth. -/
noncomputable def Try.pinned : Pinned := { name := "ytjchndookaahiaa", sum := "f5589b36c52cf310251bfe51486e02c68943bc378dfc45fb17ef117fc74a4467", checked := Try.checked }
namespace Rows
def none {H : Type} : Left H := { results := [], args := [] }

/-- 'laws.FnExactGroupsValid': WHATEVER THE INPUT: true; the input reads as it did. -/
def fnExactGroupsValidSpec : ChangeSpec := { name := "fnExactGroupsValid", fn := fun _ => fun
  | [d] => { results := [.lit (.bool true)], args := [d] }
  | _ => none }
def fnExactGroupsValidRow : OpenClaim := { program := "ytjchndookaahiaa", sum := "f5589b36c52cf310251bfe51486e02c68943bc378dfc45fb17ef117fc74a4467", func := "loop.example/groupmulticast/laws.FnExactGroupsValid", spec := "fnExactGroupsValid", apart := false }
def FnExactGroupsValidSaid : Prop := fnExactGroupsValidRow.holds Try.pinned (OpenSpec.ofChange fnExactGroupsValidSpec)

/-- ITS FALSE NEIGHBOUR: 'it returns false'. Refute it at one input. -/
def fnExactGroupsValidWrong : ChangeSpec := { name := "fnExactGroupsValid", fn := fun _ => fun
  | [d] => { results := [.lit (.bool false)], args := [d] }
  | _ => none }
def FnExactGroupsValidWrongFalsely : Prop := fnExactGroupsValidRow.holds Try.pinned (OpenSpec.ofChange fnExactGroupsValidWrong)

/-- 'laws.FnGroupsPart': WHATEVER THE INPUT: true; the input reads as it did. -/
def fnGroupsPartSpec : ChangeSpec := { name := "fnGroupsPart", fn := fun _ => fun
  | [d1, d2] => { results := [.lit (.bool true)], args := [d1, d2] }
  | _ => none }
def fnGroupsPartRow : OpenClaim := { program := "ytjchndookaahiaa", sum := "f5589b36c52cf310251bfe51486e02c68943bc378dfc45fb17ef117fc74a4467", func := "loop.example/groupmulticast/laws.FnGroupsPart", spec := "fnGroupsPart", apart := false }
def FnGroupsPartSaid : Prop := fnGroupsPartRow.holds Try.pinned (OpenSpec.ofChange fnGroupsPartSpec)

/-- ITS FALSE NEIGHBOUR: 'it returns false'. Refute it at one input. -/
def fnGroupsPartWrong : ChangeSpec := { name := "fnGroupsPart", fn := fun _ => fun
  | [d1, d2] => { results := [.lit (.bool false)], args := [d1, d2] }
  | _ => none }
def FnGroupsPartWrongFalsely : Prop := fnGroupsPartRow.holds Try.pinned (OpenSpec.ofChange fnGroupsPartWrong)

/-- 'laws.FnExactGroupsCommon': WHATEVER THE INPUT: true; the input reads as it did. -/
def fnExactGroupsCommonSpec : ChangeSpec := { name := "fnExactGroupsCommon", fn := fun _ => fun
  | [d1, d2] => { results := [.lit (.bool true)], args := [d1, d2] }
  | _ => none }
def fnExactGroupsCommonRow : OpenClaim := { program := "ytjchndookaahiaa", sum := "f5589b36c52cf310251bfe51486e02c68943bc378dfc45fb17ef117fc74a4467", func := "loop.example/groupmulticast/laws.FnExactGroupsCommon", spec := "fnExactGroupsCommon", unfollowed := true, recurses := true, apart := false }
def FnExactGroupsCommonSaid : Prop := fnExactGroupsCommonRow.holds Try.pinned (OpenSpec.ofChange fnExactGroupsCommonSpec)

/-- ITS FALSE NEIGHBOUR: 'it returns false'. Refute it at one input. -/
def fnExactGroupsCommonWrong : ChangeSpec := { name := "fnExactGroupsCommon", fn := fun _ => fun
  | [d1, d2] => { results := [.lit (.bool false)], args := [d1, d2] }
  | _ => none }
def FnExactGroupsCommonWrongFalsely : Prop := fnExactGroupsCommonRow.holds Try.pinned (OpenSpec.ofChange fnExactGroupsCommonWrong)

/-- 'laws.FnExactGroupsUnion': WHATEVER THE INPUT: true; the input reads as it did. -/
def fnExactGroupsUnionSpec : ChangeSpec := { name := "fnExactGroupsUnion", fn := fun _ => fun
  | [d1, d2] => { results := [.lit (.bool true)], args := [d1, d2] }
  | _ => none }
def fnExactGroupsUnionRow : OpenClaim := { program := "ytjchndookaahiaa", sum := "f5589b36c52cf310251bfe51486e02c68943bc378dfc45fb17ef117fc74a4467", func := "loop.example/groupmulticast/laws.FnExactGroupsUnion", spec := "fnExactGroupsUnion", unfollowed := true, recurses := true, apart := false }
def FnExactGroupsUnionSaid : Prop := fnExactGroupsUnionRow.holds Try.pinned (OpenSpec.ofChange fnExactGroupsUnionSpec)

/-- ITS FALSE NEIGHBOUR: 'it returns false'. Refute it at one input. -/
def fnExactGroupsUnionWrong : ChangeSpec := { name := "fnExactGroupsUnion", fn := fun _ => fun
  | [d1, d2] => { results := [.lit (.bool false)], args := [d1, d2] }
  | _ => none }
def FnExactGroupsUnionWrongFalsely : Prop := fnExactGroupsUnionRow.holds Try.pinned (OpenSpec.ofChange fnExactGroupsUnionWrong)

/-- 'laws.FnUnionAgain': WHATEVER THE INPUT: true; the input reads as it did. -/
def fnUnionAgainSpec : ChangeSpec := { name := "fnUnionAgain", fn := fun _ => fun
  | [d] => { results := [.lit (.bool true)], args := [d] }
  | _ => none }
def fnUnionAgainRow : OpenClaim := { program := "ytjchndookaahiaa", sum := "f5589b36c52cf310251bfe51486e02c68943bc378dfc45fb17ef117fc74a4467", func := "loop.example/groupmulticast/laws.FnUnionAgain", spec := "fnUnionAgain", unfollowed := true, recurses := true, apart := false }
def FnUnionAgainSaid : Prop := fnUnionAgainRow.holds Try.pinned (OpenSpec.ofChange fnUnionAgainSpec)

/-- ITS FALSE NEIGHBOUR: 'it returns false'. Refute it at one input. -/
def fnUnionAgainWrong : ChangeSpec := { name := "fnUnionAgain", fn := fun _ => fun
  | [d] => { results := [.lit (.bool false)], args := [d] }
  | _ => none }
def FnUnionAgainWrongFalsely : Prop := fnUnionAgainRow.holds Try.pinned (OpenSpec.ofChange fnUnionAgainWrong)

/-- 'laws.FnCommon': WHATEVER THE INPUT: true; the input reads as it did. -/
def fnCommonSpec : ChangeSpec := { name := "fnCommon", fn := fun _ => fun
  | [d] => { results := [.lit (.bool true)], args := [d] }
  | _ => none }
def fnCommonRow : OpenClaim := { program := "ytjchndookaahiaa", sum := "f5589b36c52cf310251bfe51486e02c68943bc378dfc45fb17ef117fc74a4467", func := "loop.example/groupmulticast/laws.FnCommon", spec := "fnCommon", unfollowed := true, recurses := true, apart := false }
def FnCommonSaid : Prop := fnCommonRow.holds Try.pinned (OpenSpec.ofChange fnCommonSpec)

/-- ITS FALSE NEIGHBOUR: 'it returns false'. Refute it at one input. -/
def fnCommonWrong : ChangeSpec := { name := "fnCommon", fn := fun _ => fun
  | [d] => { results := [.lit (.bool false)], args := [d] }
  | _ => none }
def FnCommonWrongFalsely : Prop := fnCommonRow.holds Try.pinned (OpenSpec.ofChange fnCommonWrong)

/-- 'laws.FnUnion': WHATEVER THE INPUT: true; the input reads as it did. -/
def fnUnionSpec : ChangeSpec := { name := "fnUnion", fn := fun _ => fun
  | [d] => { results := [.lit (.bool true)], args := [d] }
  | _ => none }
def fnUnionRow : OpenClaim := { program := "ytjchndookaahiaa", sum := "f5589b36c52cf310251bfe51486e02c68943bc378dfc45fb17ef117fc74a4467", func := "loop.example/groupmulticast/laws.FnUnion", spec := "fnUnion", unfollowed := true, recurses := true, apart := false }
def FnUnionSaid : Prop := fnUnionRow.holds Try.pinned (OpenSpec.ofChange fnUnionSpec)

/-- ITS FALSE NEIGHBOUR: 'it returns false'. Refute it at one input. -/
def fnUnionWrong : ChangeSpec := { name := "fnUnion", fn := fun _ => fun
  | [d] => { results := [.lit (.bool false)], args := [d] }
  | _ => none }
def FnUnionWrongFalsely : Prop := fnUnionRow.holds Try.pinned (OpenSpec.ofChange fnUnionWrong)

/- THE SECOND FORM. 'bulk': how many values and letters a reading holds, each counted each time it is reached (what is shared counts as often as it is met; a slice's spare places count too). A statement '..UptoSaid' is the law's where the arguments, and the package variables that the reading takes, are together of bulk at most 1048576: NARROWER than '..Said'. Prove '..Said' where nothing that the law and all that it calls make is longer than what came in: it says more and counts as full. Else prove '..UptoSaid'. A law counts once. -/
mutual
def uptoBulk {H : Type} : DataW H → Nat
  | .lit (.string bytes) => bytes.length + 1
  | .lit _ => 1
  | .nil => 1
  | .ptr d => uptoBulk d + 1
  | .slice elems spare => uptoBulkAll elems + uptoBulkAll spare + 1
  | .agg parts => uptoBulkAll parts + 1
  | .iface _ d => uptoBulk d + 1
  | .map entries => uptoBulkEntries entries + 1
  | .held _ => 1
def uptoBulkAll {H : Type} : List (DataW H) → Nat
  | [] => 0
  | d :: r => uptoBulk d + uptoBulkAll r
def uptoBulkEntries {H : Type} : List (Lit × DataW H) → Nat
  | [] => 0
  | x :: r => uptoBulkEntry x + uptoBulkEntries r
def uptoBulkEntry {H : Type} : Lit × DataW H → Nat
  | (.string bytes, d) => bytes.length + uptoBulk d + 1
  | (_, d) => uptoBulk d + 1
 end
def uptoSmall : (H : Type) → List (DataW H) → Bool := fun _ ds => decide (uptoBulkAll ds ≤ 1048576)
def OpenSpec.upto (s : _root_.Go.ChangeSpec) : _root_.Go.OpenSpec := { _root_.Go.OpenSpec.ofChange s with cond := some uptoSmall }

/-- 'laws.FnExactGroupsValid', WHERE WHAT IT READS IS OF BULK AT MOST 1048576: true; the input reads as it did. -/
def fnExactGroupsValidUptoRow : OpenClaim := { program := "ytjchndookaahiaa", sum := "f5589b36c52cf310251bfe51486e02c68943bc378dfc45fb17ef117fc74a4467", func := "loop.example/groupmulticast/laws.FnExactGroupsValid", spec := "fnExactGroupsValid", apart := false, narrowed := true }
def FnExactGroupsValidUptoSaid : Prop := fnExactGroupsValidUptoRow.holds Try.pinned (OpenSpec.upto fnExactGroupsValidSpec)

/-- 'laws.FnGroupsPart', WHERE WHAT IT READS IS OF BULK AT MOST 1048576: true; the input reads as it did. -/
def fnGroupsPartUptoRow : OpenClaim := { program := "ytjchndookaahiaa", sum := "f5589b36c52cf310251bfe51486e02c68943bc378dfc45fb17ef117fc74a4467", func := "loop.example/groupmulticast/laws.FnGroupsPart", spec := "fnGroupsPart", apart := false, narrowed := true }
def FnGroupsPartUptoSaid : Prop := fnGroupsPartUptoRow.holds Try.pinned (OpenSpec.upto fnGroupsPartSpec)

/-- 'laws.FnExactGroupsCommon', WHERE WHAT IT READS IS OF BULK AT MOST 1048576: true; the input reads as it did. -/
def fnExactGroupsCommonUptoRow : OpenClaim := { program := "ytjchndookaahiaa", sum := "f5589b36c52cf310251bfe51486e02c68943bc378dfc45fb17ef117fc74a4467", func := "loop.example/groupmulticast/laws.FnExactGroupsCommon", spec := "fnExactGroupsCommon", unfollowed := true, recurses := true, apart := false, narrowed := true }
def FnExactGroupsCommonUptoSaid : Prop := fnExactGroupsCommonUptoRow.holds Try.pinned (OpenSpec.upto fnExactGroupsCommonSpec)

/-- 'laws.FnExactGroupsUnion', WHERE WHAT IT READS IS OF BULK AT MOST 1048576: true; the input reads as it did. -/
def fnExactGroupsUnionUptoRow : OpenClaim := { program := "ytjchndookaahiaa", sum := "f5589b36c52cf310251bfe51486e02c68943bc378dfc45fb17ef117fc74a4467", func := "loop.example/groupmulticast/laws.FnExactGroupsUnion", spec := "fnExactGroupsUnion", unfollowed := true, recurses := true, apart := false, narrowed := true }
def FnExactGroupsUnionUptoSaid : Prop := fnExactGroupsUnionUptoRow.holds Try.pinned (OpenSpec.upto fnExactGroupsUnionSpec)

/-- 'laws.FnUnionAgain', WHERE WHAT IT READS IS OF BULK AT MOST 1048576: true; the input reads as it did. -/
def fnUnionAgainUptoRow : OpenClaim := { program := "ytjchndookaahiaa", sum := "f5589b36c52cf310251bfe51486e02c68943bc378dfc45fb17ef117fc74a4467", func := "loop.example/groupmulticast/laws.FnUnionAgain", spec := "fnUnionAgain", unfollowed := true, recurses := true, apart := false, narrowed := true }
def FnUnionAgainUptoSaid : Prop := fnUnionAgainUptoRow.holds Try.pinned (OpenSpec.upto fnUnionAgainSpec)

/-- 'laws.FnCommon', WHERE WHAT IT READS IS OF BULK AT MOST 1048576: true; the input reads as it did. -/
def fnCommonUptoRow : OpenClaim := { program := "ytjchndookaahiaa", sum := "f5589b36c52cf310251bfe51486e02c68943bc378dfc45fb17ef117fc74a4467", func := "loop.example/groupmulticast/laws.FnCommon", spec := "fnCommon", unfollowed := true, recurses := true, apart := false, narrowed := true }
def FnCommonUptoSaid : Prop := fnCommonUptoRow.holds Try.pinned (OpenSpec.upto fnCommonSpec)

/-- 'laws.FnUnion', WHERE WHAT IT READS IS OF BULK AT MOST 1048576: true; the input reads as it did. -/
def fnUnionUptoRow : OpenClaim := { program := "ytjchndookaahiaa", sum := "f5589b36c52cf310251bfe51486e02c68943bc378dfc45fb17ef117fc74a4467", func := "loop.example/groupmulticast/laws.FnUnion", spec := "fnUnion", unfollowed := true, recurses := true, apart := false, narrowed := true }
def FnUnionUptoSaid : Prop := fnUnionUptoRow.holds Try.pinned (OpenSpec.upto fnUnionSpec)

end Rows
end Go.Proofs.Ytjchndookaahiaa
