/-
  No cell of these rows narrows 'for every input' (looked for: loops, veiled, ifaces, maps, wideKeys, modest, calm, conditions, laid).
  DERIVED. THE GIVEN ROWS OF THIS SEAT. 8 by the template 'for every input the law returns true; each argument reads behind the call as it read before'; 0 by the template 'total and deterministic' (their statements: YtbdboekjcgefhaaTotals.lean).
  GIVEN WITH THE SEED: the statements are not yours to turn. If you find one false, say at which input.
  Laid BY PROGRAM, IN A SANDBOX (cutbox-rows.mjs): the forced cells as the released guide's own fill.sh prints them over the translation 3b6623a8346b15b6… (all of the seat's roots in one cut). By AI agents, Wed Nov 11 2026. No macro, syntax, notation, axiom, sorry.
-/
import Derived.Test.YtbdboekjcgefhaaChecked
import GoSem.Claim
import GoSem.ClaimJoined
import GoSem.ClaimMapViews
import Derived.JoinedTies
import Derived.KernelRfl
namespace Go.Proofs.Ytbdboekjcgefhaa
/- THE CELL 'sum', in the pinned program and in every row, IS THE sha256 OF THE DUMP (.gsa) THAT YtbdboekjcgefhaaProg.lean LOADS. Nothing in Lean hashes anything: it is a label: what it is worth is what the hold of that sum in a sandbox is worth. -/
noncomputable def Try.pinned : Pinned := { name := "ytbdboekjcgefhaa", sum := "3b6623a8346b15b6826422f397b2ee7607a2d5e4615bc40ad1372d4ac87751f8", checked := Try.checked }
namespace Rows
def none {H : Type} : Left H := { results := [], args := [] }

/-- 'laws.FnExactGroupsNamed': WHATEVER THE INPUT: true; the input reads as it did. -/
def fnExactGroupsNamedSpec : ChangeSpec := { name := "fnExactGroupsNamed", fn := fun _ => fun
  | [d1, d2] => { results := [.lit (.bool true)], args := [d1, d2] }
  | _ => none }
def fnExactGroupsNamedRow : OpenClaim := { program := "ytbdboekjcgefhaa", sum := "3b6623a8346b15b6826422f397b2ee7607a2d5e4615bc40ad1372d4ac87751f8", func := "loop.example/groupmulticast/laws.FnExactGroupsNamed", spec := "fnExactGroupsNamed", apart := false }
def FnExactGroupsNamedSaid : Prop := fnExactGroupsNamedRow.holds Try.pinned (OpenSpec.ofChange fnExactGroupsNamedSpec)

/-- ITS FALSE NEIGHBOUR: 'it returns false'. Refute it at one input. -/
def fnExactGroupsNamedWrong : ChangeSpec := { name := "fnExactGroupsNamed", fn := fun _ => fun
  | [d1, d2] => { results := [.lit (.bool false)], args := [d1, d2] }
  | _ => none }
def FnExactGroupsNamedWrongFalsely : Prop := fnExactGroupsNamedRow.holds Try.pinned (OpenSpec.ofChange fnExactGroupsNamedWrong)

/-- 'laws.FnNamed': WHATEVER THE INPUT: true; the input reads as it did. -/
def fnNamedSpec : ChangeSpec := { name := "fnNamed", fn := fun _ => fun
  | [d] => { results := [.lit (.bool true)], args := [d] }
  | _ => none }
def fnNamedRow : OpenClaim := { program := "ytbdboekjcgefhaa", sum := "3b6623a8346b15b6826422f397b2ee7607a2d5e4615bc40ad1372d4ac87751f8", func := "loop.example/groupmulticast/laws.FnNamed", spec := "fnNamed", apart := false }
def FnNamedSaid : Prop := fnNamedRow.holds Try.pinned (OpenSpec.ofChange fnNamedSpec)

/-- ITS FALSE NEIGHBOUR: 'it returns false'. Refute it at one input. -/
def fnNamedWrong : ChangeSpec := { name := "fnNamed", fn := fun _ => fun
  | [d] => { results := [.lit (.bool false)], args := [d] }
  | _ => none }
def FnNamedWrongFalsely : Prop := fnNamedRow.holds Try.pinned (OpenSpec.ofChange fnNamedWrong)

/-- 'laws.FnLinkedGrow': WHATEVER THE INPUT: true; the input reads as it did. -/
def fnLinkedGrowSpec : ChangeSpec := { name := "fnLinkedGrow", fn := fun _ => fun
  | [d1, d2] => { results := [.lit (.bool true)], args := [d1, d2] }
  | _ => none }
def fnLinkedGrowRow : OpenClaim := { program := "ytbdboekjcgefhaa", sum := "3b6623a8346b15b6826422f397b2ee7607a2d5e4615bc40ad1372d4ac87751f8", func := "loop.example/groupmulticast/laws.FnLinkedGrow", spec := "fnLinkedGrow", unfollowed := true, recurses := true, apart := false }
def FnLinkedGrowSaid : Prop := fnLinkedGrowRow.holds Try.pinned (OpenSpec.ofChange fnLinkedGrowSpec)

/-- ITS FALSE NEIGHBOUR: 'it returns false'. Refute it at one input. -/
def fnLinkedGrowWrong : ChangeSpec := { name := "fnLinkedGrow", fn := fun _ => fun
  | [d1, d2] => { results := [.lit (.bool false)], args := [d1, d2] }
  | _ => none }
def FnLinkedGrowWrongFalsely : Prop := fnLinkedGrowRow.holds Try.pinned (OpenSpec.ofChange fnLinkedGrowWrong)

/-- 'laws.FnLinkedSame': WHATEVER THE INPUT: true; the input reads as it did. -/
def fnLinkedSameSpec : ChangeSpec := { name := "fnLinkedSame", fn := fun _ => fun
  | [d1, d2] => { results := [.lit (.bool true)], args := [d1, d2] }
  | _ => none }
def fnLinkedSameRow : OpenClaim := { program := "ytbdboekjcgefhaa", sum := "3b6623a8346b15b6826422f397b2ee7607a2d5e4615bc40ad1372d4ac87751f8", func := "loop.example/groupmulticast/laws.FnLinkedSame", spec := "fnLinkedSame", unfollowed := true, recurses := true, apart := false }
def FnLinkedSameSaid : Prop := fnLinkedSameRow.holds Try.pinned (OpenSpec.ofChange fnLinkedSameSpec)

/-- ITS FALSE NEIGHBOUR: 'it returns false'. Refute it at one input. -/
def fnLinkedSameWrong : ChangeSpec := { name := "fnLinkedSame", fn := fun _ => fun
  | [d1, d2] => { results := [.lit (.bool false)], args := [d1, d2] }
  | _ => none }
def FnLinkedSameWrongFalsely : Prop := fnLinkedSameRow.holds Try.pinned (OpenSpec.ofChange fnLinkedSameWrong)

/-- 'laws.FnExactGroupsLinked': WHATEVER THE INPUT: true; the input reads as it did. -/
def fnExactGroupsLinkedSpec : ChangeSpec := { name := "fnExactGroupsLinked", fn := fun _ => fun
  | [d1, d2] => { results := [.lit (.bool true)], args := [d1, d2] }
  | _ => none }
def fnExactGroupsLinkedRow : OpenClaim := { program := "ytbdboekjcgefhaa", sum := "3b6623a8346b15b6826422f397b2ee7607a2d5e4615bc40ad1372d4ac87751f8", func := "loop.example/groupmulticast/laws.FnExactGroupsLinked", spec := "fnExactGroupsLinked", unfollowed := true, recurses := true, apart := false }
def FnExactGroupsLinkedSaid : Prop := fnExactGroupsLinkedRow.holds Try.pinned (OpenSpec.ofChange fnExactGroupsLinkedSpec)

/-- ITS FALSE NEIGHBOUR: 'it returns false'. Refute it at one input. -/
def fnExactGroupsLinkedWrong : ChangeSpec := { name := "fnExactGroupsLinked", fn := fun _ => fun
  | [d1, d2] => { results := [.lit (.bool false)], args := [d1, d2] }
  | _ => none }
def FnExactGroupsLinkedWrongFalsely : Prop := fnExactGroupsLinkedRow.holds Try.pinned (OpenSpec.ofChange fnExactGroupsLinkedWrong)

/-- 'laws.FnLinked': WHATEVER THE INPUT: true; the input reads as it did. -/
def fnLinkedSpec : ChangeSpec := { name := "fnLinked", fn := fun _ => fun
  | [d] => { results := [.lit (.bool true)], args := [d] }
  | _ => none }
def fnLinkedRow : OpenClaim := { program := "ytbdboekjcgefhaa", sum := "3b6623a8346b15b6826422f397b2ee7607a2d5e4615bc40ad1372d4ac87751f8", func := "loop.example/groupmulticast/laws.FnLinked", spec := "fnLinked", unfollowed := true, recurses := true, apart := false }
def FnLinkedSaid : Prop := fnLinkedRow.holds Try.pinned (OpenSpec.ofChange fnLinkedSpec)

/-- ITS FALSE NEIGHBOUR: 'it returns false'. Refute it at one input. -/
def fnLinkedWrong : ChangeSpec := { name := "fnLinked", fn := fun _ => fun
  | [d] => { results := [.lit (.bool false)], args := [d] }
  | _ => none }
def FnLinkedWrongFalsely : Prop := fnLinkedRow.holds Try.pinned (OpenSpec.ofChange fnLinkedWrong)

/-- 'laws.FnLinkedReason': WHATEVER THE INPUT: true; the input reads as it did. -/
def fnLinkedReasonSpec : ChangeSpec := { name := "fnLinkedReason", fn := fun _ => fun
  | [d] => { results := [.lit (.bool true)], args := [d] }
  | _ => none }
def fnLinkedReasonRow : OpenClaim := { program := "ytbdboekjcgefhaa", sum := "3b6623a8346b15b6826422f397b2ee7607a2d5e4615bc40ad1372d4ac87751f8", func := "loop.example/groupmulticast/laws.FnLinkedReason", spec := "fnLinkedReason", unfollowed := true, recurses := true, apart := false }
def FnLinkedReasonSaid : Prop := fnLinkedReasonRow.holds Try.pinned (OpenSpec.ofChange fnLinkedReasonSpec)

/-- ITS FALSE NEIGHBOUR: 'it returns false'. Refute it at one input. -/
def fnLinkedReasonWrong : ChangeSpec := { name := "fnLinkedReason", fn := fun _ => fun
  | [d] => { results := [.lit (.bool false)], args := [d] }
  | _ => none }
def FnLinkedReasonWrongFalsely : Prop := fnLinkedReasonRow.holds Try.pinned (OpenSpec.ofChange fnLinkedReasonWrong)

/-- 'laws.FnNamedAll': WHATEVER THE INPUT: true; the input reads as it did. -/
def fnNamedAllSpec : ChangeSpec := { name := "fnNamedAll", fn := fun _ => fun
  | [d] => { results := [.lit (.bool true)], args := [d] }
  | _ => none }
def fnNamedAllRow : OpenClaim := { program := "ytbdboekjcgefhaa", sum := "3b6623a8346b15b6826422f397b2ee7607a2d5e4615bc40ad1372d4ac87751f8", func := "loop.example/groupmulticast/laws.FnNamedAll", spec := "fnNamedAll", unfollowed := true, recurses := true, apart := false }
def FnNamedAllSaid : Prop := fnNamedAllRow.holds Try.pinned (OpenSpec.ofChange fnNamedAllSpec)

/-- ITS FALSE NEIGHBOUR: 'it returns false'. Refute it at one input. -/
def fnNamedAllWrong : ChangeSpec := { name := "fnNamedAll", fn := fun _ => fun
  | [d] => { results := [.lit (.bool false)], args := [d] }
  | _ => none }
def FnNamedAllWrongFalsely : Prop := fnNamedAllRow.holds Try.pinned (OpenSpec.ofChange fnNamedAllWrong)

/- THE SECOND FORM. 'bulk': how many values and letters a reading holds, each counted each time it is reached (what is shared counts as often as it is met; a slice's spare places count too). A statement '..UptoSaid' is the law's where the arguments, and the package variables that the reading takes, are together of bulk at most 1048576: NARROWER than '..Said'. Prove '..Said' where nothing that the law and all that it calls make is longer than what came in: it says more and counts as full. Else prove '..UptoSaid'. A law counts once. -/
mutual
def uptoBulk {H : Type} : DataW H → Nat
  | .lit (.string bytes) => bytes.length + 1
  | .lit _ => 1
  | .nil => 1
  | .ptr d => uptoBulk d + 1
  | .slice elems spare => uptoBulkAll elems + uptoBulkAll spare + 1
  | .agg parts => uptoBulkAll parts + 1
  | .iface _ d => uptoBulk d + 1
  | .map entries => uptoBulkEntries entries + 1
  | .held _ => 1
def uptoBulkAll {H : Type} : List (DataW H) → Nat
  | [] => 0
  | d :: r => uptoBulk d + uptoBulkAll r
def uptoBulkEntries {H : Type} : List (Lit × DataW H) → Nat
  | [] => 0
  | x :: r => uptoBulkEntry x + uptoBulkEntries r
def uptoBulkEntry {H : Type} : Lit × DataW H → Nat
  | (.string bytes, d) => bytes.length + uptoBulk d + 1
  | (_, d) => uptoBulk d + 1
 end
def uptoSmall : (H : Type) → List (DataW H) → Bool := fun _ ds => decide (uptoBulkAll ds ≤ 1048576)
def OpenSpec.upto (s : _root_.Go.ChangeSpec) : _root_.Go.OpenSpec := { _root_.Go.OpenSpec.ofChange s with cond := some uptoSmall }

/-- 'laws.FnExactGroupsNamed', WHERE WHAT IT READS IS OF BULK AT MOST 1048576: true; the input reads as it did. -/
def fnExactGroupsNamedUptoRow : OpenClaim := { program := "ytbdboekjcgefhaa", sum := "3b6623a8346b15b6826422f397b2ee7607a2d5e4615bc40ad1372d4ac87751f8", func := "loop.example/groupmulticast/laws.FnExactGroupsNamed", spec := "fnExactGroupsNamed", apart := false, narrowed := true }
def FnExactGroupsNamedUptoSaid : Prop := fnExactGroupsNamedUptoRow.holds Try.pinned (OpenSpec.upto fnExactGroupsNamedSpec)

/-- 'laws.FnNamed', WHERE WHAT IT READS IS OF BULK AT MOST 1048576: true; the input reads as it did. -/
def fnNamedUptoRow : OpenClaim := { program := "ytbdboekjcgefhaa", sum := "3b6623a8346b15b6826422f397b2ee7607a2d5e4615bc40ad1372d4ac87751f8", func := "loop.example/groupmulticast/laws.FnNamed", spec := "fnNamed", apart := false, narrowed := true }
def FnNamedUptoSaid : Prop := fnNamedUptoRow.holds Try.pinned (OpenSpec.upto fnNamedSpec)

/-- 'laws.FnLinkedGrow', WHERE WHAT IT READS IS OF BULK AT MOST 1048576: true; the input reads as it did. -/
def fnLinkedGrowUptoRow : OpenClaim := { program := "ytbdboekjcgefhaa", sum := "3b6623a8346b15b6826422f397b2ee7607a2d5e4615bc40ad1372d4ac87751f8", func := "loop.example/groupmulticast/laws.FnLinkedGrow", spec := "fnLinkedGrow", unfollowed := true, recurses := true, apart := false, narrowed := true }
def FnLinkedGrowUptoSaid : Prop := fnLinkedGrowUptoRow.holds Try.pinned (OpenSpec.upto fnLinkedGrowSpec)

/-- 'laws.FnLinkedSame', WHERE WHAT IT READS IS OF BULK AT MOST 1048576: true; the input reads as it did. -/
def fnLinkedSameUptoRow : OpenClaim := { program := "ytbdboekjcgefhaa", sum := "3b6623a8346b15b6826422f397b2ee7607a2d5e4615bc40ad1372d4ac87751f8", func := "loop.example/groupmulticast/laws.FnLinkedSame", spec := "fnLinkedSame", unfollowed := true, recurses := true, apart := false, narrowed := true }
def FnLinkedSameUptoSaid : Prop := fnLinkedSameUptoRow.holds Try.pinned (OpenSpec.upto fnLinkedSameSpec)

/-- 'laws.FnExactGroupsLinked', WHERE WHAT IT READS IS OF BULK AT MOST 1048576: true; the input reads as it did. -/
def fnExactGroupsLinkedUptoRow : OpenClaim := { program := "ytbdboekjcgefhaa", sum := "3b6623a8346b15b6826422f397b2ee7607a2d5e4615bc40ad1372d4ac87751f8", func := "loop.example/groupmulticast/laws.FnExactGroupsLinked", spec := "fnExactGroupsLinked", unfollowed := true, recurses := true, apart := false, narrowed := true }
def FnExactGroupsLinkedUptoSaid : Prop := fnExactGroupsLinkedUptoRow.holds Try.pinned (OpenSpec.upto fnExactGroupsLinkedSpec)

/-- 'laws.FnLinked', WHERE WHAT IT READS IS OF BULK AT MOST 1048576: true; the input reads as it did. -/
def fnLinkedUptoRow : OpenClaim := { program := "ytbdboekjcgefhaa", sum := "3b6623a8346b15b6826422f397b2ee7607a2d5e4615bc40ad1372d4ac87751f8", func := "loop.example/groupmulticast/laws.FnLinked", spec := "fnLinked", unfollowed := true, recurses := true, apart := false, narrowed := true }
def FnLinkedUptoSaid : Prop := fnLinkedUptoRow.holds Try.pinned (OpenSpec.upto fnLinkedSpec)

/-- 'laws.FnLinkedReason', WHERE WHAT IT READS IS OF BULK AT MOST 1048576: true; the input reads as it did. -/
def fnLinkedReasonUptoRow : OpenClaim := { program := "ytbdboekjcgefhaa", sum := "3b6623a8346b15b6826422f397b2ee7607a2d5e4615bc40ad1372d4ac87751f8", func := "loop.example/groupmulticast/laws.FnLinkedReason", spec := "fnLinkedReason", unfollowed := true, recurses := true, apart := false, narrowed := true }
def FnLinkedReasonUptoSaid : Prop := fnLinkedReasonUptoRow.holds Try.pinned (OpenSpec.upto fnLinkedReasonSpec)

/-- 'laws.FnNamedAll', WHERE WHAT IT READS IS OF BULK AT MOST 1048576: true; the input reads as it did. -/
def fnNamedAllUptoRow : OpenClaim := { program := "ytbdboekjcgefhaa", sum := "3b6623a8346b15b6826422f397b2ee7607a2d5e4615bc40ad1372d4ac87751f8", func := "loop.example/groupmulticast/laws.FnNamedAll", spec := "fnNamedAll", unfollowed := true, recurses := true, apart := false, narrowed := true }
def FnNamedAllUptoSaid : Prop := fnNamedAllUptoRow.holds Try.pinned (OpenSpec.upto fnNamedAllSpec)

end Rows
end Go.Proofs.Ytbdboekjcgefhaa
