/-
  No cell of these rows narrows 'for every input' (looked for: loops, veiled, ifaces, maps, wideKeys, modest, calm, conditions, laid).
  DERIVED. THE GIVEN ROWS OF THIS SEAT. 5 by the template 'for every input the law returns true; each argument reads behind the call as it read before'; 0 by the template 'total and deterministic' (their statements: YtiecjkacbpbghaaTotals.lean).
  GIVEN WITH THE SEED: the statements are not yours to turn. If you find one false, say at which input.
  Laid BY PROGRAM, IN A SANDBOX (cutbox-rows.mjs): the forced cells as the released guide's own fill.sh prints them over the translation b7c3263cb889ddce… (all of the seat's roots in one cut). By AI agents, Wed Nov 11 2026. No macro, syntax, notation, axiom, sorry.
-/
import Derived.Test.YtiecjkacbpbghaaChecked
import GoSem.Claim
import GoSem.ClaimJoined
import GoSem.ClaimMapViews
import Derived.JoinedTies
import Derived.KernelRfl
namespace Go.Proofs.Ytiecjkacbpbghaa
/- THE CELL 'sum', in the pinned program and in every row, IS THE sha256 OF THE DUMP (.gsa) THAT YtiecjkacbpbghaaProg.lean LOADS. Nothing in Lean hashes anything: it is a label: what it is worth is what the hold of that sum in a sandbox is worth. -/
noncomputable def Try.pinned : Pinned := { name := "ytiecjkacbpbghaa", sum := "b7c3263cb889ddcea30570a4acfef4e1701b0ad20a6efeea036f812b341a6394", checked := Try.checked }
namespace Rows
def none {H : Type} : Left H := { results := [], args := [] }

/-- 'laws.FnGroupNew': WHATEVER THE INPUT: true; the input reads as it did. -/
def fnGroupNewSpec : ChangeSpec := { name := "fnGroupNew", fn := fun _ => fun
  | [d] => { results := [.lit (.bool true)], args := [d] }
  | _ => none }
def fnGroupNewRow : OpenClaim := { program := "ytiecjkacbpbghaa", sum := "b7c3263cb889ddcea30570a4acfef4e1701b0ad20a6efeea036f812b341a6394", func := "loop.example/groupmulticast/laws.FnGroupNew", spec := "fnGroupNew", apart := false }
def FnGroupNewSaid : Prop := fnGroupNewRow.holds Try.pinned (OpenSpec.ofChange fnGroupNewSpec)

/-- ITS FALSE NEIGHBOUR: 'it returns false'. Refute it at one input. -/
def fnGroupNewWrong : ChangeSpec := { name := "fnGroupNew", fn := fun _ => fun
  | [d] => { results := [.lit (.bool false)], args := [d] }
  | _ => none }
def FnGroupNewWrongFalsely : Prop := fnGroupNewRow.holds Try.pinned (OpenSpec.ofChange fnGroupNewWrong)

/-- 'laws.FnExactGroupNew': WHATEVER THE INPUT: true; the input reads as it did. -/
def fnExactGroupNewSpec : ChangeSpec := { name := "fnExactGroupNew", fn := fun _ => fun
  | [d] => { results := [.lit (.bool true)], args := [d] }
  | _ => none }
def fnExactGroupNewRow : OpenClaim := { program := "ytiecjkacbpbghaa", sum := "b7c3263cb889ddcea30570a4acfef4e1701b0ad20a6efeea036f812b341a6394", func := "loop.example/groupmulticast/laws.FnExactGroupNew", spec := "fnExactGroupNew", apart := false }
def FnExactGroupNewSaid : Prop := fnExactGroupNewRow.holds Try.pinned (OpenSpec.ofChange fnExactGroupNewSpec)

/-- ITS FALSE NEIGHBOUR: 'it returns false'. Refute it at one input. -/
def fnExactGroupNewWrong : ChangeSpec := { name := "fnExactGroupNew", fn := fun _ => fun
  | [d] => { results := [.lit (.bool false)], args := [d] }
  | _ => none }
def FnExactGroupNewWrongFalsely : Prop := fnExactGroupNewRow.holds Try.pinned (OpenSpec.ofChange fnExactGroupNewWrong)

/-- 'laws.FnExactGroupValid': WHATEVER THE INPUT: true; the input reads as it did. -/
def fnExactGroupValidSpec : ChangeSpec := { name := "fnExactGroupValid", fn := fun _ => fun
  | [d] => { results := [.lit (.bool true)], args := [d] }
  | _ => none }
def fnExactGroupValidRow : OpenClaim := { program := "ytiecjkacbpbghaa", sum := "b7c3263cb889ddcea30570a4acfef4e1701b0ad20a6efeea036f812b341a6394", func := "loop.example/groupmulticast/laws.FnExactGroupValid", spec := "fnExactGroupValid", apart := false }
def FnExactGroupValidSaid : Prop := fnExactGroupValidRow.holds Try.pinned (OpenSpec.ofChange fnExactGroupValidSpec)

/-- ITS FALSE NEIGHBOUR: 'it returns false'. Refute it at one input. -/
def fnExactGroupValidWrong : ChangeSpec := { name := "fnExactGroupValid", fn := fun _ => fun
  | [d] => { results := [.lit (.bool false)], args := [d] }
  | _ => none }
def FnExactGroupValidWrongFalsely : Prop := fnExactGroupValidRow.holds Try.pinned (OpenSpec.ofChange fnExactGroupValidWrong)

/-- 'laws.FnExactGroupBlocked': WHATEVER THE INPUT: true; the input reads as it did. -/
def fnExactGroupBlockedSpec : ChangeSpec := { name := "fnExactGroupBlocked", fn := fun _ => fun
  | [d] => { results := [.lit (.bool true)], args := [d] }
  | _ => none }
def fnExactGroupBlockedRow : OpenClaim := { program := "ytiecjkacbpbghaa", sum := "b7c3263cb889ddcea30570a4acfef4e1701b0ad20a6efeea036f812b341a6394", func := "loop.example/groupmulticast/laws.FnExactGroupBlocked", spec := "fnExactGroupBlocked", apart := false }
def FnExactGroupBlockedSaid : Prop := fnExactGroupBlockedRow.holds Try.pinned (OpenSpec.ofChange fnExactGroupBlockedSpec)

/-- ITS FALSE NEIGHBOUR: 'it returns false'. Refute it at one input. -/
def fnExactGroupBlockedWrong : ChangeSpec := { name := "fnExactGroupBlocked", fn := fun _ => fun
  | [d] => { results := [.lit (.bool false)], args := [d] }
  | _ => none }
def FnExactGroupBlockedWrongFalsely : Prop := fnExactGroupBlockedRow.holds Try.pinned (OpenSpec.ofChange fnExactGroupBlockedWrong)

/-- 'laws.FnFinalOrder': WHATEVER THE INPUT: true; the input reads as it did. -/
def fnFinalOrderSpec : ChangeSpec := { name := "fnFinalOrder", fn := fun _ => fun
  | [d] => { results := [.lit (.bool true)], args := [d] }
  | _ => none }
def fnFinalOrderRow : OpenClaim := { program := "ytiecjkacbpbghaa", sum := "b7c3263cb889ddcea30570a4acfef4e1701b0ad20a6efeea036f812b341a6394", func := "loop.example/groupmulticast/laws.FnFinalOrder", spec := "fnFinalOrder", apart := false }
def FnFinalOrderSaid : Prop := fnFinalOrderRow.holds Try.pinned (OpenSpec.ofChange fnFinalOrderSpec)

/-- ITS FALSE NEIGHBOUR: 'it returns false'. Refute it at one input. -/
def fnFinalOrderWrong : ChangeSpec := { name := "fnFinalOrder", fn := fun _ => fun
  | [d] => { results := [.lit (.bool false)], args := [d] }
  | _ => none }
def FnFinalOrderWrongFalsely : Prop := fnFinalOrderRow.holds Try.pinned (OpenSpec.ofChange fnFinalOrderWrong)

/- THE SECOND FORM. 'bulk': how many values and letters a reading holds, each counted each time it is reached (what is shared counts as often as it is met; a slice's spare places count too). A statement '..UptoSaid' is the law's where the arguments, and the package variables that the reading takes, are together of bulk at most 1048576: NARROWER than '..Said'. Prove '..Said' where nothing that the law and all that it calls make is longer than what came in: it says more and counts as full. Else prove '..UptoSaid'. A law counts once. -/
mutual
def uptoBulk {H : Type} : DataW H → Nat
  | .lit (.string bytes) => bytes.length + 1
  | .lit _ => 1
  | .nil => 1
  | .ptr d => uptoBulk d + 1
  | .slice elems spare => uptoBulkAll elems + uptoBulkAll spare + 1
  | .agg parts => uptoBulkAll parts + 1
  | .iface _ d => uptoBulk d + 1
  | .map entries => uptoBulkEntries entries + 1
  | .held _ => 1
def uptoBulkAll {H : Type} : List (DataW H) → Nat
  | [] => 0
  | d :: r => uptoBulk d + uptoBulkAll r
def uptoBulkEntries {H : Type} : List (Lit × DataW H) → Nat
  | [] => 0
  | x :: r => uptoBulkEntry x + uptoBulkEntries r
def uptoBulkEntry {H : Type} : Lit × DataW H → Nat
  | (.string bytes, d) => bytes.length + uptoBulk d + 1
  | (_, d) => uptoBulk d + 1
 end
def uptoSmall : (H : Type) → List (DataW H) → Bool := fun _ ds => decide (uptoBulkAll ds ≤ 1048576)
def OpenSpec.upto (s : _root_.Go.ChangeSpec) : _root_.Go.OpenSpec := { _root_.Go.OpenSpec.ofChange s with cond := some uptoSmall }

/-- 'laws.FnGroupNew', WHERE WHAT IT READS IS OF BULK AT MOST 1048576: true; the input reads as it did. -/
def fnGroupNewUptoRow : OpenClaim := { program := "ytiecjkacbpbghaa", sum := "b7c3263cb889ddcea30570a4acfef4e1701b0ad20a6efeea036f812b341a6394", func := "loop.example/groupmulticast/laws.FnGroupNew", spec := "fnGroupNew", apart := false, narrowed := true }
def FnGroupNewUptoSaid : Prop := fnGroupNewUptoRow.holds Try.pinned (OpenSpec.upto fnGroupNewSpec)

/-- 'laws.FnExactGroupNew', WHERE WHAT IT READS IS OF BULK AT MOST 1048576: true; the input reads as it did. -/
def fnExactGroupNewUptoRow : OpenClaim := { program := "ytiecjkacbpbghaa", sum := "b7c3263cb889ddcea30570a4acfef4e1701b0ad20a6efeea036f812b341a6394", func := "loop.example/groupmulticast/laws.FnExactGroupNew", spec := "fnExactGroupNew", apart := false, narrowed := true }
def FnExactGroupNewUptoSaid : Prop := fnExactGroupNewUptoRow.holds Try.pinned (OpenSpec.upto fnExactGroupNewSpec)

/-- 'laws.FnExactGroupValid', WHERE WHAT IT READS IS OF BULK AT MOST 1048576: true; the input reads as it did. -/
def fnExactGroupValidUptoRow : OpenClaim := { program := "ytiecjkacbpbghaa", sum := "b7c3263cb889ddcea30570a4acfef4e1701b0ad20a6efeea036f812b341a6394", func := "loop.example/groupmulticast/laws.FnExactGroupValid", spec := "fnExactGroupValid", apart := false, narrowed := true }
def FnExactGroupValidUptoSaid : Prop := fnExactGroupValidUptoRow.holds Try.pinned (OpenSpec.upto fnExactGroupValidSpec)

/-- 'laws.FnExactGroupBlocked', WHERE WHAT IT READS IS OF BULK AT MOST 1048576: true; the input reads as it did. -/
def fnExactGroupBlockedUptoRow : OpenClaim := { program := "ytiecjkacbpbghaa", sum := "b7c3263cb889ddcea30570a4acfef4e1701b0ad20a6efeea036f812b341a6394", func := "loop.example/groupmulticast/laws.FnExactGroupBlocked", spec := "fnExactGroupBlocked", apart := false, narrowed := true }
def FnExactGroupBlockedUptoSaid : Prop := fnExactGroupBlockedUptoRow.holds Try.pinned (OpenSpec.upto fnExactGroupBlockedSpec)

/-- 'laws.FnFinalOrder', WHERE WHAT IT READS IS OF BULK AT MOST 1048576: true; the input reads as it did. -/
def fnFinalOrderUptoRow : OpenClaim := { program := "ytiecjkacbpbghaa", sum := "b7c3263cb889ddcea30570a4acfef4e1701b0ad20a6efeea036f812b341a6394", func := "loop.example/groupmulticast/laws.FnFinalOrder", spec := "fnFinalOrder", apart := false, narrowed := true }
def FnFinalOrderUptoSaid : Prop := fnFinalOrderUptoRow.holds Try.pinned (OpenSpec.upto fnFinalOrderSpec)

end Rows
end Go.Proofs.Ytiecjkacbpbghaa
