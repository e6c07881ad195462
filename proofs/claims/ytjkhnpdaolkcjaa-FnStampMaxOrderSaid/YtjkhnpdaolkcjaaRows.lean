/-
  No cell of these rows narrows 'for every input' (looked for: loops, veiled, ifaces, maps, wideKeys, modest, calm, conditions, laid).
  DERIVED. THE GIVEN ROWS OF THIS SEAT. 6 by the template 'for every input the law returns true; each argument reads behind the call as it read before'; 0 by the template 'total and deterministic' (their statements: YtjkhnpdaolkcjaaTotals.lean).
  GIVEN WITH THE SEED: the statements are not yours to turn. If you find one false, say at which input.
  Laid BY PROGRAM, IN A SANDBOX (cutbox-rows.mjs): the forced cells as the released guide's own fill.sh prints them over the translation 58bd87e1ba28b5da… (all of the seat's roots in one cut). By AI agents, Wed Nov 11 2026. No macro, syntax, notation, axiom, sorry.
-/
import Derived.Test.YtjkhnpdaolkcjaaChecked
import GoSem.Claim
import GoSem.ClaimJoined
import GoSem.ClaimMapViews
import Derived.JoinedTies
import Derived.KernelRfl
namespace Go.Proofs.Ytjkhnpdaolkcjaa
/- THE CELL 'sum', in the pinned program and in every row, IS THE sha256 OF THE DUMP (.gsa) THAT YtjkhnpdaolkcjaaProg.lean LOADS. Nothing in Lean hashes anything: it is a label: what it is worth is what the hold of that sum in a sandbox is worth. -/
noncomputable def Try.pinned : Pinned := { name := "ytjkhnpdaolkcjaa", sum := "58bd87e1ba28b5da1a74d55e78c72a0b93ef561c034419030d5135accf519b72", checked := Try.checked }
namespace Rows
def none {H : Type} : Left H := { results := [], args := [] }

/-- 'laws.FnHybridOrder': WHATEVER THE INPUT: true; the input reads as it did. -/
def fnHybridOrderSpec : ChangeSpec := { name := "fnHybridOrder", fn := fun _ => fun
  | [d] => { results := [.lit (.bool true)], args := [d] }
  | _ => none }
def fnHybridOrderRow : OpenClaim := { program := "ytjkhnpdaolkcjaa", sum := "58bd87e1ba28b5da1a74d55e78c72a0b93ef561c034419030d5135accf519b72", func := "loop.example/groupmulticast/laws.FnHybridOrder", spec := "fnHybridOrder", apart := false }
def FnHybridOrderSaid : Prop := fnHybridOrderRow.holds Try.pinned (OpenSpec.ofChange fnHybridOrderSpec)

/-- ITS FALSE NEIGHBOUR: 'it returns false'. Refute it at one input. -/
def fnHybridOrderWrong : ChangeSpec := { name := "fnHybridOrder", fn := fun _ => fun
  | [d] => { results := [.lit (.bool false)], args := [d] }
  | _ => none }
def FnHybridOrderWrongFalsely : Prop := fnHybridOrderRow.holds Try.pinned (OpenSpec.ofChange fnHybridOrderWrong)

/-- 'laws.FnStampOrder': WHATEVER THE INPUT: true; the input reads as it did. -/
def fnStampOrderSpec : ChangeSpec := { name := "fnStampOrder", fn := fun _ => fun
  | [d] => { results := [.lit (.bool true)], args := [d] }
  | _ => none }
def fnStampOrderRow : OpenClaim := { program := "ytjkhnpdaolkcjaa", sum := "58bd87e1ba28b5da1a74d55e78c72a0b93ef561c034419030d5135accf519b72", func := "loop.example/groupmulticast/laws.FnStampOrder", spec := "fnStampOrder", apart := false }
def FnStampOrderSaid : Prop := fnStampOrderRow.holds Try.pinned (OpenSpec.ofChange fnStampOrderSpec)

/-- ITS FALSE NEIGHBOUR: 'it returns false'. Refute it at one input. -/
def fnStampOrderWrong : ChangeSpec := { name := "fnStampOrder", fn := fun _ => fun
  | [d] => { results := [.lit (.bool false)], args := [d] }
  | _ => none }
def FnStampOrderWrongFalsely : Prop := fnStampOrderRow.holds Try.pinned (OpenSpec.ofChange fnStampOrderWrong)

/-- 'laws.FnStampShift': WHATEVER THE INPUT: true; the input reads as it did. -/
def fnStampShiftSpec : ChangeSpec := { name := "fnStampShift", fn := fun _ => fun
  | [d1, d2] => { results := [.lit (.bool true)], args := [d1, d2] }
  | _ => none }
def fnStampShiftRow : OpenClaim := { program := "ytjkhnpdaolkcjaa", sum := "58bd87e1ba28b5da1a74d55e78c72a0b93ef561c034419030d5135accf519b72", func := "loop.example/groupmulticast/laws.FnStampShift", spec := "fnStampShift", apart := false }
def FnStampShiftSaid : Prop := fnStampShiftRow.holds Try.pinned (OpenSpec.ofChange fnStampShiftSpec)

/-- ITS FALSE NEIGHBOUR: 'it returns false'. Refute it at one input. -/
def fnStampShiftWrong : ChangeSpec := { name := "fnStampShift", fn := fun _ => fun
  | [d1, d2] => { results := [.lit (.bool false)], args := [d1, d2] }
  | _ => none }
def FnStampShiftWrongFalsely : Prop := fnStampShiftRow.holds Try.pinned (OpenSpec.ofChange fnStampShiftWrong)

/-- 'laws.FnStampThree': WHATEVER THE INPUT: true; the input reads as it did. -/
def fnStampThreeSpec : ChangeSpec := { name := "fnStampThree", fn := fun _ => fun
  | [d1, d2] => { results := [.lit (.bool true)], args := [d1, d2] }
  | _ => none }
def fnStampThreeRow : OpenClaim := { program := "ytjkhnpdaolkcjaa", sum := "58bd87e1ba28b5da1a74d55e78c72a0b93ef561c034419030d5135accf519b72", func := "loop.example/groupmulticast/laws.FnStampThree", spec := "fnStampThree", apart := false }
def FnStampThreeSaid : Prop := fnStampThreeRow.holds Try.pinned (OpenSpec.ofChange fnStampThreeSpec)

/-- ITS FALSE NEIGHBOUR: 'it returns false'. Refute it at one input. -/
def fnStampThreeWrong : ChangeSpec := { name := "fnStampThree", fn := fun _ => fun
  | [d1, d2] => { results := [.lit (.bool false)], args := [d1, d2] }
  | _ => none }
def FnStampThreeWrongFalsely : Prop := fnStampThreeRow.holds Try.pinned (OpenSpec.ofChange fnStampThreeWrong)

/-- 'laws.FnStampMaxOrder': WHATEVER THE INPUT: true; the input reads as it did. -/
def fnStampMaxOrderSpec : ChangeSpec := { name := "fnStampMaxOrder", fn := fun _ => fun
  | [d] => { results := [.lit (.bool true)], args := [d] }
  | _ => none }
def fnStampMaxOrderRow : OpenClaim := { program := "ytjkhnpdaolkcjaa", sum := "58bd87e1ba28b5da1a74d55e78c72a0b93ef561c034419030d5135accf519b72", func := "loop.example/groupmulticast/laws.FnStampMaxOrder", spec := "fnStampMaxOrder", unfollowed := true, recurses := true, apart := false }
def FnStampMaxOrderSaid : Prop := fnStampMaxOrderRow.holds Try.pinned (OpenSpec.ofChange fnStampMaxOrderSpec)

/-- ITS FALSE NEIGHBOUR: 'it returns false'. Refute it at one input. -/
def fnStampMaxOrderWrong : ChangeSpec := { name := "fnStampMaxOrder", fn := fun _ => fun
  | [d] => { results := [.lit (.bool false)], args := [d] }
  | _ => none }
def FnStampMaxOrderWrongFalsely : Prop := fnStampMaxOrderRow.holds Try.pinned (OpenSpec.ofChange fnStampMaxOrderWrong)

/-- 'laws.FnStampMax': WHATEVER THE INPUT: true; the input reads as it did. -/
def fnStampMaxSpec : ChangeSpec := { name := "fnStampMax", fn := fun _ => fun
  | [d] => { results := [.lit (.bool true)], args := [d] }
  | _ => none }
def fnStampMaxRow : OpenClaim := { program := "ytjkhnpdaolkcjaa", sum := "58bd87e1ba28b5da1a74d55e78c72a0b93ef561c034419030d5135accf519b72", func := "loop.example/groupmulticast/laws.FnStampMax", spec := "fnStampMax", unfollowed := true, recurses := true, apart := false }
def FnStampMaxSaid : Prop := fnStampMaxRow.holds Try.pinned (OpenSpec.ofChange fnStampMaxSpec)

/-- ITS FALSE NEIGHBOUR: 'it returns false'. Refute it at one input. -/
def fnStampMaxWrong : ChangeSpec := { name := "fnStampMax", fn := fun _ => fun
  | [d] => { results := [.lit (.bool false)], args := [d] }
  | _ => none }
def FnStampMaxWrongFalsely : Prop := fnStampMaxRow.holds Try.pinned (OpenSpec.ofChange fnStampMaxWrong)

/- THE SECOND FORM. 'bulk': how many values and letters a reading holds, each counted each time it is reached (what is shared counts as often as it is met; a slice's spare places count too). A statement '..UptoSaid' is the law's where the arguments, and the package variables that the reading takes, are together of bulk at most 1048576: NARROWER than '..Said'. Prove '..Said' where nothing that the law and all that it calls make is longer than what came in: it says more and counts as full. Else prove '..UptoSaid'. A law counts once. -/
mutual
def uptoBulk {H : Type} : DataW H → Nat
  | .lit (.string bytes) => bytes.length + 1
  | .lit _ => 1
  | .nil => 1
  | .ptr d => uptoBulk d + 1
  | .slice elems spare => uptoBulkAll elems + uptoBulkAll spare + 1
  | .agg parts => uptoBulkAll parts + 1
  | .iface _ d => uptoBulk d + 1
  | .map entries => uptoBulkEntries entries + 1
  | .held _ => 1
def uptoBulkAll {H : Type} : List (DataW H) → Nat
  | [] => 0
  | d :: r => uptoBulk d + uptoBulkAll r
def uptoBulkEntries {H : Type} : List (Lit × DataW H) → Nat
  | [] => 0
  | x :: r => uptoBulkEntry x + uptoBulkEntries r
def uptoBulkEntry {H : Type} : Lit × DataW H → Nat
  | (.string bytes, d) => bytes.length + uptoBulk d + 1
  | (_, d) => uptoBulk d + 1
 end
def uptoSmall : (H : Type) → List (DataW H) → Bool := fun _ ds => decide (uptoBulkAll ds ≤ 1048576)
def OpenSpec.upto (s : _root_.Go.ChangeSpec) : _root_.Go.OpenSpec := { _root_.Go.OpenSpec.ofChange s with cond := some uptoSmall }

/-- 'laws.FnHybridOrder', WHERE WHAT IT READS IS OF BULK AT MOST 1048576: true; the input reads as it did. -/
def fnHybridOrderUptoRow : OpenClaim := { program := "ytjkhnpdaolkcjaa", sum := "58bd87e1ba28b5da1a74d55e78c72a0b93ef561c034419030d5135accf519b72", func := "loop.example/groupmulticast/laws.FnHybridOrder", spec := "fnHybridOrder", apart := false, narrowed := true }
def FnHybridOrderUptoSaid : Prop := fnHybridOrderUptoRow.holds Try.pinned (OpenSpec.upto fnHybridOrderSpec)

/-- 'laws.FnStampOrder', WHERE WHAT IT READS IS OF BULK AT MOST 1048576: true; the input reads as it did. -/
def fnStampOrderUptoRow : OpenClaim := { program := "ytjkhnpdaolkcjaa", sum := "58bd87e1ba28b5da1a74d55e78c72a0b93ef561c034419030d5135accf519b72", func := "loop.example/groupmulticast/laws.FnStampOrder", spec := "fnStampOrder", apart := false, narrowed := true }
def FnStampOrderUptoSaid : Prop := fnStampOrderUptoRow.holds Try.pinned (OpenSpec.upto fnStampOrderSpec)

/-- 'laws.FnStampShift', WHERE WHAT IT READS IS OF BULK AT MOST 1048576: true; the input reads as it did. -/
def fnStampShiftUptoRow : OpenClaim := { program := "ytjkhnpdaolkcjaa", sum := "58bd87e1ba28b5da1a74d55e78c72a0b93ef561c034419030d5135accf519b72", func := "loop.example/groupmulticast/laws.FnStampShift", spec := "fnStampShift", apart := false, narrowed := true }
def FnStampShiftUptoSaid : Prop := fnStampShiftUptoRow.holds Try.pinned (OpenSpec.upto fnStampShiftSpec)

/-- 'laws.FnStampThree', WHERE WHAT IT READS IS OF BULK AT MOST 1048576: true; the input reads as it did. -/
def fnStampThreeUptoRow : OpenClaim := { program := "ytjkhnpdaolkcjaa", sum := "58bd87e1ba28b5da1a74d55e78c72a0b93ef561c034419030d5135accf519b72", func := "loop.example/groupmulticast/laws.FnStampThree", spec := "fnStampThree", apart := false, narrowed := true }
def FnStampThreeUptoSaid : Prop := fnStampThreeUptoRow.holds Try.pinned (OpenSpec.upto fnStampThreeSpec)

/-- 'laws.FnStampMaxOrder', WHERE WHAT IT READS IS OF BULK AT MOST 1048576: true; the input reads as it did. -/
def fnStampMaxOrderUptoRow : OpenClaim := { program := "ytjkhnpdaolkcjaa", sum := "58bd87e1ba28b5da1a74d55e78c72a0b93ef561c034419030d5135accf519b72", func := "loop.example/groupmulticast/laws.FnStampMaxOrder", spec := "fnStampMaxOrder", unfollowed := true, recurses := true, apart := false, narrowed := true }
def FnStampMaxOrderUptoSaid : Prop := fnStampMaxOrderUptoRow.holds Try.pinned (OpenSpec.upto fnStampMaxOrderSpec)

/-- 'laws.FnStampMax', WHERE WHAT IT READS IS OF BULK AT MOST 1048576: true; the input reads as it did. -/
def fnStampMaxUptoRow : OpenClaim := { program := "ytjkhnpdaolkcjaa", sum := "58bd87e1ba28b5da1a74d55e78c72a0b93ef561c034419030d5135accf519b72", func := "loop.example/groupmulticast/laws.FnStampMax", spec := "fnStampMax", unfollowed := true, recurses := true, apart := false, narrowed := true }
def FnStampMaxUptoSaid : Prop := fnStampMaxUptoRow.holds Try.pinned (OpenSpec.upto fnStampMaxSpec)

end Rows
end Go.Proofs.Ytjkhnpdaolkcjaa
