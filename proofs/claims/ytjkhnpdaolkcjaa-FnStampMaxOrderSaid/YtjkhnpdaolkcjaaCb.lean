/- Contracts: the next hybrid time, the hybrid time of a receipt. -/
import Derived.Test.YtjkhnpdaolkcjaaCa
import Derived.Test.YtjkhnpdaolkcjaaExt
namespace Go.Proofs.Ytjkhnpdaolkcjaa
set_option linter.unusedVariables false
open Go.RowKit

/-- A pair with its bool. -/
abbrev pv (b : Bool) (x y : Int) : Value := .tuple #[.agg #[.int .i64 (pw b x), .int .i64 (pw b y)], .bool b]
theorem pv_true {b : Bool} {x y : Int} (h : b = true) : pv b x y = .tuple #[.agg #[.int .i64 x, .int .i64 y], .bool true] := by simp [pv, pw, h]
theorem pv_false {b : Bool} {x y : Int} (h : b = false) : pv b x y = .tuple #[.agg #[.int .i64 0, .int .i64 0], .bool false] := by simp [pv, pw, h]

end Go.Proofs.Ytjkhnpdaolkcjaa
