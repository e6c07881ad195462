/- The law FnExactConstants: its call hands back true. -/
import Derived.Test.YtjnloiilabbhbaaRows
import Derived.Test.YtjnloiilabbhbaaMem
import Derived.Handy
namespace Go.Proofs.Ytjnloiilabbhbaa
set_option linter.unusedVariables false
open Go.RowKit

theorem xConst_walk (w : World) : Calls Try.prog 3 #[] w fun e w' => e = .returned (.bool true) ∧ Below w.heap.size w w' := by
  go_enter Try.func3, Try.ntmps3
  go_wp2
  go_ret
  exact ⟨rfl, by go_grown⟩
end Go.Proofs.Ytjnloiilabbhbaa
