/- Contracts: slices of stamps are copied and compared; the greatest stamp by the reference and by the program. -/
import Derived.Test.YtjkhnpdaolkcjaaCd
import Derived.Test.YtjkhnpdaolkcjaaMem3
namespace Go.Proofs.Ytjkhnpdaolkcjaa
set_option linter.unusedVariables false
open Go.RowKit

theorem infoStamp : (Try.prog.info? 31).map (fun i => (i.zero, i.size, i.bytes)) = some (some (.agg #[.int .i64 0, .int .i64 0]), 2, 16) := by kernel_rfl

theorem mkStamps (ss : List (Int × Int)) (hn : ss.length ≤ 1048576) (W : World) :
    (Instr.makeSlice 37 (.int .i64 (ss.length : Int)) (.int .i64 (ss.length : Int))).run Try.prog W = .ok (.slice (some ⟨W.heap.size, 0, none⟩) ss.length ss.length) (W.alloc (.cells (fillP ss 0).toArray 31)) := by
  obtain ⟨i0, hi, hz0, hz1, hz2⟩ := info_parts infoStamp
  have h := run_make (P := Try.prog) W 37 31 i0 _ Try.underlying37 hi hz0 .i64 .i64 ss.length ss.length (by omega) (by omega) (by rw [hz2]; omega) (by omega)
  rw [hz1] at h
  rw [fillP_zero, ← made_pairs]
  simpa [Value.cells] using h

/-- A new slice of stamps. -/
def MadeP (T : TypeId) (ss : List (Int × Int)) (w : World) (e : Ending) (w' : World) : Prop :=
  ∃ g, e = .returned (.slice (some ⟨g, 0, none⟩) ss.length ss.length) ∧ Box w' g T (ss.flatMap pc).toArray ∧ w.heap.size ≤ g ∧ Below w.heap.size w w'

end Go.Proofs.Ytjkhnpdaolkcjaa
