/- Two stamps compared as values. -/
import Derived.Test.YtiecjkacbpbghaaRows
import Derived.Test.YtiecjkacbpbghaaMem
import Derived.ChangeKeysEq
namespace Go.Proofs.Ytiecjkacbpbghaa
set_option linter.unusedVariables false
open Go.RowKit

theorem run_eql_stamp (a b c d : Int) (w : World) :
    (binOp .eql 46 (.agg #[.int .i64 a, .int .i64 b]) (.agg #[.int .i64 c, .int .i64 d])).run Try.prog w = .ok (.bool (a == c && b == d)) w := by
  have hu : Try.prog.underlying 46 = some (.struct (Try.prog.fieldsOf 46)) := by kernel_rfl
  have hf : (Try.prog.fieldsOf 46).toList.map (fun f => (f.name != "_", f.type, f.offset)) = [(true, 3, 0), (true, 3, 1)] := by kernel_rfl
  have hs : Try.prog.stoodInHeld 46 = false := by kernel_rfl
  have h : ∀ e : Nat, (Op.equalIn (e + 1 + 1) 46 (.agg #[.int .i64 a, .int .i64 b]) (.agg #[.int .i64 c, .int .i64 d])).run Try.prog w = .ok (a == c && b == d) w := fun e => by
    rw [run_equalIn_struct w (e + 1) 46 _ _ hu hs]
    generalize (Try.prog.fieldsOf 46).toList = fs at hf
    obtain ⟨f, g, rfl⟩ : ∃ f g, fs = [f, g] := by
      have hl : fs.length = 2 := by simpa using congrArg List.length hf
      rcases fs with _ | ⟨f, _ | ⟨g, _ | ⟨x, r⟩⟩⟩
      · simp at hl
      · simp at hl
      · exact ⟨f, g, rfl⟩
      · simp at hl
    · simp at hf
      obtain ⟨⟨f0, f1, f2⟩, g0, g1, g2⟩ := hf
      have q : ∀ (u v : Int), (Op.equalIn (e + 1) 3 (.int .i64 u) (.int .i64 v)).run Try.prog w = .ok (u == v) w := fun u v => run_equalIn_int w e 3 .i64 .i64 u v Try.underlying3
      have p0 : ∀ u v : Int, (part 3 #[.int .i64 u, .int .i64 v] 0).run Try.prog w = .ok (.int .i64 u) w := fun u v => run_part_plain w (by kernel_rfl) rfl
      have p1 : ∀ u v : Int, (part 3 #[.int .i64 u, .int .i64 v] 1).run Try.prog w = .ok (.int .i64 v) w := fun u v => run_part_plain w (by kernel_rfl) rfl
      simp only [Op.eqFields, f0, f1, f2, g0, g1, g2, ne_eq, not_false_eq_true, if_true, Sem.run_bind, p0, p1, q, Result.andThen_ok]
      rcases h1 : a == c with _ | _ <;> rcases h2 : b == d with _ | _ <;> simp [p1, q, h1, h2]
  simp only [binOp]
  simp [Op.equal, Op.maxDepth, h 9998]
end Go.Proofs.Ytiecjkacbpbghaa
