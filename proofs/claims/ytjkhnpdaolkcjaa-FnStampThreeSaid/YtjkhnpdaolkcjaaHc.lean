/- Plain facts: the three ways of two hybrid times, of two stamps. -/
import Derived.Test.YtjkhnpdaolkcjaaPlainA
namespace Go.Proofs.Ytjkhnpdaolkcjaa
set_option linter.unusedVariables false
open Go.RowKit

/-- The three ways of two hybrid times. -/
theorem h_ways (a b c d : Int) : (hvB a b = false ∨ hvB c d = false) ∧ hlB a b c d = false ∧ hlB c d a b = false ∨ (hvB a b = true ∧ hvB c d = true) ∧ ((hlB a b c d = true ∧ hlB c d a b = false ∧ ¬ (a = c ∧ b = d)) ∨ (hlB a b c d = false ∧ hlB c d a b = true ∧ ¬ (a = c ∧ b = d)) ∨ (hlB a b c d = false ∧ hlB c d a b = false ∧ a = c ∧ b = d)) := by
  rcases h1 : hvB a b with _ | _ <;> rcases h2 : hvB c d with _ | _
  case true.true =>
    refine .inr ⟨⟨rfl, rfl⟩, ?_⟩
    simp only [hlB, h1, h2, Bool.true_and]
    by_cases e1 : a < c ∨ (a = c ∧ b < d)
    · exact .inl ⟨ltB_iff.2 e1, ltB_no.2 (by omega), by omega⟩
    · by_cases e2 : c < a ∨ (c = a ∧ d < b)
      · exact .inr (.inl ⟨ltB_no.2 e1, ltB_iff.2 e2, by omega⟩)
      · exact .inr (.inr ⟨ltB_no.2 e1, ltB_no.2 e2, by omega, by omega⟩)
  all_goals exact .inl ⟨by simp, by simp [hlB, h1, h2], by simp [hlB, h1, h2]⟩

/-- The three ways of two stamps. -/
theorem s_ways (a b c d : Int) : (svB a b = false ∨ svB c d = false) ∧ slB a b c d = false ∧ slB c d a b = false ∨ (svB a b = true ∧ svB c d = true) ∧ ((slB a b c d = true ∧ slB c d a b = false ∧ ¬ (a = c ∧ b = d)) ∨ (slB a b c d = false ∧ slB c d a b = true ∧ ¬ (a = c ∧ b = d)) ∨ (slB a b c d = false ∧ slB c d a b = false ∧ a = c ∧ b = d)) := by
  rcases h1 : svB a b with _ | _ <;> rcases h2 : svB c d with _ | _
  case true.true =>
    refine .inr ⟨⟨rfl, rfl⟩, ?_⟩
    simp only [slB, h1, h2, Bool.true_and]
    by_cases e1 : a < c ∨ (a = c ∧ b < d)
    · exact .inl ⟨ltB_iff.2 e1, ltB_no.2 (by omega), by omega⟩
    · by_cases e2 : c < a ∨ (c = a ∧ d < b)
      · exact .inr (.inl ⟨ltB_no.2 e1, ltB_iff.2 e2, by omega⟩)
      · exact .inr (.inr ⟨ltB_no.2 e1, ltB_no.2 e2, by omega, by omega⟩)
  all_goals exact .inl ⟨by simp, by simp [slB, h1, h2], by simp [slB, h1, h2]⟩

end Go.Proofs.Ytjkhnpdaolkcjaa
