/- Plain facts: the laws of hybrid times. -/
import Derived.Test.YtfemlfmkomkkbaaPlainA
namespace Go.Proofs.Ytfemlfmkomkkbaa
set_option linter.unusedVariables false

theorem gmax_comm (a b : Int) : gmax a b = gmax b a := by
  unfold gmax; split <;> split <;> omega
theorem gmax_le (a b : Int) : a ≤ gmax a b ∧ b ≤ gmax a b := by
  unfold gmax; split <;> omega
theorem tick_bounds {a c p : Int} (h : tickOk a c p = true) : 0 ≤ a ∧ a ≤ 999 ∧ 0 ≤ c ∧ c ≤ 99 ∧ 0 ≤ p ∧ p ≤ 999 ∧ hvB (tx a p) (ty a c p) = true := by
  simp only [tickOk, Bool.and_eq_true] at h
  obtain ⟨⟨h1, h2⟩, h3⟩ := h
  obtain ⟨a1, a2, a3, a4⟩ := hvB_iff.1 h1
  obtain ⟨b1, b2⟩ := inB_true h2
  exact ⟨a1, a2, a3, a4, b1, b2, h3⟩
theorem tick_less {a c p : Int} (h : tickOk a c p = true) : hlB a c (tx a p) (ty a c p) = true := by
  obtain ⟨a1, a2, a3, a4, b1, b2, h3⟩ := tick_bounds h
  have h1 : hvB a c = true := hvB_iff.2 ⟨a1, a2, a3, a4⟩
  have h4 : ltB a c (tx a p) (ty a c p) = true := ltB_iff.2 (by unfold tx ty; split <;> omega)
  simp [hlB, h1, h3, h4]
theorem less_irrefl (a c : Int) : hlB a c a c = false := by
  have : ltB a c a c = false := ltB_no.2 (by omega)
  simp [hlB, this]

theorem mx_comm (a p a' : Int) : mx a p a' = mx a' p a := by unfold mx; rw [gmax_comm a a']
theorem my_comm (a c p a' c' : Int) : my a c p a' c' = my a' c' p a c := by
  unfold my
  rw [gmax_comm, mx_comm a p a']
theorem mergeOk_comm (a c p a' c' : Int) : mergeOk a c p a' c' = mergeOk a' c' p a c := by
  unfold mergeOk
  rw [mx_comm a p a', my_comm a c p a' c', Bool.and_comm (hvB a c)]
theorem merge_bounds {a c p a' c' : Int} (h : mergeOk a c p a' c' = true) : hvB a c = true ∧ hvB a' c' = true ∧ hvB (mx a p a') (my a c p a' c') = true := by
  simp only [mergeOk, Bool.and_eq_true] at h
  exact ⟨h.1.1.1, h.1.1.2, h.2⟩
theorem merge_less {a c p a' c' : Int} (h : mergeOk a c p a' c' = true) : hlB a c (mx a p a') (my a c p a' c') = true := by
  obtain ⟨h1, h2, h3⟩ := merge_bounds h
  have g1 := gmax_le a a'
  have g2 := gmax_le (gmax a a') p
  have h4 : ltB a c (mx a p a') (my a c p a' c') = true := ltB_iff.2 (by
    by_cases e : a = mx a p a'
    · refine .inr ⟨e, ?_⟩
      have g3 := gmax_le (if a = mx a p a' then c + 1 else 0) (if a' = mx a p a' then c' + 1 else 0)
      rw [if_pos e] at g3
      unfold my
      rw [if_pos e]
      omega
    · left
      have : a ≤ mx a p a' := by unfold mx; omega
      omega)
  simp [hlB, h1, h3, h4]
theorem merge_less' {a c p a' c' : Int} (h : mergeOk a c p a' c' = true) : hlB a' c' (mx a p a') (my a c p a' c') = true := by
  rw [mergeOk_comm] at h
  have := merge_less h
  rwa [← mx_comm, ← my_comm] at this
end Go.Proofs.Ytfemlfmkomkkbaa
