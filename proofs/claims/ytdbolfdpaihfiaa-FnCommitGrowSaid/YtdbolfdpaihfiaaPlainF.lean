/- Plain facts on raised copies. -/
import Derived.Test.YtdbolfdpaihfiaaPlainE
namespace Go.Proofs.Ytdbolfdpaihfiaa
set_option linter.unusedVariables false

theorem ci_yes {xs : List Int} (h : ¬ ciB xs < 0) : lvB xs = true := by
  rcases k : lvB xs with _ | _
  · exact absurd (by rw [ci_bad k]; decide) h
  · rfl
theorem cn_ok {xs : List Int} {n : Int} (h : ¬ cnB xs n < 0) : lvB xs = true ∧ inB n 0 99 = true := by
  rcases k : lvB xs with _ | _
  · exact absurd (by rw [cn_bad (.inl k)]; decide) h
  · rcases j : inB n 0 99 with _ | _
    · exact absurd (by rw [cn_bad (.inr j)]; decide) h
    · exact ⟨rfl, rfl⟩

/-- Copies are raised to length n, m of them at most; r are left. -/
def Fill (L : List Int) (n : Int) (m k r : Nat) (X : List Int) : Prop :=
  X.length = L.length ∧ (∀ y ∈ X, 0 ≤ y ∧ y ≤ 99) ∧ havI X n + r = havI L n + m ∧ (0 < r → havI (X.take k) n = k)
theorem fill_start {L : List Int} {n : Int} (m : Nat) (h : lvB L = true) : Fill L n m 0 m L := ⟨rfl, (lvB_iff.1 h).1, rfl, fun _ => by simp [havI]⟩
theorem fill_skip {L X : List Int} {n x : Int} {m k r : Nat} (h : Fill L n m k r X) (hx : X[k]? = some x) (hn : n ≤ x) : Fill L n m (k + 1) r X := by
  obtain ⟨h1, h2, h3, h4⟩ := h
  exact ⟨h1, h2, h3, fun hr => by rw [havI_take hx, h4 hr, if_pos hn]⟩
theorem fill_low {L X : List Int} {n x : Int} {m k r : Nat} (h : Fill L n m k (r + 1) X) (hx : X[k]? = some x) (hn : x < n) (h9 : n ≤ 99) : Fill L n m (k + 1) r (X.set k n) := by
  obtain ⟨h1, h2, h3, h4⟩ := h
  have hb := h2 x (mem_at hx)
  have hs := havI_set n n hx
  rw [if_neg (by omega), if_pos (Int.le_refl n)] at hs
  have hk : k < X.length := (List.getElem?_eq_some_iff.1 hx).1
  refine ⟨by simpa using h1, fun y hy => ?_, by omega, fun hr => ?_⟩
  · rcases List.mem_or_eq_of_mem_set hy with hy | rfl
    · exact h2 y hy
    · omega
  · have e1 : (X.set k n)[k]? = some n := List.getElem?_set_self hk
    have e2 : (X.set k n).take k = X.take k := by
      rw [List.take_set, List.set_eq_of_length_le (by simp; omega)]
    rw [havI_take e1, e2, h4 (by omega), if_pos (Int.le_refl n)]
theorem fill_end {L X : List Int} {n : Int} {m k r : Nat} (hL : lvB L = true) (hn : inB n 0 99 = true) (hm : cnB L n = m) (h : Fill L n m k r X) (he : k = L.length ∨ r = 0) : r = 0 ∧ n ≤ ciB X := by
  obtain ⟨h1, h2, h3, h4⟩ := h
  have hr : r = 0 := by
    rcases he with rfl | he
    · apply Classical.byContradiction
      intro hr
      have e := h4 (by omega)
      rw [← h1, List.take_length] at e
      have := cn_le hL hn
      have := havI_le L n
      omega
    · exact he
  subst hr
  exact ⟨rfl, cn_enough hL hn (lv_of hL h1 h2) h1 (by omega)⟩
end Go.Proofs.Ytdbolfdpaihfiaa
