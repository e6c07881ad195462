/- Plain facts: the greatest stamp does not depend on the order. -/
import Derived.Test.YtjkhnpdaolkcjaaPlainA2
namespace Go.Proofs.Ytjkhnpdaolkcjaa
set_option linter.unusedVariables false

theorem stMax_all : ∀ (r : List (Int × Int)) (b : Int × Int), stMax b r ∈ b :: r ∧ ∀ t ∈ b :: r, ltB (stMax b r).1 (stMax b r).2 t.1 t.2 = false := by
  intro r
  induction r with
  | nil =>
    intro b
    refine ⟨by simp [stMax], fun t ht => ?_⟩
    obtain rfl : t = b := by simpa using ht
    exact ltB_no.2 (by simp [stMax])
  | cons s r ih =>
    intro b
    rcases h : ltB b.1 b.2 s.1 s.2 with _ | _
    · obtain ⟨i1, i2⟩ := ih b
      have e : stMax b (s :: r) = stMax b r := by simp [stMax, h]
      rw [e]
      refine ⟨?_, fun t ht => ?_⟩
      · rcases List.mem_cons.1 i1 with h1 | h1
        · rw [h1]; simp
        · exact List.mem_cons.2 (.inr (List.mem_cons.2 (.inr h1)))
      · rcases List.mem_cons.1 ht with rfl | ht
        · exact i2 t (by simp)
        · rcases List.mem_cons.1 ht with rfl | ht
          · have j := ltB_no.1 (i2 b (by simp))
            have k := ltB_no.1 h
            exact ltB_no.2 (by omega)
          · exact i2 t (by simp [ht])
    · obtain ⟨i1, i2⟩ := ih s
      have e : stMax b (s :: r) = stMax s r := by simp [stMax, h]
      rw [e]
      refine ⟨List.mem_cons.2 (.inr i1), fun t ht => ?_⟩
      rcases List.mem_cons.1 ht with rfl | ht
      · have j := ltB_no.1 (i2 s (by simp))
        have k := ltB_iff.1 h
        exact ltB_no.2 (by omega)
      · exact i2 t ht
theorem smV_all {ss : List (Int × Int)} (h : 1 ≤ ss.length) : smV ss ∈ ss ∧ ∀ t ∈ ss, ltB (smV ss).1 (smV ss).2 t.1 t.2 = false := by
  cases ss with
  | nil => simp at h
  | cons s r => exact stMax_all r s
theorem smV_eq {ss tt : List (Int × Int)} (h : 1 ≤ ss.length) (hm : ∀ t, t ∈ ss ↔ t ∈ tt) : smV ss = smV tt := by
  have h' : 1 ≤ tt.length := List.length_pos_of_mem ((hm _).1 (smV_all h).1)
  obtain ⟨a1, a2⟩ := smV_all h
  obtain ⟨b1, b2⟩ := smV_all h'
  have c1 := ltB_no.1 (a2 _ ((hm _).2 b1))
  have c2 := ltB_no.1 (b2 _ ((hm _).1 a1))
  apply Prod.ext <;> omega
theorem smOk_iff {ss : List (Int × Int)} : smOk ss = true ↔ (∀ t ∈ ss, okS t = true) ∧ 1 ≤ ss.length ∧ ss.length ≤ 12 := by
  simp only [smOk, Bool.and_eq_true, List.all_eq_true, inB, decide_eq_true_eq]
  constructor
  · rintro ⟨a, b, c⟩; exact ⟨a, by omega, by omega⟩
  · rintro ⟨a, b, c⟩; exact ⟨a, by omega, by omega⟩
theorem sm_rev {ss : List (Int × Int)} (h : smOk ss = true) : smOk ss.reverse = true ∧ smV ss.reverse = smV ss := by
  obtain ⟨a, b, c⟩ := smOk_iff.1 h
  refine ⟨smOk_iff.2 ⟨fun t ht => a t (by simpa using ht), by simpa using b, by simpa using c⟩, ?_⟩
  exact smV_eq (by simpa using b) (fun t => by simp)

/-- Is it among the first k? -/
def seenB (ss : List (Int × Int)) (k : Nat) (s : Int × Int) : Bool := decide (s ∈ ss.take k)
theorem seen_zero (ss : List (Int × Int)) (s : Int × Int) : seenB ss 0 s = false := by simp [seenB]
theorem seen_keep {ss : List (Int × Int)} {k : Nat} {s : Int × Int} (h : seenB ss k s = true) : seenB ss (k + 1) s = true := by
  simp only [seenB, decide_eq_true_eq] at h ⊢
  rw [List.mem_take_iff_getElem] at h ⊢
  obtain ⟨i, hi, e⟩ := h
  exact ⟨i, by omega, e⟩
theorem seen_hit {ss : List (Int × Int)} {k : Nat} {s : Int × Int} (h : ss[k]? = some s) : seenB ss (k + 1) s = true := by
  simp only [seenB, decide_eq_true_eq, take_at h]
  simp
theorem seen_miss {ss : List (Int × Int)} {k : Nat} {s t : Int × Int} (h : ss[k]? = some t) (hn : seenB ss k s = false) (hne : ¬ s = t) : seenB ss (k + 1) s = false := by
  simp only [seenB, decide_eq_false_iff_not, take_at h] at hn ⊢
  simp [hn, hne]
theorem seen_full {ss : List (Int × Int)} {s : Int × Int} (h : s ∈ ss) : seenB ss ss.length s = true := by
  simp [seenB, h]
theorem sl_no {X Y x y : Int} (h : ltB X Y x y = false) : slB X Y x y = false := by simp [slB, h]
end Go.Proofs.Ytjkhnpdaolkcjaa
