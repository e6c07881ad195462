/- Plain facts: the greatest stamp. -/
import Derived.Test.YtjkhnpdaolkcjaaPlainA
import Derived.Test.YtjkhnpdaolkcjaaMem2
namespace Go.Proofs.Ytjkhnpdaolkcjaa
set_option linter.unusedVariables false

def okS (s : Int × Int) : Bool := svB s.1 s.2
/-- The greatest of a list; and whether there is one. -/
def smV : List (Int × Int) → Int × Int
  | [] => (0, 0)
  | s :: r => stMax s r
def smOk (ss : List (Int × Int)) : Bool := ss.all okS && inB ss.length 1 12

theorem step_eq (b s : Int × Int) : (if ltB s.1 s.2 b.1 b.2 then b else s) = (if ltB b.1 b.2 s.1 s.2 then s else b) := by
  rcases h1 : ltB s.1 s.2 b.1 b.2 with _ | _ <;> rcases h2 : ltB b.1 b.2 s.1 s.2 with _ | _
  · have a1 := ltB_no.1 h1
    have a2 := ltB_no.1 h2
    simp
    apply Prod.ext <;> omega
  · simp
  · simp
  · have a1 := ltB_iff.1 h1
    have a2 := ltB_iff.1 h2
    omega
theorem stMax_self (s : Int × Int) (r : List (Int × Int)) : stMax s (s :: r) = stMax s r := by
  have : ltB s.1 s.2 s.1 s.2 = false := ltB_no.2 (by omega)
  simp [stMax, this]
theorem stMax_keep {b s : Int × Int} {r : List (Int × Int)} (h : ltB s.1 s.2 b.1 b.2 = true) : stMax b (s :: r) = stMax b r := by
  have e := step_eq b s
  rw [h] at e
  simp only [if_true] at e
  simp only [stMax, ← e]
theorem stMax_take {b s : Int × Int} {r : List (Int × Int)} (h : ltB s.1 s.2 b.1 b.2 = false) : stMax b (s :: r) = stMax s r := by
  have e := step_eq b s
  rw [h] at e
  simp only [Bool.false_eq_true, if_false] at e
  simp only [stMax, ← e]
theorem all_take {p : Int × Int → Bool} {ss : List (Int × Int)} {k : Nat} {s : Int × Int} (hx : ss[k]? = some s) (h : (ss.take k).all p = true) (hs : p s = true) : (ss.take (k + 1)).all p = true := by
  rw [take_at hx, List.all_append, h]
  simp [hs]
theorem all_no {p : Int × Int → Bool} {ss : List (Int × Int)} {k : Nat} {s : Int × Int} (hx : ss[k]? = some s) (hs : p s = false) : ss.all p = false := by
  rw [Bool.eq_false_iff]
  intro h
  have := List.all_eq_true.1 h s (mem_at hx)
  rw [hs] at this
  cases this
theorem smOk_bad {ss : List (Int × Int)} (h : ss.all okS = false) : smOk ss = false := by simp [smOk, h]
/-- The best of the first k. -/
def BestIs (ss : List (Int × Int)) (k : Nat) (bx by_ : Int) : Prop := ∀ s r, ss = s :: r → stMax s r = stMax (bx, by_) (ss.drop k)
theorem best_zero {ss : List (Int × Int)} {x y : Int} (hx : ss[0]? = some (x, y)) : BestIs ss 0 x y := by
  intro s r e
  subst e
  simp at hx
  subst hx
  rw [List.drop_zero, stMax_self]
theorem best_take {ss : List (Int × Int)} {k : Nat} {bx by_ x y : Int} (h : BestIs ss k bx by_) (hx : ss[k]? = some (x, y)) (hl : ltB x y bx by_ = false) : BestIs ss (k + 1) x y := fun s r e => by
  rw [h s r e, drop_at hx, stMax_take hl]
theorem best_keep {ss : List (Int × Int)} {k : Nat} {bx by_ x y : Int} (h : BestIs ss k bx by_) (hx : ss[k]? = some (x, y)) (hl : ltB x y bx by_ = true) : BestIs ss (k + 1) bx by_ := fun s r e => by
  rw [h s r e, drop_at hx, stMax_keep hl]
theorem best_end {ss : List (Int × Int)} {bx by_ : Int} (h : BestIs ss ss.length bx by_) (hn : 1 ≤ ss.length) : smV ss = (bx, by_) := by
  cases ss with
  | nil => simp at hn
  | cons s r =>
    have := h s r rfl
    rw [List.drop_length] at this
    exact this
theorem smOk_len {ss : List (Int × Int)} (h : ¬ (1 ≤ ss.length ∧ ss.length ≤ 12)) : smOk ss = false := by
  have : inB ss.length 1 12 = false := inB_no (by omega)
  simp [smOk, this]
theorem smOk_yes {ss : List (Int × Int)} (h1 : 1 ≤ ss.length) (h2 : ss.length ≤ 12) (h : ss.all okS = true) : smOk ss = true := by
  have : inB ss.length 1 12 = true := inB_mk (by omega) (by omega)
  simp [smOk, this, h]
end Go.Proofs.Ytjkhnpdaolkcjaa
