/- Plain facts on stamps and hybrid times: no program in sight. -/
import Derived.Below
namespace Go.Proofs.Ytjnloiilabbhbaa

/-- Is n between the two bounds? -/
def inB (n lo hi : Int) : Bool := decide (lo ≤ n ∧ n ≤ hi)
theorem inB_true {n lo hi : Int} (h : inB n lo hi = true) : lo ≤ n ∧ n ≤ hi := of_decide_eq_true h
theorem inB_false {n lo hi : Int} (h : inB n lo hi = false) : n < lo ∨ hi < n := by
  have := of_decide_eq_false h; omega
theorem inB_mk {n lo hi : Int} (h1 : lo ≤ n) (h2 : n ≤ hi) : inB n lo hi = true := decide_eq_true ⟨h1, h2⟩
theorem inB_no {n lo hi : Int} (h : ¬ (lo ≤ n ∧ n ≤ hi)) : inB n lo hi = false := decide_eq_false h

/-- A valid hybrid time. -/
def hvB (w c : Int) : Bool := decide (0 ≤ w ∧ w ≤ 999 ∧ 0 ≤ c ∧ c ≤ 99)
theorem hvB_iff {w c : Int} : hvB w c = true ↔ 0 ≤ w ∧ w ≤ 999 ∧ 0 ≤ c ∧ c ≤ 99 := decide_eq_true_iff
theorem hvB_no {w c : Int} : hvB w c = false ↔ ¬ (0 ≤ w ∧ w ≤ 999 ∧ 0 ≤ c ∧ c ≤ 99) := decide_eq_false_iff_not

/-- A valid stamp. -/
def svB (t g : Int) : Bool := decide (1 ≤ t ∧ t ≤ 999 ∧ 0 ≤ g ∧ g ≤ 4)
theorem svB_iff {t g : Int} : svB t g = true ↔ 1 ≤ t ∧ t ≤ 999 ∧ 0 ≤ g ∧ g ≤ 4 := decide_eq_true_iff
theorem svB_no {t g : Int} : svB t g = false ↔ ¬ (1 ≤ t ∧ t ≤ 999 ∧ 0 ≤ g ∧ g ≤ 4) := decide_eq_false_iff_not

theorem hvB_eq (w c : Int) : hvB w c = (inB w 0 999 && inB c 0 99) := by
  unfold hvB inB; rw [Bool.eq_iff_iff]; simp; omega
theorem svB_eq (t g : Int) : svB t g = (inB t 1 999 && inB g 0 4) := by
  unfold svB inB; rw [Bool.eq_iff_iff]; simp; omega

/-- Less: first by the first number, then by the second. -/
def ltB (a b c d : Int) : Bool := decide (a < c ∨ (a = c ∧ b < d))
theorem ltB_iff {a b c d : Int} : ltB a b c d = true ↔ a < c ∨ (a = c ∧ b < d) := decide_eq_true_iff
theorem ltB_no {a b c d : Int} : ltB a b c d = false ↔ ¬ (a < c ∨ (a = c ∧ b < d)) := decide_eq_false_iff_not

/-- HybridLess, StampLess. -/
def hlB (a b c d : Int) : Bool := hvB a b && hvB c d && ltB a b c d
def slB (a b c d : Int) : Bool := svB a b && svB c d && ltB a b c d

/-- The next hybrid time, where it is valid. -/
def tickOk (w c p : Int) : Bool := hvB w c && inB p 0 999 && (decide (w < p) || decide (c < 99))
def tickW (w c p : Int) : Int := if tickOk w c p then (if w < p then p else w) else 0
def tickC (w c p : Int) : Int := if tickOk w c p then (if w < p then 0 else c + 1) else 0
theorem ret_bool {a b : Bool} (h : a = b) : Ending.returned (.bool a) = Ending.returned (.bool b) := by rw [h]
theorem ret_int {a b : Int} (h : a = b) : Ending.returned (.int .i64 a) = Ending.returned (.int .i64 b) := by rw [h]
end Go.Proofs.Ytjnloiilabbhbaa
