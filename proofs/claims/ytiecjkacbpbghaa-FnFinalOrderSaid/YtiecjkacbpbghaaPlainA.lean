/- Plain facts on stamps and hybrid times: no program in sight. -/
import Derived.Below
namespace Go.Proofs.Ytiecjkacbpbghaa
set_option linter.unusedVariables false

/-- Is n between the two bounds? -/
def inB (n lo hi : Int) : Bool := decide (lo ≤ n ∧ n ≤ hi)
theorem inB_true {n lo hi : Int} (h : inB n lo hi = true) : lo ≤ n ∧ n ≤ hi := of_decide_eq_true h
theorem inB_false {n lo hi : Int} (h : inB n lo hi = false) : n < lo ∨ hi < n := by
  have := of_decide_eq_false h; omega
theorem inB_mk {n lo hi : Int} (h1 : lo ≤ n) (h2 : n ≤ hi) : inB n lo hi = true := decide_eq_true ⟨h1, h2⟩
theorem inB_no {n lo hi : Int} (h : ¬ (lo ≤ n ∧ n ≤ hi)) : inB n lo hi = false := decide_eq_false h

/-- A valid hybrid time. -/
def hvB (w c : Int) : Bool := decide (0 ≤ w ∧ w ≤ 999 ∧ 0 ≤ c ∧ c ≤ 99)
theorem hvB_iff {w c : Int} : hvB w c = true ↔ 0 ≤ w ∧ w ≤ 999 ∧ 0 ≤ c ∧ c ≤ 99 := decide_eq_true_iff
theorem hvB_no {w c : Int} : hvB w c = false ↔ ¬ (0 ≤ w ∧ w ≤ 999 ∧ 0 ≤ c ∧ c ≤ 99) := decide_eq_false_iff_not

/-- A valid stamp. -/
def svB (t g : Int) : Bool := decide (1 ≤ t ∧ t ≤ 999 ∧ 0 ≤ g ∧ g ≤ 4)
theorem svB_iff {t g : Int} : svB t g = true ↔ 1 ≤ t ∧ t ≤ 999 ∧ 0 ≤ g ∧ g ≤ 4 := decide_eq_true_iff
theorem svB_no {t g : Int} : svB t g = false ↔ ¬ (1 ≤ t ∧ t ≤ 999 ∧ 0 ≤ g ∧ g ≤ 4) := decide_eq_false_iff_not

theorem hvB_eq (w c : Int) : hvB w c = (inB w 0 999 && inB c 0 99) := by
  unfold hvB inB; rw [Bool.eq_iff_iff]; simp; omega
theorem svB_eq (t g : Int) : svB t g = (inB t 1 999 && inB g 0 4) := by
  unfold svB inB; rw [Bool.eq_iff_iff]; simp; omega

/-- Less: first by the first number, then by the second. -/
def ltB (a b c d : Int) : Bool := decide (a < c ∨ (a = c ∧ b < d))
theorem ltB_iff {a b c d : Int} : ltB a b c d = true ↔ a < c ∨ (a = c ∧ b < d) := decide_eq_true_iff
theorem ltB_no {a b c d : Int} : ltB a b c d = false ↔ ¬ (a < c ∨ (a = c ∧ b < d)) := decide_eq_false_iff_not

/-- HybridLess, StampLess. -/
def hlB (a b c d : Int) : Bool := hvB a b && hvB c d && ltB a b c d
def slB (a b c d : Int) : Bool := svB a b && svB c d && ltB a b c d

/-- x where b holds, else 0. -/
def pw (b : Bool) (x : Int) : Int := if b then x else 0
theorem pw_true {b : Bool} {x : Int} (h : b = true) : pw b x = x := by simp [pw, h]
theorem pw_false {b : Bool} {x : Int} (h : b = false) : pw b x = 0 := by simp [pw, h]

/-- The next hybrid time. -/
def tx (a p : Int) : Int := if a < p then p else a
def ty (a c p : Int) : Int := if a < p then 0 else c + 1
def tickOk (a c p : Int) : Bool := hvB a c && inB p 0 999 && hvB (tx a p) (ty a c p)

/-- The hybrid time of a receipt. -/
def gmax (a b : Int) : Int := if a < b then b else a
theorem gmax_lt {a b : Int} (h : a < b) : gmax a b = b := if_pos h
theorem gmax_ge {a b : Int} (h : b ≤ a) : gmax a b = a := if_neg (by omega)
def mx (a p a' : Int) : Int := gmax (gmax a a') p
def my (a c p a' c' : Int) : Int := gmax (if a = mx a p a' then c + 1 else 0) (if a' = mx a p a' then c' + 1 else 0)
def mergeOk (a c p a' c' : Int) : Bool := hvB a c && hvB a' c' && inB p 0 999 && hvB (mx a p a') (my a c p a' c')
theorem mxy1 {a c p a' c' : Int} (h4 : a < a') (h5 : a' < p) : mx a p a' = p ∧ my a c p a' c' = 0 := by
  have e : mx a p a' = p := by unfold mx; rw [gmax_lt h4, gmax_lt h5]
  refine ⟨e, ?_⟩
  unfold my; rw [e, if_neg (by omega), if_neg (by omega)]; rw [gmax_ge (by omega)]
theorem mxy2 {a c p a' c' : Int} (h4 : a < a') (h5 : p ≤ a') (h8 : 0 ≤ c') : mx a p a' = a' ∧ my a c p a' c' = c' + 1 := by
  have e : mx a p a' = a' := by unfold mx; rw [gmax_lt h4, gmax_ge h5]
  refine ⟨e, ?_⟩
  unfold my; rw [e, if_neg (by omega), if_pos rfl]; rw [gmax_lt (by omega)]
theorem mxy3 {a c p a' c' : Int} (h4 : a' ≤ a) (h5 : a < p) : mx a p a' = p ∧ my a c p a' c' = 0 := by
  have e : mx a p a' = p := by unfold mx; rw [gmax_ge h4, gmax_lt h5]
  refine ⟨e, ?_⟩
  unfold my; rw [e, if_neg (by omega), if_neg (by omega)]; rw [gmax_ge (by omega)]
theorem mxy4 {a c p a' c' : Int} (h4 : a' < a) (h5 : p ≤ a) (h8 : 0 ≤ c) : mx a p a' = a ∧ my a c p a' c' = c + 1 := by
  have e : mx a p a' = a := by unfold mx; rw [gmax_ge (Int.le_of_lt h4), gmax_ge h5]
  refine ⟨e, ?_⟩
  unfold my; rw [e, if_pos rfl, if_neg (by omega)]; rw [gmax_ge (by omega)]
theorem mxy5 {a c p c' : Int} (h5 : p ≤ a) (h6 : c < c') : mx a p a = a ∧ my a c p a c' = c' + 1 := by
  have e : mx a p a = a := by unfold mx; rw [gmax_ge (Int.le_refl _), gmax_ge h5]
  refine ⟨e, ?_⟩
  unfold my; rw [e, if_pos rfl, if_pos rfl]; rw [gmax_lt (by omega)]
theorem mxy6 {a c p c' : Int} (h5 : p ≤ a) (h6 : c' ≤ c) : mx a p a = a ∧ my a c p a c' = c + 1 := by
  have e : mx a p a = a := by unfold mx; rw [gmax_ge (Int.le_refl _), gmax_ge h5]
  refine ⟨e, ?_⟩
  unfold my; rw [e, if_pos rfl, if_pos rfl]; rw [gmax_ge (by omega)]

/-- Equal pairs. -/
def eqB (a b c d : Int) : Bool := decide (a = c ∧ b = d)
theorem eqB_refl (a b : Int) : eqB a b a b = true := decide_eq_true ⟨rfl, rfl⟩
theorem eqB_iff {a b c d : Int} : eqB a b c d = true ↔ a = c ∧ b = d := decide_eq_true_iff

/-- The greatest of some stamps, the first one being b. -/
def stMax : Int × Int → List (Int × Int) → Int × Int
  | b, [] => b
  | b, s :: r => stMax (if ltB b.1 b.2 s.1 s.2 then s else b) r

theorem ret_bool {a b : Bool} (h : a = b) : Ending.returned (.bool a) = Ending.returned (.bool b) := by rw [h]
theorem ret_int {a b : Int} (h : a = b) : Ending.returned (.int .i64 a) = Ending.returned (.int .i64 b) := by rw [h]
end Go.Proofs.Ytiecjkacbpbghaa
