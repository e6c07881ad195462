/- Plain facts on commits: no program in sight. -/
import Derived.Test.YtbdboekjcgefhaaPlainA
import Derived.Test.YtbdboekjcgefhaaMem2
namespace Go.Proofs.Ytbdboekjcgefhaa
set_option linter.unusedVariables false

/-- Strictly ascending. -/
def ascP (xs : List Int) : Prop := ∀ i x y, xs[i]? = some x → xs[i + 1]? = some y → x < y
noncomputable def ascB (xs : List Int) : Bool := @decide (ascP xs) (Classical.propDecidable _)
theorem ascB_iff {xs : List Int} : ascB xs = true ↔ ascP xs := @decide_eq_true_iff _ (Classical.propDecidable _)
theorem ascB_no {xs : List Int} : ascB xs = false ↔ ¬ ascP xs := @decide_eq_false_iff_not _ (Classical.propDecidable _)
theorem asc_short {xs : List Int} (h : xs.length ≤ 1) : ascP xs := fun i x y _ h2 => by
  have := (List.getElem?_eq_some_iff.1 h2).1
  omega
theorem asc_take {xs : List Int} {k : Nat} {x y : Int} (h : ascP (xs.take (k + 1))) (hx : xs[k]? = some x) (hy : xs[k + 1]? = some y) (hl : x < y) : ascP (xs.take (k + 1 + 1)) := by
  intro i u v hu hv
  rw [List.getElem?_take] at hu hv
  split at hv
  · rename_i h1
    rw [if_pos (by omega)] at hu
    by_cases e : i = k
    · subst e
      rw [hx] at hu
      rw [hy] at hv
      cases hu
      cases hv
      exact hl
    · exact h i u v (by rw [List.getElem?_take, if_pos (by omega)]; exact hu) (by rw [List.getElem?_take, if_pos (by omega)]; exact hv)
  · cases hv
theorem asc_no {xs : List Int} {k : Nat} {x y : Int} (hx : xs[k]? = some x) (hy : xs[k + 1]? = some y) (hl : y ≤ x) : ¬ ascP xs := fun h => by
  have := h k x y hx hy
  omega
theorem asc_lt {xs : List Int} (h : ascP xs) : ∀ (d i : Nat) (x y : Int), xs[i]? = some x → xs[i + d + 1]? = some y → x + d < y := by
  intro d
  induction d with
  | zero => intro i x y hx hy; have := h i x y hx hy; omega
  | succ d ih =>
    intro i x y hx hy
    have hlt := (List.getElem?_eq_some_iff.1 hy).1
    obtain ⟨z, hz⟩ : ∃ z, xs[i + d + 1]? = some z := ⟨_, List.getElem?_eq_getElem (by omega)⟩
    have h1 := ih i x z hx hz
    have h2 := h (i + d + 1) z y hz (by have : i + (d + 1) + 1 = i + d + 1 + 1 := by omega
                                        rw [← this]; exact hy)
    omega

/-- All from lo to hi. -/
def rgB (xs : List Int) (lo hi : Int) : Bool := xs.all (fun x => inB x lo hi)
theorem rgB_iff {xs : List Int} {lo hi : Int} : rgB xs lo hi = true ↔ ∀ x ∈ xs, lo ≤ x ∧ x ≤ hi := by
  simp [rgB, List.all_eq_true, inB]
theorem rgB_take {xs : List Int} {lo hi x : Int} {k : Nat} (h : rgB (xs.take k) lo hi = true) (hx : xs[k]? = some x) (hv : inB x lo hi = true) : rgB (xs.take (k + 1)) lo hi = true := by
  unfold rgB at h ⊢
  rw [take_at hx, List.all_append, h]
  simp [hv]
theorem rgB_bad {xs : List Int} {lo hi x : Int} {k : Nat} (hx : xs[k]? = some x) (hv : inB x lo hi = false) : rgB xs lo hi = false := by
  rw [Bool.eq_false_iff]
  intro h
  have := rgB_iff.1 h x (mem_at hx)
  rcases inB_false hv with h' | h' <;> omega
theorem rgB_nil (lo hi : Int) : rgB [] lo hi = true := rfl
theorem rgB_full {xs : List Int} {lo hi : Int} {k : Nat} (h : rgB (xs.take k) lo hi = true) (hk : k = xs.length) : rgB xs lo hi = true := by
  subst hk
  rwa [List.take_length] at h
theorem asc_full {xs : List Int} {k : Nat} (h : ascP (xs.take k)) (hk : k = xs.length) : ascP xs := by
  subst hk
  rwa [List.take_length] at h

/-- Valid lengths. -/
def lvB (xs : List Int) : Bool := rgB xs 0 99 && inB xs.length 1 7
theorem lvB_iff {xs : List Int} : lvB xs = true ↔ (∀ x ∈ xs, 0 ≤ x ∧ x ≤ 99) ∧ 1 ≤ xs.length ∧ xs.length ≤ 7 := by
  simp only [lvB, Bool.and_eq_true, rgB_iff, inB, decide_eq_true_eq]
  constructor
  · rintro ⟨h1, h2, h3⟩; exact ⟨h1, by omega, by omega⟩
  · rintro ⟨h1, h2, h3⟩; exact ⟨h1, by omega, by omega⟩

/-- How many have at least n. -/
def havI (xs : List Int) (n : Int) : Nat := xs.countP (fun x => decide (n ≤ x))
theorem havI_le (xs : List Int) (n : Int) : havI xs n ≤ xs.length := List.countP_le_length
theorem havI_anti (xs : List Int) {n m : Int} (h : n ≤ m) : havI xs m ≤ havI xs n := by
  unfold havI
  exact List.countP_mono_left (fun x _ hx => by simp at hx ⊢; omega)
theorem havI_nil (n : Int) : havI [] n = 0 := rfl
theorem havI_cons (x : Int) (xs : List Int) (n : Int) : havI (x :: xs) n = havI xs n + if n ≤ x then 1 else 0 := by
  simp [havI, List.countP_cons]
theorem havI_append (xs ys : List Int) (n : Int) : havI (xs ++ ys) n = havI xs n + havI ys n := by simp [havI]
theorem havI_take {xs : List Int} {k : Nat} {x : Int} (h : xs[k]? = some x) (n : Int) : havI (xs.take (k + 1)) n = havI (xs.take k) n + if n ≤ x then 1 else 0 := by
  rw [take_at h, havI_append, havI_cons, havI_nil, Nat.zero_add]
theorem havI_all {xs : List Int} {n : Int} (h : ∀ x ∈ xs, n ≤ x) : havI xs n = xs.length := by
  unfold havI
  rw [List.countP_eq_length]
  intro x hx
  simpa using h x hx
theorem havI_none {xs : List Int} {n : Int} (h : ∀ x ∈ xs, x < n) : havI xs n = 0 := by
  unfold havI
  rw [List.countP_eq_zero]
  intro x hx
  have := h x hx
  simp
  omega

/-- The commit index: r is that of xs. -/
structure IsCI (xs : List Int) (r : Int) : Prop where
  lo : 0 ≤ r
  hi : r ≤ 99
  yes : xs.length < 2 * havI xs r
  no : r < 99 → 2 * havI xs (r + 1) ≤ xs.length
theorem IsCI.unique {xs : List Int} {r s : Int} (h : IsCI xs r) (k : IsCI xs s) : r = s := by
  rcases Int.lt_trichotomy r s with hlt | he | hlt
  · have h1 := h.no (by have := k.hi; omega)
    have h2 := havI_anti xs (show r + 1 ≤ s by omega)
    have h3 := k.yes
    omega
  · exact he
  · have h1 := k.no (by have := h.hi; omega)
    have h2 := havI_anti xs (show s + 1 ≤ r by omega)
    have h3 := h.yes
    omega
def ciN (xs : List Int) : Nat → Nat
  | 0 => 0
  | n + 1 => if xs.length < 2 * havI xs ((n : Int) + 1) then n + 1 else ciN xs n
theorem ciN_le (xs : List Int) (n : Nat) : ciN xs n ≤ n := by
  induction n with
  | zero => exact Nat.le_refl _
  | succ n ih => unfold ciN; split <;> omega
theorem ciN_yes {xs : List Int} (h0 : xs.length < 2 * havI xs 0) (n : Nat) : xs.length < 2 * havI xs (ciN xs n : Nat) := by
  induction n with
  | zero => simpa [ciN] using h0
  | succ n ih =>
    unfold ciN
    split
    · rename_i h; simpa using h
    · exact ih
theorem ciN_no (xs : List Int) (n : Nat) : ciN xs n < n → 2 * havI xs ((ciN xs n : Nat) + 1) ≤ xs.length := by
  induction n with
  | zero => intro h; omega
  | succ n ih =>
    unfold ciN
    split
    · intro h; omega
    · rename_i h
      intro _
      by_cases e : ciN xs n < n
      · exact ih e
      · have := ciN_le xs n
        have e2 : ciN xs n = n := by omega
        rw [e2]
        omega
def ciB (xs : List Int) : Int := if lvB xs = true then (ciN xs 99 : Nat) else -1
theorem ci_is {xs : List Int} (h : lvB xs = true) : IsCI xs (ciB xs) := by
  obtain ⟨h1, h2, h3⟩ := lvB_iff.1 h
  have h0 : havI xs 0 = xs.length := havI_all (fun x hx => (h1 x hx).1)
  have e : ciB xs = (ciN xs 99 : Nat) := by simp [ciB, h]
  have hl := ciN_le xs 99
  rw [e]
  refine ⟨by omega, by omega, ciN_yes (by omega) 99, fun hlt => ciN_no xs 99 (by omega)⟩
theorem ci_eq {xs : List Int} {r : Int} (h : lvB xs = true) (k : IsCI xs r) : ciB xs = r := (ci_is h).unique k
theorem ci_bad {xs : List Int} (h : lvB xs = false) : ciB xs = -1 := by simp [ciB, h]
/-- A length is committed just where enough have it. -/
theorem ci_le {xs : List Int} (h : lvB xs = true) {n : Int} (hn : n ≤ 99) : n ≤ ciB xs ↔ xs.length < 2 * havI xs n := by
  have hc := ci_is h
  constructor
  · intro hle
    have := havI_anti xs hle
    have := hc.yes
    omega
  · intro hlt
    by_cases e : n ≤ ciB xs
    · exact e
    · have h1 := hc.no (by omega)
      have h2 := havI_anti xs (show ciB xs + 1 ≤ n by omega)
      omega
end Go.Proofs.Ytbdboekjcgefhaa
