/- Plain facts on sorting a few ints: no program in sight. -/
import Derived.Test.YtdbolfdpaihfiaaPlainC
namespace Go.Proofs.Ytdbolfdpaihfiaa
set_option linter.unusedVariables false

/-- The first i are in order; the first i + 1 are, but for what is ahead of j. -/
def SrtP (cs : List Int) (i : Nat) : Prop := ∀ p q x y, p < q → q < i → cs[p]? = some x → cs[q]? = some y → x ≤ y
def InsP (cs : List Int) (i j : Nat) : Prop := ∀ p q x y, p < q → q ≤ i → q ≠ j → cs[p]? = some x → cs[q]? = some y → x ≤ y
theorem srt_ins {cs : List Int} {i : Nat} (h : SrtP cs i) : InsP cs i i := fun p q x y h1 h2 h3 hx hy => h p q x y h1 (by omega) hx hy
theorem srt_one {cs : List Int} : SrtP cs 1 := fun p q x y h1 h2 _ _ => by omega
theorem ins_zero {cs : List Int} {i : Nat} (h : InsP cs i 0) : SrtP cs (i + 1) := fun p q x y h1 h2 hx hy => h p q x y h1 (by omega) (by omega) hx hy
theorem ins_end {cs : List Int} {i j : Nat} {u v : Int} (h : InsP cs i (j + 1)) (hu : cs[j + 1]? = some u) (hv : cs[j]? = some v) (hle : v ≤ u) : SrtP cs (i + 1) := fun p q x y h1 h2 hx hy => by
  by_cases e : q = j + 1
  · subst e
    rw [hu] at hy
    cases hy
    by_cases e2 : p = j
    · subst e2
      rw [hv] at hx
      cases hx
      exact hle
    · have := h p j x v (by omega) (by omega) (by omega) hx hv
      omega
  · exact h p q x y h1 (by omega) e hx hy
/-- Two neighbours change places. -/
def swp (cs : List Int) (j : Nat) (u v : Int) : List Int := (cs.set (j + 1) v).set j u
theorem swp_len (cs : List Int) (j : Nat) (u v : Int) : (swp cs j u v).length = cs.length := by simp [swp]
theorem swp_hi {cs : List Int} {j : Nat} {u v : Int} (hl : j + 1 < cs.length) : (swp cs j u v)[j + 1]? = some v := by
  unfold swp
  rw [List.getElem?_set_ne (by omega), List.getElem?_set_self hl]
theorem swp_lo {cs : List Int} {j : Nat} {u v : Int} (hl : j + 1 < cs.length) : (swp cs j u v)[j]? = some u := by
  unfold swp
  rw [List.getElem?_set_self (by rw [List.length_set]; omega)]
theorem swp_ne {cs : List Int} {j q : Nat} {u v : Int} (h1 : q ≠ j) (h2 : q ≠ j + 1) : (swp cs j u v)[q]? = cs[q]? := by
  unfold swp
  rw [List.getElem?_set_ne (by omega), List.getElem?_set_ne (by omega)]
theorem ins_swap {cs : List Int} {i j : Nat} {u v : Int} (h : InsP cs i (j + 1)) (hl : j + 1 < cs.length) (hu : cs[j + 1]? = some u) (hv : cs[j]? = some v) (hji : j + 1 ≤ i) (hlt : u < v) : InsP (swp cs j u v) i j := fun p q x y h1 h2 h3 hx hy => by
  by_cases e : q = j + 1
  · subst e
    rw [swp_hi hl] at hy
    cases hy
    by_cases e2 : p = j
    · subst e2
      rw [swp_lo hl] at hx
      cases hx
      omega
    · rw [swp_ne e2 (by omega)] at hx
      exact h p j x v (by omega) (by omega) (by omega) hx hv
  · rw [swp_ne h3 e] at hy
    by_cases e2 : p = j
    · subst e2
      rw [swp_lo hl] at hx
      cases hx
      exact h (p + 1) q u y (by omega) h2 e hu hy
    · by_cases e3 : p = j + 1
      · subst e3
        rw [swp_hi hl] at hx
        cases hx
        exact h j q v y (by omega) h2 e hv hy
      · rw [swp_ne e2 e3] at hx
        exact h p q x y h1 h2 e hx hy
theorem havI_set : ∀ {l : List Int} {j : Nat} {a : Int} (v x : Int), l[j]? = some a → havI (l.set j v) x + (if x ≤ a then 1 else 0) = havI l x + if x ≤ v then 1 else 0 := by
  intro l
  induction l with
  | nil => intro j a v x h; simp at h
  | cons b l ih =>
    intro j a v x h
    cases j with
    | zero =>
      simp at h
      subst h
      simp only [List.set_cons_zero, havI_cons]
      omega
    | succ j =>
      simp at h
      have := ih v x h
      simp only [List.set_cons_succ, havI_cons]
      omega
theorem swp_hav {cs : List Int} {j : Nat} {u v : Int} (hu : cs[j + 1]? = some u) (hv : cs[j]? = some v) (x : Int) : havI (swp cs j u v) x = havI cs x := by
  have h1 := havI_set v x hu
  have h2 := havI_set (l := cs.set (j + 1) v) (j := j) (a := v) u x (by rw [List.getElem?_set_ne (by omega)]; exact hv)
  unfold swp
  omega
theorem hav_split (l : List Int) (k : Nat) (x : Int) : havI l x = havI (l.take k) x + havI (l.drop k) x := by
  rw [← havI_append, List.take_append_drop]
/-- In order: how many have x. -/
theorem srt_ge {ss : List Int} {j : Nat} {r x : Int} (h : SrtP ss ss.length) (hj : ss[j]? = some r) (hx : x ≤ r) : ss.length - j ≤ havI ss x := by
  have hl := (List.getElem?_eq_some_iff.1 hj).1
  have : havI (ss.drop j) x = (ss.drop j).length := havI_all fun y hy => by
    obtain ⟨k, hk, rfl⟩ := List.mem_iff_getElem.1 hy
    rw [List.length_drop] at hk
    rw [List.getElem_drop]
    by_cases e : k = 0
    · subst e
      have : ss[j + 0]? = some r := hj
      rw [List.getElem?_eq_getElem (by omega)] at this
      have := Option.some.inj this
      omega
    · have := h j (j + k) r ss[j + k] (by omega) (by omega) hj (List.getElem?_eq_getElem (by omega))
      omega
  have h2 := hav_split ss j x
  rw [List.length_drop] at this
  omega
theorem srt_lt {ss : List Int} {j : Nat} {r x : Int} (h : SrtP ss ss.length) (hj : ss[j]? = some r) (hx : r < x) : havI ss x + j + 1 ≤ ss.length := by
  have hl := (List.getElem?_eq_some_iff.1 hj).1
  have : havI (ss.take (j + 1)) x = 0 := havI_none fun y hy => by
    obtain ⟨k, hk, rfl⟩ := List.mem_iff_getElem.1 hy
    rw [List.length_take] at hk
    rw [List.getElem_take]
    by_cases e : k = j
    · subst e
      rw [List.getElem?_eq_getElem hl] at hj
      have := Option.some.inj hj
      omega
    · have := h k j ss[k] r (by omega) hl (List.getElem?_eq_getElem (by omega)) hj
      omega
  have h2 := hav_split ss (j + 1) x
  have h3 := havI_le (ss.drop (j + 1)) x
  rw [List.length_drop] at h3
  omega
theorem ci_sorted {xs ss : List Int} {r : Int} (h : lvB xs = true) (hl : ss.length = xs.length) (hh : ∀ x, havI ss x = havI xs x) (hs : SrtP ss ss.length) (hx : ss[xs.length - 1 - xs.length / 2]? = some r) : ciB xs = r := by
  obtain ⟨h1, h2, h3⟩ := lvB_iff.1 h
  have hr : r ∈ ss := List.mem_of_getElem? hx
  have hall : ∀ y ∈ ss, 0 ≤ y ∧ y ≤ 99 := fun y hy => by
    have a0 : havI ss 0 = ss.length := by rw [hh, havI_all (fun z hz => (h1 z hz).1), hl]
    have a1 : havI ss 100 = 0 := by rw [hh]; exact havI_none (fun z hz => by have := (h1 z hz).2; omega)
    unfold havI at a0 a1
    rw [List.countP_eq_length] at a0
    rw [List.countP_eq_zero] at a1
    have b0 := a0 y hy
    have b1 := a1 y hy
    simp at b0 b1
    omega
  refine ci_eq h ⟨(hall r hr).1, (hall r hr).2, ?_, fun hlt => ?_⟩
  · have := srt_ge hs hx (Int.le_refl r)
    rw [hh, hl] at this
    omega
  · have := srt_lt hs hx (show r < r + 1 by omega)
    rw [hh, hl] at this
    omega
end Go.Proofs.Ytdbolfdpaihfiaa
