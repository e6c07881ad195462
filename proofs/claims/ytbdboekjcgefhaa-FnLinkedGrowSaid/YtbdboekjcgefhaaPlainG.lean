/- Plain facts on sets of groups: no program in sight. -/
import Derived.Test.YtbdboekjcgefhaaPlainC
namespace Go.Proofs.Ytbdboekjcgefhaa
set_option linter.unusedVariables false

/-- A set of groups. -/
noncomputable def gvB (xs : List Int) : Bool := decide (0 < xs.length) && (ascB xs && rgB xs 0 4)
theorem gvB_iff {xs : List Int} : gvB xs = true ↔ 0 < xs.length ∧ ascP xs ∧ ∀ x ∈ xs, 0 ≤ x ∧ x ≤ 4 := by
  simp only [gvB, Bool.and_eq_true, decide_eq_true_eq, ascB_iff, rgB_iff]
theorem asc_pair {xs : List Int} (h : ascP xs) : xs.Pairwise (· < ·) := by
  rw [List.pairwise_iff_getElem]
  intro i j hi hj hlt
  have := asc_lt h (j - i - 1) i xs[i] xs[j] (List.getElem?_eq_getElem hi) (by
    have e : i + (j - i - 1) + 1 = j := by omega
    rw [e]
    exact List.getElem?_eq_getElem hj)
  omega
theorem pair_asc {xs : List Int} (h : xs.Pairwise (· < ·)) : ascP xs := by
  intro i x y hx hy
  obtain ⟨h1, rfl⟩ := List.getElem?_eq_some_iff.1 hx
  obtain ⟨h2, rfl⟩ := List.getElem?_eq_some_iff.1 hy
  exact (List.pairwise_iff_getElem.1 h) i (i + 1) h1 h2 (by omega)
/-- Two ascending lists with the same elements are the same. -/
theorem pair_ext : ∀ {xs ys : List Int}, xs.Pairwise (· < ·) → ys.Pairwise (· < ·) → (∀ z, z ∈ xs ↔ z ∈ ys) → xs = ys := by
  intro xs
  induction xs with
  | nil =>
    intro ys _ _ h
    cases ys with
    | nil => rfl
    | cons y ys => exact absurd ((h y).2 (by simp)) (by simp)
  | cons x xs ih =>
    intro ys hx hy h
    cases ys with
    | nil => exact absurd ((h x).1 (by simp)) (by simp)
    | cons y ys =>
      rw [List.pairwise_cons] at hx hy
      have h1 := (h x).1 (by simp)
      have h2 := (h y).2 (by simp)
      have e : x = y := by
        rcases List.mem_cons.1 h1 with e | e
        · exact e
        · rcases List.mem_cons.1 h2 with e' | e'
          · exact e'.symm
          · have a := hy.1 x e
            have b := hx.1 y e'
            omega
      subst e
      congr 1
      refine ih hx.2 hy.2 fun z => ?_
      have hz := h z
      simp only [List.mem_cons] at hz
      constructor
      · intro m
        have := hx.1 z m
        rcases hz.1 (.inr m) with e | e
        · omega
        · exact e
      · intro m
        have := hy.1 z m
        rcases hz.2 (.inr m) with e | e
        · omega
        · exact e

/-- The groups that are accepted. -/
def pickL (p : Int → Bool) : List Int := ([0, 1, 2, 3, 4] : List Int).filter p
theorem pickL_mem {p : Int → Bool} {g : Int} : g ∈ pickL p ↔ (0 ≤ g ∧ g ≤ 4) ∧ p g = true := by
  simp only [pickL, List.mem_filter, List.mem_cons, List.not_mem_nil, or_false]
  constructor
  · rintro ⟨h1, h2⟩; exact ⟨by omega, h2⟩
  · rintro ⟨h1, h2⟩; exact ⟨by omega, h2⟩
theorem pickL_pair (p : Int → Bool) : (pickL p).Pairwise (· < ·) := by
  unfold pickL
  exact List.Pairwise.filter _ (by decide)
theorem pickL_le (p : Int → Bool) : (pickL p).length ≤ 5 := by
  unfold pickL
  exact List.length_filter_le _ _
def hasB (xs : List Int) (g : Int) : Bool := decide (g ∈ xs)
theorem hasB_iff {xs : List Int} {g : Int} : hasB xs g = true ↔ g ∈ xs := decide_eq_true_iff
theorem hasB_no {xs : List Int} {g : Int} : hasB xs g = false ↔ ¬ g ∈ xs := decide_eq_false_iff_not
theorem gv_pick {xs : List Int} (h : gvB xs = true) : xs = pickL (hasB xs) := by
  obtain ⟨h1, h2, h3⟩ := gvB_iff.1 h
  refine pair_ext (asc_pair h2) (pickL_pair _) fun z => ?_
  rw [pickL_mem, hasB_iff]
  constructor
  · intro m; exact ⟨h3 z m, m⟩
  · intro m; exact m.2
theorem gv_le {xs : List Int} (h : gvB xs = true) : xs.length ≤ 5 := by
  rw [gv_pick h]; exact pickL_le _
theorem pick_gv {p : Int → Bool} (h : 0 < (pickL p).length) : gvB (pickL p) = true :=
  gvB_iff.2 ⟨h, pair_asc (pickL_pair p), fun x hx => (pickL_mem.1 hx).1⟩
theorem pick_congr {p q : Int → Bool} (h : ∀ g, 0 ≤ g → g ≤ 4 → p g = q g) : pickL p = pickL q := by
  refine pair_ext (pickL_pair p) (pickL_pair q) fun z => ?_
  rw [pickL_mem, pickL_mem]
  constructor
  · rintro ⟨a, b⟩; exact ⟨a, by rw [← h z a.1 a.2]; exact b⟩
  · rintro ⟨a, b⟩; exact ⟨a, by rw [h z a.1 a.2]; exact b⟩
theorem pick_has (p : Int → Bool) {g : Int} (h0 : 0 ≤ g) (h4 : g ≤ 4) : hasB (pickL p) g = p g := by
  rw [Bool.eq_iff_iff, hasB_iff, pickL_mem]
  exact ⟨fun h => h.2, fun h => ⟨⟨h0, h4⟩, h⟩⟩
theorem pick_count (p q : Int → Bool) : (pickL (fun g => p g || q g)).length + (pickL (fun g => p g && q g)).length = (pickL p).length + (pickL q).length := by
  unfold pickL
  generalize ([0, 1, 2, 3, 4] : List Int) = l
  induction l with
  | nil => rfl
  | cons a l ih =>
    rcases hp : p a <;> rcases hq : q a <;> simp [hp, hq] <;> omega
theorem pick_mono {p q : Int → Bool} (h : ∀ g, 0 ≤ g → g ≤ 4 → p g = true → q g = true) : (pickL p).length ≤ (pickL q).length := by
  have e : pickL p = pickL (fun g => p g && q g) := pick_congr fun g a b => by
    rcases hp : p g with _ | _
    · rfl
    · rw [h g a b hp]; rfl
  have e2 : pickL (fun g => p g && q g) = (pickL q).filter p := by
    unfold pickL
    rw [List.filter_filter]
  rw [e, e2]
  exact List.length_filter_le _ _

/-- Common groups; the groups of both. -/
noncomputable def comL (a b : List Int) : List Int := if (gvB a && gvB b) = true then pickL (fun g => hasB a g && hasB b g) else []
noncomputable def uniL (a b : List Int) : List Int := if (gvB a && gvB b) = true then pickL (fun g => hasB a g || hasB b g) else []
theorem com_yes {a b : List Int} (h : gvB a = true) (k : gvB b = true) : comL a b = pickL (fun g => hasB a g && hasB b g) := by simp [comL, h, k]
theorem uni_yes {a b : List Int} (h : gvB a = true) (k : gvB b = true) : uniL a b = pickL (fun g => hasB a g || hasB b g) := by simp [uniL, h, k]
theorem com_no {a b : List Int} (h : (gvB a && gvB b) = false) : comL a b = [] := by simp [comL, h]
theorem uni_no {a b : List Int} (h : (gvB a && gvB b) = false) : uniL a b = [] := by simp [uniL, h]
/-- The reference's way to the common groups. -/
theorem com_filter {a b : List Int} (h : gvB a = true) : a.filter (hasB b) = pickL (fun g => hasB a g && hasB b g) := by
  refine pair_ext (List.Pairwise.filter _ (asc_pair (gvB_iff.1 h).2.1)) (pickL_pair _) fun z => ?_
  simp only [List.mem_filter, pickL_mem, Bool.and_eq_true, hasB_iff]
  constructor
  · rintro ⟨m, k⟩; exact ⟨(gvB_iff.1 h).2.2 z m, m, k⟩
  · rintro ⟨_, m, k⟩; exact ⟨m, k⟩
theorem uni_len {a b : List Int} (h : gvB a = true) (k : gvB b = true) : (uniL a b).length + (comL a b).length = a.length + b.length := by
  rw [uni_yes h k, com_yes h k, pick_count, ← gv_pick h, ← gv_pick k]
theorem uni_mem {a b : List Int} (h : gvB a = true) (k : gvB b = true) {g : Int} : g ∈ uniL a b ↔ g ∈ a ∨ g ∈ b := by
  rw [uni_yes h k, pickL_mem, Bool.or_eq_true, hasB_iff, hasB_iff]
  constructor
  · exact fun m => m.2
  · rintro (m | m)
    · exact ⟨(gvB_iff.1 h).2.2 g m, .inl m⟩
    · exact ⟨(gvB_iff.1 k).2.2 g m, .inr m⟩
theorem com_mem {a b : List Int} (h : gvB a = true) (k : gvB b = true) {g : Int} : g ∈ comL a b ↔ g ∈ a ∧ g ∈ b := by
  rw [com_yes h k, pickL_mem, Bool.and_eq_true, hasB_iff, hasB_iff]
  constructor
  · exact fun m => m.2
  · rintro ⟨m, m'⟩; exact ⟨(gvB_iff.1 h).2.2 g m, m, m'⟩
theorem uni_gv {a b : List Int} (h : gvB a = true) (k : gvB b = true) : gvB (uniL a b) = true := by
  have hu := uni_yes h k
  rw [hu]
  refine pick_gv ?_
  rw [← hu]
  obtain ⟨h1, _, _⟩ := gvB_iff.1 h
  obtain ⟨x, hx⟩ : ∃ x, x ∈ a := ⟨a[0], List.getElem_mem h1⟩
  exact List.length_pos_of_mem ((uni_mem h k).2 (.inl hx))
theorem com_gv {a b : List Int} (h : 0 < (comL a b).length) : gvB (comL a b) = true := by
  unfold comL at h ⊢
  split at h
  · rename_i hc; rw [if_pos hc]; exact pick_gv h
  · simp at h
theorem com_comm (a b : List Int) : comL a b = comL b a := by
  unfold comL
  rw [Bool.and_comm]
  congr 1
  exact pick_congr fun g _ _ => Bool.and_comm _ _
end Go.Proofs.Ytbdboekjcgefhaa
