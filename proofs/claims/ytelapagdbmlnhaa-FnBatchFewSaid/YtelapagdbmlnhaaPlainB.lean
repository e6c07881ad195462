/- Plain facts on batches: no program in sight. -/
import Derived.Test.YtelapagdbmlnhaaPlainA
import Derived.Test.YtelapagdbmlnhaaMem2
namespace Go.Proofs.Ytelapagdbmlnhaa
set_option linter.unusedVariables false

/-- Valid items and limits. -/
def bvB (xs : List Int) (b m : Int) : Bool := xs.all (fun x => inB x 1 b) && (decide (xs.length ≤ 20) && inB b 1 99 && inB m 1 20)
theorem bvB_iff {xs : List Int} {b m : Int} : bvB xs b m = true ↔ (∀ x ∈ xs, 1 ≤ x ∧ x ≤ b) ∧ xs.length ≤ 20 ∧ 1 ≤ b ∧ b ≤ 99 ∧ 1 ≤ m ∧ m ≤ 20 := by
  simp only [bvB, Bool.and_eq_true, List.all_eq_true, decide_eq_true_eq, inB]
  constructor
  · rintro ⟨h1, ⟨h2, h3, h4⟩, h5, h6⟩
    exact ⟨h1, h2, h3, h4, h5, h6⟩
  · rintro ⟨h1, h2, h3, h4, h5, h6⟩
    exact ⟨h1, ⟨h2, h3, h4⟩, h5, h6⟩
theorem bvB_bad {xs : List Int} {b m x : Int} (hx : x ∈ xs) (h : inB x 1 b = false) : bvB xs b m = false := by
  have : xs.all (fun x => inB x 1 b) = false := by
    rw [Bool.eq_false_iff]
    intro h'
    have := List.all_eq_true.1 h' x hx
    rw [h] at this
    cases this
  simp [bvB, this]

/-- The batches of the rest, where c items of size s are in the last. -/
def cutG (b m : Int) : Int → Int → List Int → List Int
  | c, _, [] => if 0 < c then [c] else []
  | c, s, x :: r => if c = m ∨ b < s + x then c :: cutG b m 1 x r else cutG b m (c + 1) (s + x) r
def cutB (xs : List Int) (b m : Int) : List Int := if bvB xs b m = true then cutG b m 0 0 xs else []
theorem cutG_yes {b m c s x : Int} {r : List Int} (h : c = m ∨ b < s + x) : cutG b m c s (x :: r) = c :: cutG b m 1 x r := by simp [cutG, h]
theorem cutG_no {b m c s x : Int} {r : List Int} (h : ¬ (c = m ∨ b < s + x)) : cutG b m c s (x :: r) = cutG b m (c + 1) (s + x) r := by simp [cutG, h]

def sumI : List Int → Int
  | [] => 0
  | x :: r => x + sumI r
theorem sumI_append (p q : List Int) : sumI (p ++ q) = sumI p + sumI q := by
  induction p with
  | nil => simp [sumI]
  | cons x p ih => simp [sumI, ih]; omega
theorem sumI_nonneg {p : List Int} (h : ∀ x ∈ p, 1 ≤ x) : (p.length : Int) ≤ sumI p := by
  induction p with
  | nil => simp [sumI]
  | cons x p ih =>
    have h1 := h x (by simp)
    have h2 := ih (fun y hy => h y (by simp [hy]))
    simp [sumI]; omega

/-- The batches fit the items ys. -/
def fitG (b m : Int) : List Int → List Int → Bool
  | ys, [] => ys.isEmpty
  | ys, n :: r => decide (1 ≤ n ∧ n ≤ m ∧ n ≤ ys.length) && (decide (sumI (ys.take n.toNat) ≤ b) && fitG b m (ys.drop n.toNat) r)
def fitB' (xs : List Int) (b m : Int) (cut : List Int) : Bool := bvB xs b m && fitG b m xs cut

theorem fit_cons {b m : Int} {pre ys r : List Int} (h1 : 1 ≤ pre.length) (h2 : (pre.length : Int) ≤ m) (h3 : sumI pre ≤ b) (h : fitG b m ys r = true) : fitG b m (pre ++ ys) ((pre.length : Int) :: r) = true := by
  have e1 : ((pre.length : Int)).toNat = pre.length := by omega
  simp only [fitG, e1, List.take_left, List.drop_left, h, Bool.and_true, Bool.and_eq_true, decide_eq_true_eq, List.length_append]
  exact ⟨⟨by omega, h2, by omega⟩, h3⟩

theorem fitG_bad {b m n : Int} {ys r : List Int} (h : ¬ (1 ≤ n ∧ n ≤ m ∧ n ≤ ys.length)) : fitG b m ys (n :: r) = false := by simp only [fitG, decide_eq_false h, Bool.false_and]
theorem fitG_over {b m n : Int} {ys r : List Int} (h : b < sumI (ys.take n.toNat)) : fitG b m ys (n :: r) = false := by
  have : decide (sumI (ys.take n.toNat) ≤ b) = false := decide_eq_false (by omega)
  simp only [fitG, this, Bool.false_and, Bool.and_false]
theorem fitG_next {b m n : Int} {ys r : List Int} (h : 1 ≤ n ∧ n ≤ m ∧ n ≤ ys.length) (h2 : ¬ b < sumI (ys.take n.toNat)) : fitG b m ys (n :: r) = fitG b m (ys.drop n.toNat) r := by
  have : decide (sumI (ys.take n.toNat) ≤ b) = true := decide_eq_true (by omega)
  simp only [fitG, this, decide_eq_true h, Bool.true_and]
theorem sum_at {xs : List Int} {a j : Nat} {x : Int} (h : xs[a + j]? = some x) : sumI ((xs.drop a).take (j + 1)) = sumI ((xs.drop a).take j) + x := by
  rw [take_at (x := x) (by rw [List.getElem?_drop]; exact h), sumI_append]
  simp [sumI]

/-- What is cut fits. -/
theorem cut_fits {b m : Int} (hb : 1 ≤ b) (hm : 1 ≤ m) : ∀ (ys pre : List Int), (∀ x ∈ ys, 1 ≤ x ∧ x ≤ b) → (pre.length : Int) ≤ m → sumI pre ≤ b → fitG b m (pre ++ ys) (cutG b m pre.length (sumI pre) ys) = true := by
  intro ys
  induction ys with
  | nil =>
    intro pre _ h1 h2
    cases pre with
    | nil => simp [cutG, fitG]
    | cons p r =>
      have : (0 : Int) < ((p :: r).length : Int) := by simp
      simp only [cutG, if_pos this]
      exact fit_cons (by simp) h1 h2 (by simp [fitG])
  | cons x r ih =>
    intro pre hy h1 h2
    have hx := hy x (by simp)
    have hr : ∀ y ∈ r, 1 ≤ y ∧ y ≤ b := fun y h => hy y (by simp [h])
    by_cases h : (pre.length : Int) = m ∨ b < sumI pre + x
    · rw [cutG_yes h]
      have hp : 1 ≤ pre.length := by
        rcases Nat.eq_zero_or_pos pre.length with h0 | h0
        · have : pre = [] := List.eq_nil_of_length_eq_zero h0
          subst this
          simp [sumI] at h
          omega
        · exact h0
      refine fit_cons hp h1 h2 ?_
      have := ih [x] hr (by simp; omega) (by simp [sumI]; omega)
      simpa [sumI] using this
    · rw [cutG_no h]
      have := ih (pre ++ [x]) hr (by simp; omega) (by rw [sumI_append]; simp [sumI]; omega)
      rw [sumI_append] at this
      simpa [sumI] using this
theorem cutB_fits {xs : List Int} {b m : Int} (h : bvB xs b m = true) : fitB' xs b m (cutB xs b m) = true := by
  obtain ⟨h1, h2, h3, h4, h5, h6⟩ := bvB_iff.1 h
  have := cut_fits h3 h5 xs [] h1 (by simp; omega) (by simp [sumI]; omega)
  simp only [fitB', cutB, h, if_true, Bool.true_and]
  simpa [sumI] using this

/-- Fewer and smaller: no more batches, and at most one fewer. -/
theorem cut_mono {b m : Int} : ∀ (ys : List Int) (c s c' s' : Int), (∀ x ∈ ys, 1 ≤ x) → 0 ≤ c → 0 ≤ s → c ≤ c' → s ≤ s' → c' ≤ m →
    (cutG b m c s ys).length ≤ (cutG b m c' s' ys).length ∧ (cutG b m c' s' ys).length ≤ (cutG b m c s ys).length + 1 := by
  intro ys
  induction ys with
  | nil =>
    intro c s c' s' _ h1 h2 h3 h4 h5
    simp only [cutG]
    split <;> split <;> simp <;> omega
  | cons x r ih =>
    intro c s c' s' hy h1 h2 h3 h4 h5
    have hx := hy x (by simp)
    have hr : ∀ y ∈ r, 1 ≤ y := fun y h => hy y (by simp [h])
    by_cases k : c = m ∨ b < s + x
    · have k' : c' = m ∨ b < s' + x := by omega
      rw [cutG_yes k, cutG_yes k']
      simp
    · by_cases k' : c' = m ∨ b < s' + x
      · rw [cutG_no k, cutG_yes k']
        have := ih 1 x (c + 1) (s + x) hr (by omega) (by omega) (by omega) (by omega) (by omega)
        simp only [List.length_cons]
        omega
      · rw [cutG_no k, cutG_no k']
        exact ih _ _ _ _ hr (by omega) (by omega) (by omega) (by omega) (by omega)

/-- Items that fit into the last batch go there. -/
theorem cut_run {b m : Int} : ∀ (p q : List Int) (c s : Int), (∀ x ∈ p, 1 ≤ x) → c + p.length ≤ m → s + sumI p ≤ b → cutG b m c s (p ++ q) = cutG b m (c + p.length) (s + sumI p) q := by
  intro p
  induction p with
  | nil => intro q c s _ _ _; simp [sumI]
  | cons x p ih =>
    intro q c s hp h1 h2
    have hr : ∀ y ∈ p, 1 ≤ y := fun y h => hp y (by simp [h])
    have hn := sumI_nonneg hr
    simp only [sumI, List.length_cons] at h1 h2
    have k : ¬ (c = m ∨ b < s + x) := by omega
    rw [List.cons_append, cutG_no k, ih q _ _ hr (by omega) (by omega)]
    simp only [sumI, List.length_cons]
    congr 1 <;> omega

/-- No batches that fit are fewer. -/
theorem cut_least {b m : Int} (hm : 1 ≤ m) : ∀ (L ys : List Int), (∀ x ∈ ys, 1 ≤ x) → fitG b m ys L = true → (cutG b m 0 0 ys).length ≤ L.length := by
  intro L
  induction L with
  | nil =>
    intro ys _ h
    have : ys = [] := by simpa [fitG] using h
    subst this
    simp [cutG]
  | cons n r ih =>
    intro ys hy h
    simp only [fitG, Bool.and_eq_true, decide_eq_true_eq] at h
    obtain ⟨⟨h1, h2, h3⟩, h4, h5⟩ := h
    have hl : (ys.take n.toNat).length = n.toNat := by rw [List.length_take]; omega
    have hp : ∀ x ∈ ys.take n.toNat, 1 ≤ x := fun x hx => hy x (List.mem_of_mem_take hx)
    have hd : ∀ x ∈ ys.drop n.toNat, 1 ≤ x := fun x hx => hy x (List.mem_of_mem_drop hx)
    have e := cut_run (b := b) (m := m) (ys.take n.toNat) (ys.drop n.toNat) 0 0 hp (by omega) (by omega)
    rw [List.take_append_drop] at e
    rw [e]
    have hn := sumI_nonneg hp
    have := (cut_mono (b := b) (m := m) (ys.drop n.toNat) 0 0 (0 + (ys.take n.toNat).length) (0 + sumI (ys.take n.toNat)) hd (by omega) (by omega) (by omega) (by omega) (by omega)).2
    have := ih _ hd h5
    simp only [List.length_cons]
    omega
theorem cutB_least {xs L : List Int} {b m : Int} (h : fitB' xs b m L = true) : (cutB xs b m).length ≤ L.length := by
  simp only [fitB', Bool.and_eq_true] at h
  obtain ⟨h1, h2, h3, h4, h5, h6⟩ := bvB_iff.1 h.1
  simp only [cutB, h.1, if_true]
  exact cut_least h5 L xs (fun x hx => (h1 x hx).1) h.2

theorem fit_more {b m b' m' : Int} (hb : b ≤ b') (hm : m ≤ m') : ∀ (L ys : List Int), fitG b m ys L = true → fitG b' m' ys L = true := by
  intro L
  induction L with
  | nil => intro ys h; exact h
  | cons n r ih =>
    intro ys h
    simp only [fitG, Bool.and_eq_true, decide_eq_true_eq] at h ⊢
    obtain ⟨⟨h1, h2, h3⟩, h4, h5⟩ := h
    exact ⟨⟨h1, by omega, h3⟩, by omega, ih _ h5⟩
theorem bvB_more {xs : List Int} {b m b' m' : Int} (h : bvB xs b m = true) (hb : b ≤ b') (hm : m ≤ m') (hb' : b' ≤ 99) (hm' : m' ≤ 20) : bvB xs b' m' = true := by
  obtain ⟨h1, h2, h3, h4, h5, h6⟩ := bvB_iff.1 h
  exact bvB_iff.2 ⟨fun x hx => ⟨(h1 x hx).1, by have := (h1 x hx).2; omega⟩, h2, by omega, hb', by omega, hm'⟩
/-- Larger limits need no more batches. -/
theorem cut_larger {xs : List Int} {b m b' m' : Int} (h : bvB xs b m = true) (hb : b ≤ b') (hm : m ≤ m') (h' : bvB xs b' m' = true) : (cutB xs b' m').length ≤ (cutB xs b m).length := by
  have h1 := cutB_fits h
  simp only [fitB', Bool.and_eq_true] at h1
  exact cutB_least (by simp only [fitB', Bool.and_eq_true]; exact ⟨h', fit_more hb hm _ _ h1.2⟩)
theorem cut_some {b m : Int} : ∀ (ys : List Int) (c s : Int), 0 < c → ∃ d t, cutG b m c s ys = (c + d) :: t ∧ 0 ≤ d := by
  intro ys
  induction ys with
  | nil => intro c s h; exact ⟨0, [], by simp [cutG, h], by omega⟩
  | cons x r ih =>
    intro c s h
    by_cases k : c = m ∨ b < s + x
    · exact ⟨0, cutG b m 1 x r, by rw [cutG_yes k]; simp, by omega⟩
    · obtain ⟨d, t, e, hd⟩ := ih (c + 1) (s + x) (by omega)
      exact ⟨d + 1, t, by rw [cutG_no k, e]; congr 1; omega, by omega⟩
theorem cutB_some {x : Int} {r : List Int} {b m : Int} (h : bvB (x :: r) b m = true) : 0 < (cutB (x :: r) b m).length := by
  obtain ⟨h1, h2, h3, h4, h5, h6⟩ := bvB_iff.1 h
  have hx := h1 x (by simp)
  have k : ¬ ((0 : Int) = m ∨ b < 0 + x) := by omega
  simp only [cutB, h, if_true, cutG_no k]
  obtain ⟨d, t, e, _⟩ := cut_some (b := b) (m := m) r (0 + 1) (0 + x) (by omega)
  rw [e]
  simp

/-- With one item for each batch. -/
theorem cut_ones {b : Int} : ∀ (ys : List Int) (s : Int), cutG b 1 1 s ys = List.replicate (ys.length + 1) 1 := by
  intro ys
  induction ys with
  | nil => intro s; simp [cutG]
  | cons x r ih => intro s; rw [cutG_yes (Or.inl rfl), ih]; simp [List.replicate_succ]
theorem bvB_one {xs : List Int} {b m : Int} (h : bvB xs b m = true) : bvB xs b 1 = true := by
  obtain ⟨h1, h2, h3, h4, h5, h6⟩ := bvB_iff.1 h
  exact bvB_iff.2 ⟨h1, h2, h3, h4, by omega, by omega⟩
theorem cutB_ones {xs : List Int} {b m : Int} (h : bvB xs b m = true) : cutB xs b 1 = List.replicate xs.length 1 := by
  obtain ⟨h1, h2, h3, h4, h5, h6⟩ := bvB_iff.1 h
  simp only [cutB, bvB_one h, if_true]
  cases xs with
  | nil => simp [cutG]
  | cons x r =>
    have hx := h1 x (by simp)
    have k : ¬ ((0 : Int) = 1 ∨ b < 0 + x) := by omega
    rw [cutG_no k]
    exact cut_ones r _
/-- Few small items. -/
theorem cutB_all {xs : List Int} {b m : Int} (h : bvB xs b m = true) (h1 : sumI xs ≤ b) (h2 : (xs.length : Int) ≤ m) : cutB xs b m = if 0 < xs.length then [(xs.length : Int)] else [] := by
  obtain ⟨k1, k2, k3, k4, k5, k6⟩ := bvB_iff.1 h
  have e := cut_run (b := b) (m := m) xs [] 0 0 (fun x hx => (k1 x hx).1) (by omega) (by omega)
  simp only [List.append_nil] at e
  simp only [cutB, h, if_true, e, cutG]
  by_cases hp : 0 < xs.length
  · rw [if_pos hp, if_pos (by omega)]; simp
  · rw [if_neg hp, if_neg (by omega)]

/-- A batch takes as many items as possible. -/
def fullG (b m : Int) : List Int → List Int → Prop
  | ys, n :: n2 :: r => (b < sumI (ys.take (n.toNat + 1)) ∨ m ≤ n) ∧ fullG b m (ys.drop n.toNat) (n2 :: r)
  | _, _ => True
theorem cut_full {b m : Int} (hb : 1 ≤ b) (hm : 1 ≤ m) : ∀ (ys pre : List Int), (∀ x ∈ ys, 1 ≤ x ∧ x ≤ b) → (pre.length : Int) ≤ m → sumI pre ≤ b → fullG b m (pre ++ ys) (cutG b m pre.length (sumI pre) ys) := by
  intro ys
  induction ys with
  | nil =>
    intro pre _ h1 h2
    simp only [cutG]
    split <;> simp [fullG]
  | cons x r ih =>
    intro pre hy h1 h2
    have hx := hy x (by simp)
    have hr : ∀ y ∈ r, 1 ≤ y ∧ y ≤ b := fun y h => hy y (by simp [h])
    by_cases h : (pre.length : Int) = m ∨ b < sumI pre + x
    · rw [cutG_yes h]
      have hi := ih [x] hr (by simp; omega) (by simp [sumI]; omega)
      obtain ⟨d, t, e, _⟩ := cut_some (b := b) (m := m) r 1 (sumI [x]) (by omega)
      have e1 : sumI [x] = x := by simp [sumI]
      have e2 : (([x] : List Int).length : Int) = 1 := by simp
      rw [e2, e] at hi
      rw [e1] at e
      rw [e]
      have e3 : ((pre.length : Int)).toNat = pre.length := by omega
      simp only [fullG, e3, List.drop_left]
      refine ⟨?_, hi⟩
      rw [List.take_append]
      have : pre.length + 1 - pre.length = 1 := by omega
      rw [this, List.take_of_length_le (by omega)]
      simp only [List.take_succ_cons, List.take_zero, sumI_append, sumI]
      omega
    · rw [cutG_no h]
      have := ih (pre ++ [x]) hr (by simp; omega) (by rw [sumI_append]; simp [sumI]; omega)
      rw [sumI_append] at this
      simpa [sumI] using this
theorem cutB_full {xs : List Int} {b m : Int} (h : bvB xs b m = true) : fullG b m xs (cutB xs b m) := by
  obtain ⟨h1, h2, h3, h4, h5, h6⟩ := bvB_iff.1 h
  have := cut_full h3 h5 xs [] h1 (by simp; omega) (by simp [sumI]; omega)
  simp only [cutB, h, if_true]
  simpa [sumI] using this

/-- The batches of the first items. -/
theorem cut_prefix {b m : Int} : ∀ (p q : List Int) (c s : Int), 0 ≤ c → cutG b m c s p = [] ∨ ∃ l a d t, cutG b m c s p = l ++ [a] ∧ cutG b m c s (p ++ q) = l ++ (a + d) :: t ∧ 0 ≤ d := by
  intro p
  induction p with
  | nil =>
    intro q c s h
    by_cases hc : 0 < c
    · obtain ⟨d, t, e, hd⟩ := cut_some (b := b) (m := m) q c s hc
      exact .inr ⟨[], c, d, t, by simp [cutG, hc], by simpa using e, hd⟩
    · exact .inl (by simp [cutG, hc])
  | cons x r ih =>
    intro q c s h
    by_cases k : c = m ∨ b < s + x
    · right
      rw [List.cons_append, cutG_yes k, cutG_yes k]
      rcases ih q 1 x (by omega) with e | ⟨l, a, d, t, e1, e2, hd⟩
      · obtain ⟨d, t, e', _⟩ := cut_some (b := b) (m := m) r 1 x (by omega)
        rw [e] at e'
        cases e'
      · exact ⟨c :: l, a, d, t, by rw [e1]; rfl, by rw [e2]; rfl, hd⟩
    · rw [List.cons_append, cutG_no k, cutG_no k]
      exact ih q (c + 1) (s + x) (by omega)
theorem cutB_prefix {xs : List Int} {b m : Int} (h : bvB xs b m = true) (k : Nat) : ((cutB (xs.take k) b m).length ≤ (cutB xs b m).length) ∧
    ∀ (i : Nat) (u : Int), (cutB (xs.take k) b m)[i]? = some u → ∃ v, (cutB xs b m)[i]? = some v ∧ u ≤ v ∧ (i + 1 < (cutB (xs.take k) b m).length → u = v) := by
  obtain ⟨h1, h2, h3, h4, h5, h6⟩ := bvB_iff.1 h
  have h' : bvB (xs.take k) b m = true := bvB_iff.2 ⟨fun x hx => h1 x (List.mem_of_mem_take hx), by rw [List.length_take]; omega, h3, h4, h5, h6⟩
  simp only [cutB, h, h', if_true]
  have e := cut_prefix (b := b) (m := m) (xs.take k) (xs.drop k) 0 0 (by omega)
  rw [List.take_append_drop] at e
  rcases e with e | ⟨l, a, d, t, e1, e2, hd⟩
  · rw [e]
    exact ⟨by simp, fun i u hu => by simp at hu⟩
  · rw [e1, e2]
    refine ⟨by simp, fun i u hu => ?_⟩
    by_cases hi : i < l.length
    · rw [List.getElem?_append_left hi] at hu
      exact ⟨u, by rw [List.getElem?_append_left hi]; exact hu, Int.le_refl _, fun _ => rfl⟩
    · rw [List.getElem?_append_right (by omega)] at hu
      obtain ⟨hlt, _⟩ := List.getElem?_eq_some_iff.1 hu
      have : i - l.length = 0 := by simp at hlt; omega
      rw [this] at hu
      simp at hu
      refine ⟨a + d, by rw [List.getElem?_append_right (by omega), this]; rfl, by omega, fun h => by simp at h; omega⟩

/-- The batch of an item. -/
def ofG : List Int → Int → Int → Int
  | [], _, _ => -1
  | n :: r, j, i => if 1 ≤ n ∧ n ≤ 20 then (if j < n then i else ofG r (j - n) (i + 1)) else -1
def ofB (cut : List Int) (j : Int) : Int := if 0 ≤ j ∧ cut.length ≤ 20 then ofG cut j 0 else -1
theorem ofG_bad {x j i : Int} {r : List Int} (h : ¬ (1 ≤ x ∧ x ≤ 20)) : ofG (x :: r) j i = -1 := by simp only [ofG, if_neg h]
theorem ofG_here {x j i : Int} {r : List Int} (h0 : 1 ≤ x) (h1 : x ≤ 20) (h : j < x) : ofG (x :: r) j i = i := by simp only [ofG, if_pos (And.intro h0 h1), if_pos h]
theorem ofG_next {x j i : Int} {r : List Int} (h0 : 1 ≤ x) (h1 : x ≤ 20) (h : ¬ j < x) : ofG (x :: r) j i = ofG r (j - x) (i + 1) := by simp only [ofG, if_pos (And.intro h0 h1), if_neg h]
theorem ofG_at : ∀ (p r : List Int) (n j i : Int), (∀ x ∈ p, 1 ≤ x ∧ x ≤ 20) → 1 ≤ n ∧ n ≤ 20 → 0 ≤ j → j < n → ofG (p ++ n :: r) (sumI p + j) i = i + p.length := by
  intro p
  induction p with
  | nil => intro r n j i _ h1 h2 h3; simp [ofG, sumI, h1, h3]
  | cons x p ih =>
    intro r n j i hp h1 h2 h3
    have hx := hp x (by simp)
    have hr : ∀ y ∈ p, 1 ≤ y ∧ y ≤ 20 := fun y h => hp y (by simp [h])
    have hn := sumI_nonneg (fun y h => (hr y h).1)
    have k : ¬ (sumI (x :: p) + j < x) := by simp only [sumI]; omega
    rw [List.cons_append]
    simp only [ofG, if_pos hx, if_neg k]
    have e : sumI (x :: p) + j - x = sumI p + j := by simp only [sumI]; omega
    rw [e, ih r n j (i + 1) hr h1 h2 h3]
    simp; omega
theorem ofG_end : ∀ (p : List Int) (i : Int), (∀ x ∈ p, 1 ≤ x ∧ x ≤ 20) → ofG p (sumI p) i = -1 := by
  intro p
  induction p with
  | nil => intro i _; rfl
  | cons x p ih =>
    intro i hp
    have hx := hp x (by simp)
    have hr : ∀ y ∈ p, 1 ≤ y ∧ y ≤ 20 := fun y h => hp y (by simp [h])
    have hn := sumI_nonneg (fun y h => (hr y h).1)
    have k : ¬ (sumI (x :: p) < x) := by simp only [sumI]; omega
    simp only [ofG, if_pos hx, if_neg k]
    have e : sumI (x :: p) - x = sumI p := by simp only [sumI]; omega
    rw [e]
    exact ih _ hr
theorem fit_sum {b m : Int} : ∀ (L ys : List Int), fitG b m ys L = true → sumI L = ys.length ∧ (∀ n ∈ L, 1 ≤ n ∧ n ≤ m) := by
  intro L
  induction L with
  | nil =>
    intro ys h
    have : ys = [] := by simpa [fitG] using h
    subst this
    exact ⟨rfl, fun n hn => by cases hn⟩
  | cons n r ih =>
    intro ys h
    simp only [fitG, Bool.and_eq_true, decide_eq_true_eq] at h
    obtain ⟨⟨h1, h2, h3⟩, h4, h5⟩ := h
    obtain ⟨e, hr⟩ := ih _ h5
    refine ⟨?_, fun k hk => ?_⟩
    · simp only [sumI, e, List.length_drop]
      omega
    · rcases List.mem_cons.1 hk with rfl | hk
      · exact ⟨h1, h2⟩
      · exact hr k hk
theorem cutB_sum {xs : List Int} {b m : Int} (h : bvB xs b m = true) : sumI (cutB xs b m) = xs.length ∧ (∀ n ∈ cutB xs b m, 1 ≤ n ∧ n ≤ 20) ∧ (cutB xs b m).length ≤ 20 := by
  obtain ⟨h1, h2, h3, h4, h5, h6⟩ := bvB_iff.1 h
  have h7 := cutB_fits h
  simp only [fitB', Bool.and_eq_true] at h7
  obtain ⟨e, hr⟩ := fit_sum _ _ h7.2
  have hn := sumI_nonneg (fun n hn => (hr n hn).1)
  exact ⟨e, fun n hn => ⟨(hr n hn).1, by have := (hr n hn).2; omega⟩, by omega⟩

theorem cutB_len (xs : List Int) (b m : Int) : (cutB xs b m).length ≤ 20 := by
  rcases hv : bvB xs b m with _ | _
  · simp [cutB, hv]
  · exact (cutB_sum hv).2.2
theorem cutB_pos {xs : List Int} {b m : Int} (h : 0 < (cutB xs b m).length) : bvB xs b m = true ∧ 0 < xs.length := by
  rcases hv : bvB xs b m with _ | _
  · simp [cutB, hv] at h
  · refine ⟨rfl, ?_⟩
    cases xs with
    | nil => simp [cutB, cutG] at h
    | cons x r => simp
theorem larger_of {xs : List Int} {b m b' m' : Int} (h : 0 < (cutB xs b m).length) (hb : b ≤ b') (hm : m ≤ m') (hb' : b' ≤ 99) (hm' : m' ≤ 20) : 0 < (cutB xs b' m').length ∧ (cutB xs b' m').length ≤ (cutB xs b m).length := by
  obtain ⟨hv, hp⟩ := cutB_pos h
  have h' := bvB_more hv hb hm hb' hm'
  refine ⟨?_, cut_larger hv hb hm h'⟩
  cases xs with
  | nil => simp at hp
  | cons x r => exact cutB_some h'
theorem cutB_none {xs : List Int} {b m : Int} (h : 99 < b ∨ 20 < m) : cutB xs b m = [] := by
  have : bvB xs b m = false := by
    rw [Bool.eq_false_iff]
    intro h'
    have := bvB_iff.1 h'
    omega
  simp [cutB, this]

theorem fitG_cons {b m n : Int} {ys r : List Int} (h : fitG b m ys (n :: r) = true) : 1 ≤ n ∧ n ≤ m ∧ n ≤ ys.length ∧ fitG b m (ys.drop n.toNat) r = true := by
  simp only [fitG, Bool.and_eq_true, decide_eq_true_eq] at h
  exact ⟨h.1.1, h.1.2.1, h.1.2.2, h.2.2⟩
theorem fullG_cons {b m n n2 : Int} {ys r : List Int} (h : fullG b m ys (n :: n2 :: r)) : (b < sumI (ys.take (n.toNat + 1)) ∨ m ≤ n) ∧ fullG b m (ys.drop n.toNat) (n2 :: r) := h
theorem sum_take_at {xs : List Int} {k : Nat} {x : Int} (h : xs[k]? = some x) : sumI (xs.take (k + 1)) = sumI (xs.take k) + x := by
  rw [take_at h, sumI_append]
  simp [sumI]
/-- The batch of item k, where batch i begins with item at. -/
theorem ofB_at {O : List Int} {i : Nat} {n j : Int} (hO : ∀ x ∈ O, 1 ≤ x ∧ x ≤ 20) (hl : O.length ≤ 20) (hi : O[i]? = some n) (h0 : 0 ≤ j) (hj : j < n) : ofB O (sumI (O.take i) + j) = i := by
  have hil := (List.getElem?_eq_some_iff.1 hi).1
  have hp : ∀ x ∈ O.take i, 1 ≤ x ∧ x ≤ 20 := fun x hx => hO x (List.mem_of_mem_take hx)
  have hs := sumI_nonneg (fun x hx => (hp x hx).1)
  have e := ofG_at (O.take i) (O.drop (i + 1)) n j 0 hp (hO n (mem_at hi)) h0 hj
  rw [← drop_at hi, List.take_append_drop] at e
  unfold ofB
  rw [if_pos ⟨by omega, hl⟩, e, List.length_take]
  omega
theorem ofB_end {O : List Int} (hO : ∀ x ∈ O, 1 ≤ x ∧ x ≤ 20) (hl : O.length ≤ 20) : ofB O (sumI O) = -1 := by
  have hs := sumI_nonneg (fun x hx => (hO x hx).1)
  unfold ofB
  rw [if_pos ⟨by omega, hl⟩, ofG_end _ _ hO]
theorem ofB_neg (O : List Int) : ofB O (-1) = -1 := by simp [ofB]
end Go.Proofs.Ytelapagdbmlnhaa
