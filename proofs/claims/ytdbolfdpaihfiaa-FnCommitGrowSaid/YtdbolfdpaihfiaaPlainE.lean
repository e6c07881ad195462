/- Plain facts on the commit index under changes: no program in sight. -/
import Derived.Test.YtdbolfdpaihfiaaPlainD
import Derived.Test.YtdbolfdpaihfiaaPlainS
namespace Go.Proofs.Ytdbolfdpaihfiaa
set_option linter.unusedVariables false

theorem lv_of {xs ys : List Int} (h : lvB xs = true) (hl : ys.length = xs.length) (hb : ∀ y ∈ ys, 0 ≤ y ∧ y ≤ 99) : lvB ys = true := by
  obtain ⟨h1, h2, h3⟩ := lvB_iff.1 h
  exact lvB_iff.2 ⟨hb, by omega, by omega⟩
theorem ci_mono {xs ys : List Int} (h : lvB xs = true) (k : lvB ys = true) (hl : ys.length = xs.length) (hh : ∀ n, havI xs n ≤ havI ys n) : ciB xs ≤ ciB ys := by
  have hc := ci_is h
  have := hh (ciB xs)
  exact (ci_le k hc.hi).2 (by have := hc.yes; omega)

/-- The order of copies does not matter. -/
theorem hav_rev (xs : List Int) (n : Int) : havI xs.reverse n = havI xs n := by simp [havI]
theorem lv_rev {xs : List Int} (h : lvB xs = true) : lvB xs.reverse = true := lv_of h (by simp) (fun y hy => (lvB_iff.1 h).1 y (by simpa using hy))
theorem ci_rev {xs : List Int} (h : lvB xs = true) : ciB xs.reverse = ciB xs :=
  Int.le_antisymm (ci_mono (lv_rev h) h (by simp) (fun n => by rw [hav_rev]; exact Nat.le_refl _)) (ci_mono h (lv_rev h) (by simp) (fun n => by rw [hav_rev]; exact Nat.le_refl _))
theorem cn_rev {xs : List Int} (h : lvB xs = true) (n : Int) : cnB xs.reverse n = cnB xs n := by
  simp only [cnB, h, lv_rev h, hav_rev, List.length_reverse]

/-- One entry more. -/
theorem hav_up : ∀ {l : List Int} {k : Nat} {a : Int} (x : Int), l[k]? = some a → havI (l.set k (a + 1)) (x + 1) ≤ havI l x ∧ havI l x ≤ havI (l.set k (a + 1)) x := by
  intro l
  induction l with
  | nil => intro k a x h; simp at h
  | cons b l ih =>
    intro k a x h
    cases k with
    | zero =>
      simp at h
      subst h
      simp only [List.set_cons_zero, havI_cons]
      have := havI_anti l (show x ≤ x + 1 by omega)
      constructor
      · by_cases h1 : x ≤ b
        · rw [if_pos (by omega), if_pos h1]; omega
        · rw [if_neg (by omega), if_neg h1]; omega
      · by_cases h1 : x ≤ b
        · rw [if_pos h1, if_pos (by omega)]; omega
        · rw [if_neg h1]; omega
    | succ k =>
      simp at h
      obtain ⟨i1, i2⟩ := ih x h
      simp only [List.set_cons_succ, havI_cons]
      constructor
      · by_cases h1 : x + 1 ≤ b
        · rw [if_pos h1, if_pos (by omega)]; omega
        · rw [if_neg h1]; omega
      · omega
theorem ci_up {xs : List Int} {k : Nat} {a : Int} (h : lvB xs = true) (hk : xs[k]? = some a) (ha : a ≠ 99) : lvB (xs.set k (a + 1)) = true ∧ ciB xs ≤ ciB (xs.set k (a + 1)) ∧ ciB (xs.set k (a + 1)) ≤ ciB xs + 1 := by
  have hb := (lvB_iff.1 h).1
  have hab := hb a (mem_at hk)
  have hv : lvB (xs.set k (a + 1)) = true := lv_of h (by simp) (fun y hy => by
    rcases List.mem_or_eq_of_mem_set hy with hy | rfl
    · exact hb y hy
    · omega)
  refine ⟨hv, ci_mono h hv (by simp) (fun n => (hav_up n hk).2), ?_⟩
  apply Classical.byContradiction
  intro hn
  have hc := ci_is h
  have hd := ci_is hv
  have h1 := (ci_le hv (n := ciB xs + 2) (by have := hd.hi; omega)).1 (by omega)
  have h2 := (hav_up (ciB xs + 1) hk).1
  have e : ciB xs + 1 + 1 = ciB xs + 2 := by omega
  rw [e] at h2
  have h3 := hc.no (by have := hd.hi; omega)
  rw [List.length_set] at h1
  omega

/-- Committed entries are on most copies. -/
theorem ci_counts {xs : List Int} (h : lvB xs = true) : xs.length < 2 * havI xs (ciB xs) ∧ (2 * havI xs (ciB xs + 1) ≤ xs.length ∨ ciB xs = 99) := by
  have hc := ci_is h
  refine ⟨hc.yes, ?_⟩
  by_cases e : ciB xs < 99
  · exact .inl (hc.no e)
  · exact .inr (by have := hc.hi; omega)

/-- Live copies that lack what P asks are no more than the rest. -/
theorem count_set {P : Int → Bool} : ∀ {l : List Int} {k : Nat} {a v : Int}, l[k]? = some a → P a = false → P v = true → (l.set k v).countP P = l.countP P + 1 := by
  intro l
  induction l with
  | nil => intro k a v h; simp at h
  | cons b l ih =>
    intro k a v h ha hv
    cases k with
    | zero =>
      simp at h
      subst h
      simp [ha, hv]
    | succ k =>
      simp at h
      have := ih h ha hv
      simp only [List.set_cons_succ, List.countP_cons, this]
      omega
theorem count_rep {P : Int → Bool} {v : Int} (hv : P v = true) : ∀ (live acc : List Int), live.Pairwise (· < ·) → (∀ c ∈ live, 0 ≤ c ∧ c < acc.length ∧ P (at0 acc c) = false) → (repG v acc live).countP P = acc.countP P + live.length := by
  intro live
  induction live with
  | nil => intro acc _ _; rfl
  | cons c r ih =>
    intro acc hp h
    rw [List.pairwise_cons] at hp
    obtain ⟨h0, h1, h2⟩ := h c (by simp)
    have hc := at0_in h0 h1
    show (repG v (acc.set c.toNat v) r).countP P = _
    rw [ih _ hp.2 (fun d hd => ?_), count_set hc h2 hv]
    · simp; omega
    · obtain ⟨d0, d1, d2⟩ := h d (by simp [hd])
      refine ⟨d0, by rw [List.length_set]; exact d1, ?_⟩
      have hlt := hp.1 d hd
      have : at0 (acc.set c.toNat v) d = at0 acc d := by
        unfold at0
        simp only [List.getD, List.getElem?_set_ne (show c.toNat ≠ d.toNat by omega)]
      rw [this]
      exact d2
theorem count_live {P : Int → Bool} {v : Int} (hv : P v = true) {xs live : List Int} (hp : live.Pairwise (· < ·)) (h : ∀ c ∈ live, 0 ≤ c ∧ c < xs.length ∧ P (at0 xs c) = false) : xs.countP P + live.length ≤ xs.length := by
  rw [← count_rep hv live xs hp h]
  have h1 : (repG v xs live).countP P ≤ (repG v xs live).length := List.countP_le_length
  rwa [rep_len] at h1
/-- A leader has all committed entries. -/
theorem lead_ci {xs live : List Int} {ld : Nat} (h : lvB xs = true) (k : lmB live xs.length = true) (e : leadB xs live = ld) : ciB xs ≤ at0 xs ld := by
  apply Classical.byContradiction
  intro hn
  obtain ⟨m1, m2, m3⟩ := lmB_iff.1 k
  have hmax := (lead_in h k).2.1
  rw [e] at hmax
  have := count_live (P := fun y => decide (ciB xs ≤ y)) (v := ciB xs) (by simp) (asc_pair m2) (xs := xs) (fun c hc => ⟨(m3 c hc).1, by have := (m3 c hc).2; omega, decide_eq_false (by have := hmax c hc; omega)⟩)
  have hy := (ci_is h).yes
  unfold havI at hy
  omega
/-- Repair loses no committed entry, and commits all the leader has. -/
theorem hav_rep {u x : Int} : ∀ (live acc : List Int), (∀ c ∈ live, 0 ≤ c ∧ c < acc.length ∧ at0 acc c ≤ u) → havI acc x ≤ havI (repG u acc live) x := by
  intro live
  induction live with
  | nil => intro acc _; exact Nat.le_refl _
  | cons c r ih =>
    intro acc h
    obtain ⟨h0, h1, h2⟩ := h c (by simp)
    have hc := at0_in h0 h1
    have hs := havI_set u x hc
    have := ih (acc.set c.toNat u) (fun d hd => by
      obtain ⟨d0, d1, d2⟩ := h d (by simp [hd])
      refine ⟨d0, by rw [List.length_set]; exact d1, ?_⟩
      by_cases e : c.toNat = d.toNat
      · unfold at0
        simp only [List.getD, ← e, List.getElem?_set_self (show c.toNat < acc.length by omega), Option.getD_some]
        omega
      · have e2 : at0 (acc.set c.toNat u) d = at0 acc d := by
          unfold at0
          simp only [List.getD, List.getElem?_set_ne e]
        rw [e2]
        exact d2)
    show havI acc x ≤ havI (repG u (acc.set c.toNat u) r) x
    by_cases h3 : x ≤ at0 acc c
    · rw [if_pos h3, if_pos (by omega)] at hs
      omega
    · rw [if_neg h3] at hs
      omega
theorem count_not (P : Int → Bool) (l : List Int) : l.countP P + l.countP (fun y => !P y) = l.length := by
  induction l with
  | nil => rfl
  | cons a l ih => rcases h : P a <;> simp [h] <;> omega
theorem rep_ci {xs live : List Int} {ld : Nat} (h : lvB xs = true) (k : lmB live xs.length = true) (e : leadB xs live = ld) : ciB xs ≤ ciB (repB xs live) ∧ at0 xs ld ≤ ciB (repB xs live) := by
  obtain ⟨m1, m2, m3⟩ := lmB_iff.1 k
  obtain ⟨l1, l2, l3, l4, l5⟩ := lead_in h k
  obtain ⟨r1, r2, r3, r4⟩ := rep_valid h k e
  rw [e] at l2 l5
  have hneg : ¬ leadB xs live < 0 := by omega
  have e1 : repB xs live = repG (at0 xs ld) xs live := by rw [repB, if_neg hneg, e]
  have hv := fun (j : Nat) (hj : j < xs.length) => rep_val (j := j) h k e hj
  refine ⟨ci_mono h r1 r2 (fun n => by rw [e1]; exact hav_rep live xs (fun c hc => ⟨(m3 c hc).1, by have := (m3 c hc).2; omega, l2 c hc⟩)), ?_⟩
  have hb := (lvB_iff.1 h).1 _ (mem_at (at0_in (c := (ld : Int)) (by omega) l5))
  refine (ci_le r1 hb.2).2 ?_
  have hlow := count_live (P := fun y => !decide (at0 xs ld ≤ y)) (v := at0 xs ld - 1) (by simp; omega) (asc_pair m2) (xs := repB xs live) (fun c hc => by
    have hc0 := (m3 c hc).1
    have hc1 := (m3 c hc).2
    refine ⟨hc0, by omega, ?_⟩
    have h1 := hv c.toNat (by omega)
    have h2 : ((c.toNat : Nat) : Int) = c := by omega
    rw [h2, if_pos hc] at h1
    have h3 : at0 (repB xs live) c = at0 xs ld := by
      unfold at0 at h1 ⊢
      simp only [List.getD, h1, Option.getD_some]
    rw [h3]
    simp)
  have hn := count_not (fun y => decide (at0 xs ld ≤ y)) (repB xs live)
  have : havI (repB xs live) (at0 xs ld) = (repB xs live).countP (fun y => decide (at0 xs ld ≤ y)) := rfl
  omega

/-- A length is committed when enough copies have it. -/
theorem cn_zero {xs : List Int} {n : Int} (h : lvB xs = true) (k : inB n 0 99 = true) : cnB xs n = 0 ↔ n ≤ ciB xs := by
  obtain ⟨k0, k1⟩ := inB_true k
  rw [ci_le h k1, cn_yes h k]
  unfold gmax
  split <;> omega
theorem cn_le {xs : List Int} {n : Int} (h : lvB xs = true) (k : inB n 0 99 = true) : 0 ≤ cnB xs n ∧ cnB xs n + havI xs n ≤ xs.length ∨ cnB xs n = 0 := by
  obtain ⟨_, v2, v3⟩ := lvB_iff.1 h
  have hl := havI_le xs n
  rw [cn_yes h k]
  unfold gmax
  split
  · left; omega
  · right; rfl
theorem cn_enough {xs ys : List Int} {n : Int} (h : lvB xs = true) (k : inB n 0 99 = true) (hy : lvB ys = true) (hl : ys.length = xs.length) (hh : (havI xs n : Int) + cnB xs n ≤ havI ys n) : n ≤ ciB ys := by
  obtain ⟨k0, k1⟩ := inB_true k
  refine (ci_le hy k1).2 ?_
  rw [cn_yes h k] at hh
  unfold gmax at hh
  split at hh <;> omega
end Go.Proofs.Ytdbolfdpaihfiaa
