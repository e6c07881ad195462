/- Plain facts on leaders and repairs: no program in sight. -/
import Derived.Test.YtdbolfdpaihfiaaPlainG
namespace Go.Proofs.Ytdbolfdpaihfiaa
set_option linter.unusedVariables false

/-- How many more copies are needed. -/
def cnB (xs : List Int) (n : Int) : Int := if (lvB xs && inB n 0 99) = true then gmax 0 (((xs.length / 2 + 1 : Nat) : Int) - havI xs n) else -1
theorem cn_bad {xs : List Int} {n : Int} (h : lvB xs = false ∨ inB n 0 99 = false) : cnB xs n = -1 := by
  rcases h with h | h <;> simp [cnB, h]
theorem cn_yes {xs : List Int} {n : Int} (h : lvB xs = true) (k : inB n 0 99 = true) : cnB xs n = gmax 0 (((xs.length / 2 + 1 : Nat) : Int) - havI xs n) := by simp [cnB, h, k]

/-- A majority of n copies. -/
noncomputable def lmB (live : List Int) (n : Nat) : Bool := decide (n < 2 * live.length) && (ascB live && rgB live 0 ((n : Int) - 1))
theorem lmB_iff {live : List Int} {n : Nat} : lmB live n = true ↔ n < 2 * live.length ∧ ascP live ∧ ∀ c ∈ live, 0 ≤ c ∧ c ≤ (n : Int) - 1 := by
  simp only [lmB, Bool.and_eq_true, decide_eq_true_eq, ascB_iff, rgB_iff]
theorem lm_asc {live : List Int} {n : Nat} (h : ¬ ascP live) : lmB live n = false := by
  have := ascB_no.2 h
  simp [lmB, this]
theorem lm_rg {live : List Int} {n : Nat} (h : rgB live 0 ((n : Int) - 1) = false) : lmB live n = false := by simp [lmB, h]

/-- What element i is. -/
def at0 (xs : List Int) (c : Int) : Int := xs.getD c.toNat 0
theorem at0_of {xs : List Int} {j : Nat} {x : Int} (h : xs[j]? = some x) : at0 xs j = x := by simp [at0, List.getD, h]
theorem at0_in {xs : List Int} {c : Int} (h0 : 0 ≤ c) (h1 : c < xs.length) : xs[c.toNat]? = some (at0 xs c) := by
  have hk : c.toNat < xs.length := by omega
  simp [at0, List.getD, List.getElem?_eq_getElem hk]

/-- The first of the live copies with the most entries. -/
def leadG (xs : List Int) : Int → List Int → Int
  | k, [] => k
  | k, c :: r => leadG xs (if at0 xs k < at0 xs c then c else k) r
theorem lead_yes {xs : List Int} {k c : Int} {r : List Int} (h : at0 xs k < at0 xs c) : leadG xs k (c :: r) = leadG xs c r := by simp [leadG, h]
theorem lead_no {xs : List Int} {k c : Int} {r : List Int} (h : ¬ at0 xs k < at0 xs c) : leadG xs k (c :: r) = leadG xs k r := by simp [leadG, h]
noncomputable def leadB (xs live : List Int) : Int := if (lvB xs && lmB live xs.length) = true then leadG xs (live.getD 0 0) live else -1
theorem lead_bad {xs live : List Int} (h : lvB xs = false ∨ lmB live xs.length = false) : leadB xs live = -1 := by
  rcases h with h | h <;> simp [leadB, h]
theorem lead_ok {xs live : List Int} (h : lvB xs = true) (k : lmB live xs.length = true) : leadB xs live = leadG xs (live.getD 0 0) live := by simp [leadB, h, k]
theorem lead_self (xs : List Int) (k : Int) (r : List Int) : leadG xs k (k :: r) = leadG xs k r := by simp [leadG]

/-- The leader is one of them, has the most, and is the first that has. -/
theorem lead_spec (xs : List Int) : ∀ (r : List Int) (k : Int), (leadG xs k r = k ∨ leadG xs k r ∈ r) ∧ at0 xs k ≤ at0 xs (leadG xs k r) ∧ (∀ c ∈ r, at0 xs c ≤ at0 xs (leadG xs k r)) ∧
    (at0 xs k = at0 xs (leadG xs k r) → leadG xs k r = k) := by
  intro r
  induction r with
  | nil => intro k; exact ⟨.inl rfl, Int.le_refl _, fun c h => by simp at h, fun _ => rfl⟩
  | cons c r ih =>
    intro k
    by_cases h : at0 xs k < at0 xs c
    · rw [lead_yes h]
      obtain ⟨a, b, d, e⟩ := ih c
      refine ⟨.inr ?_, by omega, fun y hy => ?_, fun h' => by omega⟩
      · rcases a with a | a
        · rw [a]; simp
        · simp [a]
      · rcases List.mem_cons.1 hy with rfl | hy
        · exact b
        · exact d y hy
    · rw [lead_no h]
      obtain ⟨a, b, d, e⟩ := ih k
      refine ⟨?_, b, fun y hy => ?_, e⟩
      · rcases a with a | a
        · exact .inl a
        · exact .inr (by simp [a])
      · rcases List.mem_cons.1 hy with rfl | hy
        · omega
        · exact d y hy
theorem lead_first (xs : List Int) : ∀ (r : List Int) (k : Int), (k :: r).Pairwise (· < ·) → ∀ c ∈ k :: r, c < leadG xs k r → at0 xs c < at0 xs (leadG xs k r) := by
  intro r
  induction r with
  | nil => intro k _ c hc hlt; simp at hc; subst hc; simp [leadG] at hlt
  | cons d r ih =>
    intro k hp c hc hlt
    rw [List.pairwise_cons] at hp
    by_cases h : at0 xs k < at0 xs d
    · rw [lead_yes h] at hlt ⊢
      have hs := lead_spec xs r d
      rcases List.mem_cons.1 hc with rfl | hc
      · have := hs.2.1; omega
      · exact ih d hp.2 c hc hlt
    · rw [lead_no h] at hlt ⊢
      have hp2 : (k :: r).Pairwise (· < ·) := by
        rw [List.pairwise_cons]
        exact ⟨fun y hy => hp.1 y (by simp [hy]), (List.pairwise_cons.1 hp.2).2⟩
      rcases List.mem_cons.1 hc with rfl | hc
      · exact ih c hp2 c (by simp) hlt
      · rcases List.mem_cons.1 hc with rfl | hc
        · -- c = d: not the leader's like
          have hs := lead_spec xs r k
          have hkc := hp.1 c (by simp)
          have h3 := hs.2.1
          rcases Int.lt_or_eq_of_le h3 with h4 | h4
          · omega
          · have := hs.2.2.2 h4
            omega
        · exact ih k hp2 c (by simp [hc]) hlt
theorem lead_in {xs live : List Int} (h : lvB xs = true) (k : lmB live xs.length = true) : leadB xs live ∈ live ∧ (∀ c ∈ live, at0 xs c ≤ at0 xs (leadB xs live)) ∧ (∀ c ∈ live, c < leadB xs live → at0 xs c < at0 xs (leadB xs live)) ∧ 0 ≤ leadB xs live ∧ leadB xs live < xs.length := by
  rw [lead_ok h k]
  obtain ⟨h1, h2, h3⟩ := lmB_iff.1 k
  cases live with
  | nil => simp at h1
  | cons c r =>
    have e : leadG xs ((c :: r).getD 0 0) (c :: r) = leadG xs c r := by
      show leadG xs c (c :: r) = _
      exact lead_self xs c r
    rw [e]
    have hs := lead_spec xs r c
    have hm : leadG xs c r ∈ c :: r := by
      rcases hs.1 with a | a
      · rw [a]; simp
      · simp [a]
    refine ⟨hm, fun y hy => ?_, lead_first xs r c (asc_pair h2), (h3 _ hm).1, by have := (h3 _ hm).2; omega⟩
    rcases List.mem_cons.1 hy with rfl | hy
    · exact hs.2.1
    · exact hs.2.2.1 y hy
theorem lead_neg {xs live : List Int} : leadB xs live < 0 ↔ (lvB xs && lmB live xs.length) = false := by
  rcases h : lvB xs && lmB live xs.length with _ | _
  · simp [leadB, h]
  · simp only [Bool.and_eq_true] at h
    have := (lead_in h.1 h.2).2.2.2.1
    simp
    exact this

/-- Each live copy gets v. -/
def repG (v : Int) (xs : List Int) (live : List Int) : List Int := live.foldl (fun acc c => acc.set c.toNat v) xs
theorem rep_len (v : Int) : ∀ (live xs : List Int), (repG v xs live).length = xs.length := by
  intro live
  induction live with
  | nil => intro xs; rfl
  | cons c r ih => intro xs; show (repG v (xs.set c.toNat v) r).length = _; rw [ih, List.length_set]
theorem rep_at (v : Int) : ∀ (live xs : List Int), (∀ c ∈ live, 0 ≤ c) → ∀ j : Nat, j < xs.length → (repG v xs live)[j]? = if (j : Int) ∈ live then some v else xs[j]? := by
  intro live
  induction live with
  | nil => intro xs _ j _; simp [repG]
  | cons c r ih =>
    intro xs hc j hj
    show (repG v (xs.set c.toNat v) r)[j]? = _
    have hc0 := hc c (by simp)
    rw [ih _ (fun d hd => hc d (by simp [hd])) j (by rw [List.length_set]; exact hj)]
    by_cases h1 : (j : Int) ∈ r
    · simp [h1]
    · rw [if_neg h1]
      by_cases h2 : (j : Int) = c
      · have : c.toNat = j := by omega
        rw [this, List.getElem?_set_self hj, if_pos (by simp [h2])]
      · have : c.toNat ≠ j := by omega
        rw [List.getElem?_set_ne this, if_neg]
        simp [h1, h2]
theorem rep_snoc (v : Int) (xs live : List Int) (c : Int) : repG v xs (live ++ [c]) = (repG v xs live).set c.toNat v := by simp [repG]
noncomputable def repB (xs live : List Int) : List Int := if leadB xs live < 0 then [] else repG (at0 xs (leadB xs live)) xs live
noncomputable def repOk (xs live : List Int) : Bool := decide (0 ≤ leadB xs live)
theorem repB_le (xs live : List Int) : (repB xs live).length ≤ xs.length := by
  unfold repB
  split
  · exact Nat.zero_le _
  · rw [rep_len]; exact Nat.le_refl _
theorem rep_valid {xs live : List Int} {ld : Nat} (h : lvB xs = true) (k : lmB live xs.length = true) (e : leadB xs live = ld) : lvB (repB xs live) = true ∧ (repB xs live).length = xs.length ∧ 0 ≤ leadB (repB xs live) live ∧ repB (repB xs live) live = repB xs live := by
  obtain ⟨m1, m2, m3, m4, m5⟩ := lead_in h k
  have hneg : ¬ leadB xs live < 0 := by omega
  have e1 : repB xs live = repG (at0 xs (leadB xs live)) xs live := by simp [repB, hneg]
  have h0 : ∀ c ∈ live, 0 ≤ c := fun c hc => ((lmB_iff.1 k).2.2 c hc).1
  have hl : (repB xs live).length = xs.length := by rw [e1, rep_len]
  obtain ⟨v1, v2, v3⟩ := lvB_iff.1 h
  have hu := at0_in m4 m5
  have hub := v1 _ (mem_at hu)
  have hat : ∀ j : Nat, j < xs.length → (repB xs live)[j]? = if (j : Int) ∈ live then some (at0 xs (leadB xs live)) else xs[j]? := fun j hj => by rw [e1]; exact rep_at _ live xs h0 j hj
  have hv : lvB (repB xs live) = true := lvB_iff.2 ⟨fun x hx => by
    obtain ⟨j, hj, rfl⟩ := List.mem_iff_getElem.1 hx
    have := hat j (by omega)
    rw [List.getElem?_eq_getElem hj] at this
    split at this
    · rw [Option.some.inj this]
      exact hub
    · exact v1 _ (mem_at this.symm), by omega, by omega⟩
  have k' : lmB live (repB xs live).length = true := by rw [hl]; exact k
  obtain ⟨n1, n2, n3, n4, n5⟩ := lead_in hv k'
  refine ⟨hv, hl, n4, ?_⟩
  have hneg' : ¬ leadB (repB xs live) live < 0 := by omega
  have e2 : repB (repB xs live) live = repG (at0 (repB xs live) (leadB (repB xs live) live)) (repB xs live) live := by
    rw [repB, if_neg hneg']
  have e3 : at0 (repB xs live) (leadB (repB xs live) live) = at0 xs (leadB xs live) := by
    have a1 := at0_in n4 n5
    have a2 := hat (leadB (repB xs live) live).toNat (by omega)
    have a3 : (((leadB (repB xs live) live).toNat : Nat) : Int) = leadB (repB xs live) live := by omega
    rw [a1, a3, if_pos n1] at a2
    exact Option.some.inj a2
  rw [e2, e3]
  apply List.ext_getElem?
  intro j
  by_cases hj : j < xs.length
  · rw [rep_at _ live _ h0 j (by omega)]
    split
    · rename_i hm
      rw [hat j hj, if_pos hm]
    · rfl
  · rw [List.getElem?_eq_none (by rw [rep_len]; omega), List.getElem?_eq_none (by omega)]
theorem rep_val {xs live : List Int} {ld j : Nat} (h : lvB xs = true) (k : lmB live xs.length = true) (e : leadB xs live = ld) (hj : j < xs.length) : (repB xs live)[j]? = if (j : Int) ∈ live then some (at0 xs ld) else xs[j]? := by
  have hneg : ¬ leadB xs live < 0 := by omega
  have e1 : repB xs live = repG (at0 xs (leadB xs live)) xs live := by simp [repB, hneg]
  rw [e1, e]
  exact rep_at _ live xs (fun c hc => ((lmB_iff.1 k).2.2 c hc).1) j hj
end Go.Proofs.Ytdbolfdpaihfiaa
