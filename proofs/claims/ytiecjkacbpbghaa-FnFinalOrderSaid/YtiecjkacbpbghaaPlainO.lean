/- Plain facts on a group's entries: no program in sight. -/
import Derived.Test.YtiecjkacbpbghaaPlainA
import Derived.Test.YtiecjkacbpbghaaEa
namespace Go.Proofs.Ytiecjkacbpbghaa
set_option linter.unusedVariables false
open Go.RowKit

/-- Where a message stands, the first entry being the k-th; or -1. -/
def fnd : List Ent → Int → Int → Int
  | [], _, _ => -1
  | e :: r, m, k => if e.m = m then k else fnd r m (k + 1)
theorem fnd_step {es : List Ent} {k : Nat} {e : Ent} {m : Int} (h : es[k]? = some e) (hm : ¬ e.m = m) : fnd (es.drop k) m (k : Int) = fnd (es.drop (k + 1)) m ((k : Int) + 1) := by
  rw [drop_at h]
  exact if_neg hm
theorem fnd_hit {es : List Ent} {k : Nat} {e : Ent} {m : Int} (h : es[k]? = some e) (hm : e.m = m) : fnd (es.drop k) m (k : Int) = k := by
  rw [drop_at h]
  exact if_pos hm
theorem fnd_end (es : List Ent) (m k : Int) : fnd (es.drop es.length) m k = -1 := by
  rw [List.drop_length]
  rfl
theorem fnd_none {es : List Ent} {m k : Int} (hk : 0 ≤ k) : fnd es m k < 0 ↔ ∀ e ∈ es, e.m ≠ m := by
  induction es generalizing k with
  | nil => simp [fnd]
  | cons a r ih =>
    unfold fnd
    split
    · rename_i h
      simp [h]
      omega
    · rename_i h
      rw [ih (by omega)]
      simp [h]
theorem fnd_some {es : List Ent} {m k : Int} (hk : 0 ≤ k) (h : 0 ≤ fnd es m k) : ∃ (j : Nat) (e : Ent), fnd es m k = k + j ∧ es[j]? = some e ∧ e.m = m := by
  induction es generalizing k with
  | nil => simp [fnd] at h
  | cons a r ih =>
    unfold fnd at h ⊢
    split
    · rename_i e
      exact ⟨0, a, by simp, by simp, e⟩
    · rename_i e
      rw [if_neg e] at h
      obtain ⟨j, x, h1, h2, h3⟩ := ih (by omega) h
      exact ⟨j + 1, x, by rw [h1]; omega, by simpa using h2, h3⟩
theorem fnd_ge {es : List Ent} {m k : Int} (hk : 0 ≤ k) : -1 ≤ fnd es m k := by
  by_cases h : 0 ≤ fnd es m k
  · omega
  · induction es generalizing k with
    | nil => simp [fnd]
    | cons a r ih =>
      unfold fnd at h ⊢
      split
      · omega
      · rename_i e
        rw [if_neg e] at h
        exact ih (by omega) h

/-- The k-th entry is in range and behind the one before it. -/
def okA (id ck : Int) (es : List Ent) (k : Nat) : Prop :=
  ∀ e, es[k]? = some e → inB e.m 0 11 = true ∧ svB e.t e.g = true ∧ e.t ≤ ck ∧ (e.f = true ∨ e.g = id) ∧ ∀ p, 0 < k → es[k - 1]? = some p → ltB p.t p.g e.t e.g = true
/-- The k-th entry's message is not one of those before it. -/
def diA (es : List Ent) (k : Nat) : Prop := ∀ e, es[k]? = some e → ∀ p ∈ es.take k, p.m ≠ e.m

theorem okA_mk0 {id ck : Int} {es : List Ent} {e : Ent} (h : es[0]? = some e) (h1 : inB e.m 0 11 = true) (h2 : svB e.t e.g = true) (h3 : e.t ≤ ck) (h4 : e.f = true ∨ e.g = id) : okA id ck es 0 := by
  intro e' h'
  rw [h] at h'
  cases h'
  exact ⟨h1, h2, h3, h4, fun p hp => absurd hp (by omega)⟩
theorem okA_mk1 {id ck : Int} {es : List Ent} {k : Nat} {e p : Ent} (h : es[k + 1]? = some e) (hp : es[k]? = some p) (h1 : inB e.m 0 11 = true) (h2 : svB e.t e.g = true) (h3 : e.t ≤ ck) (h4 : e.f = true ∨ e.g = id) (h5 : ltB p.t p.g e.t e.g = true) : okA id ck es (k + 1) := by
  intro e' h'
  rw [h] at h'
  cases h'
  refine ⟨h1, h2, h3, h4, fun p' _ hp' => ?_⟩
  rw [Nat.add_sub_cancel, hp] at hp'
  cases hp'
  exact h5
theorem okA_out {id ck : Int} {es : List Ent} {k : Nat} (h : es.length ≤ k) : okA id ck es k := by
  intro e he
  rw [List.getElem?_eq_none h] at he
  cases he
theorem diA_out {es : List Ent} {k : Nat} (h : es.length ≤ k) : diA es k := by
  intro e he
  rw [List.getElem?_eq_none h] at he
  cases he
theorem diA_mk {es : List Ent} {k : Nat} {e : Ent} (h : es[k]? = some e) (hf : fnd (es.take k) e.m 0 < 0) : diA es k := by
  intro e' h'
  rw [h] at h'
  cases h'
  exact (fnd_none (by omega)).1 hf

def areP (id ck : Int) (es : List Ent) : Prop := ∀ k, okA id ck es k
def lsP (id ck : Int) (es : List Ent) : Prop := ∀ k, okA id ck es k ∧ diA es k
/-- The first pending entry waits, and is behind all that is done. -/
def tlP (P D : List Ent) : Prop := ∀ e, P[0]? = some e → e.f = false ∧ ∀ d, D[D.length - 1]? = some d → ltB d.t d.g e.t e.g = true
/-- A valid group. -/
def gP (id ck : Int) (P D : List Ent) : Prop :=
  inB id 0 4 = true ∧ inB ck 0 999 = true ∧ lsP id ck P ∧ lsP id ck D ∧ (∀ d ∈ D, d.f = true ∧ ∀ p ∈ P, p.m ≠ d.m) ∧ tlP P D

section
open Classical
noncomputable def areB (id ck : Int) (es : List Ent) : Bool := decide (areP id ck es)
noncomputable def lsB (id ck : Int) (es : List Ent) : Bool := decide (lsP id ck es)
noncomputable def gB (id ck : Int) (P D : List Ent) : Bool := decide (gP id ck P D)
theorem areB_iff {id ck : Int} {es : List Ent} : areB id ck es = true ↔ areP id ck es := decide_eq_true_iff
theorem lsB_iff {id ck : Int} {es : List Ent} : lsB id ck es = true ↔ lsP id ck es := decide_eq_true_iff
theorem gB_iff {id ck : Int} {P D : List Ent} : gB id ck P D = true ↔ gP id ck P D := decide_eq_true_iff
theorem areB_no {id ck : Int} {es : List Ent} (h : ¬ areP id ck es) : areB id ck es = false := decide_eq_false h
theorem lsB_no {id ck : Int} {es : List Ent} (h : ¬ lsP id ck es) : lsB id ck es = false := decide_eq_false h
theorem gB_no {id ck : Int} {P D : List Ent} (h : ¬ gP id ck P D) : gB id ck P D = false := decide_eq_false h
theorem areB_false {id ck : Int} {es : List Ent} (h : areB id ck es = false) : ¬ areP id ck es := of_decide_eq_false h
theorem lsB_false {id ck : Int} {es : List Ent} (h : lsB id ck es = false) : ¬ lsP id ck es := of_decide_eq_false h
theorem gB_false {id ck : Int} {P D : List Ent} (h : gB id ck P D = false) : ¬ gP id ck P D := of_decide_eq_false h
end

/-- Up to k all is well. -/
def upA (id ck : Int) (es : List Ent) (k : Nat) : Prop := ∀ j, j < k → okA id ck es j
def upL (id ck : Int) (es : List Ent) (k : Nat) : Prop := ∀ j, j < k → okA id ck es j ∧ diA es j
theorem upA_zero (id ck : Int) (es : List Ent) : upA id ck es 0 := fun j h => absurd h (by omega)
theorem upL_zero (id ck : Int) (es : List Ent) : upL id ck es 0 := fun j h => absurd h (by omega)
theorem upA_step {id ck : Int} {es : List Ent} {k : Nat} (h : upA id ck es k) (hk : okA id ck es k) : upA id ck es (k + 1) := fun j hj => by
  rcases Nat.lt_or_ge j k with h1 | h1
  · exact h j h1
  · obtain rfl : j = k := by omega
    exact hk
theorem upL_step {id ck : Int} {es : List Ent} {k : Nat} (h : upL id ck es k) (hk : okA id ck es k) (hd : diA es k) : upL id ck es (k + 1) := fun j hj => by
  rcases Nat.lt_or_ge j k with h1 | h1
  · exact h j h1
  · obtain rfl : j = k := by omega
    exact ⟨hk, hd⟩
theorem upA_full {id ck : Int} {es : List Ent} (h : upA id ck es es.length) : areB id ck es = true := areB_iff.2 fun k => by
  rcases Nat.lt_or_ge k es.length with h1 | h1
  · exact h k h1
  · exact okA_out h1
theorem upL_full {id ck : Int} {es : List Ent} (h : upL id ck es es.length) : lsB id ck es = true := lsB_iff.2 fun k => by
  rcases Nat.lt_or_ge k es.length with h1 | h1
  · exact h k h1
  · exact ⟨okA_out h1, diA_out h1⟩

section
variable {id ck : Int} {es : List Ent} {k : Nat} {e p : Ent}
theorem bad_m (h : es[k]? = some e) (hm : inB e.m 0 11 = false) : ¬ okA id ck es k := fun a => by
  have := (a e h).1
  rw [hm] at this
  cases this
theorem bad_s (h : es[k]? = some e) (hm : svB e.t e.g = false) : ¬ okA id ck es k := fun a => by
  have := (a e h).2.1
  rw [hm] at this
  cases this
theorem bad_c (h : es[k]? = some e) (hm : ¬ e.t ≤ ck) : ¬ okA id ck es k := fun a => hm (a e h).2.2.1
theorem bad_f (h : es[k]? = some e) (hm : e.f = false) (hg : ¬ e.g = id) : ¬ okA id ck es k := fun a => by
  rcases (a e h).2.2.2.1 with h1 | h1
  · rw [hm] at h1
    cases h1
  · exact hg h1
theorem bad_l (h : es[k + 1]? = some e) (hp : es[k]? = some p) (hm : ltB p.t p.g e.t e.g = false) : ¬ okA id ck es (k + 1) := fun a => by
  have := (a e h).2.2.2.2 p (by omega) (by simpa using hp)
  rw [hm] at this
  cases this
theorem bad_d (h : es[k]? = some e) (hm : ¬ fnd (es.take k) e.m 0 < 0) : ¬ diA es k := fun a => hm ((fnd_none (by omega)).2 (a e h))
theorem no_are (h : ¬ okA id ck es k) : areB id ck es = false := areB_no fun a => h (a k)
theorem no_ls (h : ¬ okA id ck es k) : lsB id ck es = false := lsB_no fun a => h (a k).1
theorem no_ls' (h : ¬ diA es k) : lsB id ck es = false := lsB_no fun a => h (a k).2
end

theorem nodup_iff {es : List Ent} : (es.map Ent.m).Nodup ↔ ∀ k, diA es k := by
  unfold List.Nodup
  rw [List.pairwise_iff_getElem]
  constructor
  · intro h k e he p hp
    obtain ⟨j, hj, e2⟩ := List.mem_iff_getElem.1 hp
    rw [List.length_take] at hj
    rw [List.getElem_take] at e2
    obtain ⟨hk, e3⟩ := List.getElem?_eq_some_iff.1 he
    have := h j k (by simp; omega) (by simpa using hk) (by omega)
    simp only [List.getElem_map, e2, e3] at this
    exact this
  · intro h i j hi hj hij
    simp only [List.length_map] at hi hj
    have := h j es[j] (List.getElem?_eq_getElem hj) es[i] (List.mem_iff_getElem.2 ⟨i, by simp; omega, by simp⟩)
    simpa using this
theorem lsP_iff {id ck : Int} {es : List Ent} : lsP id ck es ↔ areP id ck es ∧ (es.map Ent.m).Nodup := by
  rw [nodup_iff]
  exact ⟨fun h => ⟨fun k => (h k).1, fun k => (h k).2⟩, fun h k => ⟨h.1 k, h.2 k⟩⟩
/-- The other way to ask. -/
theorem gP_iff {id ck : Int} {P D : List Ent} : gP id ck P D ↔ inB id 0 4 = true ∧ inB ck 0 999 = true ∧ areP id ck P ∧ areP id ck D ∧ ((D ++ P).map Ent.m).Nodup ∧ (∀ d ∈ D, d.f = true) ∧ tlP P D := by
  unfold gP
  rw [lsP_iff, lsP_iff, List.map_append, List.nodup_append]
  constructor
  · rintro ⟨a, b, ⟨c1, c2⟩, ⟨d1, d2⟩, e, f⟩
    refine ⟨a, b, c1, d1, ⟨d2, c2, ?_⟩, fun d hd => (e d hd).1, f⟩
    intro x hx y hy hxy
    obtain ⟨d, hd, rfl⟩ := List.mem_map.1 hx
    obtain ⟨p, hp, rfl⟩ := List.mem_map.1 hy
    exact (e d hd).2 p hp hxy.symm
  · rintro ⟨a, b, c1, d1, ⟨d2, c2, e2⟩, e, f⟩
    refine ⟨a, b, ⟨c1, c2⟩, ⟨d1, d2⟩, fun d hd => ⟨e d hd, fun p hp h => ?_⟩, f⟩
    exact e2 d.m (List.mem_map.2 ⟨d, hd, rfl⟩) p.m (List.mem_map.2 ⟨p, hp, rfl⟩) h.symm

/-- The messages of a list are in range. -/
theorem are_msg {id ck : Int} {es : List Ent} (h : areP id ck es) : ∀ e ∈ es, 0 ≤ e.m ∧ e.m ≤ 11 := fun e he => by
  obtain ⟨k, hk, rfl⟩ := List.mem_iff_getElem.1 he
  exact inB_true (h k _ (List.getElem?_eq_getElem hk)).1

/-- Which messages have been seen. -/
def seenL (ms : List Int) : List Value := (List.range 12).map fun q : Nat => .bool (decide ((q : Int) ∈ ms))
theorem seenL_length (ms : List Int) : (seenL ms).length = 12 := by simp [seenL]
theorem seenL_at {ms : List Int} {m : Int} (h0 : 0 ≤ m) (h1 : m ≤ 11) : (seenL ms)[m.toNat]? = some (.bool (decide (m ∈ ms))) := by
  unfold seenL
  rw [List.getElem?_map, List.getElem?_range (by omega)]
  simp [Int.toNat_of_nonneg h0]
theorem seenL_nil : seenL [] = List.replicate 12 (.bool false) := by rfl
theorem seenL_set {ms : List Int} {m : Int} (h0 : 0 ≤ m) (h1 : m ≤ 11) : (seenL ms).set m.toNat (.bool true) = seenL (ms ++ [m]) := by
  apply List.ext_getElem
  · simp [seenL]
  · intro i hi hj
    have hi' : i < 12 := by simpa [seenL] using hj
    rw [List.getElem_set]
    split
    · rename_i e
      subst e
      simp [seenL, Int.toNat_of_nonneg h0]
    · rename_i e
      have : ¬ (i : Int) = m := by omega
      simp [seenL, this]
theorem seen_take {es : List Ent} {k : Nat} {e : Ent} (h : es[k]? = some e) : (es.take (k + 1)).map Ent.m = (es.take k).map Ent.m ++ [e.m] := by
  rw [take_at h]
  simp
theorem seen_bad {es : List Ent} {k : Nat} {e : Ent} (h : es[k]? = some e) (hm : e.m ∈ (es.take k).map Ent.m) : ¬ (es.map Ent.m).Nodup := fun hn => by
  obtain ⟨p, hp, e2⟩ := List.mem_map.1 hm
  exact (nodup_iff.1 hn) k e h p hp e2
theorem seen_good {es : List Ent} (h : ∀ k e, es[k]? = some e → ¬ e.m ∈ (es.take k).map Ent.m) : (es.map Ent.m).Nodup := nodup_iff.2 fun k e he p hp e2 => h k e he (List.mem_map.2 ⟨p, hp, e2⟩)

/-- The first that is blocked. -/
noncomputable def blkB (id ck : Int) (P D : List Ent) : Int := match gB id ck P D, P with
  | true, e :: _ => e.m
  | _, _ => -1
end Go.Proofs.Ytiecjkacbpbghaa
