/- Plain facts on linked groups: no program in sight. -/
import Derived.Test.YtbdboekjcgefhaaPlainG
namespace Go.Proofs.Ytbdboekjcgefhaa
set_option linter.unusedVariables false

theorem gv_sub_eq {a b : List Int} (h : gvB a = true) (k : gvB b = true) (hs : ∀ x ∈ a, x ∈ b) (hl : b.length ≤ a.length) : a = b := by
  have e : a = b.filter (hasB a) := by
    refine pair_ext (asc_pair (gvB_iff.1 h).2.1) (List.Pairwise.filter _ (asc_pair (gvB_iff.1 k).2.1)) fun z => ?_
    rw [List.mem_filter, hasB_iff]
    exact ⟨fun m => ⟨hs z m, m⟩, fun m => m.2⟩
  have hsub : (b.filter (hasB a)).Sublist b := List.filter_sublist
  rw [← e] at hsub
  exact hsub.eq_of_length_le hl
theorem gv_sub_le {a b : List Int} (h : gvB a = true) (k : gvB b = true) (hs : ∀ x ∈ a, x ∈ b) : a.length ≤ b.length := by
  rw [gv_pick h, gv_pick k]
  exact pick_mono fun g _ _ m => hasB_iff.2 (hs g (hasB_iff.1 m))

/-- One set more. -/
noncomputable def stepL (L s : List Int) : List Int := if 0 < (comL L s).length then uniL L s else L
theorem step_gv {L s : List Int} (h : gvB L = true) (k : gvB s = true) : gvB (stepL L s) = true := by
  unfold stepL; split
  · exact uni_gv h k
  · exact h
theorem step_mem {L s : List Int} (h : gvB L = true) (k : gvB s = true) {g : Int} : g ∈ stepL L s ↔ g ∈ L ∨ (g ∈ s ∧ ∃ x, x ∈ L ∧ x ∈ s) := by
  unfold stepL; split
  · rename_i hc
    rw [uni_mem h k]
    have hm := List.getElem_mem hc
    rw [com_mem h k] at hm
    exact ⟨fun m => m.elim .inl (fun m => .inr ⟨m, _, hm⟩), fun m => m.elim .inl (fun m => .inr m.1)⟩
  · rename_i hc
    refine ⟨.inl, fun m => m.elim id fun ⟨_, x, m1, m2⟩ => ?_⟩
    exact absurd (List.length_pos_of_mem ((com_mem h k).2 ⟨m1, m2⟩)) hc
/-- The reference asks the same in another way. -/
theorem step_ref {L s : List Int} (h : gvB L = true) (k : gvB s = true) : (pickL (fun g => hasB L g || hasB s g)).length < L.length + s.length ↔ 0 < (comL L s).length := by
  have := uni_len h k
  rw [uni_yes h k] at this
  omega

noncomputable def roundL (sets : List (List Int)) (L : List Int) : List Int := sets.foldl stepL L
noncomputable def linkN (sets : List (List Int)) : Nat → List Int → List Int
  | 0, L => L
  | n + 1, L => linkN sets n (roundL sets L)
theorem linkN_succ (sets : List (List Int)) : ∀ (n : Nat) (L : List Int), linkN sets (n + 1) L = roundL sets (linkN sets n L) := by
  intro n
  induction n with
  | zero => intro L; rfl
  | succ n ih => intro L; rw [linkN, ih]; rfl
noncomputable def setsB (sets : List (List Int)) (g : Int) : Bool := sets.all gvB && (decide (sets.length ≤ 12) && inB g 0 4)
theorem setsB_iff {sets : List (List Int)} {g : Int} : setsB sets g = true ↔ (∀ s ∈ sets, gvB s = true) ∧ sets.length ≤ 12 ∧ 0 ≤ g ∧ g ≤ 4 := by
  simp only [setsB, Bool.and_eq_true, List.all_eq_true, decide_eq_true_eq, inB]
noncomputable def linkB (sets : List (List Int)) (g : Int) : List Int := if setsB sets g = true then linkN sets 5 [g] else []
theorem link_bad {sets : List (List Int)} {g : Int} (h : setsB sets g = false) : linkB sets g = [] := by simp [linkB, h]
theorem link_yes {sets : List (List Int)} {g : Int} (h : setsB sets g = true) : linkB sets g = linkN sets 5 [g] := by simp [linkB, h]
theorem one_gv {g : Int} (h0 : 0 ≤ g) (h4 : g ≤ 4) : gvB [g] = true :=
  gvB_iff.2 ⟨by simp, asc_short (by simp), fun x hx => by
    obtain rfl : x = g := by simpa using hx
    exact ⟨h0, h4⟩⟩

/-- What holds of a set and is kept by each step. -/
theorem round_ind {sets : List (List Int)} (hs : ∀ s ∈ sets, gvB s = true) (P : List Int → Prop) (hstep : ∀ L s, gvB L = true → s ∈ sets → P L → P (stepL L s)) :
    ∀ L, gvB L = true → P L → gvB (roundL sets L) = true ∧ P (roundL sets L) := by
  have go : ∀ (r : List (List Int)), (∀ s ∈ r, s ∈ sets) → ∀ L, gvB L = true → P L → gvB (r.foldl stepL L) = true ∧ P (r.foldl stepL L) := by
    intro r
    induction r with
    | nil => intro _ L h p; exact ⟨h, p⟩
    | cons s r ih =>
      intro hr L h p
      have hm := hr s (by simp)
      exact ih (fun t m => hr t (by simp [m])) (stepL L s) (step_gv h (hs s hm)) (hstep L s h hm p)
  exact go sets (fun s m => m)
theorem linkN_ind {sets : List (List Int)} (hs : ∀ s ∈ sets, gvB s = true) (P : List Int → Prop) (hstep : ∀ L s, gvB L = true → s ∈ sets → P L → P (stepL L s)) :
    ∀ n L, gvB L = true → P L → gvB (linkN sets n L) = true ∧ P (linkN sets n L) := by
  intro n
  induction n with
  | zero => intro L h p; exact ⟨h, p⟩
  | succ n ih =>
    intro L h p
    obtain ⟨h1, h2⟩ := round_ind hs P hstep L h p
    exact ih _ h1 h2
/-- A round that adds nothing finds each set in order. -/
theorem round_grow : ∀ (r : List (List Int)), (∀ s ∈ r, gvB s = true) → ∀ L, gvB L = true → gvB (r.foldl stepL L) = true ∧ (∀ x ∈ L, x ∈ r.foldl stepL L) ∧ (r.foldl stepL L = L → ∀ s ∈ r, stepL L s = L) := by
  intro r
  induction r with
  | nil => intro _ L h; exact ⟨h, fun x m => m, fun _ s m => by cases m⟩
  | cons s r ih =>
    intro hr L h
    have hs := hr s (by simp)
    have g1 := step_gv h hs
    obtain ⟨a, b, c⟩ := ih (fun t m => hr t (by simp [m])) (stepL L s) g1
    have hsub : ∀ x ∈ L, x ∈ stepL L s := fun x m => (step_mem h hs).2 (.inl m)
    refine ⟨a, fun x m => b x (hsub x m), fun e => ?_⟩
    have e' : r.foldl stepL (stepL L s) = L := e
    have e1 : stepL L s = L := (gv_sub_eq h g1 hsub (by
      have := gv_sub_le g1 h (fun x m => by
        have hb := b x m
        rw [e'] at hb
        exact hb)
      exact this)).symm
    rw [e1] at c e'
    intro t m
    rcases List.mem_cons.1 m with rfl | m
    · exact e1
    · exact c e' t m
/-- Whatever meets a closed set lies in it. -/
def ClosedP (sets : List (List Int)) (C : Int → Prop) : Prop := ∀ s ∈ sets, (∃ x, x ∈ s ∧ C x) → ∀ y ∈ s, C y
theorem stable_closed {sets : List (List Int)} (hs : ∀ s ∈ sets, gvB s = true) {L : List Int} (h : gvB L = true) (hst : ∀ s ∈ sets, stepL L s = L) : ClosedP sets (· ∈ L) := by
  intro s m ⟨x, x1, x2⟩ y hy
  rw [← hst s m]
  exact (step_mem h (hs s m)).2 (.inr ⟨hy, x, x2, x1⟩)
theorem linkN_stable {sets : List (List Int)} (hs : ∀ s ∈ sets, gvB s = true) {L : List Int} (h : gvB L = true) : ∀ n, gvB (linkN sets n L) = true ∧ ((∀ s ∈ sets, stepL (linkN sets n L) s = linkN sets n L) ∨ L.length + n ≤ (linkN sets n L).length) := by
  intro n
  induction n with
  | zero => exact ⟨h, .inr (Nat.le_refl _)⟩
  | succ n ih =>
    obtain ⟨g1, d⟩ := ih
    obtain ⟨a, b, c⟩ := round_grow sets hs (linkN sets n L) g1
    rw [linkN_succ]
    refine ⟨a, ?_⟩
    have hl := gv_sub_le g1 a b
    by_cases e : sets.foldl stepL (linkN sets n L) = linkN sets n L
    · left
      have e' : roundL sets (linkN sets n L) = linkN sets n L := e
      rw [e']
      exact c e
    · rcases d with d | d
      · exfalso
        apply e
        have : ∀ (r : List (List Int)), (∀ s ∈ r, s ∈ sets) → r.foldl stepL (linkN sets n L) = linkN sets n L := by
          intro r
          induction r with
          | nil => intro _; rfl
          | cons s r ihr =>
            intro hr
            rw [List.foldl_cons, d s (hr s (by simp))]
            exact ihr fun t m => hr t (by simp [m])
        exact this sets fun s m => m
      · right
        have : (linkN sets n L).length ≠ (roundL sets (linkN sets n L)).length := fun he => e (gv_sub_eq g1 a b (by unfold roundL at he; omega)).symm
        unfold roundL at this ⊢
        omega
/-- The linked groups: closed, with the group, and in every closed set with the group. -/
structure IsLink (sets : List (List Int)) (g : Int) (L : List Int) : Prop where
  valid : gvB L = true
  mem : g ∈ L
  closed : ClosedP sets (· ∈ L)
  least : ∀ C : Int → Prop, C g → ClosedP sets C → ∀ x ∈ L, C x
  reason : ∀ x ∈ L, x = g ∨ ∃ s ∈ sets, x ∈ s ∧ ∀ y ∈ s, y ∈ L
theorem link_is {sets : List (List Int)} {g : Int} (h : setsB sets g = true) : IsLink sets g (linkB sets g) := by
  obtain ⟨hs, hl, h0, h4⟩ := setsB_iff.1 h
  have g1 := one_gv h0 h4
  rw [link_yes h]
  obtain ⟨a, d⟩ := linkN_stable hs g1 5
  have hst : ∀ s ∈ sets, stepL (linkN sets 5 [g]) s = linkN sets 5 [g] := by
    rcases d with d | d
    · exact d
    · have := gv_le a
      simp at d
      omega
  refine ⟨a, ?_, stable_closed hs a hst, fun C hC hcl => ?_, ?_⟩
  · exact (linkN_ind hs (fun L => g ∈ L) (fun L s hL m p => (step_mem hL (hs s m)).2 (.inl p)) 5 [g] g1 (by simp)).2
  · refine (linkN_ind hs (fun L => ∀ x ∈ L, C x) (fun L s hL m p x hx => ?_) 5 [g] g1 (fun x hx => ?_)).2
    · rcases (step_mem hL (hs s m)).1 hx with hx | ⟨hx, y, y1, y2⟩
      · exact p x hx
      · exact hcl s m ⟨y, y2, p y y1⟩ x hx
    · obtain rfl : x = g := by simpa using hx
      exact hC
  · refine (linkN_ind hs (fun L => ∀ x ∈ L, x = g ∨ ∃ s ∈ sets, x ∈ s ∧ ∀ y ∈ s, y ∈ L) (fun L s hL m p x hx => ?_) 5 [g] g1 (fun x hx => ?_)).2
    · have hsub : ∀ y ∈ L, y ∈ stepL L s := fun y my => (step_mem hL (hs s m)).2 (.inl my)
      rcases (step_mem hL (hs s m)).1 hx with hx | ⟨hx, y, y1, y2⟩
      · rcases p x hx with e | ⟨t, t1, t2, t3⟩
        · exact .inl e
        · exact .inr ⟨t, t1, t2, fun y my => hsub y (t3 y my)⟩
      · exact .inr ⟨s, m, hx, fun z mz => (step_mem hL (hs s m)).2 (.inr ⟨mz, y, y1, y2⟩)⟩
    · exact .inl (by simpa using hx)
theorem link_sub {sets : List (List Int)} {g h : Int} {L M : List Int} (a : IsLink sets g L) (b : IsLink sets h M) (m : h ∈ L) : ∀ x ∈ M, x ∈ L := b.least (· ∈ L) m a.closed
/-- Linked groups have the same linked groups. -/
theorem link_same {sets : List (List Int)} {g h : Int} {L M : List Int} (a : IsLink sets g L) (b : IsLink sets h M) (m : h ∈ L) : M = L := by
  have hg : g ∈ M := by
    apply Classical.byContradiction
    intro hn
    refine a.least (fun x => x ∉ M) hn (fun s ms ⟨x, x1, x2⟩ y hy hyM => x2 (b.closed s ms ⟨y, hy, hyM⟩ x x1)) h m b.mem
  exact pair_ext (asc_pair (gvB_iff.1 b.valid).2.1) (asc_pair (gvB_iff.1 a.valid).2.1) fun z => ⟨link_sub a b m z, link_sub b a hg z⟩
/-- More sets link no fewer groups. -/
theorem link_more {sets sets' : List (List Int)} {g : Int} {L M : List Int} (a : IsLink sets g L) (b : IsLink sets' g M) (h : ∀ s ∈ sets, s ∈ sets') : ∀ x ∈ L, x ∈ M :=
  a.least (· ∈ M) b.mem fun s m => b.closed s (h s m)
theorem com_sub_len {a b : List Int} (h : gvB a = true) (k : gvB b = true) (hs : ∀ x ∈ a, x ∈ b) : (comL a b).length = a.length := by
  have : comL a b = a := by
    refine pair_ext ?_ (asc_pair (gvB_iff.1 h).2.1) fun z => by rw [com_mem h k]; exact ⟨fun m => m.1, fun m => ⟨m, hs z m⟩⟩
    rw [com_yes h k]
    exact pickL_pair _
  rw [this]
theorem com_sub_len' {a b : List Int} (h : gvB a = true) (k : gvB b = true) (hs : ∀ x ∈ b, x ∈ a) : (comL a b).length = b.length := by
  rw [com_comm]
  exact com_sub_len k h hs
/-- A set that meets the linked groups is among them. -/
theorem link_meet {sets : List (List Int)} {g : Int} {L s : List Int} (a : IsLink sets g L) (hs : gvB s = true) (m : s ∈ sets) (h : 0 < (comL L s).length) : (comL L s).length = s.length := by
  have hm := List.getElem_mem h
  rw [com_mem a.valid hs] at hm
  exact com_sub_len' a.valid hs fun y hy => a.closed s m ⟨_, hm.2, hm.1⟩ y hy
/-- A group that is linked only with itself is in no set with others. -/
theorem link_alone {sets : List (List Int)} {g : Int} {L s : List Int} (a : IsLink sets g L) (hl : L.length = 1) (hs : gvB s = true) (m : s ∈ sets) (hg : g ∈ s) : s.length = 1 := by
  have h1 := gv_sub_le hs a.valid fun y hy => a.closed s m ⟨g, hg, a.mem⟩ y hy
  have := (gvB_iff.1 hs).1
  omega
end Go.Proofs.Ytbdboekjcgefhaa
