/- Memory words: rows that are appended one by one; the draws of sets of groups. -/
import Derived.Test.YtbdboekjcgefhaaRb
namespace Go.Proofs.Ytbdboekjcgefhaa
set_option linter.unusedVariables false
open Go.RowKit

/-- The slice value v, made from block B on, holds these rows, each made from B on. -/
structure RV (w : World) (B : Nat) (v : Value) (n : Nat) (hs : List Hnd) : Prop where
  outer : w.ownsRow B 24 1 v n (hs.map hv)
  row : ∀ h ∈ hs, IS w B h.A h.xs.length h.c h.xs
section
variable {w w' : World} {B n : Nat} {v : Value} {hs : List Hnd}
theorem RV.len (h : RV w B v n hs) : hs.length = n := by
  have := h.outer.1
  simpa using this
theorem RV.open_ (h : RV w B v n hs) : ∃ A c, v = .slice A n c := by
  rcases h.outer.2 with ⟨hv, hn⟩ | ⟨g, cap, cur, hv, _⟩
  · subst hv hn
    exact ⟨none, 0, rfl⟩
  · exact ⟨_, _, hv⟩
theorem RV.rr {A : Option Addr} {c : Nat} (h : RV w B (.slice A n c) n hs) : RR w A hs := ⟨Rd.own h.outer, fun k hk => (h.row k hk).rd⟩
theorem RV.grown {row : Option Nat} (h : RV w B v n hs) (hg : w.grownBy w' row) (hne : ∀ k, row = some k → k < B) : RV w' B v n hs := by
  refine ⟨World.ownsRow.kept h.outer hg ?_, fun k hk => (h.row k hk).grown hg fun j e => (h.row k hk).off_below (hne j e)⟩
  cases e : v.ownBlock with
  | none => exact .inl rfl
  | some k =>
    refine .inr fun e2 => ?_
    have := hne k e2.symm
    have := (World.ownsRow.lt h.outer k e).1
    omega
theorem RV.below (h : RV w B v n hs) (hb : Below w.heap.size w w') : RV w' B v n hs :=
  h.grown (row := none) ⟨hb.os, hb.tape, hb.output, hb.size, fun i hi _ => hb.block i hi⟩ (fun k e => by cases e)
theorem RV.alloc (h : RV w B v n hs) (o : Obj) : RV (w.alloc o) B v n hs := h.below ((Below.refl _ _).alloc (Nat.le_refl _) o)
theorem RV.mono {B' : Nat} (h : RV w B v n hs) (hB : B' ≤ B) : RV w B' v n hs := by
  refine ⟨⟨h.outer.1, ?_⟩, fun k hk => (h.row k hk).mono hB⟩
  rcases h.outer.2 with h2 | ⟨g, cap, cur, hv, hb, hr⟩
  · exact .inl h2
  · exact .inr ⟨g, cap, cur, hv, by omega, hr⟩
theorem RV.pkb {wx : World} {g : Nat} (h : RV w B v n hs) (hb : Below w.heap.size w wx) (hg : wx.grownBy w' (some g)) (hB : g < B) : RV w' B v n hs := (h.below hb).grown hg (fun k e => by cases e; exact hB)
theorem RV.start (w : World) : RV (w.alloc (.cells #[] 24)) w.heap.size (.slice (some ⟨w.heap.size, 0, none⟩) 0 0) 0 [] :=
  ⟨⟨rfl, .inr ⟨w.heap.size, 0, #[], rfl, Nat.le_refl _, Box.new w _ _, Nat.le_refl _, Nat.zero_le _, by simp, by simp⟩⟩, fun k hk => by cases hk⟩
/-- Its blocks lie below K. -/
def RLt (v : Value) (hs : List Hnd) (K : Nat) : Prop := (∀ k, v.ownBlock = some k → k < K) ∧ ∀ h ∈ hs, ∀ a, h.A = some a → a.block < K
theorem RV.bound (h : RV w B v n hs) : RLt v hs w.heap.size := ⟨fun k e => (World.ownsRow.lt h.outer k e).2, fun r hr a e => ((h.row r hr).lt a e).2⟩
/-- What turns a block from K on does not turn it. -/
theorem RV.past {row : Option Nat} {K : Nat} (h : RV w B v n hs) (hl : RLt v hs K) (hg : w.grownBy w' row) (hk : ∀ k, row = some k → K ≤ k) : RV w' B v n hs := by
  refine ⟨World.ownsRow.kept h.outer hg ?_, fun r hr => (h.row r hr).grown hg fun j e a ea hab => by
    have h1 := hk j e
    have h2 := hl.2 r hr a ea
    omega⟩
  cases e : v.ownBlock with
  | none => exact .inl rfl
  | some k =>
    refine .inr fun e2 => ?_
    have h1 := hk k e2.symm
    have h2 := hl.1 k e
    omega
/-- A row's block is not the block of an outer slice: they hold cells of other types. -/
theorem IS.not_outer {B' m sz : Nat} {ys : List Value} {n' c : Nat} {A : Option Addr} {xs : List Int} (h : IS w B A n' c xs) (o : w.ownsRow B' 24 sz v m ys) : ∀ k, v.ownBlock = some k → Off A k := by
  intro k hk a ha hak
  subst ha
  rcases o.2 with ⟨hv, _⟩ | ⟨g, cap, cur, hv, _, hg, _⟩
  · rw [hv] at hk
    cases hk
  · rw [hv] at hk
    have hk : g = k := by simpa [Value.ownBlock] using hk
    rcases h.2 with ⟨hv', _⟩ | ⟨g', cap', cur', hv', _, hg', _⟩
    · injection hv' with e1
      cases e1
    · injection hv' with e1 e2 e3
      injection e1 with e1
      subst e1
      have e4 : g' = k := hak
      rw [e4, ← hk, hg] at hg'
      simp at hg'
end

theorem wpList_append_RV {ops : Array Oper} {rest : List Oper} {o : Oper} {a : Act} {Q : Exit → Act → World → Prop} {w : World} (A1 : Option Addr) (n1 c1 : Nat) (xs1 : List Int) (hgd : o.guard = none) (s z : Operand)
    (ho : o.op = .call { callee := .builtin .append, args := #[s, z], argTypes := #[22, 22] })
    {B n g : Nat} {v : Value} {hs : List Hnd}
    (hs0 : a.eval s = v) (h : RV w B v n hs) (h1 : IS w B A1 n1 c1 xs1) (hx : a.eval z = .slice (some ⟨g, 0, none⟩) 1 1) (hg : w.cell? ⟨g, 0, none⟩ = some (.slice A1 n1 c1)) (hn : n ≤ 1000000) (hB : B ≤ w.heap.size)
    (k : ∀ v' w', RV w' B v' (n + 1) (hs ++ [⟨A1, c1, xs1⟩]) → Below B w w' → w.grownBy w' v.ownBlock → wpList Try.prog ops Q rest (a.put o.dst v') w') : wpList Try.prog ops Q (o :: rest) a w := by
  obtain ⟨i0, hi, hz0, hz1, hz2⟩ := info_parts infoRow
  have hl1 := h1.len
  subst hl1
  refine wpList_append_own _ hgd s z 22 ho B 24 i0 (.slice none 0 0) 1 24 Try.underlying22 hi hz0 hz1 hz2 rfl (by decide) _ n (hs.map hv) hs0 h.outer ⟨g, 0, none⟩ 1 1 [.slice A1 xs1.length c1] hx rfl ?_ ?_ (by unfold maxLen; omega) (by omega) hB ?_
  · intro j u hj
    match j, hj with
    | 0, hj =>
      simp at hj
      subst hj
      simpa [Addr.add] using hg
  · intro u hu
    simp at hu
    subst hu
    rfl
  · intro v' w' e1 e2 _
    refine k v' w' ⟨?_, fun r hr => ?_⟩ ((Below.refl _ _).grown e2 hB (fun g' e => (World.ownsRow.lt h.outer g' e).1)) e2
    · rw [List.map_append]
      exact e1
    · rcases List.mem_append.1 hr with hr | hr
      · exact (h.row r hr).grown e2 ((h.row r hr).not_outer h.outer)
      · obtain rfl : r = ⟨A1, c1, xs1⟩ := by simpa using hr
        exact h1.grown e2 (h1.not_outer h.outer)

/-- Drawn sets. -/
def DrewRs (w : World) (g M : Nat) (e : Ending) (w' : World) : Prop :=
  ∃ (hs : List Hnd) (A : Option Addr) (c : Nat), e = .returned (.slice A hs.length c) ∧ hs.length ≤ 13 ∧ (∀ h ∈ hs, h.xs.length ≤ 6) ∧ RV w' w.heap.size (.slice A hs.length c) hs.length hs ∧ Dr w g M w'
theorem rs_snoc {hs : List Hnd} {h : Hnd} (k : ∀ h ∈ hs, h.xs.length ≤ 6) (h1 : h.xs.length ≤ 6) : ∀ h' ∈ hs ++ [h], h'.xs.length ≤ 6 := by
  intro r hr
  rcases List.mem_append.1 hr with hr | hr
  · exact k r hr
  · obtain rfl : r = h := by simpa using hr
    exact h1
end Go.Proofs.Ytbdboekjcgefhaa
