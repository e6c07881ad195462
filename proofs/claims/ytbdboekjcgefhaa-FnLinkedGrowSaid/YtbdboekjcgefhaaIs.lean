/- Memory words: a slice of ints that the call made itself, at whatever capacity. -/
import Derived.Test.YtbdboekjcgefhaaRows
import Derived.Test.YtbdboekjcgefhaaExt
import Derived.Test.YtbdboekjcgefhaaMem3
namespace Go.Proofs.Ytbdboekjcgefhaa
set_option linter.unusedVariables false
open Go.RowKit

/-- The slice (A, n, c), made from block B on, reads as the ints xs. -/
def IS (w : World) (B : Nat) (A : Option Addr) (n c : Nat) (xs : List Int) : Prop :=
  w.ownsRow B 3 1 (.slice A n c) n (xs.map (Value.int .i64))

/-- The same of a slice whose value has a name. -/
def IV (w : World) (B : Nat) (v : Value) (n : Nat) (xs : List Int) : Prop := w.ownsRow B 3 1 v n (xs.map (Value.int .i64))
theorem IS.iv {w : World} {B n c : Nat} {A : Option Addr} {xs : List Int} (h : IS w B A n c xs) : IV w B (.slice A n c) n xs := h
theorem IV.open_ {w : World} {B n : Nat} {v : Value} {xs : List Int} (h : IV w B v n xs) : ∃ A c, v = .slice A n c ∧ IS w B A n c xs := by
  have h0 := h
  rcases h.2 with ⟨hv, hn⟩ | ⟨g, cap, cur, hv, _⟩
  · subst hv hn
    exact ⟨none, 0, rfl, h0⟩
  · subst hv
    exact ⟨_, _, rfl, h0⟩

/-- Block k is not the slice's. -/
def Off (A : Option Addr) (k : Nat) : Prop := ∀ a, A = some a → a.block ≠ k

section
variable {w w' : World} {B n c : Nat} {A : Option Addr} {xs : List Int}

theorem IS.len (h : IS w B A n c xs) : xs.length = n := by
  have := h.1
  simpa using this
theorem IS.rd (h : IS w B A n c xs) : Rd w w.heap.size A (xs.map (Value.int .i64)) := Rd.own h
theorem IS.cap (h : IS w B A n c xs) : n ≤ c ∧ c ≤ maxLen := by
  rcases h.2 with ⟨hv, h0⟩ | ⟨g, cap, cur, hv, hb, hg, h1, h2, _⟩
  · injection hv with e1 e2 e3
    subst e1 e2 e3
    exact ⟨Nat.le_refl _, Nat.zero_le _⟩
  · injection hv with e1 e2 e3
    subst e1 e3
    exact ⟨h1, h2⟩
theorem IS.nil (w : World) (B : Nat) : IS w B none 0 0 [] := World.ownsRow_nil w B _ 1
theorem IS.lt (h : IS w B A n c xs) : ∀ a, A = some a → B ≤ a.block ∧ a.block < w.heap.size := fun a e => by
  subst e
  exact World.ownsRow.lt h a.block rfl
theorem IS.grown {row : Option Nat} (h : IS w B A n c xs) (hg : w.grownBy w' row) (hne : ∀ k, row = some k → Off A k) : IS w' B A n c xs := by
  refine World.ownsRow.kept h hg ?_
  cases A with
  | none => exact .inl rfl
  | some a =>
    refine .inr fun e => ?_
    exact hne a.block e.symm a rfl rfl
theorem IS.below (h : IS w B A n c xs) (hb : Below w.heap.size w w') : IS w' B A n c xs :=
  h.grown (row := none) ⟨hb.os, hb.tape, hb.output, hb.size, fun i hi _ => hb.block i hi⟩ (fun k e => by cases e)
theorem IS.mono {B' : Nat} (h : IS w B A n c xs) (hB : B' ≤ B) : IS w B' A n c xs := by
  refine ⟨h.1, ?_⟩
  rcases h.2 with h2 | ⟨g, cap, cur, hv, hb, hr⟩
  · exact .inl h2
  · exact .inr ⟨g, cap, cur, hv, by omega, hr⟩
theorem IS.alloc (h : IS w B A n c xs) (o : Obj) : IS (w.alloc o) B A n c xs := h.below ((Below.refl _ _).alloc (Nat.le_refl _) o)
theorem IS.drew (h : IS w B A n c xs) : IS w.drew B A n c xs := h
/-- A store into another block. -/
theorem IS.far (h : IS w B A n c xs) {p : Addr} (hp : Off A p.block) (u : Value) : IS (w.setCell p u) B A n c xs :=
  h.grown (row := some p.block) ⟨rfl, rfl, rfl, by simp [World.setCell], fun i hi hne => Below.heap_setCell w _ _ i (fun e => hne (by rw [e]))⟩ (fun k e => by cases e; exact hp)
theorem IS.off_below (h : IS w B A n c xs) {k : Nat} (hk : k < B) : Off A k := fun a e => by have := (h.lt a e).1; omega
theorem IS.off_above (h : IS w B A n c xs) {k : Nat} (hk : w.heap.size ≤ k) : Off A k := fun a e => by have := (h.lt a e).2; omega
/-- Its block lies from B on, and below K. -/
theorem IS.off_of (h : IS w B A n c xs) {k : Nat} {A' : Option Addr} (hk : ∀ a, A' = some a → a.block < B) : ∀ b, A' = some b → Off A b.block := fun b e => h.off_below (hk b e)

/-- A block that is known whole: its first n cells. -/
theorem IS.box {g : Nat} {cs : Array Value} (h : Box w g 3 cs) (hB : B ≤ g) (hn : n ≤ c) (hc : c ≤ maxLen) (hs : cs.size = c) (hx : cs.toList.take n = xs.map (Value.int .i64)) : IS w B (some ⟨g, 0, none⟩) n c xs := by
  refine ⟨?_, .inr ⟨g, c, cs, rfl, hB, h, hn, hc, by omega, by simpa using hx⟩⟩
  rw [← hx, List.length_take]
  simp
  omega
theorem IS.full {g : Nat} (h : Box w g 3 (xs.map (Value.int .i64)).toArray) (hB : B ≤ g) (hc : xs.length ≤ maxLen) : IS w B (some ⟨g, 0, none⟩) xs.length xs.length xs :=
  IS.box h hB (Nat.le_refl _) hc (by simp) (by rw [List.take_of_length_le (by simp)])

/-- Its cells, one by one: the block is at hand where the slice is not empty. -/
theorem IS.at_ (h : IS w B A n c xs) (hn : 0 < n) : ∃ g, A = some ⟨g, 0, none⟩ ∧ B ≤ g ∧ g < w.heap.size ∧ ∀ j x, xs[j]? = some x → w.cell? ⟨g, j, none⟩ = some (.int .i64 x) := by
  have hl := h.lt
  rcases h.2 with ⟨hv, h0⟩ | ⟨g, cap, cur, hv, hb, hg, h1, h2, _⟩
  · omega
  · injection hv with e1 e2 e3
    subst e1 e3
    refine ⟨g, rfl, hb, (hl _ rfl).2, fun j x hx => ?_⟩
    have hj := (List.getElem?_eq_some_iff.1 hx).1
    have hln := h.len
    have := World.ownsRow.cellAt h j (by omega)
    rw [this, List.getElem?_map, hx]
    rfl
theorem IS.frozen {g : Nat} (h : IS w B (some ⟨g, 0, none⟩) n c xs) (j : Nat) : w.frozen? ⟨g, j, none⟩ = false := World.ownsRow.frozenAt h j
theorem IS.set {g j : Nat} (h : IS w B (some ⟨g, 0, none⟩) n c xs) (x : Int) : IS (w.setCell ⟨g, j, none⟩ (.int .i64 x)) B (some ⟨g, 0, none⟩) n c (xs.set j x) := by
  have := (World.ownsRow.stored h j (.int .i64 x)).1
  unfold IS
  rw [List.map_set]
  exact this
/-- Its block lies below B', and below B' nothing has turned. -/
theorem IS.below_of {B' : Nat} (h : IS w B A n c xs) (hl : ∀ a, A = some a → a.block < B') (hb : Below B' w w') : IS w' B A n c xs := by
  refine ⟨h.1, ?_⟩
  rcases h.2 with h2 | ⟨g, cap, cur, hv, hg, hh, r⟩
  · exact .inl h2
  · refine .inr ⟨g, cap, cur, hv, hg, (hb.block g ?_).trans hh, r⟩
    injection hv with e1 e2 e3
    exact hl _ e1
theorem IV.below {v : Value} (h : IV w B v n xs) (hb : Below w.heap.size w w') : IV w' B v n xs := by
  obtain ⟨A, c, rfl, S⟩ := h.open_
  exact S.below hb
theorem IV.alloc {v : Value} (h : IV w B v n xs) (o : Obj) : IV (w.alloc o) B v n xs := h.below ((Below.refl _ _).alloc (Nat.le_refl _) o)
theorem IV.len {v : Value} (h : IV w B v n xs) : xs.length = n := by
  obtain ⟨A, c, rfl, S⟩ := h.open_
  exact S.len
end
end Go.Proofs.Ytbdboekjcgefhaa
