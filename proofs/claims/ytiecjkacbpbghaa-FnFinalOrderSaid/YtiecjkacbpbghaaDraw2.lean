/- Contracts: drawn hybrid times, walls, stamps. -/
import Derived.Test.YtiecjkacbpbghaaDraw
namespace Go.Proofs.Ytiecjkacbpbghaa
set_option linter.unusedVariables false
open Go.RowKit

theorem bg {G : Prop} {W w1 : World} {g : Nat} (hg : W.grownBy w1 (some g)) (b : Nat) (hlt : b < W.heap.size) (hne : b ≠ g)
    (k : b < w1.heap.size → (∀ o, w1.cell? ⟨b, o, none⟩ = W.cell? ⟨b, o, none⟩) → (∀ o, w1.frozen? ⟨b, o, none⟩ = W.frozen? ⟨b, o, none⟩) → G) : G :=
  k (Nat.lt_of_lt_of_le hlt hg.size) (fun o => World.cell?_of_block (w := W) (hg.block b hlt (fun e => hne (by injection e)))) (fun o => World.frozen?_of_block (w := W) (hg.block b hlt (fun e => hne (by injection e))))
theorem Rdr.drew {w : World} {g m : Nat} (h : Rdr w g m) : Rdr w.drew g m := h
theorem only_drew {a w : World} {row : Option Nat} (h : a.grownBy w row) : a.grownBy w.drew row := ⟨h.os, h.tape, h.output, h.size, h.block⟩
theorem only_alloc {a w : World} {row : Option Nat} (h : a.grownBy w row) (o : Obj) : a.grownBy (w.alloc o) row :=
  only_trans h ⟨rfl, rfl, rfl, by simp, fun k hk _ => Below.heap_alloc w o k hk⟩
theorem only_set {a w : World} {g : Nat} (h : a.grownBy w (some g)) {p : Addr} (hp : a.heap.size ≤ p.block) (u : Value) : a.grownBy (w.setCell p u) (some g) :=
  ⟨h.os, h.tape, h.output, by simpa [World.setCell] using h.size, fun i hi hne => (Below.heap_setCell w p u i (by omega)).trans (h.block i hi hne)⟩

/-- A drawn pair. -/
def DrawnP (g m : Nat) (w : World) (e : Ending) (w' : World) : Prop :=
  ∃ a b : Int, e = .returned (.agg #[.int .i64 a, .int .i64 b]) ∧ -1 ≤ a ∧ a ≤ 1000 ∧ -1 ≤ b ∧ b ≤ 1000 ∧ Rdr w' g m ∧ w.grownBy w' (some g)
/-- A drawn number. -/
def DrawnN (g m : Nat) (lo hi : Int) (w : World) (e : Ending) (w' : World) : Prop :=
  ∃ a : Int, e = .returned (.int .i64 a) ∧ lo ≤ a ∧ a ≤ hi ∧ Rdr w' g m ∧ w.grownBy w' (some g)

/-- One of three, one of four. -/
def tri (x y z k : Int) : Int := if k = 0 then x else if k = 1 then y else z
theorem tri_cell {W w1 : World} {b : Nat} {x y z k : Int} {t : TypeId} (hB : ∀ o, w1.cell? ⟨b, o, none⟩ = W.cell? ⟨b, o, none⟩) (h : Box W b t #[.int .i64 x, .int .i64 y, .int .i64 z]) (h0 : 0 ≤ k) (h3 : k < 3) :
    w1.cell? ⟨b, k.toNat, none⟩ = some (.int .i64 (tri x y z k)) := by
  rw [hB, h.cell]
  rcases (show k = 0 ∨ k = 1 ∨ k = 2 by omega) with rfl | rfl | rfl <;> rfl
theorem tri_bounds {x y z k lo hi : Int} (hx : lo ≤ x ∧ x ≤ hi) (hy : lo ≤ y ∧ y ≤ hi) (hz : lo ≤ z ∧ z ≤ hi) : lo ≤ tri x y z k ∧ tri x y z k ≤ hi := by
  unfold tri
  split
  · exact hx
  · split
    · exact hy
    · exact hz

end Go.Proofs.Ytiecjkacbpbghaa
