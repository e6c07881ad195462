/- Contracts: the draws of lengths and live copies. -/
import Derived.Test.YtbdboekjcgefhaaDr
import Derived.Deep.DeepCutAuto
import Derived.Deep.RegionWith
namespace Go.Proofs.Ytbdboekjcgefhaa
set_option linter.unusedVariables false
open Go.RowKit

theorem box_pick {w : World} {b : Nat} {t : TypeId} {xs : List Int} (h : Box w b t (xs.map (Value.int .i64)).toArray) {k : Int} (h0 : 0 ≤ k) (h1 : k < xs.length) : ∃ x, x ∈ xs ∧ w.cell? ⟨b, k.toNat, none⟩ = some (.int .i64 x) := by
  have hk : k.toNat < xs.length := by omega
  refine ⟨xs[k.toNat], List.getElem_mem hk, ?_⟩
  rw [h.cell]
  simp [hk]
theorem szs_snoc {L : List Int} {x lo hi : Int} (h : ∀ y ∈ L, lo ≤ y ∧ y ≤ hi) (h0 : lo ≤ x) (h1 : x ≤ hi) : ∀ y ∈ L ++ [x], lo ≤ y ∧ y ≤ hi := by
  intro y hy
  rcases List.mem_append.1 hy with hy | hy
  · exact h y hy
  · obtain rfl : y = x := by simpa using hy
    exact ⟨h0, h1⟩

/-- Drawn ints. -/
def DrewIs (w : World) (g M n : Nat) (lo hi : Int) (e : Ending) (w' : World) : Prop :=
  ∃ (L : List Int) (A : Option Addr) (c : Nat), e = .returned (.slice A L.length c) ∧ L.length ≤ n ∧ (∀ x ∈ L, lo ≤ x ∧ x ≤ hi) ∧ IS w' w.heap.size A L.length c L ∧ Dr w g M w'

/-- Lengths drawn out of a code. -/
def DrewCI (w : World) (e : Ending) (w' : World) : Prop :=
  ∃ (L : List Int) (A : Option Addr) (c : Nat), e = .returned (.slice A L.length c) ∧ L.length ≤ 14 ∧ (∀ x ∈ L, -1 ≤ x ∧ x ≤ 100) ∧ IS w' w.heap.size A L.length c L ∧ Below w.heap.size w w'
/-- Lengths and live copies drawn out of a code. -/
def DrewCL (w : World) (e : Ending) (w' : World) : Prop :=
  ∃ (L : List Int) (A : Option Addr) (c : Nat) (Y : List Int) (A' : Option Addr) (c' : Nat), e = .returned (.tuple #[.slice A L.length c, .slice A' Y.length c']) ∧ L.length ≤ 14 ∧ (∀ x ∈ L, -1 ≤ x ∧ x ≤ 100) ∧ Y.length ≤ 20 ∧ (∀ x ∈ Y, -1 ≤ x ∧ x ≤ 100) ∧
    IS w' w.heap.size A L.length c L ∧ IS w' w.heap.size A' Y.length c' Y ∧ Below w.heap.size w w'
/-- Lengths and a length drawn out of a code. -/
def DrewCN (w : World) (e : Ending) (w' : World) : Prop :=
  ∃ (L : List Int) (A : Option Addr) (c : Nat) (n : Int), e = .returned (.tuple #[.slice A L.length c, .int .i64 n]) ∧ L.length ≤ 14 ∧ (∀ x ∈ L, -1 ≤ x ∧ x ≤ 100) ∧ -1 ≤ n ∧ n ≤ 100 ∧ IS w' w.heap.size A L.length c L ∧ Below w.heap.size w w'

end Go.Proofs.Ytbdboekjcgefhaa
