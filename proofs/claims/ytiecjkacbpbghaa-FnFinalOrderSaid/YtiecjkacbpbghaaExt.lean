/- A region that draws its order, whose operations read old memory and whose callees may make memory of their own: one walk in the order of the text, in whatever world is the old one with more behind it. -/
import Derived.Test.YtiecjkacbpbghaaMem
import Derived.BigQuiet
namespace Go.Proofs.Ytiecjkacbpbghaa
set_option linter.unusedVariables false
open Go.RowKit

/-- A world that is w with more behind it. -/
structure Ext (w : World) where
  at_ : World
  below : Below w.heap.size w at_
instance (w : World) : Nonempty (Ext w) := ⟨⟨w, Below.refl _ _⟩⟩

theorem Ext.cell {w : World} (n : Ext w) {a : Addr} (h : a.block < w.heap.size) : n.at_.cell? a = w.cell? a := n.below.cell h
theorem Ext.cell' {w : World} (n : Ext w) {b o : Nat} (h : b < w.heap.size) : n.at_.cell? ⟨b, o, none⟩ = w.cell? ⟨b, o, none⟩ := n.below.cell (p := ⟨b, o, none⟩) h
/-- What the walk of such a region wants to know of old cells. -/
theorem ext_cells (w : World) : ∀ (n : Ext w) (b o : Nat), b < w.heap.size → n.at_.cell? ⟨b, o, none⟩ = w.cell? ⟨b, o, none⟩ := fun n _ _ h => n.cell' h
theorem ext_at {w : World} {a : Addr} {v : Value} (h : w.cell? a = some v) : ∀ n : Ext w, n.at_.cell? a = some v := fun n => (n.cell (World.block_lt_of_cell? w _ h)).trans h
theorem Rd.ext {w : World} {B : Nat} {A : Option Addr} {cs : List Value} (h : Rd w B A cs) (n : Ext w) : Rd n.at_ n.at_.heap.size A cs := (h.low.below n.below).low

/-- A callee's contract in such a world. -/
theorem ext_call {P : Program} {f : FuncId} {args : Array Value} {w : World} {n : Ext w} {v : Value} (h : Calls P f args n.at_ fun e w' => e = .returned v ∧ Below n.at_.heap.size n.at_ w') :
    Calls P f args n.at_ fun e w'' => e = .returned v ∧ ∃ m : Ext w, w'' = m.at_ :=
  h.mono fun _ _ ⟨he, hb⟩ => ⟨he, ⟨_, bt n.below hb⟩, rfl⟩
theorem ext_call_same {P : Program} {f : FuncId} {args : Array Value} {w : World} {n : Ext w} {v : Value} (h : Calls P f args n.at_ fun e w' => e = .returned v ∧ n.at_ = w') :
    Calls P f args n.at_ fun e w'' => e = .returned v ∧ ∃ m : Ext w, w'' = m.at_ :=
  h.mono fun _ _ ⟨he, hb⟩ => ⟨he, n, hb.symm⟩

theorem wp_region_ext {P : Program} {id : Nat} {Q : Exit → Act → World → Prop} {a : Act} {W w : World} {l : List Oper} (h0 : Below W.heap.size W w) (hm : P.follows .mixedOrders = true) (hB : Region.lexB .any l.toArray = true)
    (h : (∀ (n : Ext w) (b o : Nat), b < W.heap.size → n.at_.cell? ⟨b, o, none⟩ = W.cell? ⟨b, o, none⟩) → (∀ (n : Ext w) (b o : Nat), b < w.heap.size → n.at_.cell? ⟨b, o, none⟩ = w.cell? ⟨b, o, none⟩) →
      wpQuiet P l.toArray (fun w' => ∃ n : Ext w, w' = n.at_) (fun a' => ∀ w', (∃ n : Ext w, w' = n.at_) → Q .normal a' w') l a) : (Code.region id l.toArray true).wp P Q a w :=
  wp_region_quiet (C := fun w' => ∃ n : Ext w, w' = n.at_) hm hB ⟨⟨w.drew, (Below.refl _ _).drew⟩, rfl⟩
    (by simpa using h (fun n b o hb => (n.cell' (Nat.lt_of_lt_of_le hb h0.size)).trans (h0.cell (p := ⟨b, o, none⟩) hb)) (ext_cells w))
end Go.Proofs.Ytiecjkacbpbghaa
