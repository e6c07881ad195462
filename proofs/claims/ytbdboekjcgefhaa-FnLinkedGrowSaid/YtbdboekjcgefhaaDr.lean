/- Memory words: a draw's world: the reader in block g, and new blocks. -/
import Derived.Test.YtbdboekjcgefhaaDraw
import Derived.Test.YtbdboekjcgefhaaAp
namespace Go.Proofs.Ytbdboekjcgefhaa
set_option linter.unusedVariables false
open Go.RowKit

/-- Since w only the reader's block g has turned; it has read at most M times. -/
def Dr (w : World) (g M : Nat) (wx : World) : Prop := Rdr wx g M ∧ w.grownBy wx (some g) ∧ g < w.heap.size
theorem Dr.start {w : World} {g M : Nat} (h : Rdr w g M) : Dr w g M w := ⟨h, World.grownBy.refl _ _, h.lt⟩
theorem Dr.more {w wx : World} {g M M' : Nat} (h : Dr w g M wx) (hm : M ≤ M') : Dr w g M' wx := ⟨h.1.more hm, h.2⟩
theorem Dr.size {w wx : World} {g M : Nat} (h : Dr w g M wx) : w.heap.size ≤ wx.heap.size := h.2.1.size
theorem Dr.lt {w wx : World} {g M : Nat} (h : Dr w g M wx) : g < w.heap.size := h.2.2
theorem Dr.alloc {w wx : World} {g M : Nat} (h : Dr w g M wx) (o : Obj) : Dr w g M (wx.alloc o) :=
  ⟨h.1.alloc o, grown_trans h.2.1 (World.grownBy_alloc wx o _), h.2.2⟩
theorem Dr.drew {w wx : World} {g M : Nat} (h : Dr w g M wx) : Dr w g M wx.drew := ⟨h.1, ⟨h.2.1.os, h.2.1.tape, h.2.1.output, h.2.1.size, h.2.1.block⟩, h.2.2⟩
theorem Dr.set {w wx : World} {g M : Nat} (h : Dr w g M wx) {p : Addr} (hp : w.heap.size ≤ p.block) (u : Value) : Dr w g M (wx.setCell p u) :=
  ⟨h.1.far (Nat.lt_of_lt_of_le h.2.2 hp) u, ⟨h.2.1.os, h.2.1.tape, h.2.1.output, by simpa [World.setCell] using h.2.1.size, fun i hi hne => (Below.heap_setCell wx _ _ i (by omega)).trans (h.2.1.block i hi hne)⟩, h.2.2⟩
/-- New memory from w's size on. -/
theorem Dr.below {w wx w' : World} {g M B : Nat} (h : Dr w g M wx) (hb : Below B wx w') (hB : w.heap.size ≤ B) (hB' : B ≤ wx.heap.size) : Dr w g M w' := by
  have hlt := h.2.2
  refine ⟨?_, ⟨hb.os.trans h.2.1.os, hb.tape.trans h.2.1.tape, hb.output.trans h.2.1.output, Nat.le_trans h.2.1.size hb.size, fun i hi hne => (hb.block i (by omega)).trans (h.2.1.block i hi hne)⟩, hlt⟩
  obtain ⟨A, bs, c, p, h1, h2, h3, h4, h5⟩ := h.1
  exact ⟨A, bs, c, p, (hb.block g (by omega)).trans h1, h2.below (hb.mono (by omega)), h3, h4, h5⟩
theorem Dr.trans {w wx w' : World} {g M M' : Nat} (h : Dr w g M wx) (k : Dr wx g M' w') : Dr w g M' w' := ⟨k.1, grown_trans h.2.1 k.2.1, h.2.2⟩
theorem Dr.step {w wx w' : World} {g M M' : Nat} (h : Dr w g M wx) (hR : Rdr w' g M') (hg : wx.grownBy w' (some g)) : Dr w g M' w' := ⟨hR, grown_trans h.2.1 hg, h.2.2⟩

theorem IS.pk {w w' : World} {B n c g : Nat} {A : Option Addr} {xs : List Int} (h : IS w B A n c xs) (hg : w.grownBy w' (some g)) (hB : g < B) : IS w' B A n c xs :=
  h.grown hg fun k e => by cases e; exact h.off_below hB
theorem IV.pk {w w' : World} {B n g : Nat} {v : Value} {xs : List Int} (h : IV w B v n xs) (hg : w.grownBy w' (some g)) (hB : g < B) : IV w' B v n xs := by
  obtain ⟨A, c, rfl, S⟩ := h.open_
  exact S.pk hg hB
theorem Box.pk {w w' : World} {b g : Nat} {t : TypeId} {cs : Array Value} (h : Box w b t cs) (hg : w.grownBy w' (some g)) (hB : g < b) : Box w' b t cs := h.grown hg (by intro e; cases e; omega)

theorem IS.pkb {w wx w' : World} {B n c g : Nat} {A : Option Addr} {xs : List Int} (h : IS w B A n c xs) (hb : Below w.heap.size w wx) (hg : wx.grownBy w' (some g)) (hB : g < B) : IS w' B A n c xs := (h.below hb).pk hg hB
theorem IV.pkb {w wx w' : World} {B n g : Nat} {v : Value} {xs : List Int} (h : IV w B v n xs) (hb : Below w.heap.size w wx) (hg : wx.grownBy w' (some g)) (hB : g < B) : IV w' B v n xs := (h.below hb).pk hg hB
theorem Box.pkb {w wx w' : World} {b g : Nat} {t : TypeId} {cs : Array Value} (h : Box w b t cs) (hb : Below w.heap.size w wx) (hg : wx.grownBy w' (some g)) (hB : g < b) : Box w' b t cs := (h.below hb).pk hg hB
theorem pick_d {w wx : World} {g M : Nat} {n : Int} (h : Dr w g M wx) (hM : M ≤ 1000000) (h1 : 1 ≤ n) (hn : n ≤ 1000000) :
    Calls Try.prog 36 #[.pointer (some ⟨g, 0, none⟩), .int .i64 n] wx fun e w' => ∃ k : Int, e = .returned (.int .i64 k) ∧ 0 ≤ k ∧ k < n ∧ Dr w g (M + 1) w' ∧ wx.grownBy w' (some g) :=
  (pick_c g M n wx h.1 hM hn (by omega)).mono fun e w' ⟨k, he, h2, _, hR, hg⟩ => ⟨k, he, (h2 h1).1, (h2 h1).2, h.step hR hg, hg⟩

theorem dr_cell {w wx w' : World} {g : Nat} (hg : wx.grownBy w' (some g)) {b o : Nat} {v : Value} (h : wx.cell? ⟨b, o, none⟩ = some v) (hne : b ≠ g) : w'.cell? ⟨b, o, none⟩ = some v :=
  (World.cell?_of_block (a := ⟨b, o, none⟩) (hg.block b (World.block_lt_of_cell? wx _ h) (fun e => hne (by injection e)))).trans h
end Go.Proofs.Ytbdboekjcgefhaa
