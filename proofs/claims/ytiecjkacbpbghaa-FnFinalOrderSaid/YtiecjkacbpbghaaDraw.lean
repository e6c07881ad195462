/- Contracts: the reader of a code, and what it picks. -/
import Derived.Test.YtiecjkacbpbghaaRows
import Derived.Test.YtiecjkacbpbghaaExt
import Derived.Test.YtiecjkacbpbghaaMem2
import Derived.WalkSpells
import Derived.WalkLawsBesides
import Derived.BigGuardPart
import Derived.Handy
namespace Go.Proofs.Ytiecjkacbpbghaa
set_option linter.unusedVariables false
open Go.RowKit

/-- A byte. -/
def FitB (x : Int) : Prop := 0 ≤ x ∧ x ≤ 255
theorem fitB_of_wf {x : Int} (h : (Lit.int .u8 x).wf = true) : FitB x := by
  simp [Lit.wf, IntKind.min, IntKind.max, IntKind.signed, IntKind.bits] at h
  exact ⟨by omega, by omega⟩

/-- The reader in block g: its bytes lie in a block below g; it has read at most m times. -/
def Rdr (w : World) (g : Nat) (m : Nat) : Prop := ∃ (A : Option Addr) (bs : List Int) (c p : Nat), Box w g 63 #[.slice A bs.length c, .int .i64 p] ∧ Rd w g A (bs.map (Value.int .u8)) ∧
  bs.length ≤ 2000 ∧ (∀ x ∈ bs, FitB x) ∧ p ≤ m

theorem Rdr.lt {w : World} {g m : Nat} (h : Rdr w g m) : g < w.heap.size := by
  obtain ⟨_, _, _, _, h, _⟩ := h
  exact h.lt
theorem Rdr.more {w : World} {g m m' : Nat} (h : Rdr w g m) (hm : m ≤ m') : Rdr w g m' := by
  obtain ⟨A, bs, c, p, h1, h2, h3, h4, h5⟩ := h
  exact ⟨A, bs, c, p, h1, h2, h3, h4, by omega⟩
theorem Rdr.below {w w' : World} {g m : Nat} (h : Rdr w g m) (hb : Below w.heap.size w w') : Rdr w' g m := by
  have hlt := h.lt
  obtain ⟨A, bs, c, p, h1, h2, h3, h4, h5⟩ := h
  exact ⟨A, bs, c, p, h1.below hb, h2.below (hb.mono (by omega)), h3, h4, h5⟩
theorem Rdr.alloc {w : World} {g m : Nat} (h : Rdr w g m) (o : Obj) : Rdr (w.alloc o) g m := h.below ((Below.refl _ _).alloc (Nat.le_refl _) o)
theorem Rdr.far {w : World} {g m : Nat} (h : Rdr w g m) {p : Addr} (hp : g < p.block) (u : Value) : Rdr (w.setCell p u) g m := by
  obtain ⟨A, bs, c, q, h1, h2, h3, h4, h5⟩ := h
  exact ⟨A, bs, c, q, h1.far (by omega) u, h2.setCell (by omega) u, h3, h4, h5⟩
theorem Rdr.grown {w w' : World} {g m : Nat} (h : Rdr w g m) {row : Option Nat} (hg : w.grownBy w' row) (hr : ∀ k, row = some k → g < k) : Rdr w' g m := by
  have hlt := h.lt
  obtain ⟨A, bs, c, q, h1, h2, h3, h4, h5⟩ := h
  refine ⟨A, bs, c, q, h1.grown hg (fun e => by have := hr _ e.symm; omega), h2.keep fun p hp => World.cell?_of_block (hg.block p.block (by omega) (fun e => by have := hr _ e.symm; omega)), h3, h4, h5⟩

/-- Only block g has turned, of what was there. -/
theorem only_trans {a b c : World} {row : Option Nat} (h : a.grownBy b row) (k : b.grownBy c row) : a.grownBy c row :=
  ⟨k.os.trans h.os, k.tape.trans h.tape, k.output.trans h.output, Nat.le_trans h.size k.size, fun i hi hne => (k.block i (Nat.lt_of_lt_of_le hi h.size) hne).trans (h.block i hi hne)⟩
theorem only_below {a b : World} {row : Option Nat} (h : Below a.heap.size a b) : a.grownBy b row := ⟨h.os, h.tape, h.output, h.size, fun i hi _ => h.block i hi⟩
theorem below_only {B : Nat} {a b c : World} {g : Nat} (h : Below B a b) (k : b.grownBy c (some g)) (hB : B ≤ g) (hs : B ≤ b.heap.size) : Below B a c :=
  h.grown k hs (fun j e => by cases e; exact hB)

/-- What a pick leaves: a number below n, the reader one further, no other old block turned. -/
def Picked (g m : Nat) (n : Int) (w : World) (e : Ending) (w' : World) : Prop :=
  ∃ k : Int, e = .returned (.int .i64 k) ∧ (1 ≤ n → 0 ≤ k ∧ k < n) ∧ (n < 1 → k = 0) ∧ Rdr w' g (m + 1) ∧ w.grownBy w' (some g)

set_option maxHeartbeats 400000 in
theorem l6Open_c (A : Option Addr) (bs : List Int) (c : Nat) (w : World) (hm : (bs.length : Int) ≤ 9223372036854775807) (hlc : bs.length ≤ c) (hcm : (c : Int) ≤ 9223372036854775807) (hr : Rd w w.heap.size A (bs.map (Value.int .u8))) (hf : ∀ x ∈ bs, FitB x) :
    Calls Try.prog 24 #[.slice A bs.length c] w fun e w' => e = .returned (.pointer (some ⟨w.heap.size, 0, none⟩)) ∧ Rdr w' w.heap.size 0 ∧ Below w.heap.size w w' := by
  by_cases h : 2000 < bs.length
  · have h' : (2000 : Int) < bs.length := by omega
    go_enter Try.func24, Try.ntmps24
    go_wp2
    go_ret
    have hl : (bs.take 2000).length = 2000 := by rw [List.length_take]; omega
    refine ⟨rfl, ⟨A, bs.take 2000, c, 0, by rw [hl]; exact Box.new _ _ _, ?_, by omega, fun x hx => hf x (List.mem_of_mem_take hx), Nat.le_refl _⟩, by go_grown⟩
    rw [List.map_take]
    exact (hr.take 2000).alloc (Nat.le_refl _) _
  · have h' : (bs.length : Int) ≤ 2000 := by omega
    go_enter Try.func24, Try.ntmps24
    go_wp2
    go_ret
    exact ⟨rfl, ⟨A, bs, c, 0, Box.new _ _ _, hr.alloc (Nat.le_refl _) _, by omega, hf, Nat.le_refl _⟩, by go_grown⟩
theorem picked_mk {g m p : Nat} {n : Int} {w : World} {A : Option Addr} {bs : List Int} {c : Nat} (B : Box w g 63 #[.slice A bs.length c, .int .i64 p]) (hrd : Rd w g A (bs.map (Value.int .u8)))
    (hl : bs.length ≤ 2000) (hb : ∀ x ∈ bs, FitB x) (hp : p ≤ m) {v : Int} (h1 : 1 ≤ n → 0 ≤ v ∧ v < n) (h2 : n < 1 → v = 0) {w' : World} (hw : Below (w.setCell ⟨g, 1, none⟩ (.int .i64 ((p : Int) + 1))).heap.size (w.setCell ⟨g, 1, none⟩ (.int .i64 ((p : Int) + 1))) w') :
    Picked g m n w (.returned (.int .i64 v)) w' := by
  have B' : Box (w.setCell ⟨g, 1, none⟩ (.int .i64 ((p : Int) + 1))) g 63 #[.slice A bs.length c, .int .i64 ((p : Int) + 1)] := by simpa using B.set 1 (.int .i64 ((p : Int) + 1))
  have hg : w.grownBy (w.setCell ⟨g, 1, none⟩ (.int .i64 ((p : Int) + 1))) (some g) :=
    ⟨rfl, rfl, rfl, by simp [World.setCell], fun i hi hne => Below.heap_setCell w _ _ i (fun e => hne (by rw [e]))⟩
  refine ⟨v, rfl, h1, h2, ?_, only_trans hg (only_below hw)⟩
  have hR : Rdr (w.setCell ⟨g, 1, none⟩ (.int .i64 ((p : Int) + 1))) g (m + 1) := ⟨A, bs, c, p + 1, by simpa using B', hrd.setCell (Nat.le_refl _) _, hl, hb, by omega⟩
  exact hR.below hw

theorem xor_nn {a b : Int} (ha : 0 ≤ a) (ha' : a < 4611686018427387904) (hb : 0 ≤ b) (hb' : b < 4611686018427387904) : 0 ≤ bits BinOp.xor IntKind.i64 a b := by
  obtain ⟨m, rfl⟩ := Int.eq_ofNat_of_zero_le ha
  obtain ⟨n, rfl⟩ := Int.eq_ofNat_of_zero_le hb
  have hm : (BitVec.ofInt 64 (m : Int)).toNat = m := by rw [BitVec.ofInt_natCast, BitVec.toNat_ofNat]; exact Nat.mod_eq_of_lt (by omega)
  have hn : (BitVec.ofInt 64 (n : Int)).toNat = n := by rw [BitVec.ofInt_natCast, BitVec.toNat_ofNat]; exact Nat.mod_eq_of_lt (by omega)
  have hx : m ^^^ n < 2 ^ 62 := Nat.xor_lt_two_pow (by omega) (by omega)
  show 0 ≤ IntKind.i64.wrap ((BitVec.ofInt 64 (m : Int) ^^^ BitVec.ofInt 64 (n : Int)).toNat : Int)
  rw [BitVec.toNat_xor, hm, hn, IntKind.wrap_i64]
  omega

set_option maxHeartbeats 1000000 in
theorem pick_c (g m : Nat) (n : Int) (w : World) (hr : Rdr w g m) (hm : m ≤ 1000000) (hn : n ≤ 1000000) (hn' : -1000000 ≤ n) :
    Calls Try.prog 25 #[.pointer (some ⟨g, 0, none⟩), .int .i64 n] w (Picked g m n w) := by
  obtain ⟨A, bs, c, p, B, hrd, hl, hb, hp⟩ := hr
  have lg := B.lt
  have c0 := B.cell 0
  have c1 := B.cell 1
  have f1 := B.frozen 1
  simp at c0 c1
  by_cases h1 : n < 1
  · go_enter Try.func25, Try.ntmps25
    go_wp2
    go_ret
    exact picked_mk B hrd hl hb hp (by omega) (by omega) (Below.refl _ _)
  have h1' : 1 ≤ n := by omega
  by_cases h2 : bs.length = 0
  · have h2' : (bs.length : Int) = 0 := by omega
    go_enter Try.func25, Try.ntmps25
    go_wp2
    go_ret
    exact picked_mk B hrd hl hb hp (by omega) (by omega) (Below.refl _ _)
  have h2' : 0 < (bs.length : Int) := by omega
  by_cases h3 : p < bs.length
  · obtain ⟨b', o', x, rfl, hb', hx, d0⟩ := hrd.int' (by simpa using h3)
    obtain ⟨x0, x1⟩ := hb x (mem_at hx.out)
    have hne : ¬ g = b' := by omega
    have hm1 := Int.emod_nonneg x (show n ≠ 0 by omega)
    have hm2 := Int.emod_lt_of_pos x (show 0 < n by omega)
    go_enter Try.func25, Try.ntmps25
    go_wp2
    go_ret
    exact picked_mk B hrd hl hb hp (fun _ => ⟨hm1, hm2⟩) (by omega) (Below.refl _ _)
  · obtain ⟨b', o', rfl, hb', hcell⟩ := hrd.lit (by simp; omega)
    have j1 : p % bs.length < bs.length := Nat.mod_lt _ (by omega)
    have j2 : (p * 7 + 3) % bs.length < bs.length := Nat.mod_lt _ (by omega)
    obtain ⟨x, hx⟩ : ∃ x, bs[p % bs.length]? = some x := ⟨_, List.getElem?_eq_getElem j1⟩
    obtain ⟨y, hy⟩ : ∃ y, bs[(p * 7 + 3) % bs.length]? = some y := ⟨_, List.getElem?_eq_getElem j2⟩
    have d1 := hcell _ (.int .u8 x) (by rw [List.getElem?_map, hx]; rfl)
    have d2 := hcell _ (.int .u8 y) (by rw [List.getElem?_map, hy]; rfl)
    obtain ⟨x0, x1⟩ := hb x (mem_at hx)
    obtain ⟨y0, y1⟩ := hb y (mem_at hy)
    clear hx hy hcell j1 j2
    have hne : ¬ g = b' := by omega
    have hbw : b' < w.heap.size := by omega
    have q0 := Int.emod_nonneg (p : Int) (show (bs.length : Int) ≠ 0 by omega)
    have q1 := Int.emod_lt_of_pos (p : Int) h2'
    have r0 := Int.emod_nonneg ((p : Int) * 7 + 3) (show (bs.length : Int) ≠ 0 by omega)
    have r1 := Int.emod_lt_of_pos ((p : Int) * 7 + 3) h2'
    have s0 := Int.ediv_nonneg (show (0 : Int) ≤ p by omega) (Int.le_of_lt h2')
    have s1 : (p : Int) / (bs.length : Int) ≤ p := Int.ediv_le_self _ (by omega)
    have hpm : (p : Int) ≤ 1000000 := by omega
    have t1 : ((p : Int) % (bs.length : Int)).toNat = p % bs.length := by rw [← Int.natCast_emod]; rfl
    have t2 : (((p : Int) * 7 + 3) % (bs.length : Int)).toNat = (p * 7 + 3) % bs.length := by
      have : ((p : Int) * 7 + 3) = ((p * 7 + 3 : Nat) : Int) := by omega
      rw [this, ← Int.natCast_emod]; rfl
    have h3' : (bs.length : Int) ≤ p := by omega
    have hxor : 0 ≤ bits BinOp.xor IntKind.i64 (x * 131 + y * 1117 + (p : Int) * 29 + (p : Int) / (bs.length : Int) * 53) ((x * 131 + y * 1117 + (p : Int) * 29 + (p : Int) / (bs.length : Int) * 53) / 64) := xor_nn (by omega) (by omega) (by omega) (by omega)
    have hm1 := Int.emod_nonneg (bits BinOp.xor IntKind.i64 (x * 131 + y * 1117 + (p : Int) * 29 + (p : Int) / (bs.length : Int) * 53) ((x * 131 + y * 1117 + (p : Int) * 29 + (p : Int) / (bs.length : Int) * 53) / 64)) (show n ≠ 0 by omega)
    have hm2 := Int.emod_lt_of_pos (bits BinOp.xor IntKind.i64 (x * 131 + y * 1117 + (p : Int) * 29 + (p : Int) / (bs.length : Int) * 53) ((x * 131 + y * 1117 + (p : Int) * 29 + (p : Int) / (bs.length : Int) * 53) / 64)) (show 0 < n by omega)
    go_enter Try.func25, Try.ntmps25
    go_wp2
    refine wp_region_ext (Below.refl _ _) (by kernel_rfl) (by kernel_rfl) ?_
    intro hx hx2
    repeat (go_big_quiet_step (fail))
    refine wpQuiet_nil ?_
    clear hx hx2
    rintro _ ⟨⟨w1, hb1⟩, rfl⟩
    go_wp2
    go_ret
    exact picked_mk B hrd hl hb hp (fun _ => ⟨hm1, hm2⟩) (by omega) hb1
end Go.Proofs.Ytiecjkacbpbghaa
