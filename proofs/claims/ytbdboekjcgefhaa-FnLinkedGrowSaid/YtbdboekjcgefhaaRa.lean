/- Memory words: a slice of slices of ints that reads as rows; the same of the call's own. -/
import Derived.Test.YtbdboekjcgefhaaGd
namespace Go.Proofs.Ytbdboekjcgefhaa
set_option linter.unusedVariables false
open Go.RowKit

/-- A row: where it lies, its capacity, its numbers. -/
structure Hnd where
  A : Option Addr
  c : Nat
  xs : List Int
/-- Its value. -/
def hv (h : Hnd) : Value := .slice h.A h.xs.length h.c
/-- The rows' numbers. -/
def rowsOf (hs : List Hnd) : List (List Int) := hs.map (·.xs)
theorem rowsOf_length (hs : List Hnd) : (rowsOf hs).length = hs.length := by simp [rowsOf]
theorem rowsOf_at {hs : List Hnd} {k : Nat} {h : Hnd} (e : hs[k]? = some h) : (rowsOf hs)[k]? = some h.xs := by simp [rowsOf, e]

/-- The slice at A reads as these rows. -/
def RR (w : World) (A : Option Addr) (hs : List Hnd) : Prop := Rd w w.heap.size A (hs.map hv) ∧ ∀ h ∈ hs, Rd w w.heap.size h.A (h.xs.map (Value.int .i64))
theorem RR.below {w w' : World} {A : Option Addr} {hs : List Hnd} (h : RR w A hs) (hb : Below w.heap.size w w') : RR w' A hs :=
  ⟨(h.1.below hb).low, fun k hk => ((h.2 k hk).below hb).low⟩
theorem RR.alloc {w : World} {A : Option Addr} {hs : List Hnd} (h : RR w A hs) (o : Obj) : RR (w.alloc o) A hs := h.below ((Below.refl _ _).alloc (Nat.le_refl _) o)
/-- One row. -/
theorem RR.at_ {w : World} {A : Option Addr} {hs : List Hnd} {k : Nat} (h : RR w A hs) (hk : k < hs.length) :
    ∃ b o A1 c1 xs, A = some ⟨b, o, none⟩ ∧ b < w.heap.size ∧ Hid (hs[k]? = some ⟨A1, c1, xs⟩) ∧ w.cell? ⟨b, o + k, none⟩ = some (.slice A1 xs.length c1) ∧ Rd w w.heap.size A1 (xs.map (Value.int .i64)) := by
  obtain ⟨b, o, e, hb, hc⟩ := h.1.lit (by simp; omega)
  refine ⟨b, o, hs[k].A, hs[k].c, hs[k].xs, e, hb, List.getElem?_eq_getElem hk, ?_, h.2 _ (List.getElem_mem hk)⟩
  exact hc k (hv hs[k]) (by simp [List.getElem?_eq_getElem hk])

/-- How much room the rows take. -/
def sumLen (hs : List Hnd) : Nat := (hs.map (fun h => h.xs.length)).sum
theorem sumLen_le {hs : List Hnd} {h : Hnd} (m : h ∈ hs) : h.xs.length ≤ sumLen hs := by
  induction hs with
  | nil => cases m
  | cons a r ih =>
    simp only [sumLen, List.map_cons, List.sum_cons]
    rcases List.mem_cons.1 m with rfl | m
    · omega
    · have := ih m
      unfold sumLen at this
      omega
theorem sumLen_take {hs : List Hnd} {k : Nat} {h : Hnd} (e : hs[k]? = some h) : sumLen (hs.take (k + 1)) = sumLen (hs.take k) + h.xs.length := by
  unfold sumLen
  rw [take_at e]
  simp
theorem sumLen_take_le (hs : List Hnd) (k : Nat) : sumLen (hs.take k) ≤ sumLen hs := by
  have e : sumLen hs = sumLen (hs.take k) + sumLen (hs.drop k) := by
    unfold sumLen
    conv => lhs; rw [← List.take_append_drop k hs]
    rw [List.map_append, List.sum_append]
  omega
theorem sumLen_snoc (hs : List Hnd) (h : Hnd) : sumLen (hs ++ [h]) = sumLen hs + h.xs.length := by
  simp [sumLen]

/-- The numbers of the call's own row. -/
theorem hv_none : (Value.slice none 0 0) = hv ⟨none, 0, []⟩ := rfl

/-- Rows of the call's own: the outer cells in block g, each row in a block of its own behind g, one behind the other. -/
structure RI (w : World) (g : Nat) (hs : List Hnd) : Prop where
  outer : Box w g 24 (hs.map hv).toArray
  row : ∀ h ∈ hs, IS w (g + 1) h.A h.xs.length h.c h.xs
  apart : hs.Pairwise (fun h k => ∀ a a', h.A = some a → k.A = some a' → a.block < a'.block)
theorem RI.rr {w : World} {g : Nat} {hs : List Hnd} (h : RI w g hs) : RR w (some ⟨g, 0, none⟩) hs := ⟨Rd.box h.outer, fun k hk => (h.row k hk).rd⟩
theorem RI.below {w w' : World} {g : Nat} {hs : List Hnd} (h : RI w g hs) (hb : Below w.heap.size w w') : RI w' g hs :=
  ⟨h.outer.below hb, fun k hk => (h.row k hk).below hb, h.apart⟩
theorem RI.lt {w : World} {g : Nat} {hs : List Hnd} (h : RI w g hs) : g < w.heap.size := h.outer.lt

/-- Of what was there only blocks from lo to hi have turned. -/
structure Mid (lo hi : Nat) (w w' : World) : Prop where
  os : w'.os = w.os
  tape : w'.tape = w.tape
  output : w'.output = w.output
  size : w.heap.size ≤ w'.heap.size
  block : ∀ k, k < w.heap.size → (k < lo ∨ hi ≤ k) → w'.heap[k]? = w.heap[k]?
theorem Mid.refl (lo hi : Nat) (w : World) : Mid lo hi w w := ⟨rfl, rfl, rfl, Nat.le_refl _, fun _ _ _ => rfl⟩
theorem Mid.below {lo hi : Nat} {w w' : World} (h : Mid lo hi w w') (hl : lo ≤ w.heap.size) : Below lo w w' := ⟨h.os, h.tape, h.output, h.size, fun k hk => h.block k (by omega) (.inl hk)⟩
theorem Mid.grown {lo hi : Nat} {w w1 w' : World} {A : Option Addr} (h : Mid lo hi w w1) (hg : w1.grownBy w' (A.map (·.block))) (hA : ∀ a, A = some a → lo ≤ a.block ∧ a.block < hi) : Mid lo hi w w' :=
  ⟨hg.os.trans h.os, hg.tape.trans h.tape, hg.output.trans h.output, Nat.le_trans h.size hg.size, fun k hk hr => (hg.block k (Nat.lt_of_lt_of_le hk h.size) (fun e => by
    cases A with
    | none => cases e
    | some a =>
      have := hA a rfl
      simp at e
      omega)).trans (h.block k hk hr)⟩
theorem IS.mid {lo hi : Nat} {w w' : World} {B n c : Nat} {A : Option Addr} {xs : List Int} (h : IS w B A n c xs) (hm : Mid lo hi w w') (hA : ∀ a, A = some a → a.block < lo ∨ hi ≤ a.block) : IS w' B A n c xs := by
  have hlt := h.lt
  refine ⟨h.1, ?_⟩
  rcases h.2 with h2 | ⟨g, cap, cur, hv, hg, hh, r⟩
  · exact .inl h2
  · injection hv with e1 e2 e3
    subst e1 e3
    exact .inr ⟨g, c, cur, rfl, hg, (hm.block g (hlt _ rfl).2 (hA _ rfl)).trans hh, r⟩

theorem infoRow : (Try.prog.info? 24).map (fun i => (i.zero, i.size, i.bytes)) = some (some (.slice none 0 0), 1, 24) := by kernel_rfl
end Go.Proofs.Ytbdboekjcgefhaa
