/- Memory words, more: elements of a slice by block and offset. -/
import Derived.Test.YtiecjkacbpbghaaMem
namespace Go.Proofs.Ytiecjkacbpbghaa
set_option linter.unusedVariables false
open Go.RowKit

theorem spot_none {w : World} {a : Addr} {v : Value} (h : w.cell? a = some v) : a = ⟨a.block, a.off, none⟩ := by
  unfold World.cell? at h
  obtain ⟨b, o, s⟩ := a
  cases s with
  | none => rfl
  | some s => split at h <;> simp at h

theorem add_none {w : World} {a : Addr} {n : Nat} {v : Value} (h : w.cell? (a.add n) = some v) (h0 : ∃ u, w.cell? a = some u) : a.add n = ⟨a.block, a.off + n, none⟩ := by
  obtain ⟨u, hu⟩ := h0
  have e := spot_none hu
  rw [e]
  unfold Addr.add
  split
  · rename_i h; simp [h]
  · rfl

/-- The cells of a slice, by block and offset. -/
theorem Rd.lit {w : World} {B : Nat} {A : Option Addr} {cs : List Value} (h : Rd w B A cs) (hn : 0 < cs.length) :
    ∃ b o, A = some ⟨b, o, none⟩ ∧ b < B ∧ ∀ j u, cs[j]? = some u → w.cell? ⟨b, o + j, none⟩ = some u := by
  obtain ⟨ad, e, hb, hc⟩ := h 0 cs[0] (List.getElem?_eq_getElem hn)
  have hc0 : w.cell? ad = some cs[0] := by simpa [Addr.add] using hc
  have e1 := spot_none hc0
  refine ⟨ad.block, ad.off, by rw [e, ← e1], hb, fun j u hu => ?_⟩
  obtain ⟨ad', e', _, hc'⟩ := h j u hu
  rw [e] at e'
  cases e'
  rw [← add_none hc' ⟨_, hc0⟩]
  exact hc'
theorem Rd.int' {w : World} {B : Nat} {A : Option Addr} {xs : List Int} {k : Nat} {i : IntKind} (h : Rd w B A (xs.map (Value.int i))) (hk : k < xs.length) :
    ∃ b o x, A = some ⟨b, o, none⟩ ∧ b < B ∧ Hid (xs[k]? = some x) ∧ w.cell? ⟨b, o + k, none⟩ = some (.int i x) := by
  obtain ⟨b, o, e, hb, hc⟩ := h.lit (by simp; omega)
  exact ⟨b, o, xs[k], e, hb, List.getElem?_eq_getElem hk, hc k _ (by simp [List.getElem?_eq_getElem hk])⟩
theorem Rd.pair' {w : World} {B : Nat} {A : Option Addr} {ss : List (Int × Int)} {k : Nat} (h : Rd w B A (ss.flatMap pc)) (hk : k < ss.length) :
    ∃ b o x y, A = some ⟨b, o, none⟩ ∧ b < B ∧ Hid (ss[k]? = some (x, y)) ∧ w.cell? ⟨b, o + k * 2, none⟩ = some (.int .i64 x) ∧ w.cell? ⟨b, o + k * 2 + 1, none⟩ = some (.int .i64 y) := by
  have hs : ss[k]? = some ss[k] := List.getElem?_eq_getElem hk
  have hp : 0 < (ss.flatMap pc).length := by
    have := (List.getElem?_eq_some_iff.1 (flat_pc hs).1).1
    omega
  obtain ⟨b, o, e, hb, hc⟩ := h.lit hp
  exact ⟨b, o, ss[k].1, ss[k].2, e, hb, hs, hc _ _ (flat_pc hs).1, hc _ _ (flat_pc hs).2⟩
end Go.Proofs.Ytiecjkacbpbghaa
