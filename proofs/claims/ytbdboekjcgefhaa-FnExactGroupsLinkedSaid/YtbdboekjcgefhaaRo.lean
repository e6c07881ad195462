/- An argument that is a slice of slices of ints reads as rows. -/
import Derived.Test.YtbdboekjcgefhaaRa
import Derived.Deep.Matrix
namespace Go.Proofs.Ytbdboekjcgefhaa
set_option linter.unusedVariables false
open Go.RowKit Go.ChangeShapes Go.WideShapes Go.ChangeAt Go.Deep

section
variable {H : Type} {enc : TypeId × Value → H} {P : Program}

theorem open_rows {t e q : TypeId} {W : World} {r : Reach} {b0 : Nat} {v : Value} {d : DataW H} {p : List MemPlace}
    (ht : P.underlying t = some (.slice e)) (he : P.underlying e = some (.slice q)) (hq : P.underlying q = some (.int .i64)) (ce : P.cellsOf e = 1) (cq : P.cellsOf q = 1)
    (hval : Value.okWide P W r b0 t v) (h : DataW.Trod enc P W 0 (fun _ => true) true t v d p) :
    ∃ (A : Option Addr) (hs : List Hnd) (c : Nat), v = .slice A hs.length c ∧ hs.length ≤ c ∧ c ≤ maxLen ∧ RR W A hs ∧ (∀ k ∈ hs, k.xs.length ≤ maxLen) := by
  obtain ⟨a0, len0, cap0, rfl⟩ := okWide_slice ht hval
  obtain ⟨fuel, hf⟩ := h
  rcases open_int_rows ht he hq ce cq hf with ⟨hcs, _⟩ | ⟨a, len, cap, A, L, C, Z, hcs, _, hl, hm, _, hrow⟩
  · simp [Value.cells] at hcs
    obtain ⟨rfl, rfl, rfl⟩ := hcs
    exact ⟨none, [], 0, rfl, Nat.le_refl _, by unfold maxLen; omega, ⟨Rd.nil, fun k hk => by cases hk⟩, fun k hk => by cases hk⟩
  · simp [Value.cells] at hcs
    obtain ⟨rfl, rfl, rfl⟩ := hcs
    obtain ⟨f, hfd⟩ : ∃ f : Nat → Hnd, f = fun r => ⟨A r, C r, (Z r).take (L r)⟩ := ⟨_, rfl⟩
    have hlen : ∀ r, r < cap0 → ((Z r).take (L r)).length = L r := fun r hr => by
      obtain ⟨_, h2, _, h4, _⟩ := hrow r hr
      rw [List.length_take]
      omega
    refine ⟨some a, (List.range len0).map f, cap0, by simp, by simpa using hl, hm, ⟨?_, ?_⟩, ?_⟩
    · refine Rd.low (B := a.block + 1) fun j u hu => ?_
      have hj : j < len0 := by
        have := (List.getElem?_eq_some_iff.1 hu).1
        simpa using this
      refine ⟨a, rfl, by omega, ?_⟩
      rw [(hrow j (by omega)).1, ← hu]
      simp [hj, hfd, hv, hlen j (by omega)]
    · intro k hk
      obtain ⟨j, hj, rfl⟩ := List.mem_map.1 hk
      have hj : j < len0 := by simpa using hj
      obtain ⟨_, h2, _, h4, _, h6, h7⟩ := hrow j (by omega)
      rw [hfd]
      show Rd W W.heap.size (A j) (((Z j).take (L j)).map (Value.int .i64))
      cases hA : A j with
      | none =>
        have h0 := h6 hA
        have : (Z j).take (L j) = [] := by
          rw [List.take_eq_nil_iff]
          left
          omega
        rw [this]
        exact Rd.nil
      | some a' =>
        refine Rd.low (B := a'.block + 1) fun i u hu => ?_
        have hi : i < L j := by
          have := (List.getElem?_eq_some_iff.1 hu).1
          rw [List.length_map, hlen j (by omega)] at this
          exact this
        refine ⟨a', rfl, by omega, ?_⟩
        rw [(h7 a' hA).2 i (by omega), ← hu]
        simp [hi, List.getD, List.getElem?_eq_getElem (show i < (Z j).length by omega)]
    · intro k hk
      obtain ⟨j, hj, rfl⟩ := List.mem_map.1 hk
      have hj : j < len0 := by simpa using hj
      obtain ⟨_, h2, h3, h4, _⟩ := hrow j (by omega)
      rw [hfd]
      show ((Z j).take (L j)).length ≤ maxLen
      rw [hlen j (by omega)]
      omega
end
end Go.Proofs.Ytbdboekjcgefhaa
