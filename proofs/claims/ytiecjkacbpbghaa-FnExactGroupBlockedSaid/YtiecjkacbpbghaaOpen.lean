/- Arguments that are slices of structs of two ints: they read as lists of pairs. -/
import Derived.Test.YtiecjkacbpbghaaMem2
namespace Go.Proofs.Ytiecjkacbpbghaa
set_option linter.unusedVariables false
open Go.RowKit Go.ChangeShapes Go.WideShapes Go.ChangeAt Go.Deep

section
variable {H : Type} {enc : TypeId × Value → H} {P : Program}

/-- The cells of one struct of two ints. -/
theorem cells_pair {e : TypeId} {f0 f1 : Field} {W : World} {base fuel : Nat} {sp : Nat → Bool} {hd : Bool} {cs : List Value} {y : DataW H × List MemPlace}
    (hs : P.underlying e = some (.struct #[f0, f1])) (hone : oneCellFields P #[f0, f1] = true) (hC : P.cellsOf e = 2) (h0 : P.underlying f0.type = some (.int .i64)) (h1 : P.underlying f1.type = some (.int .i64))
    (h : DataW.trod enc P W base sp hd fuel e cs = some y) : ∃ a b : Int, cs = [.int .i64 a, .int .i64 b] ∧ FitI a ∧ FitI b := by
  obtain ⟨y0, y1, n, _, hl, e0, e1⟩ := trod_struct2 hs h
  obtain ⟨o0, k0⟩ := hone_of hone 0 f0 rfl
  obtain ⟨o1, k1⟩ := hone_of hone 1 f1 rfl
  rw [hC] at hl
  rw [o0, k0] at e0
  rw [o1, k1] at e1
  match cs, hl with
  | [c0, c1], _ =>
    obtain ⟨a, g0, _, wa⟩ := DataW.trod_int h0 e0
    obtain ⟨b, g1, _, wb⟩ := DataW.trod_int h1 e1
    simp at g0 g1
    subst g0 g1
    exact ⟨a, b, rfl, fit_of_wf wa, fit_of_wf wb⟩

theorem getElem_range_map {α : Type} (f : Nat → α) {n k : Nat} (hk : k < n) : ((List.range n).map f)[k]? = some (f k) := by
  simp [List.getElem?_map, List.getElem?_range hk]

theorem flat_length' (ss : List (Int × Int)) : (ss.flatMap pc).length = ss.length * 2 := by
  induction ss with
  | nil => rfl
  | cons a r ih => simp only [List.flatMap_cons, List.length_append, ih, List.length_cons]; simp [pc]; omega

/-- Where each pair's cells lie, the whole list's do. -/
theorem rd_pairs {W : World} {a : Addr} {f : Nat → Int × Int} {n : Nat} (h : ∀ i, i < n → W.cell? ((a.add (i * 2)).add 0) = some (.int .i64 (f i).1) ∧ W.cell? ((a.add (i * 2)).add 1) = some (.int .i64 (f i).2)) :
    Rd W W.heap.size (some a) (((List.range n).map f).flatMap pc) := by
  refine Rd.low (B := a.block + 1) fun j u hu => ⟨a, rfl, by omega, ?_⟩
  have hj : j < n * 2 := by
    have := (List.getElem?_eq_some_iff.1 hu).1
    have e := flat_length' ((List.range n).map f)
    rw [List.length_map, List.length_range] at e
    omega
  have hi : j / 2 < n := by omega
  obtain ⟨h0, h1⟩ := h _ hi
  have hp := flat_pc (getElem_range_map f hi)
  rw [add_add'] at h0 h1
  rcases (show j % 2 = 0 ∨ j % 2 = 1 by omega) with hm | hm
  · have e : j / 2 * 2 = j := by omega
    rw [e] at h0 hp
    rw [hp.1] at hu
    cases hu
    simpa using h0
  · have e : j / 2 * 2 + 1 = j := by omega
    rw [e] at h1 hp
    rw [hp.2] at hu
    cases hu
    exact h1

theorem open_pairs {t e : TypeId} {f0 f1 : Field} {W : World} {r : Reach} {b0 : Nat} {v : Value} {d : DataW H} {p : List MemPlace}
    (ht : P.underlying t = some (.slice e)) (hs : P.underlying e = some (.struct #[f0, f1])) (hone : oneCellFields P #[f0, f1] = true) (hC : P.cellsOf e = 2) (h0 : P.underlying f0.type = some (.int .i64)) (h1 : P.underlying f1.type = some (.int .i64))
    (hval : Value.okWide P W r b0 t v) (h : DataW.Trod enc P W 0 (fun _ => true) true t v d p) :
    ∃ (A : Option Addr) (ss : List (Int × Int)) (c : Nat), v = .slice A ss.length c ∧ ss.length ≤ c ∧ c ≤ maxLen ∧ Rd W W.heap.size A (ss.flatMap pc) ∧ (∀ s ∈ ss, FitI s.1 ∧ FitI s.2) := by
  obtain ⟨a0, len0, cap0, rfl⟩ := okWide_slice ht hval
  obtain ⟨fuel, hf⟩ := h
  rcases open_slice ht hf with ⟨hcs, _⟩ | ⟨a, len, cap, m, n, D, Pl, hcs, _, hl, hm, hmm, _, hi⟩
  · simp [Value.cells] at hcs
    obtain ⟨rfl, rfl, rfl⟩ := hcs
    exact ⟨none, [], 0, rfl, Nat.le_refl _, by unfold maxLen; omega, Rd.nil, fun s hs => by cases hs⟩
  · simp [Value.cells] at hcs
    obtain ⟨rfl, rfl, rfl⟩ := hcs
    simp only [if_true] at hmm
    subst hmm
    have each : ∀ i, ∃ s : Int × Int, i < len0 → (W.cell? ((a.add (i * 2)).add 0) = some (.int .i64 s.1) ∧ W.cell? ((a.add (i * 2)).add 1) = some (.int .i64 s.2)) ∧ FitI s.1 ∧ FitI s.2 := fun i => by
      by_cases hlt : i < len0
      · obtain ⟨cs', hc, ht'⟩ := hi i (by omega)
        rw [hC] at hc
        obtain ⟨_, _, hat⟩ := World.cells?_some hc
        obtain ⟨x, y, rfl, fx, fy⟩ := cells_pair hs hone hC h0 h1 ht'
        exact ⟨(x, y), fun _ => ⟨⟨hat 0 (by omega), hat 1 (by omega)⟩, fx, fy⟩⟩
      · exact ⟨(0, 0), fun h => absurd h hlt⟩
    let f : Nat → Int × Int := fun i => Classical.choose (each i)
    have hf' : ∀ i, i < len0 → (W.cell? ((a.add (i * 2)).add 0) = some (.int .i64 (f i).1) ∧ W.cell? ((a.add (i * 2)).add 1) = some (.int .i64 (f i).2)) ∧ FitI (f i).1 ∧ FitI (f i).2 := fun i => Classical.choose_spec (each i)
    refine ⟨some a, (List.range len0).map f, m, by simp, by simpa using hl, hm, rd_pairs fun i hi => (hf' i hi).1, fun s hs => ?_⟩
    obtain ⟨i, hi, rfl⟩ := List.mem_map.1 hs
    exact (hf' i (List.mem_range.1 hi)).2
end
end Go.Proofs.Ytiecjkacbpbghaa
