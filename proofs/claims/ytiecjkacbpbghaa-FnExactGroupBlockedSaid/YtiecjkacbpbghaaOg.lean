/- An argument that is a group: two ints and two slices of entries, which read as lists. -/
import Derived.Test.YtiecjkacbpbghaaEa
import Derived.Test.YtiecjkacbpbghaaOpen
import Derived.Deep.Strs
namespace Go.Proofs.Ytiecjkacbpbghaa
set_option linter.unusedVariables false
open Go.RowKit Go.ChangeShapes Go.WideShapes Go.ChangeAt Go.Deep

section
variable {H : Type} {enc : TypeId × Value → H} {P : Program}

/-- The cells of one entry. -/
theorem cells_ent {e : TypeId} {f0 f1 f2 g0 g1 : Field} {W : World} {base fuel : Nat} {sp : Nat → Bool} {hd : Bool} {cs : List Value} {y : DataW H × List MemPlace}
    (he : P.underlying e = some (.struct #[f0, f1, f2])) (ho : f0.offset = 0 ∧ f1.offset = 1 ∧ f2.offset = 3) (hC : P.cellsOf e = 4) (c0 : P.cellsOf f0.type = 1) (c1 : P.cellsOf f1.type = 2) (c2 : P.cellsOf f2.type = 1)
    (h0 : P.underlying f0.type = some (.int .i64)) (h1 : P.underlying f1.type = some (.struct #[g0, g1])) (hone : oneCellFields P #[g0, g1] = true) (hg0 : P.underlying g0.type = some (.int .i64)) (hg1 : P.underlying g1.type = some (.int .i64)) (h2 : P.underlying f2.type = some .bool)
    (h : DataW.trod enc P W base sp hd fuel e cs = some y) : ∃ x : Ent, cs = ec x := by
  obtain ⟨y0, y1, y2, n, _, hl, e0, e1, e2⟩ := trod_struct3 he h
  obtain ⟨o0, o1, o2⟩ := ho
  rw [hC] at hl
  rw [o0, c0] at e0
  rw [o1, c1] at e1
  rw [o2, c2] at e2
  match cs, hl with
  | [a, b, c, d], _ =>
    obtain ⟨m, q0, _, _⟩ := DataW.trod_int h0 e0
    obtain ⟨t, g, q1, _, _⟩ := cells_pair h1 hone c1 hg0 hg1 e1
    obtain ⟨f, q2, _⟩ := DataW.trod_bool h2 e2
    simp at q0 q1 q2
    obtain ⟨rfl, rfl⟩ := q1
    subst q0 q2
    exact ⟨⟨m, t, g, f⟩, rfl⟩

theorem rd_ents {W : World} {a : Addr} {f : Nat → Ent} {n : Nat} (h : ∀ i, i < n → ∀ j, j < 4 → W.cell? ((a.add (i * 4)).add j) = (ec (f i))[j]?) :
    Rd W W.heap.size (some a) (((List.range n).map f).flatMap ec) := by
  refine Rd.low (B := a.block + 1) fun j u hu => ⟨a, rfl, by omega, ?_⟩
  have hj : j < n * 4 := by
    have := (List.getElem?_eq_some_iff.1 hu).1
    have e := flatE_length ((List.range n).map f)
    rw [List.length_map, List.length_range] at e
    omega
  have hi : j / 4 < n := by omega
  have h4 := h _ hi (j % 4) (by omega)
  obtain ⟨p0, p1, p2, p3⟩ := flat_ec (getElem_range_map f hi)
  rw [add_add'] at h4
  rcases (show j % 4 = 0 ∨ j % 4 = 1 ∨ j % 4 = 2 ∨ j % 4 = 3 by omega) with hm | hm | hm | hm
  · have e : j / 4 * 4 = j := by omega
    rw [hm, Nat.add_zero, e] at h4
    rw [e, hu] at p0
    rw [h4]
    exact p0.symm ▸ rfl
  · have e : j / 4 * 4 + 1 = j := by omega
    rw [hm, e] at h4
    rw [e, hu] at p1
    rw [h4]
    exact p1.symm ▸ rfl
  · have e : j / 4 * 4 + 2 = j := by omega
    rw [hm, e] at h4
    rw [e, hu] at p2
    rw [h4]
    exact p2.symm ▸ rfl
  · have e : j / 4 * 4 + 3 = j := by omega
    rw [hm, e] at h4
    rw [e, hu] at p3
    rw [h4]
    exact p3.symm ▸ rfl

/-- A field that is a slice of entries. -/
theorem open_ents {t e : TypeId} {f0 f1 f2 g0 g1 : Field} {W : World} {fuel : Nat} {v : Value} {y : DataW H × List MemPlace}
    (ht : P.underlying t = some (.slice e))
    (he : P.underlying e = some (.struct #[f0, f1, f2])) (ho : f0.offset = 0 ∧ f1.offset = 1 ∧ f2.offset = 3) (hC : P.cellsOf e = 4) (c0 : P.cellsOf f0.type = 1) (c1 : P.cellsOf f1.type = 2) (c2 : P.cellsOf f2.type = 1)
    (h0 : P.underlying f0.type = some (.int .i64)) (h1 : P.underlying f1.type = some (.struct #[g0, g1])) (hone : oneCellFields P #[g0, g1] = true) (hg0 : P.underlying g0.type = some (.int .i64)) (hg1 : P.underlying g1.type = some (.int .i64)) (h2 : P.underlying f2.type = some .bool)
    (h : DataW.trod enc P W 0 (fun _ => true) true fuel t [v] = some y) :
    ∃ (A : Option Addr) (es : List Ent) (c : Nat), v = .slice A es.length c ∧ es.length ≤ c ∧ c ≤ maxLen ∧ RE W A es := by
  rcases open_slice ht h with ⟨hcs, _⟩ | ⟨a, len, cap, m, n, D, Pl, hcs, _, hl, hm, hmm, _, hi⟩
  · simp at hcs
    subst hcs
    exact ⟨none, [], 0, rfl, Nat.le_refl _, by unfold maxLen; omega, Rd.nil⟩
  · simp at hcs
    subst hcs
    simp only [if_true] at hmm
    subst hmm
    have each : ∀ i, ∃ s : Ent, i < len → ∀ j, j < 4 → W.cell? ((a.add (i * 4)).add j) = (ec s)[j]? := fun i => by
      by_cases hlt : i < len
      · obtain ⟨cs', hc, ht'⟩ := hi i (by omega)
        rw [hC] at hc
        obtain ⟨_, _, hat⟩ := World.cells?_some hc
        obtain ⟨x, rfl⟩ := cells_ent he ho hC c0 c1 c2 h0 h1 hone hg0 hg1 h2 ht'
        exact ⟨x, fun _ j hj => hat j (by omega)⟩
      · exact ⟨⟨0, 0, 0, false⟩, fun h => absurd h hlt⟩
    let f : Nat → Ent := fun i => Classical.choose (each i)
    have hf' : ∀ i, i < len → ∀ j, j < 4 → W.cell? ((a.add (i * 4)).add j) = (ec (f i))[j]? := fun i => Classical.choose_spec (each i)
    exact ⟨some a, (List.range len).map f, m, by simp, by simpa using hl, hm, rd_ents hf'⟩

/-- A group. -/
theorem open_group {q e : TypeId} {k0 k1 k2 k3 f0 f1 f2 g0 g1 : Field} {W : World} {r : Reach} {b0 : Nat} {v : Value} {d : DataW H} {p : List MemPlace}
    (hq : P.underlying q = some (.struct #[k0, k1, k2, k3])) (hk : oneCellFields P #[k0, k1, k2, k3] = true) (hQ : P.cellsOf q = 4) (hk0 : P.underlying k0.type = some (.int .i64)) (hk1 : P.underlying k1.type = some (.int .i64)) (hk2 : P.underlying k2.type = some (.slice e)) (hk3 : P.underlying k3.type = some (.slice e))
    (he : P.underlying e = some (.struct #[f0, f1, f2])) (ho : f0.offset = 0 ∧ f1.offset = 1 ∧ f2.offset = 3) (hC : P.cellsOf e = 4) (c0 : P.cellsOf f0.type = 1) (c1 : P.cellsOf f1.type = 2) (c2 : P.cellsOf f2.type = 1)
    (h0 : P.underlying f0.type = some (.int .i64)) (h1 : P.underlying f1.type = some (.struct #[g0, g1])) (hone : oneCellFields P #[g0, g1] = true) (hg0 : P.underlying g0.type = some (.int .i64)) (hg1 : P.underlying g1.type = some (.int .i64)) (h2 : P.underlying f2.type = some .bool)
    (hval : Value.okWide P W r b0 q v) (h : DataW.Trod enc P W 0 (fun _ => true) true q v d p) :
    ∃ (a b : Int) (A : Option Addr) (x : List Ent) (c : Nat) (B : Option Addr) (y : List Ent) (z : Nat), v = .agg #[.int .i64 a, .int .i64 b, .slice A x.length c, .slice B y.length z] ∧ x.length ≤ c ∧ c ≤ maxLen ∧ RE W A x ∧ y.length ≤ z ∧ z ≤ maxLen ∧ RE W B y := by
  obtain ⟨v0, v1, v2, v3, y0, y1, y2, y3, n, rfl, _, _, e0, e1, e2, e3⟩ := Joins.open_agg4 hq hk hQ hval h
  obtain ⟨a, q0, _, _⟩ := DataW.trod_int hk0 e0
  obtain ⟨b, q1, _, _⟩ := DataW.trod_int hk1 e1
  simp only [List.cons.injEq, and_true] at q0 q1
  subst q0 q1
  obtain ⟨A, x, c, rfl, l1, m1, r1⟩ := open_ents hk2 he ho hC c0 c1 c2 h0 h1 hone hg0 hg1 h2 e2
  obtain ⟨B, y, z, rfl, l2, m2, r2⟩ := open_ents hk3 he ho hC c0 c1 c2 h0 h1 hone hg0 hg1 h2 e3
  exact ⟨a, b, A, x, c, B, y, z, rfl, l1, m1, r1, l2, m2, r2⟩
end
end Go.Proofs.Ytiecjkacbpbghaa
