/- Memory words: a slice that reads as a list of cells; what a call may leave; the end of a law's proof. Each holds for whatever program. -/
import Derived.WalkKit
import Derived.ProofKit
import Derived.OpenShut
import Derived.Deep.Slices
import Derived.Deep.Draws
import Derived.Lib.SmallJoins
namespace Go.Proofs.Ytiecjkacbpbghaa
set_option linter.unusedVariables false
open Go.RowKit Go.ChangeShapes Go.WideShapes Go.ChangeAt Go.Deep

/-- The cells cs lie one behind the other from address A on, in a block below B. -/
def Rd (w : World) (B : Nat) (A : Option Addr) (cs : List Value) : Prop :=
  ∀ j u, cs[j]? = some u → ∃ ad, A = some ad ∧ ad.block < B ∧ w.cell? (ad.add j) = some u

/-- An int's value; the cells of a pair of ints. -/
abbrev iv (n : Int) : Value := .int .i64 n
def pc (s : Int × Int) : List Value := [.int .i64 s.1, .int .i64 s.2]

theorem add_block (a : Addr) (n : Nat) : (a.add n).block = a.block := by
  unfold Addr.add
  split <;> rfl
theorem add_add' (a : Addr) (i j : Nat) : (a.add i).add j = a.add (i + j) := by
  unfold Addr.add
  rcases Nat.eq_zero_or_pos i with rfl | hi
  · simp
  · rcases Nat.eq_zero_or_pos j with rfl | hj
    · simp
    · rw [if_neg (by omega), if_neg (by omega), if_neg (by omega)]
      simp [Nat.add_assoc]

section
variable {w w' : World} {B B' : Nat} {A : Option Addr} {cs : List Value}

theorem Rd.nil : Rd w B A [] := fun j u h => by simp at h
theorem Rd.keep (h : Rd w B A cs) (hk : ∀ p : Addr, p.block < B → w'.cell? p = w.cell? p) : Rd w' B A cs := fun j u hu => by
  obtain ⟨ad, e, hb, hc⟩ := h j u hu
  exact ⟨ad, e, hb, (hk _ (by rw [add_block]; exact hb)).trans hc⟩
theorem Rd.mono (h : Rd w B A cs) (hB : B ≤ B') : Rd w B' A cs := fun j u hu => by
  obtain ⟨ad, e, hb, hc⟩ := h j u hu
  exact ⟨ad, e, by omega, hc⟩
theorem Rd.below (h : Rd w B A cs) (hb : Below B w w') : Rd w' B A cs := h.keep fun _ hp => hb.cell hp
theorem Rd.drew (h : Rd w B A cs) : Rd w.drew B A cs := h
theorem Rd.drewN (h : Rd w B A cs) (n : Nat) : Rd (w.drewN n) B A cs := h
theorem Rd.alloc (h : Rd w B A cs) (hB : B ≤ w.heap.size) (o : Obj) : Rd (w.alloc o) B A cs :=
  h.keep fun _ hp => ((Below.refl B w).alloc hB o).cell hp
theorem Rd.setCell (h : Rd w B A cs) {p : Addr} (hp : B ≤ p.block) (u : Value) : Rd (w.setCell p u) B A cs :=
  h.keep fun _ hq => ((Below.refl B w).setCell hp u).cell hq
/-- Where the cells really lie. -/
theorem Rd.low (h : Rd w B A cs) : Rd w w.heap.size A cs := fun j u hu => by
  obtain ⟨ad, e, _, hc⟩ := h j u hu
  refine ⟨ad, e, ?_, hc⟩
  have := World.block_lt_of_cell? w _ hc
  rwa [add_block] at this
theorem Rd.take (h : Rd w B A cs) (k : Nat) : Rd w B A (cs.take k) := fun j u hu => by
  rw [List.getElem?_take] at hu
  split at hu
  · exact h j u hu
  · cases hu
theorem Rd.own {base : Nat} {e : TypeId} {size n c : Nat} (h : w.ownsRow base e size (.slice A n c) n cs) : Rd w w.heap.size A cs := fun j u hu => by
  rcases h.2 with ⟨hv, h0⟩ | ⟨g, cap, cur, hv, hb, hg, _⟩
  · have := h.1
    rw [h0] at this
    have hz : cs = [] := List.eq_nil_of_length_eq_zero (by simpa using this)
    subst hz
    simp at hu
  · injection hv with e1 _ e3
    subst e1
    exact ⟨_, rfl, (Array.getElem?_eq_some_iff.1 hg).1, h.cells (g := g) (by simp [Value.ownBlock]) j u hu⟩

/-- One int of a slice of ints. -/
theorem Rd.int {xs : List Int} {k : Nat} (h : Rd w B A (xs.map (Value.int .i64))) (hk : k < xs.length) :
    ∃ ad x, A = some ad ∧ ad.block < B ∧ Hid (xs[k]? = some x) ∧ w.cell? (ad.add k) = some (.int .i64 x) := by
  obtain ⟨ad, e, hb, hc⟩ := h k (.int .i64 xs[k]) (by simp [List.getElem?_eq_getElem hk])
  exact ⟨ad, xs[k], e, hb, List.getElem?_eq_getElem hk, hc⟩
end

/-- A cell that has just been written; another one. -/
@[go_sem] theorem cell_set (w : World) (p : Addr) (v : Value) (h : (w.cell? p).isSome = true) : (w.setCell p v).cell? p = some v := by
  obtain ⟨u, hu⟩ := Option.isSome_iff_exists.1 h
  exact World.cell?_setCell_same _ _ _ hu

/-- What a call leaves, for the walk: old cells read as they did. -/
theorem bcell {W w1 : World} (hb : Below W.heap.size W w1) : ∀ b o, b < W.heap.size → w1.cell? ⟨b, o, none⟩ = W.cell? ⟨b, o, none⟩ :=
  fun b o h => hb.cell (p := ⟨b, o, none⟩) h
theorem bfrozen {W w1 : World} (hb : Below W.heap.size W w1) : ∀ b o, b < W.heap.size → w1.frozen? ⟨b, o, none⟩ = W.frozen? ⟨b, o, none⟩ :=
  fun b o h => hb.frozen (p := ⟨b, o, none⟩) h
theorem bsize {W w1 : World} (hb : Below W.heap.size W w1) : ∀ b, b < W.heap.size → b < w1.heap.size := fun b h => Nat.lt_of_lt_of_le h hb.size
theorem bt {w w1 w2 : World} (h1 : Below w.heap.size w w1) (h2 : Below w1.heap.size w1 w2) : Below w.heap.size w w2 := h1.trans (h2.mono h1.size)
theorem bu {w w1 w2 : World} (h2 : Below w1.heap.size w1 w2) (h1 : Below w.heap.size w w1) : Below w.heap.size w w2 := bt h1 h2

theorem bz {G : Prop} {W w1 : World} (hb : Below W.heap.size W w1) (b : Nat) (hlt : b < W.heap.size)
    (k : b < w1.heap.size → (∀ o, w1.cell? ⟨b, o, none⟩ = W.cell? ⟨b, o, none⟩) → (∀ o, w1.frozen? ⟨b, o, none⟩ = W.frozen? ⟨b, o, none⟩) → G) : G :=
  k (bsize hb b hlt) (fun o => bcell hb b o hlt) (fun o => bfrozen hb b o hlt)

theorem bw {G : Prop} {w W w1 : World} (hb : Below W.heap.size W w1) (h1 : Below w.heap.size w W) (k : Below w.heap.size w w1 → w.heap.size ≤ w1.heap.size → G) : G :=
  k (bu hb h1) (bu hb h1).size

/-- Block g is just these cells, none frozen. -/
def Box (w : World) (g : Nat) (t : TypeId) (cs : Array Value) : Prop := w.heap[g]? = some (.cells cs t (0, 0))
theorem Box.lt {w : World} {g : Nat} {t : TypeId} {cs : Array Value} (h : Box w g t cs) : g < w.heap.size := (Array.getElem?_eq_some_iff.1 h).1
theorem Box.cell {w : World} {g : Nat} {t : TypeId} {cs : Array Value} (h : Box w g t cs) (i : Nat) : w.cell? ⟨g, i, none⟩ = cs[i]? := cell_of_row w g i cs t (0, 0) h
theorem Box.frozen {w : World} {g : Nat} {t : TypeId} {cs : Array Value} (h : Box w g t cs) (i : Nat) : w.frozen? ⟨g, i, none⟩ = false := by
  unfold Box at h
  simp [World.frozen?, h]
theorem Box.new (w : World) (t : TypeId) (cs : Array Value) : Box (w.alloc (.cells cs t)) w.heap.size t cs := heap_alloc_new w _
theorem Box.drew {w : World} {g : Nat} {t : TypeId} {cs : Array Value} (h : Box w g t cs) : Box w.drew g t cs := h
theorem Box.drewN {w : World} {g : Nat} {t : TypeId} {cs : Array Value} (h : Box w g t cs) (n : Nat) : Box (w.drewN n) g t cs := h
theorem Box.alloc {w : World} {g : Nat} {t : TypeId} {cs : Array Value} (h : Box w g t cs) (o : Obj) : Box (w.alloc o) g t cs := (Below.heap_alloc w o g h.lt).trans h
theorem Box.below {w w' : World} {g : Nat} {t : TypeId} {cs : Array Value} (h : Box w g t cs) (hb : Below w.heap.size w w') : Box w' g t cs := (hb.block g h.lt).trans h
theorem Box.set {w : World} {g : Nat} {t : TypeId} {cs : Array Value} (h : Box w g t cs) (i : Nat) (u : Value) : Box (w.setCell ⟨g, i, none⟩ u) g t (cs.setIfInBounds i u) := by
  unfold Box at h ⊢
  simp [World.setCell, Array.getElem?_modify, h]
theorem Box.far {w : World} {g : Nat} {t : TypeId} {cs : Array Value} (h : Box w g t cs) {p : Addr} (hp : g ≠ p.block) (u : Value) : Box (w.setCell p u) g t cs := (Below.heap_setCell w p u g hp).trans h
theorem Box.grown {w w' : World} {row : Option Nat} {g : Nat} {t : TypeId} {cs : Array Value} (h : Box w g t cs) (hb : w.grownBy w' row) (hg : some g ≠ row) : Box w' g t cs := (hb.block g h.lt hg).trans h

/-- The cells of a list of pairs. -/
theorem flat_pc {ss : List (Int × Int)} {k : Nat} {s : Int × Int} (h : ss[k]? = some s) : (ss.flatMap pc)[k * 2]? = some (.int .i64 s.1) ∧ (ss.flatMap pc)[k * 2 + 1]? = some (.int .i64 s.2) := by
  induction ss generalizing k with
  | nil => simp at h
  | cons a r ih =>
    cases k with
    | zero =>
      simp at h
      subst h
      simp [pc]
    | succ k =>
      simp at h
      have := ih h
      have e1 : (k + 1) * 2 = k * 2 + 1 + 1 := by omega
      rw [e1]
      simpa [pc] using this
/-- One pair of a slice of pairs. -/
theorem Rd.pair {w : World} {B : Nat} {A : Option Addr} {ss : List (Int × Int)} {k : Nat} (h : Rd w B A (ss.flatMap pc)) (hk : k < ss.length) :
    ∃ ad x y, A = some ad ∧ ad.block < B ∧ Hid (ss[k]? = some (x, y)) ∧ w.cell? (ad.add (k * 2)) = some (.int .i64 x) ∧ w.cell? (ad.add (k * 2 + 1)) = some (.int .i64 y) := by
  have hs : ss[k]? = some ss[k] := List.getElem?_eq_getElem hk
  obtain ⟨ad, e, hb, hc⟩ := h _ _ (flat_pc hs).1
  obtain ⟨ad', e', _, hc'⟩ := h _ _ (flat_pc hs).2
  rw [e] at e'
  cases e'
  exact ⟨ad, ss[k].1, ss[k].2, e, hb, hs, hc, hc'⟩

/-- What a list's k-th element is to its rest. -/
theorem drop_at {α : Type} {xs : List α} {k : Nat} {x : α} (h : xs[k]? = some x) : xs.drop k = x :: xs.drop (k + 1) := by
  obtain ⟨hk, rfl⟩ := List.getElem?_eq_some_iff.1 h
  exact List.drop_eq_getElem_cons hk
theorem take_at {α : Type} {xs : List α} {k : Nat} {x : α} (h : xs[k]? = some x) : xs.take (k + 1) = xs.take k ++ [x] := by
  obtain ⟨hk, rfl⟩ := List.getElem?_eq_some_iff.1 h
  rw [List.take_succ_eq_append_getElem hk]
theorem mem_at {α : Type} {xs : List α} {k : Nat} {x : α} (h : xs[k]? = some x) : x ∈ xs := List.mem_of_getElem? h

/-- An int fits. -/
def FitI (x : Int) : Prop := -9223372036854775808 ≤ x ∧ x ≤ 9223372036854775807
theorem fit_of_wf {x : Int} (h : (Lit.int .i64 x).wf = true) : FitI x := by
  simp [Lit.wf, IntKind.min, IntKind.max, IntKind.signed, IntKind.bits] at h
  exact ⟨by omega, by omega⟩

section
variable {H : Type} {enc : TypeId × Value → H} {P : Program}

theorem trodAll_below (hl : laidOutB P = true) {W W' : World} (hb : Below W.heap.size W W') (ts : List TypeId) : ∀ {vs : List Value} {ds : List (DataW H)} {ps : List MemPlace},
    (∀ t ∈ ts, P.readableRec t = true ∧ t < P.types.size) → DataW.TrodAll enc P W 0 (fun _ => true) true ts vs ds ps → (∀ x ∈ ps, x.block < W.heap.size) →
    DataW.TrodAll enc P W' 0 (fun b => decide (b < W.heap.size)) true ts vs ds ps := by
  induction ts with
  | nil =>
    intro vs ds ps _ h _
    obtain ⟨rfl, rfl, rfl⟩ := trodAll_nil h
    exact rfl
  | cons t ts ih =>
    intro vs ds ps hr h hlt
    obtain ⟨v, vs', d, ds', p, q, rfl, rfl, rfl, h1, h2⟩ := trodAll_cons h
    exact ⟨p, q, Below.trod hl (hr t (by simp)).1 (hr t (by simp)).2 h1 hb (fun x hx => hlt x (by simp [hx])),
      ih (fun t ht => hr t (by simp [ht])) h2 (fun x hx => hlt x (by simp [hx])), rfl⟩

/-- THE END OF A LAW's PROOF: the call hands back true, and below the heap's old size nothing has turned. -/
theorem law_post {f : Func} {s : ChangeSpec} {W W' : World} {args : Array Value} {ds gs : List (DataW H)} {before : List MemPlace} {bt : TypeId}
    (hl : laidOutB P = true) (hr0 : (f.params.toList.all fun t => P.readableRec t && decide (t < P.types.size)) = true) (hv : s.vars = [])
    (hW : DataW.Whole enc P f.params.toList s.vars false W args.toList ds gs before)
    (hres : f.resultTypes = #[bt]) (hbt : P.underlying bt = some .bool)
    (hs : s.fn H (ds ++ []) = { results := [.lit (.bool true)], args := ds })
    (hb : Below W.heap.size W W') : s.post enc P f false true false false W args (.bool true) W' := by
  have hr : ∀ t ∈ f.params.toList, P.readableRec t = true ∧ t < P.types.size := fun t ht => by
    have := List.all_eq_true.1 hr0 t ht
    simpa using this
  have hlt : ∀ p ∈ before, p.block < W.heap.size := fun p hp => hW.lt p hp
  have hW' := hW
  obtain ⟨p, q, hA, hV, rfl, _, _⟩ := hW
  rw [hv] at hV
  obtain ⟨rfl, rfl⟩ := trodVars_none hV
  refine ⟨ds, [], p ++ [], [], p, [], hW', ?_, ?_, ?_, hb.frame _, fun h => by cases h⟩
  · rw [hs, hres]
    exact trodAll_mk1 (shut_bool hbt true)
  · rw [hs]
    exact trodAll_below hl hb _ hr hA (fun x hx => hlt x (by simp [hx]))
  · rw [hs, hv]
    exact rfl

/-- An argument that is an int, or a struct of two ints. -/
theorem open_i {t : TypeId} {W : World} {r : Reach} {b0 : Nat} {v : Value} {d : DataW H} {p : List MemPlace}
    (ht : P.underlying t = some (.int .i64)) (hval : Value.okWide P W r b0 t v) (h : DataW.Trod enc P W 0 (fun _ => true) true t v d p) : ∃ a : Int, v = .int .i64 a ∧ FitI a := by
  obtain ⟨a, rfl, _, _, hw⟩ := open_int ht hval h
  exact ⟨a, rfl, fit_of_wf hw⟩
theorem open_pair {t : TypeId} {f0 f1 : Field} {W : World} {r : Reach} {b0 : Nat} {v : Value} {d : DataW H} {p : List MemPlace}
    (hs : P.underlying t = some (.struct #[f0, f1])) (hone : oneCellFields P #[f0, f1] = true) (hC : P.cellsOf t = 2) (h0 : P.underlying f0.type = some (.int .i64)) (h1 : P.underlying f1.type = some (.int .i64))
    (hval : Value.okWide P W r b0 t v) (h : DataW.Trod enc P W 0 (fun _ => true) true t v d p) : ∃ a b : Int, v = .agg #[.int .i64 a, .int .i64 b] ∧ FitI a ∧ FitI b := by
  obtain ⟨v0, v1, y0, y1, n, rfl, _, _, e0, e1⟩ := Joins.open_agg2 hs hone hC hval h
  obtain ⟨a, g0, _, wa⟩ := DataW.trod_int h0 e0
  obtain ⟨b, g1, _, wb⟩ := DataW.trod_int h1 e1
  simp only [List.cons.injEq, and_true] at g0 g1
  subst g0 g1
  exact ⟨a, b, rfl, fit_of_wf wa, fit_of_wf wb⟩

/-- An argument that is a slice of ints (or of bytes): it reads as a list. -/
theorem open_rd {t e : TypeId} {k : IntKind} {W : World} {r : Reach} {b0 : Nat} {v : Value} {d : DataW H} {p : List MemPlace}
    (ht : P.underlying t = some (.slice e)) (he : P.underlying e = some (.int k)) (hc : P.cellsOf e = 1)
    (hval : Value.okWide P W r b0 t v) (h : DataW.Trod enc P W 0 (fun _ => true) true t v d p) :
    ∃ (A : Option Addr) (xs : List Int) (c : Nat), v = .slice A xs.length c ∧ xs.length ≤ c ∧ c ≤ maxLen ∧ Rd W W.heap.size A (xs.map (Value.int k)) ∧ (∀ x ∈ xs, (Lit.int k x).wf = true) := by
  obtain ⟨a0, len0, cap0, rfl⟩ := okWide_slice ht hval
  obtain ⟨fuel, hf⟩ := h
  rcases open_ints ht he hc hf with ⟨hcs, _⟩ | ⟨a, len, cap, zs, hcs, _, hl, hm, hz, _, hcell, hwz⟩
  · simp [Value.cells] at hcs
    obtain ⟨rfl, rfl, rfl⟩ := hcs
    exact ⟨none, [], 0, rfl, Nat.le_refl _, by unfold maxLen; omega, Rd.nil, fun x hx => by cases hx⟩
  · simp [Value.cells] at hcs
    obtain ⟨rfl, rfl, rfl⟩ := hcs
    simp only [if_true] at hz
    have e1 : (zs.take len0).length = len0 := by rw [List.length_take]; omega
    refine ⟨some a, zs.take len0, cap0, by rw [e1], by rw [e1]; exact hl, hm, ?_, fun x hx => hwz x (List.mem_of_mem_take hx)⟩
    refine Rd.low (B := a.block + 1) fun j u hu => ?_
    have hj : j < len0 := by
      have := (List.getElem?_eq_some_iff.1 hu).1
      rw [List.length_map, e1] at this
      exact this
    refine ⟨a, rfl, by omega, ?_⟩
    rw [hcell j (by omega), ← hu]
    simp [hj, List.getD, List.getElem?_eq_getElem (show j < zs.length by omega)]
end
end Go.Proofs.Ytiecjkacbpbghaa
