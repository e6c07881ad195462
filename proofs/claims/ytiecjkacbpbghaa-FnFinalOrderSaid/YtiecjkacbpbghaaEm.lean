/- Memory words for the draw of a group: slices of the call's own whose blocks are known; the world of a draw. -/
import Derived.Test.YtiecjkacbpbghaaEk
import Derived.Test.YtiecjkacbpbghaaDraw4
namespace Go.Proofs.Ytiecjkacbpbghaa
set_option linter.unusedVariables false
open Go.RowKit

/-- A nil slice of the call's own is empty. -/
theorem EV.z {w : World} {B n c : Nat} {A : Option Addr} {es : List Ent} (h : EV w B (.slice A n c) n es) : A = none → es = [] ∧ c = 0 := fun e => by
  subst e
  have hl := h.len
  rcases h.2 with ⟨hv, hn⟩ | ⟨g, cap, cur, hv, _⟩
  · injection hv with e1 e2 e3
    subst hn e3
    exact ⟨List.eq_nil_of_length_eq_zero hl, rfl⟩
  · injection hv with e1
    cases e1
/-- The block of a slice of the call's own. -/
theorem EV.blk {w : World} {B n c b : Nat} {es : List Ent} (h : EV w B (.slice (some ⟨b, 0, none⟩) n c) n es) : B ≤ b ∧ b < w.heap.size := h.lt _ rfl
theorem EV.offb {w w' : World} {B n c b : Nat} {es : List Ent} {row : Option Nat} (h : EV w B (.slice (some ⟨b, 0, none⟩) n c) n es) (hg : w.grownBy w' row) (hne : row ≠ some b) : EV w' B (.slice (some ⟨b, 0, none⟩) n c) n es :=
  h.off hg fun k e e2 => hne (by rw [e]; exact e2.symm ▸ rfl)
theorem grown_setC (w : World) (p : Addr) (u : Value) : w.grownBy (w.setCell p u) (some p.block) :=
  ⟨rfl, rfl, rfl, by simp [World.setCell], fun i hi hne => Below.heap_setCell w _ _ i (fun e => hne (by rw [e]))⟩
theorem EV.far {w : World} {B n c b : Nat} {es : List Ent} (h : EV w B (.slice (some ⟨b, 0, none⟩) n c) n es) {p : Addr} (hp : b ≠ p.block) (u : Value) : EV (w.setCell p u) B (.slice (some ⟨b, 0, none⟩) n c) n es :=
  h.offb (grown_setC w p u) (by intro e; injection e with e; exact hp e.symm)
theorem EV.startAt {w : World} {B n : Nat} (hs : w.heap.size = n) (hB : B ≤ n) : EV (w.alloc (.cells #[] 48)) B (.slice (some ⟨n, 0, none⟩) 0 0) 0 [] := by
  subst hs
  exact (EV.start w).mono hB
/-- What reads as entries reads so still where another block has turned. -/
theorem RE.off {w w' : World} {b o : Nat} {es : List Ent} {row : Option Nat} (h : RE w (some ⟨b, o, none⟩) es) (hg : w.grownBy w' row) (hne : row ≠ some b) : RE w' (some ⟨b, o, none⟩) es := fun j u hu => by
  obtain ⟨ad, e, hb, hc⟩ := h j u hu
  cases e
  refine ⟨_, rfl, Nat.lt_of_lt_of_le hb hg.size, ?_⟩
  rw [Addr.add_lit] at hc ⊢
  exact (World.cell?_of_block (a := ⟨b, o + j, none⟩) (hg.block b hb (fun e => hne e.symm))).trans hc

theorem own_slice {w : World} {B n m : Nat} {e : TypeId} {size : Nat} {v : Value} {xs : List Value} (h : w.ownsRow B e size v n xs) (hne : v ≠ .slice none 0 0) : ∃ b c, v = .slice (some ⟨b, 0, none⟩) n c ∧ b < w.heap.size := by
  rcases h.2 with ⟨hv, _⟩ | ⟨g, cap, cur, hv, hb, hg, _⟩
  · exact absurd hv hne
  · exact ⟨g, cap, hv, (Array.getElem?_eq_some_iff.1 hg).1⟩

/-- Entries are appended; where the new slice lies. -/
theorem run_append_ED {w : World} {ty : TypeId} (ys : List Ent) {B Bx n m c cv b : Nat} {A : Option Addr} {es : List Ent}
    (h : EV w B (.slice (some ⟨b, 0, none⟩) n cv) n es) (h0 : A = none → ys = [] ∧ c = 0) (hl : ys.length = m) (hr : Rd w Bx A (ys.flatMap ec)) (hn : n + m ≤ 10000000) (hB : B ≤ w.heap.size) :
    ∃ (b' c' : Nat) (w' : World), (Builtin.append_ #[24, 24] ty #[.slice (some ⟨b, 0, none⟩) n cv, .slice A m c]).run Try.prog w = .ok (.slice (some ⟨b', 0, none⟩) (n + m) c') w' ∧ (b' = b ∨ b' = w.heap.size) ∧ b' < w'.heap.size ∧
      EV w' B (.slice (some ⟨b', 0, none⟩) (n + m) c') (n + m) (es ++ ys) ∧ Below B w w' ∧ w.grownBy w' (some b) := by
  obtain ⟨i0, hi, hz0, hz1, hz2⟩ := info_parts infoEnt
  cases A with
  | none =>
    obtain ⟨rfl, rfl⟩ := h0 rfl
    obtain rfl : m = 0 := by simpa using hl.symm
    have hrun := run_append_owned_none (P := Try.prog) (w := w) B 24 ty 48 i0 4 Try.underlying24 hi (.slice (some ⟨b, 0, none⟩) n cv) n (es.flatMap ec) h
    exact ⟨b, cv, w, hrun, .inl rfl, h.blk.2, by simpa using h, Below.refl _ _, grown_refl _ _⟩
  | some ad =>
    obtain ⟨v', w', hrun, h2, h3, hnil, hlie⟩ := run_append_own_at (P := Try.prog) w B 24 ty 48 i0 (.agg #[.int .i64 0, .int .i64 0, .int .i64 0, .bool false]) 4 32 Try.underlying24 hi hz0 hz1 hz2 rfl (by decide) _ n (es.flatMap ec) h ad m c (ys.flatMap ec) (by rw [flatE_length, hl])
      (fun j u hj => by
        obtain ⟨ad', e, _, hc⟩ := hr j u hj
        cases e
        exact hc)
      ec_one (by unfold maxLen; omega) (by omega) hB
    obtain ⟨b', c', rfl, hlt⟩ := own_slice (m := 0) h2 (fun e => by
      have := (hnil.1 e).1
      cases this)
    refine ⟨b', c', w', hrun, ?_, hlt, ?_, (Below.refl _ _).grown h3 hB (fun g' e => (World.ownsRow.lt h g' e).1), h3⟩
    · rcases hlie with e | e
      · left
        simpa [Value.ownBlock] using e
      · right
        simpa [Value.ownBlock] using e
    · unfold EV
      rw [List.flatMap_append]
      exact h2

theorem wpList_append_ED {ops : Array Oper} {rest : List Oper} {o : Oper} {a : Act} {Q : Exit → Act → World → Prop} {w : World} (ys : List Ent) (hgd : o.guard = none) (s x : Operand)
    (ho : o.op = .call { callee := .builtin .append, args := #[s, x], argTypes := #[24, 24] })
    {B Bx n m c cv b : Nat} {A : Option Addr} {es : List Ent}
    (hs : a.eval s = .slice (some ⟨b, 0, none⟩) n cv) (h : EV w B (.slice (some ⟨b, 0, none⟩) n cv) n es) (hx : a.eval x = .slice A m c) (h0 : A = none → ys = [] ∧ c = 0) (hl : ys.length = m) (hr : Rd w Bx A (ys.flatMap ec)) (hn : n + m ≤ 10000000) (hB : B ≤ w.heap.size)
    (k : ∀ b' c' w', (b' = b ∨ b' = w.heap.size) → b' < w'.heap.size → EV w' B (.slice (some ⟨b', 0, none⟩) (n + m) c') (n + m) (es ++ ys) → Below B w w' → w.grownBy w' (some b) → wpList Try.prog ops Q rest (a.put o.dst (.slice (some ⟨b', 0, none⟩) (n + m) c')) w') : wpList Try.prog ops Q (o :: rest) a w := by
  obtain ⟨b', c', w', hrun, h1, h2, h3, h4, h5⟩ := run_append_ED (ty := o.type) ys h h0 hl hr hn hB
  refine wpList_plain hgd fun K hK => ?_
  unfold Oper.wp
  simp only [execOp, ho, resolve, invoke, builtin, Sem.run_bind, Sem.run_pure, Result.andThen_ok, List.map_toArray, List.map_cons, List.map_nil, hs, hx, hrun]
  exact hK _ _ (k b' c' w' h1 h2 h3 h4 h5)

theorem step_append_ED {ops : Array Oper} {o : Oper} {a : Act} {K : Act → World → Prop} {Q : Exit → Act → World → Prop} {E : Prop} {w : World} (ys : List Ent) (hgd : o.guard = none) (s x : Operand)
    (ho : o.op = .call { callee := .builtin .append, args := #[s, x], argTypes := #[24, 24] })
    {B Bx n m c cv b : Nat} {A : Option Addr} {es : List Ent}
    (hs : a.eval s = .slice (some ⟨b, 0, none⟩) n cv) (h : EV w B (.slice (some ⟨b, 0, none⟩) n cv) n es) (hx : a.eval x = .slice A m c) (h0 : A = none → ys = [] ∧ c = 0) (hl : ys.length = m) (hr : Rd w Bx A (ys.flatMap ec)) (hn : n + m ≤ 10000000) (hB : B ≤ w.heap.size)
    (k : ∀ b' c' w', (b' = b ∨ b' = w.heap.size) → b' < w'.heap.size → EV w' B (.slice (some ⟨b', 0, none⟩) (n + m) c') (n + m) (es ++ ys) → Below B w w' → w.grownBy w' (some b) → K (a.put o.dst (.slice (some ⟨b', 0, none⟩) (n + m) c')) w') :
    if Region.wanted o (yielded ops a.tmps) = true then Oper.wp Try.prog o a w K Q else E := by
  obtain ⟨b', c', w', hrun, h1, h2, h3, h4, h5⟩ := run_append_ED (ty := o.type) ys h h0 hl hr hn hB
  have hw : Region.wanted o (yielded ops a.tmps) = true := by simp [Region.wanted, hgd]
  rw [if_pos hw]
  unfold Oper.wp execOp
  simp only [ho, resolve, invoke, builtin, Sem.run_bind, Sem.run_pure, Result.andThen_ok, List.map_toArray, List.map_cons, List.map_nil, hs, hx, hrun]
  exact k b' c' w' h1 h2 h3 h4 h5

theorem infoInt : (Try.prog.info? 3).map (fun i => (i.zero, i.size, i.bytes)) = some (some (.int .i64 0), 1, 8) := by kernel_rfl
/-- The slice in block b, of the call's own, holds n ints. -/
def TD (w : World) (b n c : Nat) : Prop := ∃ xs, w.ownsRow 0 3 1 (.slice (some ⟨b, 0, none⟩) n c) n xs
theorem TD.off {w w' : World} {b n c : Nat} {row : Option Nat} (h : TD w b n c) (hg : w.grownBy w' row) (hne : row ≠ some b) : TD w' b n c := by
  obtain ⟨xs, h⟩ := h
  refine ⟨xs, World.ownsRow.kept h hg (.inr ?_)⟩
  intro e
  exact hne (e.symm ▸ rfl)
theorem TD.below {w w' : World} {b n c : Nat} (h : TD w b n c) (hb : Below w.heap.size w w') : TD w' b n c :=
  h.off (row := none) ⟨hb.os, hb.tape, hb.output, hb.size, fun i hi _ => hb.block i hi⟩ (fun e => by cases e)
theorem TD.alloc {w : World} {b n c : Nat} (h : TD w b n c) (o : Obj) : TD (w.alloc o) b n c := h.below ((Below.refl _ _).alloc (Nat.le_refl _) o)
theorem TD.start (w : World) : TD (w.alloc (.cells #[] 3)) w.heap.size 0 0 := ⟨[], rfl, .inr ⟨w.heap.size, 0, #[], rfl, Nat.zero_le _, Box.new w _ _, Nat.le_refl _, Nat.zero_le _, by simp, by simp⟩⟩
theorem TD.lt {w : World} {b n c : Nat} (h : TD w b n c) : b < w.heap.size := by
  obtain ⟨xs, h⟩ := h
  exact (World.ownsRow.lt h b rfl).2

theorem wpList_append_TD {ops : Array Oper} {rest : List Oper} {o : Oper} {a : Act} {Q : Exit → Act → World → Prop} {w : World} (y : Int) (hgd : o.guard = none) (s x : Operand)
    (ho : o.op = .call { callee := .builtin .append, args := #[s, x], argTypes := #[31, 31] })
    {n g cv b : Nat}
    (hs : a.eval s = .slice (some ⟨b, 0, none⟩) n cv) (h : TD w b n cv) (hx : a.eval x = .slice (some ⟨g, 0, none⟩) 1 1) (hg : w.cell? ⟨g, 0, none⟩ = some (.int .i64 y)) (hn : n ≤ 1000000)
    (k : ∀ b' c' w', (b' = b ∨ b' = w.heap.size) → TD w' b' (n + 1) c' → w.grownBy w' (some b) → wpList Try.prog ops Q rest (a.put o.dst (.slice (some ⟨b', 0, none⟩) (n + 1) c')) w') : wpList Try.prog ops Q (o :: rest) a w := by
  obtain ⟨i0, hi, hz0, hz1, hz2⟩ := info_parts infoInt
  obtain ⟨xs, h⟩ := h
  obtain ⟨v', w', hrun, h2, h3, hnil, hlie⟩ := run_append_own_at (P := Try.prog) w 0 31 o.type 3 i0 (.int .i64 0) 1 8 Try.underlying31 hi hz0 hz1 hz2 rfl (by decide) _ n xs h ⟨g, 0, none⟩ 1 1 [.int .i64 y] rfl
    (fun j u hj => by
      match j, hj with
      | 0, hj =>
        simp at hj
        subst hj
        simpa [Addr.add] using hg)
    (fun u hu => by
      simp at hu
      subst hu
      rfl) (by unfold maxLen; omega) (by omega) (Nat.zero_le _)
  obtain ⟨b', c', rfl, hlt⟩ := own_slice (m := 0) h2 (fun e => by
    have := (hnil.1 e).1
    cases this)
  refine wpList_plain hgd fun K hK => ?_
  unfold Oper.wp
  simp only [execOp, ho, resolve, invoke, builtin, Sem.run_bind, Sem.run_pure, Result.andThen_ok, List.map_toArray, List.map_cons, List.map_nil, hs, hx, hrun]
  refine hK _ _ (k b' c' w' ?_ ⟨_, h2⟩ h3)
  rcases hlie with e | e
  · left
    simpa [Value.ownBlock] using e
  · right
    simpa [Value.ownBlock] using e
end Go.Proofs.Ytiecjkacbpbghaa
