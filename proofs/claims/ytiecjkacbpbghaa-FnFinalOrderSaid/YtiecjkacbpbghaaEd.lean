/- Contracts: entries are copied; entries are appended inside a region that draws. -/
import Derived.Test.YtiecjkacbpbghaaEc
import Derived.Deep.RegionHeld3
import Derived.Deep.AppendLies
import Derived.Deep.DrawnRows
namespace Go.Proofs.Ytiecjkacbpbghaa
set_option linter.unusedVariables false
open Go.RowKit

theorem Box.four {w : World} {b : Nat} {t : TypeId} {a0 a1 a2 a3 : Value} (h : Box w b t #[a0, a1, a2, a3]) :
    w.cell? ⟨b, 0, none⟩ = some a0 ∧ w.cell? ⟨b, 1, none⟩ = some a1 ∧ w.cell? ⟨b, 2, none⟩ = some a2 ∧ w.cell? ⟨b, 3, none⟩ = some a3 :=
  ⟨by simpa using h.cell 0, by simpa using h.cell 1, by simpa using h.cell 2, by simpa using h.cell 3⟩

/-- A new slice of entries. -/
def NewE (es : List Ent) (w : World) (e : Ending) (w' : World) : Prop :=
  ∃ A c, e = .returned (.slice A es.length c) ∧ EV w' w.heap.size (.slice A es.length c) es.length es ∧ Below w.heap.size w w'

set_option maxHeartbeats 1000000 in
theorem cloneE_c (A : Option Addr) (es : List Ent) (c : Nat) (w : World) (hn : es.length ≤ 1048576) (h0 : A = none → es = [] ∧ c = 0) (hr : RE w A es) :
    Calls Try.prog 31 #[.slice A es.length c] w (NewE es w) := by
  cases A with
  | none =>
    obtain ⟨rfl, rfl⟩ := h0 rfl
    go_enter Try.func31, Try.ntmps31
    go_wp2_with (first
      | (at_make; refine wpList_make_EV 0 rfl _ _ rfl rfl rfl (by omega) ?_; intro w1 V1 hb1 hs1)
      | (at_builtin; refine wpList_append_EVn rfl _ _ rfl rfl V1 rfl ?_))
    go_ret
    exact ⟨_, _, rfl, V1, hb1⟩
  | some ad =>
    go_enter Try.func31, Try.ntmps31
    go_wp2_with (first
      | (at_make; refine wpList_make_EV es.length rfl _ _ rfl rfl rfl (by omega) ?_; intro w1 V1 hb1 hs1)
      | (at_builtin; refine wpList_append_EVs es rfl _ _ rfl rfl V1 rfl rfl (Rd.below hr hb1) (by omega) (by omega) ?_; intro v2 w2 V2 hb2 hg2))
    go_ret
    obtain ⟨A2, c2, rfl⟩ := V2.open_
    simp only [Nat.zero_add, List.nil_append] at V2
    exact ⟨A2, c2, by simp, V2, hb1.trans hb2⟩

theorem step_append_EVs {ops : Array Oper} {o : Oper} {a : Act} {K : Act → World → Prop} {Q : Exit → Act → World → Prop} {E : Prop} {w : World} (ys : List Ent) (hgd : o.guard = none) (s x : Operand)
    (ho : o.op = .call { callee := .builtin .append, args := #[s, x], argTypes := #[24, 24] })
    {B Bx n m c : Nat} {v : Value} {ad : Addr} {es : List Ent}
    (hs : a.eval s = v) (h : EV w B v n es) (hx : a.eval x = .slice (some ad) m c) (hl : ys.length = m) (hr : Rd w Bx (some ad) (ys.flatMap ec)) (hn : n + m ≤ 10000000) (hB : B ≤ w.heap.size)
    (k : ∀ v' w', EV w' B v' (n + m) (es ++ ys) → Below B w w' → w.grownBy w' v.ownBlock → K (a.put o.dst v') w') :
    if Region.wanted o (yielded ops a.tmps) = true then Oper.wp Try.prog o a w K Q else E := by
  obtain ⟨i0, hi, hz0, hz1, hz2⟩ := info_parts infoEnt
  have hw : Region.wanted o (yielded ops a.tmps) = true := by simp [Region.wanted, hgd]
  rw [if_pos hw]
  obtain ⟨v', w', hrun, h2, h3, _, _⟩ := run_append_own_at (P := Try.prog) w B 24 o.type 48 i0 (.agg #[.int .i64 0, .int .i64 0, .int .i64 0, .bool false]) 4 32 Try.underlying24 hi hz0 hz1 hz2 rfl (by decide) v n (es.flatMap ec) h ad m c (ys.flatMap ec) (by rw [flatE_length, hl])
    (fun j u hj => by
      obtain ⟨ad', e, _, hc⟩ := hr j u hj
      cases e
      exact hc)
    ec_one (by unfold maxLen; omega) (by omega) hB
  unfold Oper.wp execOp
  simp only [ho, resolve, invoke, builtin, Sem.run_bind, Sem.run_pure, Result.andThen_ok, List.map_toArray, List.map_cons, List.map_nil, hs, hx, hrun]
  refine k v' w' ?_ ((Below.refl _ _).grown h3 hB (fun g' e => (World.ownsRow.lt h g' e).1)) h3
  unfold EV
  rw [List.flatMap_append]
  exact h2

/-- The same where the source is nil. -/
theorem step_append_EVn {ops : Array Oper} {o : Oper} {a : Act} {K : Act → World → Prop} {Q : Exit → Act → World → Prop} {E : Prop} {w : World} (hgd : o.guard = none) (s x : Operand)
    (ho : o.op = .call { callee := .builtin .append, args := #[s, x], argTypes := #[24, 24] })
    {B n : Nat} {v : Value} {es : List Ent}
    (hs : a.eval s = v) (h : EV w B v n es) (hx : a.eval x = .slice none 0 0)
    (k : K (a.put o.dst v) w) :
    if Region.wanted o (yielded ops a.tmps) = true then Oper.wp Try.prog o a w K Q else E := by
  obtain ⟨i0, hi, hz0, hz1, hz2⟩ := info_parts infoEnt
  have hw : Region.wanted o (yielded ops a.tmps) = true := by simp [Region.wanted, hgd]
  rw [if_pos hw]
  have hrun := run_append_owned_none (P := Try.prog) (w := w) B 24 o.type 48 i0 4 Try.underlying24 hi v n (es.flatMap ec) h
  unfold Oper.wp execOp
  simp only [ho, resolve, invoke, builtin, Sem.run_bind, Sem.run_pure, Result.andThen_ok, List.map_toArray, List.map_cons, List.map_nil, hs, hx, hrun]
  exact k
theorem gE_set {a w : World} {g : Nat} (h : a.grownBy w (some g)) (o : Nat) (u : Value) : a.grownBy (w.setCell ⟨g, o, none⟩ u) (some g) :=
  ⟨h.os, h.tape, h.output, by simpa [World.setCell] using h.size, fun i hi hne => (Below.heap_setCell w _ _ i (fun e => hne (by rw [e]))).trans (h.block i hi hne)⟩
theorem gE_alloc {a w : World} {r : Option Nat} (h : a.grownBy w r) (o : Obj) : a.grownBy (w.alloc o) r :=
  ⟨h.os, h.tape, h.output, by have := h.size; simp; omega, fun i hi hne => (Below.heap_alloc w o i (Nat.lt_of_lt_of_le hi h.size)).trans (h.block i hi hne)⟩
theorem grown_refl (w : World) (r : Option Nat) : w.grownBy w r := ⟨rfl, rfl, rfl, Nat.le_refl _, fun _ _ _ => rfl⟩

/-- The same whether the source is nil or not. -/
theorem step_append_EVo {ops : Array Oper} {o : Oper} {a : Act} {K : Act → World → Prop} {Q : Exit → Act → World → Prop} {E : Prop} {w : World} (ys : List Ent) (hgd : o.guard = none) (s x : Operand)
    (ho : o.op = .call { callee := .builtin .append, args := #[s, x], argTypes := #[24, 24] })
    {B Bx n m c : Nat} {v : Value} {A : Option Addr} {es : List Ent}
    (hs : a.eval s = v) (h : EV w B v n es) (hx : a.eval x = .slice A m c) (h0 : A = none → ys = [] ∧ c = 0) (hl : ys.length = m) (hr : Rd w Bx A (ys.flatMap ec)) (hn : n + m ≤ 10000000) (hB : B ≤ w.heap.size)
    (k : ∀ v' w', EV w' B v' (n + m) (es ++ ys) → Below B w w' → w.grownBy w' v.ownBlock → K (a.put o.dst v') w') :
    if Region.wanted o (yielded ops a.tmps) = true then Oper.wp Try.prog o a w K Q else E := by
  cases A with
  | some ad => exact step_append_EVs ys hgd s x ho hs h hx hl hr hn hB k
  | none =>
    obtain ⟨rfl, rfl⟩ := h0 rfl
    obtain rfl : m = 0 := by simpa using hl.symm
    exact step_append_EVn hgd s x ho hs h hx (k v w (by simpa using h) (Below.refl _ _) (grown_refl _ _))
theorem wpList_append_EVo {ops : Array Oper} {rest : List Oper} {o : Oper} {a : Act} {Q : Exit → Act → World → Prop} {w : World} (ys : List Ent) (hgd : o.guard = none) (s x : Operand)
    (ho : o.op = .call { callee := .builtin .append, args := #[s, x], argTypes := #[24, 24] })
    {B Bx n m c : Nat} {v : Value} {A : Option Addr} {es : List Ent}
    (hs : a.eval s = v) (h : EV w B v n es) (hx : a.eval x = .slice A m c) (h0 : A = none → ys = [] ∧ c = 0) (hl : ys.length = m) (hr : Rd w Bx A (ys.flatMap ec)) (hn : n + m ≤ 10000000) (hB : B ≤ w.heap.size)
    (k : ∀ v' w', EV w' B v' (n + m) (es ++ ys) → Below B w w' → w.grownBy w' v.ownBlock → wpList Try.prog ops Q rest (a.put o.dst v') w') : wpList Try.prog ops Q (o :: rest) a w := by
  cases A with
  | some ad => exact wpList_append_EVs ys hgd s x ho hs h hx hl hr hn hB k
  | none =>
    obtain ⟨rfl, rfl⟩ := h0 rfl
    obtain rfl : m = 0 := by simpa using hl.symm
    exact wpList_append_EVn hgd s x ho hs h hx (k v w (by simpa using h) (Below.refl _ _) (grown_refl _ _))
end Go.Proofs.Ytiecjkacbpbghaa
