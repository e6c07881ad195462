/- Memory words: an int is appended to a slice of ints of the call's own. -/
import Derived.Test.YtbdboekjcgefhaaIa
namespace Go.Proofs.Ytbdboekjcgefhaa
set_option linter.unusedVariables false
open Go.RowKit

theorem own_row (A : Option Addr) (n c : Nat) : (Value.slice A n c).ownBlock = A.map (·.block) := by
  cases A <;> rfl

theorem wpList_append_IV {ops : Array Oper} {rest : List Oper} {o : Oper} {a : Act} {Q : Exit → Act → World → Prop} {w : World} (y : Int) (hgd : o.guard = none) (s x : Operand)
    (ho : o.op = .call { callee := .builtin .append, args := #[s, x], argTypes := #[24, 24] })
    {B n g : Nat} {v : Value} {xs : List Int}
    (hs : a.eval s = v) (h : IV w B v n xs) (hx : a.eval x = .slice (some ⟨g, 0, none⟩) 1 1) (hg : w.cell? ⟨g, 0, none⟩ = some (.int .i64 y)) (hn : n ≤ 1000000) (hB : B ≤ w.heap.size)
    (k : ∀ v' w', IV w' B v' (n + 1) (xs ++ [y]) → Below B w w' → w.grownBy w' v.ownBlock → wpList Try.prog ops Q rest (a.put o.dst v') w') : wpList Try.prog ops Q (o :: rest) a w := by
  obtain ⟨i0, hi, hz0, hz1, hz2⟩ := info_parts infoInt
  refine wpList_append_own _ hgd s x 24 ho B 3 i0 (.int .i64 0) 1 8 Try.underlying24 hi hz0 hz1 hz2 rfl (by decide) _ n (xs.map (Value.int .i64)) hs h ⟨g, 0, none⟩ 1 1 [.int .i64 y] hx rfl ?_ ?_ (by unfold maxLen; omega) (by omega) hB ?_
  · intro j u hj
    match j, hj with
    | 0, hj =>
      simp at hj
      subst hj
      simpa [Addr.add] using hg
  · intro u hu
    simp at hu
    subst hu
    rfl
  · intro v' w' h1 h2 _
    refine k v' w' ?_ ((Below.refl _ _).grown h2 hB (fun g' e => (World.ownsRow.lt h g' e).1)) h2
    unfold IV
    rw [List.map_append]
    exact h1

theorem wpList_append_IVs {ops : Array Oper} {rest : List Oper} {o : Oper} {a : Act} {Q : Exit → Act → World → Prop} {w : World} (ys : List Int) (hgd : o.guard = none) (s x : Operand)
    (ho : o.op = .call { callee := .builtin .append, args := #[s, x], argTypes := #[24, 24] })
    {B Bx n m c : Nat} {v : Value} {ad : Addr} {xs : List Int}
    (hs : a.eval s = v) (h : IV w B v n xs) (hx : a.eval x = .slice (some ad) m c) (hl : ys.length = m) (hr : Rd w Bx (some ad) (ys.map (Value.int .i64))) (hn : n + m ≤ 10000000) (hB : B ≤ w.heap.size)
    (k : ∀ v' w', IV w' B v' (n + m) (xs ++ ys) → Below B w w' → w.grownBy w' v.ownBlock → wpList Try.prog ops Q rest (a.put o.dst v') w') : wpList Try.prog ops Q (o :: rest) a w := by
  obtain ⟨i0, hi, hz0, hz1, hz2⟩ := info_parts infoInt
  refine wpList_append_own _ hgd s x 24 ho B 3 i0 (.int .i64 0) 1 8 Try.underlying24 hi hz0 hz1 hz2 rfl (by decide) _ n (xs.map (Value.int .i64)) hs h ad m c (ys.map (Value.int .i64)) hx (by simp [hl]) ?_ ?_ (by unfold maxLen; omega) (by omega) hB ?_
  · intro j u hj
    obtain ⟨ad', e, _, hc⟩ := hr j u hj
    cases e
    exact hc
  · intro u hu
    obtain ⟨y, _, rfl⟩ := List.mem_map.1 hu
    rfl
  · intro v' w' h1 h2 _
    refine k v' w' ?_ ((Below.refl _ _).grown h2 hB (fun g' e => (World.ownsRow.lt h g' e).1)) h2
    unfold IV
    rw [List.map_append]
    exact h1

theorem wpList_make_IV {ops : Array Oper} {rest : List Oper} {o : Oper} {a : Act} {Q : Exit → Act → World → Prop} {w : World} (n : Nat) (hgd : o.guard = none) (l c : Operand)
    (ho : o.op = .makeSlice 24 l c) (hl : a.eval l = .int .i64 0) (hc : a.eval c = .int .i64 n) (hn : n ≤ 1000000000)
    (k : ∀ w', IV w' w.heap.size (.slice (some ⟨w.heap.size, 0, none⟩) 0 n) 0 [] → Below w.heap.size w w' → w.heap.size < w'.heap.size → wpList Try.prog ops Q rest (a.put o.dst (.slice (some ⟨w.heap.size, 0, none⟩) 0 n)) w') : wpList Try.prog ops Q (o :: rest) a w := by
  obtain ⟨i0, hi, hz0, hz1, hz2⟩ := info_parts infoInt
  refine wpList_make_own w hgd l c 24 ho w.heap.size 3 i0 (.int .i64 0) 1 Try.underlying24 hi hz0 hz1 .i64 .i64 n n hl hc rfl (by rw [hz2]; omega) (by unfold maxLen; omega) (Nat.le_refl _) ?_
  intro w' h1 h2
  exact k w' h1 ((Below.refl _ _).grown h2 (Nat.le_refl _) (fun g e => by cases e)) (World.ownsRow.lt h1 w.heap.size rfl).2
end Go.Proofs.Ytbdboekjcgefhaa
