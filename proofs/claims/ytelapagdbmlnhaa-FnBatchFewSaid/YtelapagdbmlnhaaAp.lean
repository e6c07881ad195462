/- Memory words: an int is appended to a slice of ints of the call's own. -/
import Derived.Test.YtelapagdbmlnhaaIa
namespace Go.Proofs.Ytelapagdbmlnhaa
set_option linter.unusedVariables false
open Go.RowKit

theorem own_row (A : Option Addr) (n c : Nat) : (Value.slice A n c).ownBlock = A.map (·.block) := by
  cases A <;> rfl

theorem wpList_append_IV {ops : Array Oper} {rest : List Oper} {o : Oper} {a : Act} {Q : Exit → Act → World → Prop} {w : World} (y : Int) (hgd : o.guard = none) (s x : Operand)
    (ho : o.op = .call { callee := .builtin .append, args := #[s, x], argTypes := #[23, 23] })
    {B n g : Nat} {v : Value} {xs : List Int}
    (hs : a.eval s = v) (h : IV w B v n xs) (hx : a.eval x = .slice (some ⟨g, 0, none⟩) 1 1) (hg : w.cell? ⟨g, 0, none⟩ = some (.int .i64 y)) (hn : n ≤ 1000000) (hB : B ≤ w.heap.size)
    (k : ∀ v' w', IV w' B v' (n + 1) (xs ++ [y]) → Below B w w' → w.grownBy w' v.ownBlock → wpList Try.prog ops Q rest (a.put o.dst v') w') : wpList Try.prog ops Q (o :: rest) a w := by
  obtain ⟨i0, hi, hz0, hz1, hz2⟩ := info_parts infoInt
  refine wpList_append_own _ hgd s x 23 ho B 3 i0 (.int .i64 0) 1 8 Try.underlying23 hi hz0 hz1 hz2 rfl (by decide) _ n (xs.map (Value.int .i64)) hs h ⟨g, 0, none⟩ 1 1 [.int .i64 y] hx rfl ?_ ?_ (by unfold maxLen; omega) (by omega) hB ?_
  · intro j u hj
    match j, hj with
    | 0, hj =>
      simp at hj
      subst hj
      simpa [Addr.add] using hg
  · intro u hu
    simp at hu
    subst hu
    rfl
  · intro v' w' h1 h2 _
    refine k v' w' ?_ ((Below.refl _ _).grown h2 hB (fun g' e => (World.ownsRow.lt h g' e).1)) h2
    unfold IV
    rw [List.map_append]
    exact h1
end Go.Proofs.Ytelapagdbmlnhaa
