/- Memory words: a slice that the call makes with its full length and fills element by element. -/
import Derived.Test.YtiecjkacbpbghaaMem2
namespace Go.Proofs.Ytiecjkacbpbghaa
set_option linter.unusedVariables false
open Go.RowKit

theorem made_const (z : Array Value) (v : Value) (m : Nat) (hz : 0 < z.size) (h : ∀ i, i < z.size → z[i]! = v) : madeCells z m = (List.replicate m v).toArray := by
  apply Array.ext
  · simp [madeCells]
  · intro i h1 h2
    simp only [madeCells, Array.getElem_map, Array.getElem_range, List.getElem_toArray, List.getElem_replicate]
    exact h _ (Nat.mod_lt _ hz)
theorem made_ints (n : Nat) : madeCells #[.int .i64 0] (n * 1) = (List.replicate n (Value.int .i64 0)).toArray := by
  rw [Nat.mul_one]
  exact made_const _ _ _ (by simp) (fun i hi => by
    obtain rfl : i = 0 := by simpa using hi
    rfl)
theorem made_pairs (n : Nat) : madeCells #[.int .i64 0, .int .i64 0] (n * 2) = (List.replicate (n * 2) (Value.int .i64 0)).toArray :=
  made_const _ _ _ (by simp) (fun i hi => by
    rcases (show i = 0 ∨ i = 1 by simp at hi; omega) with rfl | rfl <;> rfl)

/-- The first k ints are in. -/
def fillI (xs : List Int) (k : Nat) : List Value := (xs.take k).map (Value.int .i64) ++ List.replicate (xs.length - k) (.int .i64 0)
theorem fillI_zero (xs : List Int) : fillI xs 0 = List.replicate xs.length (.int .i64 0) := by simp [fillI]
theorem fillI_full (xs : List Int) : fillI xs xs.length = xs.map (Value.int .i64) := by simp [fillI]
theorem fillI_length (xs : List Int) (k : Nat) (hk : k ≤ xs.length) : (fillI xs k).length = xs.length := by
  simp [fillI]; omega
theorem set_mid (l r : List Value) (a x : Value) : (l ++ a :: r).set l.length x = l ++ x :: r := by simp
theorem fillI_step {xs : List Int} {k : Nat} {x : Int} (h : xs[k]? = some x) : (fillI xs k).set k (.int .i64 x) = fillI xs (k + 1) := by
  have hk := (List.getElem?_eq_some_iff.1 h).1
  obtain ⟨m, hm⟩ : ∃ m, xs.length - k = m + 1 := ⟨xs.length - k - 1, by omega⟩
  have hl : ((xs.take k).map (Value.int .i64)).length = k := by simp; omega
  have e := set_mid ((xs.take k).map (Value.int .i64)) (List.replicate m (.int .i64 0)) (.int .i64 0) (.int .i64 x)
  rw [hl] at e
  have e2 : xs.length - (k + 1) = m := by omega
  unfold fillI
  rw [hm, List.replicate_succ, e, take_at h, e2]
  simp

/-- The first k pairs are in. -/
def fillP (ss : List (Int × Int)) (k : Nat) : List Value := (ss.take k).flatMap pc ++ List.replicate ((ss.length - k) * 2) (.int .i64 0)
theorem fillP_zero (ss : List (Int × Int)) : fillP ss 0 = List.replicate (ss.length * 2) (.int .i64 0) := by simp [fillP]
theorem fillP_full (ss : List (Int × Int)) : fillP ss ss.length = ss.flatMap pc := by simp [fillP]
theorem flat_length (ss : List (Int × Int)) : (ss.flatMap pc).length = ss.length * 2 := by
  induction ss with
  | nil => rfl
  | cons a r ih => simp only [List.flatMap_cons, List.length_append, ih, List.length_cons]; simp [pc]; omega
theorem fillP_length (ss : List (Int × Int)) (k : Nat) (hk : k ≤ ss.length) : (fillP ss k).length = ss.length * 2 := by
  unfold fillP
  rw [List.length_append, flat_length, List.length_take, List.length_replicate]
  omega
theorem set_mid2 (l r : List Value) (a b x y : Value) : ((l ++ a :: b :: r).set l.length x).set (l.length + 1) y = l ++ x :: y :: r := by
  induction l with
  | nil => simp
  | cons c l ih => simp
theorem fillP_step {ss : List (Int × Int)} {k : Nat} {x y : Int} (h : ss[k]? = some (x, y)) : ((fillP ss k).set (k * 2) (.int .i64 x)).set (k * 2 + 1) (.int .i64 y) = fillP ss (k + 1) := by
  have hk := (List.getElem?_eq_some_iff.1 h).1
  obtain ⟨m, hm⟩ : ∃ m, (ss.length - k) * 2 = m + 1 + 1 := ⟨(ss.length - k) * 2 - 2, by omega⟩
  have hl : ((ss.take k).flatMap pc).length = k * 2 := by rw [flat_length, List.length_take]; omega
  have e := set_mid2 ((ss.take k).flatMap pc) (List.replicate m (.int .i64 0)) (.int .i64 0) (.int .i64 0) (.int .i64 x) (.int .i64 y)
  rw [hl] at e
  have e2 : (ss.length - (k + 1)) * 2 = m := by omega
  unfold fillP
  rw [hm, List.replicate_succ, List.replicate_succ, e, take_at h, e2]
  simp [pc]

/-- A block that is known whole reads as its cells. -/
theorem Rd.box {w : World} {g : Nat} {t : TypeId} {cs : List Value} (h : Box w g t cs.toArray) : Rd w w.heap.size (some ⟨g, 0, none⟩) cs := fun j u hu => by
  refine ⟨_, rfl, h.lt, ?_⟩
  rw [Addr.add_lit, Nat.zero_add, h.cell j]
  simpa using hu
theorem Box.list_set {w : World} {g : Nat} {t : TypeId} {cs : List Value} (h : Box w g t cs.toArray) (i : Nat) (u : Value) : Box (w.setCell ⟨g, i, none⟩ u) g t (cs.set i u).toArray := by
  simpa using h.set i u
end Go.Proofs.Ytiecjkacbpbghaa
