/- Memory words: entries (a message, a stamp, a mark): a slice that reads as entries; the same of the call's own, at whatever capacity. -/
import Derived.Test.YtiecjkacbpbghaaRows
import Derived.Test.YtiecjkacbpbghaaExt
import Derived.Test.YtiecjkacbpbghaaMem3
import Derived.Laws.AppendOwnNone
namespace Go.Proofs.Ytiecjkacbpbghaa
set_option linter.unusedVariables false
open Go.RowKit

theorem hidI {p : Prop} (h : p) : Hid p := h



/-- An entry. -/
structure Ent where
  m : Int
  t : Int
  g : Int
  f : Bool
/-- Its cells. -/
def ec (e : Ent) : List Value := [.int .i64 e.m, .int .i64 e.t, .int .i64 e.g, .bool e.f]

theorem flat_ec {es : List Ent} {k : Nat} {e : Ent} (h : es[k]? = some e) :
    (es.flatMap ec)[k * 4]? = some (.int .i64 e.m) ∧ (es.flatMap ec)[k * 4 + 1]? = some (.int .i64 e.t) ∧ (es.flatMap ec)[k * 4 + 2]? = some (.int .i64 e.g) ∧ (es.flatMap ec)[k * 4 + 3]? = some (.bool e.f) := by
  induction es generalizing k with
  | nil => simp at h
  | cons a r ih =>
    cases k with
    | zero =>
      simp at h
      subst h
      simp [ec]
    | succ k =>
      simp at h
      have := ih h
      have e1 : (k + 1) * 4 = k * 4 + 1 + 1 + 1 + 1 := by omega
      rw [e1]
      simpa [ec] using this
theorem flatE_length (es : List Ent) : (es.flatMap ec).length = es.length * 4 := by
  induction es with
  | nil => rfl
  | cons a r ih => simp only [List.flatMap_cons, List.length_append, ih, List.length_cons]; simp [ec]; omega

/-- The slice at A reads as these entries. -/
abbrev RE (w : World) (A : Option Addr) (es : List Ent) : Prop := Rd w w.heap.size A (es.flatMap ec)
theorem RE.below {w w' : World} {A : Option Addr} {es : List Ent} (h : RE w A es) (hb : Below w.heap.size w w') : RE w' A es := (Rd.below h hb).low

/-- One entry. -/
theorem Rd.ent {w : World} {B : Nat} {A : Option Addr} {es : List Ent} {k : Nat} (h : Rd w B A (es.flatMap ec)) (hk : k < es.length) :
    ∃ b o m t g f, A = some ⟨b, o, none⟩ ∧ b < B ∧ Hid (es[k]? = some ⟨m, t, g, f⟩) ∧ w.cell? ⟨b, o + k * 4, none⟩ = some (.int .i64 m) ∧ w.cell? ⟨b, o + k * 4 + 1, none⟩ = some (.int .i64 t) ∧ w.cell? ⟨b, o + k * 4 + 2, none⟩ = some (.int .i64 g) ∧ w.cell? ⟨b, o + k * 4 + 3, none⟩ = some (.bool f) := by
  have hs : es[k]? = some es[k] := List.getElem?_eq_getElem hk
  obtain ⟨p0, p1, p2, p3⟩ := flat_ec hs
  obtain ⟨b, o, e, hb, hc⟩ := h.lit (by have := (List.getElem?_eq_some_iff.1 p0).1; omega)
  exact ⟨b, o, es[k].m, es[k].t, es[k].g, es[k].f, e, hb, hs, hc _ _ p0, hc _ _ p1, hc _ _ p2, hc _ _ p3⟩

/-- The slice's block and place. -/
theorem Rd.base {w : World} {B : Nat} {A : Option Addr} {es : List Ent} (h : Rd w B A (es.flatMap ec)) (hk : 0 < es.length) : ∃ b o, A = some ⟨b, o, none⟩ ∧ b < B := by
  obtain ⟨b, o, _, _, _, _, e, hb, _⟩ := h.ent hk
  exact ⟨b, o, e, hb⟩
/-- The rest. -/
theorem Rd.ents_drop {w : World} {B b o : Nat} {es : List Ent} (h : Rd w B (some ⟨b, o, none⟩) (es.flatMap ec)) (k : Nat) : Rd w B (some ⟨b, o + k * 4, none⟩) ((es.drop k).flatMap ec) := fun j u hu => by
  have hl := (List.getElem?_eq_some_iff.1 hu).1
  rw [flatE_length, List.length_drop] at hl
  have hcut : (es.flatMap ec).drop (k * 4) = (es.drop k).flatMap ec := by
    have e1 : es.flatMap ec = (es.take k).flatMap ec ++ (es.drop k).flatMap ec := by rw [← List.flatMap_append, List.take_append_drop]
    have e2 : ((es.take k).flatMap ec).length = k * 4 := by rw [flatE_length, List.length_take]; omega
    rw [e1, List.drop_append_of_le_length (by omega), List.drop_eq_nil_of_le (by omega), List.nil_append]
  rw [← hcut, List.getElem?_drop] at hu
  obtain ⟨ad, e, hb, hc⟩ := h _ _ hu
  cases e
  refine ⟨_, rfl, hb, ?_⟩
  rw [Addr.add_lit] at hc ⊢
  rw [Nat.add_assoc]
  exact hc
theorem Rd.ents_take {w : World} {B : Nat} {A : Option Addr} {es : List Ent} (h : Rd w B A (es.flatMap ec)) (k : Nat) : Rd w B A ((es.take k).flatMap ec) := by
  have e1 : es.flatMap ec = (es.take k).flatMap ec ++ (es.drop k).flatMap ec := by rw [← List.flatMap_append, List.take_append_drop]
  have := h.take ((es.take k).flatMap ec).length
  rwa [e1, List.take_append_of_le_length (Nat.le_refl _), List.take_length] at this

/-- The slice value v, made from block B on, reads as the entries es. -/
def EV (w : World) (B : Nat) (v : Value) (n : Nat) (es : List Ent) : Prop := w.ownsRow B 48 4 v n (es.flatMap ec)

section
variable {w w' : World} {B n : Nat} {v : Value} {es : List Ent}

theorem EV.open_ (h : EV w B v n es) : ∃ A c, v = .slice A n c := by
  rcases h.2 with ⟨hv, hn⟩ | ⟨g, cap, cur, hv, _⟩
  · subst hv hn
    exact ⟨none, 0, rfl⟩
  · exact ⟨_, _, hv⟩
theorem EV.len (h : EV w B v n es) : es.length = n := by
  have h1 := h.1
  rw [flatE_length] at h1
  omega
theorem EV.rd {A : Option Addr} {c : Nat} (h : EV w B (.slice A n c) n es) : RE w A es := Rd.own h
theorem EV.cap {A : Option Addr} {c : Nat} (h : EV w B (.slice A n c) n es) : n ≤ c ∧ c ≤ maxLen := by
  rcases h.2 with ⟨hv, h0⟩ | ⟨g, cap, cur, hv, hb, hg, h1, h2, _⟩
  · injection hv with e1 e2 e3
    subst e1 e2 e3
    exact ⟨Nat.le_refl _, Nat.zero_le _⟩
  · injection hv with e1 e2 e3
    subst e1 e3
    exact ⟨h1, h2⟩
theorem EV.lt {A : Option Addr} {c : Nat} (h : EV w B (.slice A n c) n es) : ∀ a, A = some a → B ≤ a.block ∧ a.block < w.heap.size := fun a e => by
  subst e
  exact World.ownsRow.lt h a.block rfl
/-- Another block than the row's own turns. -/
theorem EV.off {row : Option Nat} (h : EV w B v n es) (hg : w.grownBy w' row) (hne : ∀ k, row = some k → v.ownBlock ≠ some k) : EV w' B v n es := by
  refine World.ownsRow.kept h hg ?_
  cases e : v.ownBlock with
  | none => exact .inl rfl
  | some k => exact .inr fun e2 => hne k e2.symm e
theorem EV.grown {row : Option Nat} (h : EV w B v n es) (hg : w.grownBy w' row) (hne : ∀ k, row = some k → k < B) : EV w' B v n es :=
  h.off hg fun k e e2 => by
    have := hne k e
    have := (World.ownsRow.lt h k e2).1
    omega
theorem EV.below (h : EV w B v n es) (hb : Below w.heap.size w w') : EV w' B v n es :=
  h.grown (row := none) ⟨hb.os, hb.tape, hb.output, hb.size, fun i hi _ => hb.block i hi⟩ (fun k e => by cases e)
theorem EV.alloc (h : EV w B v n es) (o : Obj) : EV (w.alloc o) B v n es := h.below ((Below.refl _ _).alloc (Nat.le_refl _) o)
theorem EV.drew (h : EV w B v n es) : EV w.drew B v n es := h
theorem EV.mono {B' : Nat} (h : EV w B v n es) (hB : B' ≤ B) : EV w B' v n es := by
  refine ⟨h.1, ?_⟩
  rcases h.2 with h2 | ⟨g, cap, cur, hv, hb, hr⟩
  · exact .inl h2
  · exact .inr ⟨g, cap, cur, hv, by omega, hr⟩
theorem EV.nil (w : World) (B : Nat) : EV w B (.slice none 0 0) 0 [] := World.ownsRow_nil w B _ 4
theorem EV.start (w : World) : EV (w.alloc (.cells #[] 48)) w.heap.size (.slice (some ⟨w.heap.size, 0, none⟩) 0 0) 0 [] := by
  refine ⟨rfl, .inr ⟨w.heap.size, 0, #[], rfl, Nat.le_refl _, Box.new w _ _, Nat.le_refl _, Nat.zero_le _, by simp, by simp⟩⟩
theorem EV.full {g : Nat} (h : Box w g 48 (es.flatMap ec).toArray) (hB : B ≤ g) (hc : es.length ≤ maxLen) : EV w B (.slice (some ⟨g, 0, none⟩) es.length es.length) es.length es := by
  refine ⟨by rw [flatE_length], .inr ⟨g, es.length, (es.flatMap ec).toArray, rfl, hB, h, Nat.le_refl _, hc, by rw [List.size_toArray, flatE_length], ?_⟩⟩
  rw [← flatE_length, List.take_of_length_le (Nat.le_refl _)]
end

theorem infoEnt : (Try.prog.info? 48).map (fun i => (i.zero, i.size, i.bytes)) = some (some (.agg #[.int .i64 0, .int .i64 0, .int .i64 0, .bool false]), 4, 32) := by kernel_rfl

theorem ec_one {es : List Ent} : ∀ u ∈ es.flatMap ec, u.oneCell' = true := by
  intro u hu
  obtain ⟨e, _, h⟩ := List.mem_flatMap.1 hu
  simp [ec] at h
  rcases h with rfl | rfl | rfl | rfl <;> rfl

/-- Entries are appended to entries of the call's own. -/
theorem wpList_append_EVs {ops : Array Oper} {rest : List Oper} {o : Oper} {a : Act} {Q : Exit → Act → World → Prop} {w : World} (ys : List Ent) (hgd : o.guard = none) (s x : Operand)
    (ho : o.op = .call { callee := .builtin .append, args := #[s, x], argTypes := #[24, 24] })
    {B Bx n m c : Nat} {v : Value} {ad : Addr} {es : List Ent}
    (hs : a.eval s = v) (h : EV w B v n es) (hx : a.eval x = .slice (some ad) m c) (hl : ys.length = m) (hr : Rd w Bx (some ad) (ys.flatMap ec)) (hn : n + m ≤ 10000000) (hB : B ≤ w.heap.size)
    (k : ∀ v' w', EV w' B v' (n + m) (es ++ ys) → Below B w w' → w.grownBy w' v.ownBlock → wpList Try.prog ops Q rest (a.put o.dst v') w') : wpList Try.prog ops Q (o :: rest) a w := by
  obtain ⟨i0, hi, hz0, hz1, hz2⟩ := info_parts infoEnt
  refine wpList_append_own _ hgd s x 24 ho B 48 i0 (.agg #[.int .i64 0, .int .i64 0, .int .i64 0, .bool false]) 4 32 Try.underlying24 hi hz0 hz1 hz2 rfl (by decide) _ n (es.flatMap ec) hs h ad m c (ys.flatMap ec) hx (by rw [flatE_length, hl]) ?_ ec_one (by unfold maxLen; omega) (by omega) hB ?_
  · intro j u hj
    obtain ⟨ad', e, _, hc⟩ := hr j u hj
    cases e
    exact hc
  · intro v' w' h1 h2 _
    refine k v' w' ?_ ((Below.refl _ _).grown h2 hB (fun g' e => (World.ownsRow.lt h g' e).1)) h2
    unfold EV
    rw [List.flatMap_append]
    exact h1

theorem wpList_append_EV {ops : Array Oper} {rest : List Oper} {o : Oper} {a : Act} {Q : Exit → Act → World → Prop} {w : World} (y : Ent) (hgd : o.guard = none) (s x : Operand)
    (ho : o.op = .call { callee := .builtin .append, args := #[s, x], argTypes := #[24, 24] })
    {B n g : Nat} {v : Value} {es : List Ent}
    (hs : a.eval s = v) (h : EV w B v n es) (hx : a.eval x = .slice (some ⟨g, 0, none⟩) 1 1) (hr : Box w g 48 (ec y).toArray) (hn : n ≤ 1000000) (hB : B ≤ w.heap.size)
    (k : ∀ v' w', EV w' B v' (n + 1) (es ++ [y]) → Below B w w' → w.grownBy w' v.ownBlock → wpList Try.prog ops Q rest (a.put o.dst v') w') : wpList Try.prog ops Q (o :: rest) a w :=
  wpList_append_EVs [y] hgd s x ho hs h hx rfl (by have := Rd.box hr; simpa using this) (by omega) hB k

theorem wpList_append_EVn {ops : Array Oper} {rest : List Oper} {o : Oper} {a : Act} {Q : Exit → Act → World → Prop} {w : World} (hgd : o.guard = none) (s x : Operand)
    (ho : o.op = .call { callee := .builtin .append, args := #[s, x], argTypes := #[24, 24] })
    {B n : Nat} {v : Value} {es : List Ent}
    (hs : a.eval s = v) (h : EV w B v n es) (hx : a.eval x = .slice none 0 0)
    (k : wpList Try.prog ops Q rest (a.put o.dst v) w) : wpList Try.prog ops Q (o :: rest) a w := by
  obtain ⟨i0, hi, hz0, hz1, hz2⟩ := info_parts infoEnt
  exact wpList_append_own_none hgd s x 24 ho B 48 i0 4 Try.underlying24 hi v n (es.flatMap ec) hs h hx k

theorem wpList_make_EV {ops : Array Oper} {rest : List Oper} {o : Oper} {a : Act} {Q : Exit → Act → World → Prop} {w : World} (n : Nat) (hgd : o.guard = none) (l c : Operand)
    (ho : o.op = .makeSlice 24 l c) (hl : a.eval l = .int .i64 0) (hc : a.eval c = .int .i64 n) (hn : n ≤ 1000000000)
    (k : ∀ w', EV w' w.heap.size (.slice (some ⟨w.heap.size, 0, none⟩) 0 n) 0 [] → Below w.heap.size w w' → w.heap.size < w'.heap.size → wpList Try.prog ops Q rest (a.put o.dst (.slice (some ⟨w.heap.size, 0, none⟩) 0 n)) w') : wpList Try.prog ops Q (o :: rest) a w := by
  obtain ⟨i0, hi, hz0, hz1, hz2⟩ := info_parts infoEnt
  refine wpList_make_own w hgd l c 24 ho w.heap.size 48 i0 (.agg #[.int .i64 0, .int .i64 0, .int .i64 0, .bool false]) 4 Try.underlying24 hi hz0 hz1 .i64 .i64 n n hl hc rfl (by rw [hz2]; omega) (by unfold maxLen; omega) (Nat.le_refl _) ?_
  intro w' h1 h2
  exact k w' h1 ((Below.refl _ _).grown h2 (Nat.le_refl _) (fun g e => by cases e)) (World.ownsRow.lt h1 w.heap.size rfl).2
end Go.Proofs.Ytiecjkacbpbghaa
