/- Memory words: a group being drawn. -/
import Derived.Test.YtiecjkacbpbghaaEo
import Derived.Test.YtiecjkacbpbghaaDraw4
namespace Go.Proofs.Ytiecjkacbpbghaa
set_option linter.unusedVariables false
open Go.RowKit

/-- A group being drawn: it lies in block q, its entries in two blocks of the call's own; the reader in block g; since w only g has turned. -/
def GS (w : World) (g q : Nat) (id ck : Int) (M b1 c1 b2 c2 : Nat) (P D : List Ent) (wr : World) : Prop :=
  Box wr q 26 #[.int .i64 id, .int .i64 ck, .slice (some ⟨b1, 0, none⟩) P.length c1, .slice (some ⟨b2, 0, none⟩) D.length c2] ∧
  Box wr w.heap.size 26 #[.int .i64 0, .int .i64 0, .slice none 0 0, .slice none 0 0] ∧
  EV wr (w.heap.size + 1) (.slice (some ⟨b1, 0, none⟩) P.length c1) P.length P ∧ EV wr (w.heap.size + 1) (.slice (some ⟨b2, 0, none⟩) D.length c2) D.length D ∧
  (b1 ≠ b2 ∧ b1 ≠ q ∧ b2 ≠ q ∧ w.heap.size + 1 ≤ q) ∧ Rdr wr g M ∧ w.grownBy wr (some g) ∧ g < w.heap.size

section
variable {w wr w' : World} {g q M M' b1 c1 b2 c2 : Nat} {id ck : Int} {P D : List Ent}
theorem GS.rdr (h : GS w g q id ck M b1 c1 b2 c2 P D wr) : Rdr wr g M := h.2.2.2.2.2.1
theorem GS.only (h : GS w g q id ck M b1 c1 b2 c2 P D wr) : w.grownBy wr (some g) := h.2.2.2.2.2.2.1
theorem GS.glt (h : GS w g q id ck M b1 c1 b2 c2 P D wr) : g < w.heap.size := h.2.2.2.2.2.2.2
theorem GS.box (h : GS w g q id ck M b1 c1 b2 c2 P D wr) : Box wr q 26 #[.int .i64 id, .int .i64 ck, .slice (some ⟨b1, 0, none⟩) P.length c1, .slice (some ⟨b2, 0, none⟩) D.length c2] := h.1
theorem GS.res (h : GS w g q id ck M b1 c1 b2 c2 P D wr) : Box wr w.heap.size 26 #[.int .i64 0, .int .i64 0, .slice none 0 0, .slice none 0 0] := h.2.1
theorem GS.e1 (h : GS w g q id ck M b1 c1 b2 c2 P D wr) : EV wr (w.heap.size + 1) (.slice (some ⟨b1, 0, none⟩) P.length c1) P.length P := h.2.2.1
theorem GS.e2 (h : GS w g q id ck M b1 c1 b2 c2 P D wr) : EV wr (w.heap.size + 1) (.slice (some ⟨b2, 0, none⟩) D.length c2) D.length D := h.2.2.2.1
theorem GS.ne (h : GS w g q id ck M b1 c1 b2 c2 P D wr) : b1 ≠ b2 ∧ b1 ≠ q ∧ b2 ≠ q ∧ w.heap.size + 1 ≤ q := h.2.2.2.2.1
theorem GS.pick (h : GS w g q id ck M b1 c1 b2 c2 P D wr) (hR : Rdr w' g M') (hg : wr.grownBy w' (some g)) : GS w g q id ck M' b1 c1 b2 c2 P D w' := by
  obtain ⟨B, R, E1, E2, hn, hr, ho, hl⟩ := h
  exact ⟨B.grown hg (by intro h; injection h; omega), R.grown hg (by intro h; injection h; omega), E1.grown hg (fun k e => by cases e; omega), E2.grown hg (fun k e => by cases e; omega), hn, hR, only_trans ho hg, hl⟩
theorem GS.more (h : GS w g q id ck M b1 c1 b2 c2 P D wr) (hM : M ≤ M') : GS w g q id ck M' b1 c1 b2 c2 P D wr := h.pick (h.rdr.more hM) (World.grownBy.refl _ _)
theorem GS.below (h : GS w g q id ck M b1 c1 b2 c2 P D wr) (hb : Below wr.heap.size wr w') : GS w g q id ck M b1 c1 b2 c2 P D w' := by
  obtain ⟨B, R, E1, E2, hn, hr, ho, hl⟩ := h
  exact ⟨B.below hb, R.below hb, E1.below hb, E2.below hb, hn, hr.below hb, only_trans ho (only_below hb), hl⟩
theorem GS.alloc (h : GS w g q id ck M b1 c1 b2 c2 P D wr) (o : Obj) : GS w g q id ck M b1 c1 b2 c2 P D (wr.alloc o) := h.below ((Below.refl _ _).alloc (Nat.le_refl _) o)
theorem GS.drew (h : GS w g q id ck M b1 c1 b2 c2 P D wr) : GS w g q id ck M b1 c1 b2 c2 P D wr.drew := by
  obtain ⟨B, R, E1, E2, hn, hr, ho, hl⟩ := h
  exact ⟨B, R, E1, E2, hn, hr, only_drew ho, hl⟩
/-- Another group takes its place. -/
theorem GS.put {id' ck' : Int} {x1 y1 x2 y2 : Nat} {P' D' : List Ent} (h : GS w g q id ck M b1 c1 b2 c2 P D wr) (E1 : EV wr (w.heap.size + 1) (.slice (some ⟨x1, 0, none⟩) P'.length y1) P'.length P')
    (E2 : EV wr (w.heap.size + 1) (.slice (some ⟨x2, 0, none⟩) D'.length y2) D'.length D') (n1 : x1 ≠ x2) (n2 : x1 ≠ q) (n3 : x2 ≠ q) :
    GS w g q id' ck' M x1 y1 x2 y2 P' D' ((((wr.setCell ⟨q, 0, none⟩ (.int .i64 id')).setCell ⟨q, 1, none⟩ (.int .i64 ck')).setCell ⟨q, 2, none⟩ (.slice (some ⟨x1, 0, none⟩) P'.length y1)).setCell ⟨q, 3, none⟩ (.slice (some ⟨x2, 0, none⟩) D'.length y2)) := by
  obtain ⟨B, R, _, _, hn, hr, ho, hl⟩ := h
  refine ⟨?_, ?_, ?_, ?_, ⟨n1, n2, n3, hn.2.2.2⟩, ?_, ?_, hl⟩
  · simpa using (((B.set 0 (.int .i64 id')).set 1 (.int .i64 ck')).set 2 (.slice (some ⟨x1, 0, none⟩) P'.length y1)).set 3 (.slice (some ⟨x2, 0, none⟩) D'.length y2)
  · exact (((R.far (by simp; omega) _).far (by simp; omega) _).far (by simp; omega) _).far (by simp; omega) _
  · exact (((E1.far (by simp; omega) _).far (by simp; omega) _).far (by simp; omega) _).far (by simp; omega) _
  · exact (((E2.far (by simp; omega) _).far (by simp; omega) _).far (by simp; omega) _).far (by simp; omega) _
  · exact (((hr.far (by simp; omega) _).far (by simp; omega) _).far (by simp; omega) _).far (by simp; omega) _
  · exact only_set (only_set (only_set (only_set ho (by simp; omega) _) (by simp; omega) _) (by simp; omega) _) (by simp; omega) _
theorem GS.setId (h : GS w g q id ck M b1 c1 b2 c2 P D wr) (id' : Int) : GS w g q id' ck M b1 c1 b2 c2 P D (wr.setCell ⟨q, 0, none⟩ (.int .i64 id')) := by
  obtain ⟨B, R, E1, E2, hn, hr, ho, hl⟩ := h
  exact ⟨by simpa using B.set 0 (.int .i64 id'), R.far (by simp; omega) _, E1.far (by simp; omega) _, E2.far (by simp; omega) _, hn, hr.far (by simp; omega) _, only_set ho (by simp; omega) _, hl⟩
theorem GS.setCk (h : GS w g q id ck M b1 c1 b2 c2 P D wr) (ck' : Int) : GS w g q id ck' M b1 c1 b2 c2 P D (wr.setCell ⟨q, 1, none⟩ (.int .i64 ck')) := by
  obtain ⟨B, R, E1, E2, hn, hr, ho, hl⟩ := h
  exact ⟨by simpa using B.set 1 (.int .i64 ck'), R.far (by simp; omega) _, E1.far (by simp; omega) _, E2.far (by simp; omega) _, hn, hr.far (by simp; omega) _, only_set ho (by simp; omega) _, hl⟩
end

/-- What a final stamp hands back (its contract, proved apart). -/
def FinR (id ck t : Int) (P D : List Ent) (w : World) (e : Ending) (w' : World) : Prop :=
  ∃ (v : Value) (T : Option Addr) (n c : Nat) (ck' : Int) (ok : Bool) (P' D' : List Ent), e = .returned (.tuple #[v, .slice T n c, .bool ok]) ∧ OwnG id ck' P' D' w.heap.size w' v ∧ ck ≤ ck' ∧ (ck' ≤ ck ∨ ck' ≤ t) ∧ P'.length + D'.length ≤ P.length + D.length ∧ Below w.heap.size w w'
def FinalC : Prop := ∀ (id ck m t g : Int) (A1 A2 : Option Addr) (c1 c2 : Nat) (P D : List Ent) (w : World), 0 ≤ ck → ck ≤ 1000000 → 0 ≤ t → t ≤ 1000000 → P.length ≤ 1000 → D.length ≤ 1000 → P.length ≤ c1 → c1 ≤ maxLen → (A1 = none → P = [] ∧ c1 = 0) → (A2 = none → D = [] ∧ c2 = 0) → RE w A1 P → RE w A2 D →
    Calls Try.prog 50 #[.agg #[.int .i64 id, .int .i64 ck, .slice A1 P.length c1, .slice A2 D.length c2], .int .i64 m, .agg #[.int .i64 t, .int .i64 g]] w (FinR id ck t P D w)

/-- A cell of an entry turns. -/
theorem EV.setAt {w : World} {B n c b k : Nat} {es es' : List Ent} {u : Value} (h : EV w B (.slice (some ⟨b, 0, none⟩) n c) n es) (hl : es'.length = es.length) (hs : (es.flatMap ec).set k u = es'.flatMap ec) (hk : k < es.length * 4) :
    EV (w.setCell ⟨b, k, none⟩ u) B (.slice (some ⟨b, 0, none⟩) n c) n es' := by
  have hn := h.len
  refine ⟨by rw [← hs, List.length_set, flatE_length, hn], ?_⟩
  rcases h.2 with ⟨hv, _⟩ | ⟨b', cap, cur, hv, hb, hg, h1, h2, h3, h4⟩
  · cases hv
  · simp only [Value.slice.injEq, Option.some.injEq, Addr.mk.injEq] at hv
    obtain ⟨⟨rfl, _, _⟩, _, rfl⟩ := hv
    refine .inr ⟨b, c, cur.set! k u, rfl, hb, Box.set hg k u, h1, h2, by simpa using h3, ?_⟩
    rw [← hs, ← h4]
    simp [List.take_set]
end Go.Proofs.Ytiecjkacbpbghaa
