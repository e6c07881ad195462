/- Contracts: the draws of stamps, of two hybrid times, of a list of stamps. -/
import Derived.Test.YtiecjkacbpbghaaDraw2
import Derived.Deep.RegionHeld3
namespace Go.Proofs.Ytiecjkacbpbghaa
set_option linter.unusedVariables false
open Go.RowKit

/-- One of four. -/
def quad (x y z u k : Int) : Int := if k = 0 then x else if k = 1 then y else if k = 2 then z else u
theorem quad_cell {W w1 : World} {b : Nat} {x y z u k : Int} {t : TypeId} (hB : ∀ o, w1.cell? ⟨b, o, none⟩ = W.cell? ⟨b, o, none⟩) (h : Box W b t #[.int .i64 x, .int .i64 y, .int .i64 z, .int .i64 u]) (h0 : 0 ≤ k) (h3 : k < 4) :
    w1.cell? ⟨b, k.toNat, none⟩ = some (.int .i64 (quad x y z u k)) := by
  rw [hB, h.cell]
  rcases (show k = 0 ∨ k = 1 ∨ k = 2 ∨ k = 3 by omega) with rfl | rfl | rfl | rfl <;> rfl
theorem quad_bounds {x y z u k lo hi : Int} (hx : lo ≤ x ∧ x ≤ hi) (hy : lo ≤ y ∧ y ≤ hi) (hz : lo ≤ z ∧ z ≤ hi) (hu : lo ≤ u ∧ u ≤ hi) : lo ≤ quad x y z u k ∧ quad x y z u k ≤ hi := by
  unfold quad
  split
  · exact hx
  · split
    · exact hy
    · split
      · exact hz
      · exact hu

set_option maxHeartbeats 4000000 in
theorem l91Stamp_c (g m : Nat) (w : World) (hr : Rdr w g m) (hm : m ≤ 900000) : Calls Try.prog 51 #[.pointer (some ⟨g, 0, none⟩)] w (DrawnP g (m + 4) w) := by
  have lg := hr.lt
  go_enter Try.func51, Try.ntmps51
  go_wp2_with fail
  refine (pick_c g (m) _ _ (by repeat (first | assumption | refine Rdr.alloc ?_ _ | refine Rdr.drew ?_ | (refine Rdr.far ?_ ?_ _; rotate_left 1; (focus (first | omega | (dsimp only; omega) | (simp; done) | (simp; omega)))))) (by omega) (by omega) (by omega)).mono ?_
  rintro e w1 ⟨k1, rfl, hk1, _, hRk1, hgk1⟩
  obtain ⟨hk1a, hk1b⟩ := hk1 (by omega)
  clear hk1
  have hszk1 := hgk1.size
  (try simp only [World.size_alloc] at hszk1)
  (try (refine bg hgk1 (w.heap.size) ?_ ?_ ?_; (focus (first | omega | (simp; done) | (simp; omega))); (focus omega); intro hz0 hd0 hf0))
  (try (refine bg hgk1 (w.heap.size + 1) ?_ ?_ ?_; (focus (first | omega | (simp; done) | (simp; omega))); (focus omega); intro hz1 hd1 hf1))
  (try (refine bg hgk1 w1.heap.size ?_ ?_ ?_; (focus (first | omega | (simp; done) | (simp; omega))); (focus omega); intro hzw1 hdw1 hfw1))
  (try (refine bg hgk1 w2.heap.size ?_ ?_ ?_; (focus (first | omega | (simp; done) | (simp; omega))); (focus omega); intro hzw2 hdw2 hfw2))
  (try (refine bg hgk1 w3.heap.size ?_ ?_ ?_; (focus (first | omega | (simp; done) | (simp; omega))); (focus omega); intro hzw3 hdw3 hfw3))
  (try (refine bg hgk1 w4.heap.size ?_ ?_ ?_; (focus (first | omega | (simp; done) | (simp; omega))); (focus omega); intro hzw4 hdw4 hfw4))
  (try (refine bg hgk1 wr.heap.size ?_ ?_ ?_; (focus (first | omega | (simp; done) | (simp; omega))); (focus omega); intro hzwr hdwr hfwr))
  go_wp2_with fail
  refine (pick_c g (m + 1) _ _ (by repeat (first | assumption | refine Rdr.alloc ?_ _ | refine Rdr.drew ?_ | (refine Rdr.far ?_ ?_ _; rotate_left 1; (focus (first | omega | (dsimp only; omega) | (simp; done) | (simp; omega)))))) (by omega) (by omega) (by omega)).mono ?_
  rintro e w2 ⟨k2, rfl, hk2, _, hRk2, hgk2⟩
  obtain ⟨hk2a, hk2b⟩ := hk2 (by omega)
  clear hk2
  have hszk2 := hgk2.size
  (try simp only [World.size_alloc] at hszk2)
  (try (refine bg hgk2 (w.heap.size) ?_ ?_ ?_; (focus (first | omega | (simp; done) | (simp; omega))); (focus omega); intro hz0 hd0 hf0))
  (try (refine bg hgk2 (w.heap.size + 1) ?_ ?_ ?_; (focus (first | omega | (simp; done) | (simp; omega))); (focus omega); intro hz1 hd1 hf1))
  (try (refine bg hgk2 w1.heap.size ?_ ?_ ?_; (focus (first | omega | (simp; done) | (simp; omega))); (focus omega); intro hzw1 hdw1 hfw1))
  (try (refine bg hgk2 w2.heap.size ?_ ?_ ?_; (focus (first | omega | (simp; done) | (simp; omega))); (focus omega); intro hzw2 hdw2 hfw2))
  (try (refine bg hgk2 w3.heap.size ?_ ?_ ?_; (focus (first | omega | (simp; done) | (simp; omega))); (focus omega); intro hzw3 hdw3 hfw3))
  (try (refine bg hgk2 w4.heap.size ?_ ?_ ?_; (focus (first | omega | (simp; done) | (simp; omega))); (focus omega); intro hzw4 hdw4 hfw4))
  (try (refine bg hgk2 wr.heap.size ?_ ?_ ?_; (focus (first | omega | (simp; done) | (simp; omega))); (focus omega); intro hzwr hdwr hfwr))
  go_wp2_with fail
  refine (pick_c g (m + 2) _ _ (by repeat (first | assumption | refine Rdr.alloc ?_ _ | refine Rdr.drew ?_ | (refine Rdr.far ?_ ?_ _; rotate_left 1; (focus (first | omega | (dsimp only; omega) | (simp; done) | (simp; omega)))))) (by omega) (by omega) (by omega)).mono ?_
  rintro e w3 ⟨k3, rfl, hk3, _, hRk3, hgk3⟩
  obtain ⟨hk3a, hk3b⟩ := hk3 (by omega)
  clear hk3
  have hszk3 := hgk3.size
  (try simp only [World.size_alloc] at hszk3)
  (try (refine bg hgk3 (w.heap.size) ?_ ?_ ?_; (focus (first | omega | (simp; done) | (simp; omega))); (focus omega); intro hz0 hd0 hf0))
  (try (refine bg hgk3 (w.heap.size + 1) ?_ ?_ ?_; (focus (first | omega | (simp; done) | (simp; omega))); (focus omega); intro hz1 hd1 hf1))
  (try (refine bg hgk3 w1.heap.size ?_ ?_ ?_; (focus (first | omega | (simp; done) | (simp; omega))); (focus omega); intro hzw1 hdw1 hfw1))
  (try (refine bg hgk3 w2.heap.size ?_ ?_ ?_; (focus (first | omega | (simp; done) | (simp; omega))); (focus omega); intro hzw2 hdw2 hfw2))
  (try (refine bg hgk3 w3.heap.size ?_ ?_ ?_; (focus (first | omega | (simp; done) | (simp; omega))); (focus omega); intro hzw3 hdw3 hfw3))
  (try (refine bg hgk3 w4.heap.size ?_ ?_ ?_; (focus (first | omega | (simp; done) | (simp; omega))); (focus omega); intro hzw4 hdw4 hfw4))
  (try (refine bg hgk3 wr.heap.size ?_ ?_ ?_; (focus (first | omega | (simp; done) | (simp; omega))); (focus omega); intro hzwr hdwr hfwr))
  by_cases h0 : k3 = 0
  · subst h0
    go_wp2_with fail
    refine (pick_c g (m + 3) _ _ (by repeat (first | assumption | refine Rdr.alloc ?_ _ | refine Rdr.drew ?_ | (refine Rdr.far ?_ ?_ _; rotate_left 1; (focus (first | omega | (dsimp only; omega) | (simp; done) | (simp; omega)))))) (by omega) (by omega) (by omega)).mono ?_
    rintro e w4 ⟨k4, rfl, hk4, _, hRk4, hgk4⟩
    obtain ⟨hk4a, hk4b⟩ := hk4 (by omega)
    clear hk4
    have hszk4 := hgk4.size
    (try simp only [World.size_alloc] at hszk4)
    (try (refine bg hgk4 (w.heap.size) ?_ ?_ ?_; (focus (first | omega | (simp; done) | (simp; omega))); (focus omega); intro hz0 hd0 hf0))
    (try (refine bg hgk4 (w.heap.size + 1) ?_ ?_ ?_; (focus (first | omega | (simp; done) | (simp; omega))); (focus omega); intro hz1 hd1 hf1))
    (try (refine bg hgk4 w1.heap.size ?_ ?_ ?_; (focus (first | omega | (simp; done) | (simp; omega))); (focus omega); intro hzw1 hdw1 hfw1))
    (try (refine bg hgk4 w2.heap.size ?_ ?_ ?_; (focus (first | omega | (simp; done) | (simp; omega))); (focus omega); intro hzw2 hdw2 hfw2))
    (try (refine bg hgk4 w3.heap.size ?_ ?_ ?_; (focus (first | omega | (simp; done) | (simp; omega))); (focus omega); intro hzw3 hdw3 hfw3))
    (try (refine bg hgk4 w4.heap.size ?_ ?_ ?_; (focus (first | omega | (simp; done) | (simp; omega))); (focus omega); intro hzw4 hdw4 hfw4))
    (try (refine bg hgk4 wr.heap.size ?_ ?_ ?_; (focus (first | omega | (simp; done) | (simp; omega))); (focus omega); intro hzwr hdwr hfwr))
    have hcell := quad_cell hdw3 (Box.new w3 _ _) hk4a hk4b
    have hbd := quad_bounds (k := k4) (x := 0) (y := -1) (z := 999) (u := 1000) (lo := -1) (hi := 1000) (by omega) (by omega) (by omega) (by omega)
    clear hdw3
    go_wp2
    refine bodyPost_ret (v := .agg #[.int .i64 (quad 0 (-1) 999 1000 k4), .int .i64 k2]) (by simp (maxDischargeDepth := 8) [results, Try.results51, go_sem, *]) rfl ⟨_, _, rfl, hbd.1, hbd.2, by omega, by omega, (by repeat (first | assumption | refine Rdr.alloc ?_ _ | refine Rdr.drew ?_ | (refine Rdr.far ?_ ?_ _; rotate_left 1; (focus (first | omega | (dsimp only; omega) | (simp; done) | (simp; omega)))))), (by repeat (first | exact World.grownBy.refl _ _ | refine only_alloc ?_ _ | refine only_drew ?_ | (refine only_set ?_ ?_ _; rotate_left 1; (focus (first | omega | (dsimp only; omega) | (simp; done) | (simp; omega)))) | (refine only_trans ?_ (by assumption))))⟩
  · by_cases h1 : k3 = 1
    · subst h1
      go_wp2_with fail
      refine (pick_c g (m + 3) _ _ (by repeat (first | assumption | refine Rdr.alloc ?_ _ | refine Rdr.drew ?_ | (refine Rdr.far ?_ ?_ _; rotate_left 1; (focus (first | omega | (dsimp only; omega) | (simp; done) | (simp; omega)))))) (by omega) (by omega) (by omega)).mono ?_
      rintro e w4 ⟨k4, rfl, hk4, _, hRk4, hgk4⟩
      obtain ⟨hk4a, hk4b⟩ := hk4 (by omega)
      clear hk4
      have hszk4 := hgk4.size
      (try simp only [World.size_alloc] at hszk4)
      (try (refine bg hgk4 (w.heap.size) ?_ ?_ ?_; (focus (first | omega | (simp; done) | (simp; omega))); (focus omega); intro hz0 hd0 hf0))
      (try (refine bg hgk4 (w.heap.size + 1) ?_ ?_ ?_; (focus (first | omega | (simp; done) | (simp; omega))); (focus omega); intro hz1 hd1 hf1))
      (try (refine bg hgk4 w1.heap.size ?_ ?_ ?_; (focus (first | omega | (simp; done) | (simp; omega))); (focus omega); intro hzw1 hdw1 hfw1))
      (try (refine bg hgk4 w2.heap.size ?_ ?_ ?_; (focus (first | omega | (simp; done) | (simp; omega))); (focus omega); intro hzw2 hdw2 hfw2))
      (try (refine bg hgk4 w3.heap.size ?_ ?_ ?_; (focus (first | omega | (simp; done) | (simp; omega))); (focus omega); intro hzw3 hdw3 hfw3))
      (try (refine bg hgk4 w4.heap.size ?_ ?_ ?_; (focus (first | omega | (simp; done) | (simp; omega))); (focus omega); intro hzw4 hdw4 hfw4))
      (try (refine bg hgk4 wr.heap.size ?_ ?_ ?_; (focus (first | omega | (simp; done) | (simp; omega))); (focus omega); intro hzwr hdwr hfwr))
      go_wp2
      refine bodyPost_ret (v := .agg #[.int .i64 (1 + k1), .int .i64 (k4 - 1)]) (by simp (maxDischargeDepth := 8) [results, Try.results51, go_sem, *]) rfl ⟨_, _, rfl, by omega, by omega, by omega, by omega, (by repeat (first | assumption | refine Rdr.alloc ?_ _ | refine Rdr.drew ?_ | (refine Rdr.far ?_ ?_ _; rotate_left 1; (focus (first | omega | (dsimp only; omega) | (simp; done) | (simp; omega)))))), (by repeat (first | exact World.grownBy.refl _ _ | refine only_alloc ?_ _ | refine only_drew ?_ | (refine only_set ?_ ?_ _; rotate_left 1; (focus (first | omega | (dsimp only; omega) | (simp; done) | (simp; omega)))) | (refine only_trans ?_ (by assumption))))⟩
    · have hR := hRk3.more (m' := m + 4) (by omega)
      go_wp2
      refine bodyPost_ret (v := .agg #[.int .i64 (1 + k1), .int .i64 k2]) (by simp (maxDischargeDepth := 8) [results, Try.results51, go_sem, *]) rfl ⟨_, _, rfl, by omega, by omega, by omega, by omega, (by repeat (first | assumption | refine Rdr.alloc ?_ _ | refine Rdr.drew ?_ | (refine Rdr.far ?_ ?_ _; rotate_left 1; (focus (first | omega | (dsimp only; omega) | (simp; done) | (simp; omega)))))), (by repeat (first | exact World.grownBy.refl _ _ | refine only_alloc ?_ _ | refine only_drew ?_ | (refine only_set ?_ ?_ _; rotate_left 1; (focus (first | omega | (dsimp only; omega) | (simp; done) | (simp; omega)))) | (refine only_trans ?_ (by assumption))))⟩

/-- Two drawn pairs. -/
def DrewPP (w : World) (e : Ending) (w' : World) : Prop :=
  ∃ a b c d : Int, e = .returned (.tuple #[.agg #[.int .i64 a, .int .i64 b], .agg #[.int .i64 c, .int .i64 d]]) ∧ -1 ≤ a ∧ a ≤ 1000 ∧ -1 ≤ b ∧ b ≤ 1000 ∧ -1 ≤ c ∧ c ≤ 1000 ∧ -1 ≤ d ∧ d ≤ 1000 ∧ Below w.heap.size w w'

end Go.Proofs.Ytiecjkacbpbghaa
