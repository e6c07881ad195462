/- Contracts: the draws of hybrid times. -/
import Derived.Test.YtfemlfmkomkkbaaDraw2
import Derived.Deep.RegionHeld3
namespace Go.Proofs.Ytfemlfmkomkkbaa
set_option linter.unusedVariables false
open Go.RowKit

/-- A drawn hybrid time and a wall. -/
def DrewHT (w : World) (e : Ending) (w' : World) : Prop :=
  ∃ a b p : Int, e = .returned (.tuple #[.agg #[.int .i64 a, .int .i64 b], .int .i64 p]) ∧ -1 ≤ a ∧ a ≤ 1000 ∧ -1 ≤ b ∧ b ≤ 1000 ∧ -1 ≤ p ∧ p ≤ 1000 ∧ Below w.heap.size w w'
/-- Two drawn hybrid times and a wall. -/
def DrewHM (w : World) (e : Ending) (w' : World) : Prop :=
  ∃ a b p c d : Int, e = .returned (.tuple #[.agg #[.int .i64 a, .int .i64 b], .int .i64 p, .agg #[.int .i64 c, .int .i64 d]]) ∧ -1 ≤ a ∧ a ≤ 1000 ∧ -1 ≤ b ∧ b ≤ 1000 ∧ -1 ≤ p ∧ p ≤ 1000 ∧ -1 ≤ c ∧ c ≤ 1000 ∧ -1 ≤ d ∧ d ≤ 1000 ∧ Below w.heap.size w w'

set_option maxHeartbeats 2000000 in
theorem drawHT_c (A : Option Addr) (bs : List Int) (c : Nat) (w : World) (hm : (bs.length : Int) ≤ 9223372036854775807) (hlc : bs.length ≤ c) (hcm : (c : Int) ≤ 9223372036854775807) (hr : Rd w w.heap.size A (bs.map (Value.int .u8))) (hf : ∀ x ∈ bs, FitB x) :
    Calls Try.prog 8 #[.slice A bs.length c] w (DrewHT w) := by
  go_enter Try.func8, Try.ntmps8
  go_wp2_with fail
  refine (l6Open_c A bs c _ hm hlc hcm (hr.below (by go_grown)).low hf).mono ?_
  rintro e w1 ⟨rfl, hR, hb⟩
  have hR1 : Rdr w1 (w.heap.size + 1) 0 := by simpa using hR
  have B1 : Box w1 w.heap.size 24 #[.int .i64 0, .int .i64 0] := (Box.new w _ _).below hb
  have hw1 : Below w.heap.size w w1 := bu hb (by go_grown)
  have hs1 := hw1.size
  have l1 := B1.lt
  clear hR hb
  go_wp2_with fail
  refine (l91Hybrid_c (w.heap.size + 1) 0 _ hR1 (by omega)).mono ?_
  rintro e w2 ⟨a, b, rfl, a1, a2, b1, b2, hR2, hg2⟩
  have B2 := B1.grown hg2 (by simp)
  have l2 := B2.lt
  have lr := hR2.lt
  have hw2 := below_only hw1 hg2 (by omega) (by omega)
  have hs2 := hw2.size
  have B3 := B2.alloc (Obj.cells #[Value.int .i64 a, Value.int .i64 b] 24)
  have c0 := B3.cell 0
  have c1 := B3.cell 1
  have f0 := B3.frozen 0
  have f1 := B3.frozen 1
  simp only [List.getElem?_toArray, List.getElem?_cons_zero, List.getElem?_cons_succ] at c0 c1
  go_wp2_with fail
  go_region_held3 (fun w' => w'.cell? ⟨w2.heap.size, 0, none⟩ = some (.int .i64 a) ∧ w'.cell? ⟨w2.heap.size, 1, none⟩ = some (.int .i64 b))
    ((first | (simp (maxDischargeDepth := 4) [*]; done) | (go_keep; done) | (simp (maxDischargeDepth := 6) [go_sem, *]; done)))
    ((first | (go_at_call 17; refine (l91Wall_c (w.heap.size + 1) 4 _ (by repeat (first | assumption | refine Rdr.alloc ?_ _ | refine Rdr.drew ?_ | (refine Rdr.far ?_ ?_ _; rotate_left 1; (focus (first | omega | (dsimp only; omega) | (simp; done) | (simp; omega)))))) (by omega)).mono ?_; rintro e w4 ⟨p, rfl, p1, p2, hR4, hg4⟩; (try (refine bg hg4 (w.heap.size) ?_ ?_ ?_; (focus (first | omega | (simp; done) | (simp; omega))); (focus omega); intro hz0 hd0 hf0)); (try (refine bg hg4 (w.heap.size + 1) ?_ ?_ ?_; (focus (first | omega | (simp; done) | (simp; omega))); (focus omega); intro hz1 hd1 hf1)); (try (refine bg hg4 w1.heap.size ?_ ?_ ?_; (focus (first | omega | (simp; done) | (simp; omega))); (focus omega); intro hzw1 hdw1 hfw1)); (try (refine bg hg4 w2.heap.size ?_ ?_ ?_; (focus (first | omega | (simp; done) | (simp; omega))); (focus omega); intro hzw2 hdw2 hfw2)); (try (refine bg hg4 w3.heap.size ?_ ?_ ?_; (focus (first | omega | (simp; done) | (simp; omega))); (focus omega); intro hzw3 hdw3 hfw3)); (try (refine bg hg4 w4.heap.size ?_ ?_ ?_; (focus (first | omega | (simp; done) | (simp; omega))); (focus omega); intro hzw4 hdw4 hfw4)); (try (refine bg hg4 wr.heap.size ?_ ?_ ?_; (focus (first | omega | (simp; done) | (simp; omega))); (focus omega); intro hzwr hdwr hfwr)))))
  have hw4 : Below w.heap.size w w4 := below_only (by go_grown) hg4 (by omega) (by simp; omega)
  go_wp2
  refine bodyPost_ret (v := .tuple #[.agg #[.int .i64 a, .int .i64 b], .int .i64 p]) (by simp (maxDischargeDepth := 8) [results, Try.results8, go_sem, *]) rfl ⟨a, b, p, rfl, a1, a2, b1, b2, p1, p2, ?_⟩
  go_grown

set_option maxHeartbeats 2000000 in
theorem drawHM_c (A : Option Addr) (bs : List Int) (c : Nat) (w : World) (hm : (bs.length : Int) ≤ 9223372036854775807) (hlc : bs.length ≤ c) (hcm : (c : Int) ≤ 9223372036854775807) (hr : Rd w w.heap.size A (bs.map (Value.int .u8))) (hf : ∀ x ∈ bs, FitB x) :
    Calls Try.prog 12 #[.slice A bs.length c] w (DrewHM w) := by
  go_enter Try.func12, Try.ntmps12
  go_wp2_with fail
  refine (l6Open_c A bs c _ hm hlc hcm (hr.below (by go_grown)).low hf).mono ?_
  rintro e w1 ⟨rfl, hR, hb⟩
  have hR1 : Rdr w1 (w.heap.size + 1 + 1) 0 := by simpa using hR
  have B1 : Box w1 w.heap.size 24 #[.int .i64 0, .int .i64 0] := ((Box.new w _ _).alloc _).below hb
  have D1 : Box w1 (w.heap.size + 1) 24 #[.int .i64 0, .int .i64 0] := by simpa using (Box.new (w.alloc _) _ _).below hb
  have hw1 : Below w.heap.size w w1 := bu hb (by go_grown)
  have hs1 := hw1.size
  have l1 := B1.lt
  clear hR hb
  go_wp2_with fail
  refine (l91Hybrid_c (w.heap.size + 1 + 1) 0 _ hR1 (by omega)).mono ?_
  rintro e w2 ⟨a, b, rfl, a1, a2, b1, b2, hR2, hg2⟩
  have B2 := B1.grown hg2 (by simp; omega)
  have D2 := D1.grown hg2 (by simp)
  have lr := hR2.lt
  have hw2 := below_only hw1 hg2 (by omega) (by omega)
  have hs2 := hw2.size
  clear hg2 hw1
  go_wp2_with fail
  refine (l91Wall_c (w.heap.size + 1 + 1) 4 _ (hR2.alloc _) (by omega)).mono ?_
  rintro e w3 ⟨p, rfl, p1, p2, hR3, hg3⟩
  have B3 := (B2.alloc _).grown hg3 (by simp; omega)
  have D3 := (D2.alloc _).grown hg3 (by simp)
  have E3 := (Box.new w2 24 #[.int .i64 a, .int .i64 b]).grown hg3 (by simp; omega)
  have hw3 : Below w.heap.size w w3 := below_only (by go_grown) hg3 (by omega) (by simp; omega)
  have hs3 := hw3.size
  have l3 := E3.lt
  have lr3 := hR3.lt
  have c0 := B3.cell 0
  have c1 := B3.cell 1
  have f0 := B3.frozen 0
  have f1 := B3.frozen 1
  have d0 := D3.cell 0
  have d1 := D3.cell 1
  have g0 := D3.frozen 0
  have g1 := D3.frozen 1
  have e0 := E3.cell 0
  have e1 := E3.cell 1
  simp only [List.getElem?_toArray, List.getElem?_cons_zero, List.getElem?_cons_succ] at c0 c1 d0 d1 e0 e1
  have l0 := B3.lt
  have k0 := D3.lt
  clear hg3 hw2
  go_wp2_with fail
  go_region_held3 (fun w' => w'.cell? ⟨w2.heap.size, 0, none⟩ = some (.int .i64 a) ∧ w'.cell? ⟨w2.heap.size, 1, none⟩ = some (.int .i64 b))
    ((first | (simp (maxDischargeDepth := 4) [*]; done) | (go_keep; done) | (simp (maxDischargeDepth := 6) [go_sem, *]; done)))
    ((first | (go_at_call 16; refine (l91Hybrid_c (w.heap.size + 1 + 1) 6 _ (by repeat (first | assumption | refine Rdr.alloc ?_ _ | refine Rdr.drew ?_ | (refine Rdr.far ?_ ?_ _; rotate_left 1; (focus (first | omega | (dsimp only; omega) | (simp; done) | (simp; omega)))))) (by omega)).mono ?_; rintro e w4 ⟨a', b', rfl, a3, a4, b3, b4, hR4, hg4⟩; (try (refine bg hg4 (w.heap.size) ?_ ?_ ?_; (focus (first | omega | (simp; done) | (simp; omega))); (focus omega); intro hz0 hd0 hf0)); (try (refine bg hg4 (w.heap.size + 1) ?_ ?_ ?_; (focus (first | omega | (simp; done) | (simp; omega))); (focus omega); intro hz1 hd1 hf1)); (try (refine bg hg4 w1.heap.size ?_ ?_ ?_; (focus (first | omega | (simp; done) | (simp; omega))); (focus omega); intro hzw1 hdw1 hfw1)); (try (refine bg hg4 w2.heap.size ?_ ?_ ?_; (focus (first | omega | (simp; done) | (simp; omega))); (focus omega); intro hzw2 hdw2 hfw2)); (try (refine bg hg4 w3.heap.size ?_ ?_ ?_; (focus (first | omega | (simp; done) | (simp; omega))); (focus omega); intro hzw3 hdw3 hfw3)); (try (refine bg hg4 w4.heap.size ?_ ?_ ?_; (focus (first | omega | (simp; done) | (simp; omega))); (focus omega); intro hzw4 hdw4 hfw4)); (try (refine bg hg4 wr.heap.size ?_ ?_ ?_; (focus (first | omega | (simp; done) | (simp; omega))); (focus omega); intro hzwr hdwr hfwr)))))
  all_goals
    have hw4 : Below w.heap.size w w4 := below_only (by go_grown) hg4 (by omega) (by simp; omega)
    have B4 := B3.drew.grown hg4 (by simp; omega)
    have D4 := D3.drew.grown hg4 (by simp)
    go_wp2
    refine bodyPost_ret (v := .tuple #[.agg #[.int .i64 a, .int .i64 b], .int .i64 p, .agg #[.int .i64 a', .int .i64 b']]) (by simp (maxDischargeDepth := 8) [results, Try.results12, go_sem, *]) rfl ⟨a, b, p, a', b', rfl, a1, a2, b1, b2, p1, p2, a3, a4, b3, b4, ?_⟩
    go_grown
end Go.Proofs.Ytfemlfmkomkkbaa
