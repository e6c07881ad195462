/- Contracts over the translated code: valid stamps and hybrid times, and their order. -/
import Derived.Test.YtjkhnpdaolkcjaaRows
import Derived.Test.YtjkhnpdaolkcjaaMem
import Derived.Test.YtjkhnpdaolkcjaaPlainA
import Derived.WalkSpells
import Derived.WalkLawsBesides
import Derived.BigGuardPart
import Derived.Handy
namespace Go.Proofs.Ytjkhnpdaolkcjaa
set_option linter.unusedVariables false
open Go.RowKit

set_option maxHeartbeats 400000 in
theorem l6In_c (n lo hi : Int) (w : World) : Calls Try.prog 25 #[.int .i64 n, .int .i64 lo, .int .i64 hi] w fun e w' => e = .returned (.bool (inB n lo hi)) ∧ w = w' := by
  unfold inB
  by_cases h1 : lo ≤ n <;> by_cases h2 : n ≤ hi
  all_goals
    go_enter Try.func25, Try.ntmps25
    go_wp2
    go_ret
    exact ⟨by simp [h1, h2], rfl⟩

set_option maxHeartbeats 400000 in
theorem isTime_c (n : Int) (w : World) : Calls Try.prog 33 #[.int .i64 n] w fun e w' => e = .returned (.bool (inB n 0 999)) ∧ w = w' := by
  unfold inB
  by_cases h1 : 0 ≤ n <;> by_cases h2 : n ≤ 999
  all_goals
    go_enter Try.func33, Try.ntmps33
    go_wp2
    go_ret
    exact ⟨by simp [h1, h2], rfl⟩

set_option maxHeartbeats 400000 in
theorem l2Time_c (n : Int) (w : World) : Calls Try.prog 24 #[.int .i64 n] w fun e w' => e = .returned (.bool (inB n 0 999)) ∧ w = w' := by
  go_enter Try.func24, Try.ntmps24
  go_wp2_with (go_at_call 25; refine (l6In_c _ _ _ _).mono ?_; rintro e w' ⟨rfl, rfl⟩)
  go_ret
  exact ⟨rfl, rfl⟩

set_option maxHeartbeats 400000 in
theorem specHV_c (a c : Int) (w : World) : Calls Try.prog 12 #[.agg #[.int .i64 a, .int .i64 c]] w fun e w' => e = .returned (.bool (hvB a c)) ∧ Below w.heap.size w w' := by
  go_enter Try.func12, Try.ntmps12
  go_wp2_with (first
    | (go_at_call 24; refine (l2Time_c _ _).mono ?_; rintro e w' ⟨rfl, rfl⟩)
    | (go_at_call 25; refine (l6In_c _ _ _ _).mono ?_; rintro e w' ⟨rfl, rfl⟩))
  all_goals
    go_ret
    exact ⟨ret_bool (by simp [hvB_eq, *]), by go_grown⟩

set_option maxHeartbeats 400000 in
theorem implHV_c (a c : Int) (w : World) : Calls Try.prog 22 #[.agg #[.int .i64 a, .int .i64 c]] w fun e w' => e = .returned (.bool (hvB a c)) ∧ Below w.heap.size w w' := by
  go_enter Try.func22, Try.ntmps22
  go_wp2_with (go_at_call 33; refine (isTime_c _ _).mono ?_; rintro e w' ⟨rfl, rfl⟩)
  all_goals
    go_ret
    exact ⟨ret_bool (by simp [hvB_eq, *]; try (unfold inB; simp; omega)), by go_grown⟩

set_option maxHeartbeats 400000 in
theorem l1Group_c (n : Int) (w : World) : Calls Try.prog 30 #[.int .i64 n] w fun e w' => e = .returned (.bool (inB n 0 4)) ∧ w = w' := by
  go_enter Try.func30, Try.ntmps30
  go_wp2_with (go_at_call 25; refine (l6In_c _ _ _ _).mono ?_; rintro e w' ⟨rfl, rfl⟩)
  go_ret
  exact ⟨rfl, rfl⟩

set_option maxHeartbeats 400000 in
theorem isGroup_c (n : Int) (w : World) : Calls Try.prog 34 #[.int .i64 n] w fun e w' => e = .returned (.bool (inB n 0 4)) ∧ w = w' := by
  by_cases h1 : 0 ≤ n <;> by_cases h2 : n < 5
  all_goals
    go_enter Try.func34, Try.ntmps34
    go_wp2
    go_ret
    exact ⟨ret_bool (by unfold inB; simp; omega), rfl⟩

set_option maxHeartbeats 400000 in
theorem specSV_c (a c : Int) (w : World) : Calls Try.prog 16 #[.agg #[.int .i64 a, .int .i64 c]] w fun e w' => e = .returned (.bool (svB a c)) ∧ Below w.heap.size w w' := by
  go_enter Try.func16, Try.ntmps16
  go_wp2_with (first
    | (go_at_call 30; refine (l1Group_c _ _).mono ?_; rintro e w' ⟨rfl, rfl⟩)
    | (go_at_call 25; refine (l6In_c _ _ _ _).mono ?_; rintro e w' ⟨rfl, rfl⟩))
  all_goals
    go_ret
    exact ⟨ret_bool (by simp [svB_eq, *]), by go_grown⟩

set_option maxHeartbeats 400000 in
theorem implSV_c (a c : Int) (w : World) : Calls Try.prog 27 #[.agg #[.int .i64 a, .int .i64 c]] w fun e w' => e = .returned (.bool (svB a c)) ∧ Below w.heap.size w w' := by
  go_enter Try.func27, Try.ntmps27
  go_wp2_with (go_at_call 34; refine (isGroup_c _ _).mono ?_; rintro e w' ⟨rfl, rfl⟩)
  all_goals
    go_ret
    exact ⟨ret_bool (by simp [svB_eq, *]; try (unfold inB; simp; omega)), by go_grown⟩

/-! ### less -/
set_option maxHeartbeats 400000 in
theorem implSLess_c (a b c d : Int) (w : World) : Calls Try.prog 28 #[.agg #[.int .i64 a, .int .i64 b], .agg #[.int .i64 c, .int .i64 d]] w fun e w' => e = .returned (.bool (ltB a b c d)) ∧ Below w.heap.size w w' := by
  by_cases h1 : a < c <;> by_cases h2 : a = c
  · omega
  · go_enter Try.func28, Try.ntmps28
    go_wp2
    go_ret
    exact ⟨ret_bool (by unfold ltB; simp; omega), by go_grown⟩
  · subst h2
    go_enter Try.func28, Try.ntmps28
    go_wp2
    go_ret
    exact ⟨ret_bool (by unfold ltB; simp), by go_grown⟩
  · go_enter Try.func28, Try.ntmps28
    go_wp2
    go_ret
    exact ⟨ret_bool (by unfold ltB; simp; omega), by go_grown⟩

set_option maxHeartbeats 400000 in
theorem specSLess_c (a b c d : Int) (w : World) : Calls Try.prog 29 #[.agg #[.int .i64 a, .int .i64 b], .agg #[.int .i64 c, .int .i64 d]] w fun e w' => e = .returned (.bool (ltB a b c d)) ∧ Below w.heap.size w w' := by
  by_cases h1 : a < c <;> by_cases h2 : a = c
  · omega
  · go_enter Try.func29, Try.ntmps29
    go_wp2
    go_ret
    exact ⟨ret_bool (by unfold ltB; simp; omega), by go_grown⟩
  · subst h2
    go_enter Try.func29, Try.ntmps29
    go_wp2
    go_ret
    exact ⟨ret_bool (by unfold ltB; simp), by go_grown⟩
  · go_enter Try.func29, Try.ntmps29
    go_wp2
    go_ret
    exact ⟨ret_bool (by unfold ltB; simp; omega), by go_grown⟩

set_option maxHeartbeats 400000 in
theorem implHLess_c (a b c d : Int) (w : World) : Calls Try.prog 23 #[.agg #[.int .i64 a, .int .i64 b], .agg #[.int .i64 c, .int .i64 d]] w fun e w' => e = .returned (.bool (ltB a b c d)) ∧ Below w.heap.size w w' := by
  by_cases h1 : a < c <;> by_cases h2 : a = c
  · omega
  · go_enter Try.func23, Try.ntmps23
    go_wp2
    go_ret
    exact ⟨ret_bool (by unfold ltB; simp; omega), by go_grown⟩
  · subst h2
    go_enter Try.func23, Try.ntmps23
    go_wp2
    go_ret
    exact ⟨ret_bool (by unfold ltB; simp), by go_grown⟩
  · go_enter Try.func23, Try.ntmps23
    go_wp2
    go_ret
    exact ⟨ret_bool (by unfold ltB; simp; omega), by go_grown⟩

set_option maxHeartbeats 400000 in
theorem implHL_c (a b c d : Int) (w : World) : Calls Try.prog 10 #[.agg #[.int .i64 a, .int .i64 b], .agg #[.int .i64 c, .int .i64 d]] w fun e w' => e = .returned (.bool (hlB a b c d)) ∧ Below w.heap.size w w' := by
  go_enter Try.func10, Try.ntmps10
  go_wp2_with (first | (go_at_call 22; refine (implHV_c _ _ _).mono ?_; rintro e w1 ⟨rfl, hb⟩; have hK := bt (by first | with_reducible assumption | exact Below.refl _ _) hb; have hc := bcell hK; have hf := bfrozen hK; have hs := bsize hK; clear hb; (try simp only [World.size_drew, World.cell?_drew, World.frozen?_drew] at hc hf hs); (try (refine bw (w := w) hK ?_ ?_; (focus (first | exact HW.out | (have hq := HW.out; go_grown; done) | (go_grown; done))); intro hw hwz; have hK := hK)); (try (refine bz hK (w.heap.size) ?_ ?_; (focus (first | omega | (simp; done) | (simp; omega))); intro hz0 hd0 hg0)); (try (refine bz hK (w.heap.size + 1) ?_ ?_; (focus (first | omega | (simp; done) | (simp; omega))); intro hz1 hd1 hg1)); (try (refine bz hK (w.heap.size + 2) ?_ ?_; (focus (first | omega | (simp; done) | (simp; omega))); intro hz2 hd2 hg2)); (try (refine bz hK (w.heap.size + 3) ?_ ?_; (focus (first | omega | (simp; done) | (simp; omega))); intro hz3 hd3 hg3)); (try (refine bz hK g ?_ ?_; (focus (first | omega | (simp; done) | (simp; omega))); intro hzg hdg hgg)); (try (refine bz hK g1 ?_ ?_; (focus (first | omega | (simp; done) | (simp; omega))); intro hzg hdg hgg)); (try (refine bz hK g2 ?_ ?_; (focus (first | omega | (simp; done) | (simp; omega))); intro hzg hdg hgg))) | (go_at_call 23; refine (implHLess_c _ _ _ _ _).mono ?_; rintro e w1 ⟨rfl, hb⟩; have hK := bt (by first | with_reducible assumption | exact Below.refl _ _) hb; have hc := bcell hK; have hf := bfrozen hK; have hs := bsize hK; clear hb; (try simp only [World.size_drew, World.cell?_drew, World.frozen?_drew] at hc hf hs); (try (refine bw (w := w) hK ?_ ?_; (focus (first | exact HW.out | (have hq := HW.out; go_grown; done) | (go_grown; done))); intro hw hwz; have hK := hK)); (try (refine bz hK (w.heap.size) ?_ ?_; (focus (first | omega | (simp; done) | (simp; omega))); intro hz0 hd0 hg0)); (try (refine bz hK (w.heap.size + 1) ?_ ?_; (focus (first | omega | (simp; done) | (simp; omega))); intro hz1 hd1 hg1)); (try (refine bz hK (w.heap.size + 2) ?_ ?_; (focus (first | omega | (simp; done) | (simp; omega))); intro hz2 hd2 hg2)); (try (refine bz hK (w.heap.size + 3) ?_ ?_; (focus (first | omega | (simp; done) | (simp; omega))); intro hz3 hd3 hg3)); (try (refine bz hK g ?_ ?_; (focus (first | omega | (simp; done) | (simp; omega))); intro hzg hdg hgg)); (try (refine bz hK g1 ?_ ?_; (focus (first | omega | (simp; done) | (simp; omega))); intro hzg hdg hgg)); (try (refine bz hK g2 ?_ ?_; (focus (first | omega | (simp; done) | (simp; omega))); intro hzg hdg hgg))))
  all_goals
    go_ret
    exact ⟨ret_bool (by simp [hlB, *]), bu (by assumption) (by go_grown)⟩

set_option maxHeartbeats 400000 in
theorem specHL_c (a b c d : Int) (w : World) : Calls Try.prog 11 #[.agg #[.int .i64 a, .int .i64 b], .agg #[.int .i64 c, .int .i64 d]] w fun e w' => e = .returned (.bool (hlB a b c d)) ∧ Below w.heap.size w w' := by
  by_cases h2 : a = c
  · subst h2
    go_enter Try.func11, Try.ntmps11
    go_wp2_with (first | (go_at_call 12; refine (specHV_c _ _ _).mono ?_; rintro e w1 ⟨rfl, hb⟩; have hK := bt (by first | with_reducible assumption | exact Below.refl _ _) hb; have hc := bcell hK; have hf := bfrozen hK; have hs := bsize hK; clear hb; (try simp only [World.size_drew, World.cell?_drew, World.frozen?_drew] at hc hf hs); (try (refine bw (w := w) hK ?_ ?_; (focus (first | exact HW.out | (have hq := HW.out; go_grown; done) | (go_grown; done))); intro hw hwz; have hK := hK)); (try (refine bz hK (w.heap.size) ?_ ?_; (focus (first | omega | (simp; done) | (simp; omega))); intro hz0 hd0 hg0)); (try (refine bz hK (w.heap.size + 1) ?_ ?_; (focus (first | omega | (simp; done) | (simp; omega))); intro hz1 hd1 hg1)); (try (refine bz hK (w.heap.size + 2) ?_ ?_; (focus (first | omega | (simp; done) | (simp; omega))); intro hz2 hd2 hg2)); (try (refine bz hK (w.heap.size + 3) ?_ ?_; (focus (first | omega | (simp; done) | (simp; omega))); intro hz3 hd3 hg3)); (try (refine bz hK g ?_ ?_; (focus (first | omega | (simp; done) | (simp; omega))); intro hzg hdg hgg)); (try (refine bz hK g1 ?_ ?_; (focus (first | omega | (simp; done) | (simp; omega))); intro hzg hdg hgg)); (try (refine bz hK g2 ?_ ?_; (focus (first | omega | (simp; done) | (simp; omega))); intro hzg hdg hgg))))
    all_goals
      go_ret
      exact ⟨ret_bool (by simp [hlB, ltB, *]), bu (by assumption) (by go_grown)⟩
  · go_enter Try.func11, Try.ntmps11
    go_wp2_with (first | (go_at_call 12; refine (specHV_c _ _ _).mono ?_; rintro e w1 ⟨rfl, hb⟩; have hK := bt (by first | with_reducible assumption | exact Below.refl _ _) hb; have hc := bcell hK; have hf := bfrozen hK; have hs := bsize hK; clear hb; (try simp only [World.size_drew, World.cell?_drew, World.frozen?_drew] at hc hf hs); (try (refine bw (w := w) hK ?_ ?_; (focus (first | exact HW.out | (have hq := HW.out; go_grown; done) | (go_grown; done))); intro hw hwz; have hK := hK)); (try (refine bz hK (w.heap.size) ?_ ?_; (focus (first | omega | (simp; done) | (simp; omega))); intro hz0 hd0 hg0)); (try (refine bz hK (w.heap.size + 1) ?_ ?_; (focus (first | omega | (simp; done) | (simp; omega))); intro hz1 hd1 hg1)); (try (refine bz hK (w.heap.size + 2) ?_ ?_; (focus (first | omega | (simp; done) | (simp; omega))); intro hz2 hd2 hg2)); (try (refine bz hK (w.heap.size + 3) ?_ ?_; (focus (first | omega | (simp; done) | (simp; omega))); intro hz3 hd3 hg3)); (try (refine bz hK g ?_ ?_; (focus (first | omega | (simp; done) | (simp; omega))); intro hzg hdg hgg)); (try (refine bz hK g1 ?_ ?_; (focus (first | omega | (simp; done) | (simp; omega))); intro hzg hdg hgg)); (try (refine bz hK g2 ?_ ?_; (focus (first | omega | (simp; done) | (simp; omega))); intro hzg hdg hgg))))
    all_goals
      go_ret
      exact ⟨ret_bool (by first | (simp [hlB, ltB, *]; done) | (simp [hlB, ltB, *]; omega)), bu (by assumption) (by go_grown)⟩

set_option maxHeartbeats 400000 in
theorem implSL_c (a b c d : Int) (w : World) : Calls Try.prog 14 #[.agg #[.int .i64 a, .int .i64 b], .agg #[.int .i64 c, .int .i64 d]] w fun e w' => e = .returned (.bool (slB a b c d)) ∧ Below w.heap.size w w' := by
  go_enter Try.func14, Try.ntmps14
  go_wp2_with (first | (go_at_call 27; refine (implSV_c _ _ _).mono ?_; rintro e w1 ⟨rfl, hb⟩; have hK := bt (by first | with_reducible assumption | exact Below.refl _ _) hb; have hc := bcell hK; have hf := bfrozen hK; have hs := bsize hK; clear hb; (try simp only [World.size_drew, World.cell?_drew, World.frozen?_drew] at hc hf hs); (try (refine bw (w := w) hK ?_ ?_; (focus (first | exact HW.out | (have hq := HW.out; go_grown; done) | (go_grown; done))); intro hw hwz; have hK := hK)); (try (refine bz hK (w.heap.size) ?_ ?_; (focus (first | omega | (simp; done) | (simp; omega))); intro hz0 hd0 hg0)); (try (refine bz hK (w.heap.size + 1) ?_ ?_; (focus (first | omega | (simp; done) | (simp; omega))); intro hz1 hd1 hg1)); (try (refine bz hK (w.heap.size + 2) ?_ ?_; (focus (first | omega | (simp; done) | (simp; omega))); intro hz2 hd2 hg2)); (try (refine bz hK (w.heap.size + 3) ?_ ?_; (focus (first | omega | (simp; done) | (simp; omega))); intro hz3 hd3 hg3)); (try (refine bz hK g ?_ ?_; (focus (first | omega | (simp; done) | (simp; omega))); intro hzg hdg hgg)); (try (refine bz hK g1 ?_ ?_; (focus (first | omega | (simp; done) | (simp; omega))); intro hzg hdg hgg)); (try (refine bz hK g2 ?_ ?_; (focus (first | omega | (simp; done) | (simp; omega))); intro hzg hdg hgg))) | (go_at_call 28; refine (implSLess_c _ _ _ _ _).mono ?_; rintro e w1 ⟨rfl, hb⟩; have hK := bt (by first | with_reducible assumption | exact Below.refl _ _) hb; have hc := bcell hK; have hf := bfrozen hK; have hs := bsize hK; clear hb; (try simp only [World.size_drew, World.cell?_drew, World.frozen?_drew] at hc hf hs); (try (refine bw (w := w) hK ?_ ?_; (focus (first | exact HW.out | (have hq := HW.out; go_grown; done) | (go_grown; done))); intro hw hwz; have hK := hK)); (try (refine bz hK (w.heap.size) ?_ ?_; (focus (first | omega | (simp; done) | (simp; omega))); intro hz0 hd0 hg0)); (try (refine bz hK (w.heap.size + 1) ?_ ?_; (focus (first | omega | (simp; done) | (simp; omega))); intro hz1 hd1 hg1)); (try (refine bz hK (w.heap.size + 2) ?_ ?_; (focus (first | omega | (simp; done) | (simp; omega))); intro hz2 hd2 hg2)); (try (refine bz hK (w.heap.size + 3) ?_ ?_; (focus (first | omega | (simp; done) | (simp; omega))); intro hz3 hd3 hg3)); (try (refine bz hK g ?_ ?_; (focus (first | omega | (simp; done) | (simp; omega))); intro hzg hdg hgg)); (try (refine bz hK g1 ?_ ?_; (focus (first | omega | (simp; done) | (simp; omega))); intro hzg hdg hgg)); (try (refine bz hK g2 ?_ ?_; (focus (first | omega | (simp; done) | (simp; omega))); intro hzg hdg hgg))))
  all_goals
    go_ret
    exact ⟨ret_bool (by simp [slB, *]), bu (by assumption) (by go_grown)⟩

set_option maxHeartbeats 400000 in
theorem specSL_c (a b c d : Int) (w : World) : Calls Try.prog 15 #[.agg #[.int .i64 a, .int .i64 b], .agg #[.int .i64 c, .int .i64 d]] w fun e w' => e = .returned (.bool (slB a b c d)) ∧ Below w.heap.size w w' := by
  go_enter Try.func15, Try.ntmps15
  go_wp2_with (first | (go_at_call 16; refine (specSV_c _ _ _).mono ?_; rintro e w1 ⟨rfl, hb⟩; have hK := bt (by first | with_reducible assumption | exact Below.refl _ _) hb; have hc := bcell hK; have hf := bfrozen hK; have hs := bsize hK; clear hb; (try simp only [World.size_drew, World.cell?_drew, World.frozen?_drew] at hc hf hs); (try (refine bw (w := w) hK ?_ ?_; (focus (first | exact HW.out | (have hq := HW.out; go_grown; done) | (go_grown; done))); intro hw hwz; have hK := hK)); (try (refine bz hK (w.heap.size) ?_ ?_; (focus (first | omega | (simp; done) | (simp; omega))); intro hz0 hd0 hg0)); (try (refine bz hK (w.heap.size + 1) ?_ ?_; (focus (first | omega | (simp; done) | (simp; omega))); intro hz1 hd1 hg1)); (try (refine bz hK (w.heap.size + 2) ?_ ?_; (focus (first | omega | (simp; done) | (simp; omega))); intro hz2 hd2 hg2)); (try (refine bz hK (w.heap.size + 3) ?_ ?_; (focus (first | omega | (simp; done) | (simp; omega))); intro hz3 hd3 hg3)); (try (refine bz hK g ?_ ?_; (focus (first | omega | (simp; done) | (simp; omega))); intro hzg hdg hgg)); (try (refine bz hK g1 ?_ ?_; (focus (first | omega | (simp; done) | (simp; omega))); intro hzg hdg hgg)); (try (refine bz hK g2 ?_ ?_; (focus (first | omega | (simp; done) | (simp; omega))); intro hzg hdg hgg))) | (go_at_call 29; refine (specSLess_c _ _ _ _ _).mono ?_; rintro e w1 ⟨rfl, hb⟩; have hK := bt (by first | with_reducible assumption | exact Below.refl _ _) hb; have hc := bcell hK; have hf := bfrozen hK; have hs := bsize hK; clear hb; (try simp only [World.size_drew, World.cell?_drew, World.frozen?_drew] at hc hf hs); (try (refine bw (w := w) hK ?_ ?_; (focus (first | exact HW.out | (have hq := HW.out; go_grown; done) | (go_grown; done))); intro hw hwz; have hK := hK)); (try (refine bz hK (w.heap.size) ?_ ?_; (focus (first | omega | (simp; done) | (simp; omega))); intro hz0 hd0 hg0)); (try (refine bz hK (w.heap.size + 1) ?_ ?_; (focus (first | omega | (simp; done) | (simp; omega))); intro hz1 hd1 hg1)); (try (refine bz hK (w.heap.size + 2) ?_ ?_; (focus (first | omega | (simp; done) | (simp; omega))); intro hz2 hd2 hg2)); (try (refine bz hK (w.heap.size + 3) ?_ ?_; (focus (first | omega | (simp; done) | (simp; omega))); intro hz3 hd3 hg3)); (try (refine bz hK g ?_ ?_; (focus (first | omega | (simp; done) | (simp; omega))); intro hzg hdg hgg)); (try (refine bz hK g1 ?_ ?_; (focus (first | omega | (simp; done) | (simp; omega))); intro hzg hdg hgg)); (try (refine bz hK g2 ?_ ?_; (focus (first | omega | (simp; done) | (simp; omega))); intro hzg hdg hgg))))
  all_goals
    go_ret
    exact ⟨ret_bool (by simp [slB, *]), bu (by assumption) (by go_grown)⟩
end Go.Proofs.Ytjkhnpdaolkcjaa
