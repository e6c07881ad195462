/- The laws FnExactGroupValid and FnExactGroupBlocked: their calls hand back true, whatever the group. -/
import Derived.Test.YtiecjkacbpbghaaEi
namespace Go.Proofs.Ytiecjkacbpbghaa
set_option linter.unusedVariables false
open Go.RowKit

set_option maxHeartbeats 4000000 in
theorem xGr_walk (id ck : Int) (A1 A2 : Option Addr) (P D : List Ent) (c1 c2 : Nat) (w : World) (hm1 : (P.length : Int) ≤ 9223372036854775807) (hm2 : (D.length : Int) ≤ 9223372036854775807) (hr1 : RE w A1 P) (hr2 : RE w A2 D) :
    Calls Try.prog 5 #[.agg #[.int .i64 id, .int .i64 ck, .slice A1 P.length c1, .slice A2 D.length c2]] w fun e w' => e = .returned (.bool true) ∧ Below w.heap.size w w' := by
  obtain ⟨wx, hwx⟩ : ∃ x, w.alloc (.cells #[.int .i64 id, .int .i64 ck, .slice A1 P.length c1, .slice A2 D.length c2] 39) = x := ⟨_, rfl⟩
  have Bp : Box wx w.heap.size 39 #[.int .i64 id, .int .i64 ck, .slice A1 P.length c1, .slice A2 D.length c2] := by rw [← hwx]; exact Box.new w _ _
  have hw : Below w.heap.size w wx := by rw [← hwx]; go_grown
  have C0 := hidI (szGroup_c id ck A1 A2 P.length D.length c1 c2 wx hm1 hm2)
  have HR1 := hidI (fun W (h : Below w.heap.size w W) => RE.below hr1 h)
  have HR2 := hidI (fun W (h : Below w.heap.size w W) => RE.below hr2 h)
  have HX := hidI hwx
  clear hr1 hr2 hwx hm1 hm2
  go_enter Try.func5, Try.ntmps5
  go_wp2_with fail
  rw [HX.out]
  clear HX
  refine Calls.mono C0.out ?_
  rintro e w1 ⟨r, rfl, hsz, hb⟩
  have hw1 := bu hb hw
  replace Bp := Bp.below hb
  clear C0 hb hw
  obtain ⟨p0, p1, p2, p3⟩ := Bp.four
  have lp := Bp.lt
  by_cases hr : r < 0
  · clear hsz
    go_wp2_with fail
    go_ret
    exact ⟨rfl, hw1⟩
  obtain ⟨hn1, hn2⟩ := hsz (by omega)
  clear hsz
  have CT := hidI (fun W (h : Below w.heap.size w W) => toGroup_c id ck A1 A2 P D c1 c2 W hn1 hn2 (HR1.out W h) (HR2.out W h))
  obtain ⟨vb, hvb⟩ : ∃ vb, gB id ck P D = vb := ⟨_, rfl⟩
  have CS := hidI (fun (g1 g2 : Nat) W (h1 : RE W (some ⟨g1, 0, none⟩) P) (h2 : RE W (some ⟨g2, 0, none⟩) D) => specGr_c id ck (some ⟨g1, 0, none⟩) (some ⟨g2, 0, none⟩) P D P.length D.length W hn1 hn2 (Nat.le_refl _) (Nat.le_refl _) h1 h2)
  have CI := hidI (fun (g1 g2 : Nat) W (h1 : RE W (some ⟨g1, 0, none⟩) P) (h2 : RE W (some ⟨g2, 0, none⟩) D) => implGr_c id ck (some ⟨g1, 0, none⟩) (some ⟨g2, 0, none⟩) P D P.length D.length W hn1 hn2 (Nat.le_refl _) (Nat.le_refl _) (fun e => by cases e) (fun e => by cases e) h1 h2)
  rw [hvb] at CS CI
  clear hvb
  go_wp2_with fail
  refine (CT.out _ hw1).mono ?_
  rintro e w2 ⟨g1, g2, rfl, R1, R2, hb⟩
  have hw2 := bu hb hw1
  replace Bp := Bp.below hb
  clear hb hw1 p0 p1 p2 p3 lp
  go_wp2_with fail
  refine (CS.out g1 g2 _ R1 R2).mono ?_
  rintro e w3 ⟨rfl, hb⟩
  have hw3 := bu hb hw2
  replace Bp := Bp.below hb
  clear hb hw2 R1 R2 CS
  obtain ⟨p0, p1, p2, p3⟩ := Bp.four
  have lp := Bp.lt
  go_wp2_with fail
  refine (CT.out _ hw3).mono ?_
  rintro e w4 ⟨g3, g4, rfl, R3, R4, hb⟩
  have hw4 := bu hb hw3
  replace Bp := Bp.below hb
  clear hb hw3 p0 p1 p2 p3 lp
  have lp := Bp.lt
  obtain ⟨wy, hwy⟩ : ∃ x, w4.alloc (.cells #[.int .i64 id, .int .i64 ck, .slice (some ⟨g3, 0, none⟩) P.length P.length, .slice (some ⟨g4, 0, none⟩) D.length D.length] 26) = x := ⟨_, rfl⟩
  have Bq : Box wy w4.heap.size 26 #[.int .i64 id, .int .i64 ck, .slice (some ⟨g3, 0, none⟩) P.length P.length, .slice (some ⟨g4, 0, none⟩) D.length D.length] := by rw [← hwy]; exact Box.new w4 _ _
  have hb4 : Below w4.heap.size w4 wy := by rw [← hwy]; go_grown
  have hw5 := bt hw4 hb4
  replace Bp := Bp.below hb4
  replace R3 := RE.below R3 hb4
  replace R4 := RE.below R4 hb4
  have HY := hidI hwy
  clear hwy hb4 hw4
  go_wp2_with fail
  rw [HY.out]
  clear HY
  refine (CI.out g3 g4 _ R3 R4).mono ?_
  rintro e w6 ⟨rfl, hb⟩
  have hw6 := bt hw5 hb
  replace Bp := Bp.below hb
  replace Bq := Bq.below hb
  replace R3 := RE.below R3 hb
  replace R4 := RE.below R4 hb
  clear hb hw5 CI
  obtain ⟨p0, p1, p2, p3⟩ := Bp.four
  obtain ⟨q0, q1, q2, q3⟩ := Bq.four
  have lp := Bp.lt
  have lq := Bq.lt
  have HT : Hid (∀ W, Below w6.heap.size w6 W → Calls Try.prog 20 #[.agg #[.int .i64 id, .int .i64 ck, .slice A1 P.length c1, .slice A2 D.length c2]] W fun e w1 => ∃ g5 g6 : Nat, e = .returned (.agg #[.int .i64 id, .int .i64 ck, .slice (some ⟨g5, 0, none⟩) P.length P.length, .slice (some ⟨g6, 0, none⟩) D.length D.length]) ∧
      ((w1.cell? ⟨w.heap.size, 0, none⟩ = some (.int .i64 id) ∧ w1.cell? ⟨w.heap.size, 1, none⟩ = some (.int .i64 ck) ∧ w1.cell? ⟨w.heap.size, 2, none⟩ = some (.slice A1 P.length c1) ∧ w1.cell? ⟨w.heap.size, 3, none⟩ = some (.slice A2 D.length c2)) ∧
       (w1.cell? ⟨w4.heap.size, 0, none⟩ = some (.int .i64 id) ∧ w1.cell? ⟨w4.heap.size, 1, none⟩ = some (.int .i64 ck) ∧ w1.cell? ⟨w4.heap.size, 2, none⟩ = some (.slice (some ⟨g3, 0, none⟩) P.length P.length) ∧ w1.cell? ⟨w4.heap.size, 3, none⟩ = some (.slice (some ⟨g4, 0, none⟩) D.length D.length))) ∧
      RE w1 (some ⟨g5, 0, none⟩) P ∧ RE w1 (some ⟨g6, 0, none⟩) D ∧ Below w6.heap.size w6 w1) := fun W hW =>
    (CT.out W (bt hw6 hW)).mono fun e w1 ⟨g5, g6, he, r5, r6, hb⟩ => ⟨g5, g6, he, ⟨(Bp.below (bt hW hb)).four, (Bq.below (bt hW hb)).four⟩, r5, r6, bt hW hb⟩
  have HQ : Hid (∀ (g5 g6 : Nat) W, Below w6.heap.size w6 W → RE W (some ⟨g5, 0, none⟩) P → RE W (some ⟨g6, 0, none⟩) D → Calls Try.prog 15 #[.agg #[.int .i64 id, .int .i64 ck, .slice (some ⟨g3, 0, none⟩) P.length P.length, .slice (some ⟨g4, 0, none⟩) D.length D.length], .agg #[.int .i64 id, .int .i64 ck, .slice (some ⟨g5, 0, none⟩) P.length P.length, .slice (some ⟨g6, 0, none⟩) D.length D.length]] W fun e w1 => e = .returned (.bool true) ∧
      ((w1.cell? ⟨w.heap.size, 0, none⟩ = some (.int .i64 id) ∧ w1.cell? ⟨w.heap.size, 1, none⟩ = some (.int .i64 ck) ∧ w1.cell? ⟨w.heap.size, 2, none⟩ = some (.slice A1 P.length c1) ∧ w1.cell? ⟨w.heap.size, 3, none⟩ = some (.slice A2 D.length c2)) ∧
       (w1.cell? ⟨w4.heap.size, 0, none⟩ = some (.int .i64 id) ∧ w1.cell? ⟨w4.heap.size, 1, none⟩ = some (.int .i64 ck) ∧ w1.cell? ⟨w4.heap.size, 2, none⟩ = some (.slice (some ⟨g3, 0, none⟩) P.length P.length) ∧ w1.cell? ⟨w4.heap.size, 3, none⟩ = some (.slice (some ⟨g4, 0, none⟩) D.length D.length))) ∧ Below w6.heap.size w6 w1) := fun g5 g6 W hW r5 r6 =>
    (eqGroup_c id ck _ _ _ _ P D _ _ _ _ W hn1 hn2 (RE.below R3 hW) (RE.below R4 hW) r5 r6).mono fun e w1 ⟨he, hb⟩ => ⟨he, ⟨(Bp.below (bt hW hb)).four, (Bq.below (bt hW hb)).four⟩, bt hW hb⟩
  have HW := hidI hw6
  clear hw6 CT
  go_wp2_with fail
  go_region_held3 (fun w' => (w'.cell? ⟨w.heap.size, 0, none⟩ = some (.int .i64 id) ∧ w'.cell? ⟨w.heap.size, 1, none⟩ = some (.int .i64 ck) ∧ w'.cell? ⟨w.heap.size, 2, none⟩ = some (.slice A1 P.length c1) ∧ w'.cell? ⟨w.heap.size, 3, none⟩ = some (.slice A2 D.length c2)) ∧
      (w'.cell? ⟨w4.heap.size, 0, none⟩ = some (.int .i64 id) ∧ w'.cell? ⟨w4.heap.size, 1, none⟩ = some (.int .i64 ck) ∧ w'.cell? ⟨w4.heap.size, 2, none⟩ = some (.slice (some ⟨g3, 0, none⟩) P.length P.length) ∧ w'.cell? ⟨w4.heap.size, 3, none⟩ = some (.slice (some ⟨g4, 0, none⟩) D.length D.length)))
    ((first | assumption | (exact ⟨⟨p0, p1, p2, p3⟩, ⟨q0, q1, q2, q3⟩⟩) | (simp (maxDischargeDepth := 4) [*]; done) | (go_keep; done)))
    ((first
      | (go_at_call 20; refine (HT.out _ (by go_grown)).mono ?_; rintro e w7 ⟨g5, g6, rfl, k7, R5, R6, hb7⟩)
      | (go_at_call 15; refine (HQ.out g5 g6 _ hb7 R5 R6).mono ?_; rintro e w8 ⟨rfl, k8, hb8⟩)))
  have hw8 := bt HW.out hb8
  go_wp2_with fail
  go_ret
  exact ⟨rfl, hw8⟩

set_option maxHeartbeats 4000000 in
theorem xBl_walk (id ck : Int) (A1 A2 : Option Addr) (P D : List Ent) (c1 c2 : Nat) (w : World) (hm1 : (P.length : Int) ≤ 9223372036854775807) (hm2 : (D.length : Int) ≤ 9223372036854775807) (hr1 : RE w A1 P) (hr2 : RE w A2 D) :
    Calls Try.prog 6 #[.agg #[.int .i64 id, .int .i64 ck, .slice A1 P.length c1, .slice A2 D.length c2]] w fun e w' => e = .returned (.bool true) ∧ Below w.heap.size w w' := by
  obtain ⟨wx, hwx⟩ : ∃ x, w.alloc (.cells #[.int .i64 id, .int .i64 ck, .slice A1 P.length c1, .slice A2 D.length c2] 39) = x := ⟨_, rfl⟩
  have Bp : Box wx w.heap.size 39 #[.int .i64 id, .int .i64 ck, .slice A1 P.length c1, .slice A2 D.length c2] := by rw [← hwx]; exact Box.new w _ _
  have hw : Below w.heap.size w wx := by rw [← hwx]; go_grown
  have C0 := hidI (szGroup_c id ck A1 A2 P.length D.length c1 c2 wx hm1 hm2)
  have HR1 := hidI (fun W (h : Below w.heap.size w W) => RE.below hr1 h)
  have HR2 := hidI (fun W (h : Below w.heap.size w W) => RE.below hr2 h)
  have HX := hidI hwx
  clear hr1 hr2 hwx hm1 hm2
  go_enter Try.func6, Try.ntmps6
  go_wp2_with fail
  rw [HX.out]
  clear HX
  refine Calls.mono C0.out ?_
  rintro e w1 ⟨r, rfl, hsz, hb⟩
  have hw1 := bu hb hw
  replace Bp := Bp.below hb
  clear C0 hb hw
  obtain ⟨p0, p1, p2, p3⟩ := Bp.four
  have lp := Bp.lt
  by_cases hr : r < 0
  · clear hsz
    go_wp2_with fail
    go_ret
    exact ⟨rfl, hw1⟩
  obtain ⟨hn1, hn2⟩ := hsz (by omega)
  clear hsz
  have CT := hidI (fun W (h : Below w.heap.size w W) => toGroup_c id ck A1 A2 P D c1 c2 W hn1 hn2 (HR1.out W h) (HR2.out W h))
  obtain ⟨vb, hvb⟩ : ∃ vb, blkB id ck P D = vb := ⟨_, rfl⟩
  have CS := hidI (fun (g1 g2 : Nat) W (h1 : RE W (some ⟨g1, 0, none⟩) P) (h2 : RE W (some ⟨g2, 0, none⟩) D) => specBl_c id ck (some ⟨g1, 0, none⟩) (some ⟨g2, 0, none⟩) P D P.length D.length W hn1 hn2 (Nat.le_refl _) (Nat.le_refl _) h1 h2)
  have CI := hidI (fun (g1 g2 : Nat) W (h1 : RE W (some ⟨g1, 0, none⟩) P) (h2 : RE W (some ⟨g2, 0, none⟩) D) => implBl_c id ck (some ⟨g1, 0, none⟩) (some ⟨g2, 0, none⟩) P D P.length D.length W hn1 hn2 (Nat.le_refl _) (Nat.le_refl _) (fun e => by cases e) (fun e => by cases e) h1 h2)
  rw [hvb] at CS CI
  clear hvb
  go_wp2_with fail
  refine (CT.out _ hw1).mono ?_
  rintro e w2 ⟨g1, g2, rfl, R1, R2, hb⟩
  have hw2 := bu hb hw1
  replace Bp := Bp.below hb
  clear hb hw1 p0 p1 p2 p3 lp
  go_wp2_with fail
  refine (CS.out g1 g2 _ R1 R2).mono ?_
  rintro e w3 ⟨rfl, hb⟩
  have hw3 := bu hb hw2
  replace Bp := Bp.below hb
  clear hb hw2 R1 R2 CS
  obtain ⟨p0, p1, p2, p3⟩ := Bp.four
  have lp := Bp.lt
  go_wp2_with fail
  refine (CT.out _ hw3).mono ?_
  rintro e w4 ⟨g3, g4, rfl, R3, R4, hb⟩
  have hw4 := bu hb hw3
  replace Bp := Bp.below hb
  clear hb hw3 p0 p1 p2 p3 lp
  have lp := Bp.lt
  obtain ⟨wy, hwy⟩ : ∃ x, w4.alloc (.cells #[.int .i64 id, .int .i64 ck, .slice (some ⟨g3, 0, none⟩) P.length P.length, .slice (some ⟨g4, 0, none⟩) D.length D.length] 26) = x := ⟨_, rfl⟩
  have Bq : Box wy w4.heap.size 26 #[.int .i64 id, .int .i64 ck, .slice (some ⟨g3, 0, none⟩) P.length P.length, .slice (some ⟨g4, 0, none⟩) D.length D.length] := by rw [← hwy]; exact Box.new w4 _ _
  have hb4 : Below w4.heap.size w4 wy := by rw [← hwy]; go_grown
  have hw5 := bt hw4 hb4
  replace Bp := Bp.below hb4
  replace R3 := RE.below R3 hb4
  replace R4 := RE.below R4 hb4
  have HY := hidI hwy
  clear hwy hb4 hw4
  go_wp2_with fail
  rw [HY.out]
  clear HY
  refine (CI.out g3 g4 _ R3 R4).mono ?_
  rintro e w6 ⟨rfl, hb⟩
  have hw6 := bt hw5 hb
  replace Bp := Bp.below hb
  replace Bq := Bq.below hb
  replace R3 := RE.below R3 hb
  replace R4 := RE.below R4 hb
  clear hb hw5 CI
  obtain ⟨p0, p1, p2, p3⟩ := Bp.four
  obtain ⟨q0, q1, q2, q3⟩ := Bq.four
  have lp := Bp.lt
  have lq := Bq.lt
  have HT : Hid (∀ W, Below w6.heap.size w6 W → Calls Try.prog 20 #[.agg #[.int .i64 id, .int .i64 ck, .slice A1 P.length c1, .slice A2 D.length c2]] W fun e w1 => ∃ g5 g6 : Nat, e = .returned (.agg #[.int .i64 id, .int .i64 ck, .slice (some ⟨g5, 0, none⟩) P.length P.length, .slice (some ⟨g6, 0, none⟩) D.length D.length]) ∧
      ((w1.cell? ⟨w.heap.size, 0, none⟩ = some (.int .i64 id) ∧ w1.cell? ⟨w.heap.size, 1, none⟩ = some (.int .i64 ck) ∧ w1.cell? ⟨w.heap.size, 2, none⟩ = some (.slice A1 P.length c1) ∧ w1.cell? ⟨w.heap.size, 3, none⟩ = some (.slice A2 D.length c2)) ∧
       (w1.cell? ⟨w4.heap.size, 0, none⟩ = some (.int .i64 id) ∧ w1.cell? ⟨w4.heap.size, 1, none⟩ = some (.int .i64 ck) ∧ w1.cell? ⟨w4.heap.size, 2, none⟩ = some (.slice (some ⟨g3, 0, none⟩) P.length P.length) ∧ w1.cell? ⟨w4.heap.size, 3, none⟩ = some (.slice (some ⟨g4, 0, none⟩) D.length D.length))) ∧
      RE w1 (some ⟨g5, 0, none⟩) P ∧ RE w1 (some ⟨g6, 0, none⟩) D ∧ Below w6.heap.size w6 w1) := fun W hW =>
    (CT.out W (bt hw6 hW)).mono fun e w1 ⟨g5, g6, he, r5, r6, hb⟩ => ⟨g5, g6, he, ⟨(Bp.below (bt hW hb)).four, (Bq.below (bt hW hb)).four⟩, r5, r6, bt hW hb⟩
  have HQ : Hid (∀ (g5 g6 : Nat) W, Below w6.heap.size w6 W → RE W (some ⟨g5, 0, none⟩) P → RE W (some ⟨g6, 0, none⟩) D → Calls Try.prog 15 #[.agg #[.int .i64 id, .int .i64 ck, .slice (some ⟨g3, 0, none⟩) P.length P.length, .slice (some ⟨g4, 0, none⟩) D.length D.length], .agg #[.int .i64 id, .int .i64 ck, .slice (some ⟨g5, 0, none⟩) P.length P.length, .slice (some ⟨g6, 0, none⟩) D.length D.length]] W fun e w1 => e = .returned (.bool true) ∧
      ((w1.cell? ⟨w.heap.size, 0, none⟩ = some (.int .i64 id) ∧ w1.cell? ⟨w.heap.size, 1, none⟩ = some (.int .i64 ck) ∧ w1.cell? ⟨w.heap.size, 2, none⟩ = some (.slice A1 P.length c1) ∧ w1.cell? ⟨w.heap.size, 3, none⟩ = some (.slice A2 D.length c2)) ∧
       (w1.cell? ⟨w4.heap.size, 0, none⟩ = some (.int .i64 id) ∧ w1.cell? ⟨w4.heap.size, 1, none⟩ = some (.int .i64 ck) ∧ w1.cell? ⟨w4.heap.size, 2, none⟩ = some (.slice (some ⟨g3, 0, none⟩) P.length P.length) ∧ w1.cell? ⟨w4.heap.size, 3, none⟩ = some (.slice (some ⟨g4, 0, none⟩) D.length D.length))) ∧ Below w6.heap.size w6 w1) := fun g5 g6 W hW r5 r6 =>
    (eqGroup_c id ck _ _ _ _ P D _ _ _ _ W hn1 hn2 (RE.below R3 hW) (RE.below R4 hW) r5 r6).mono fun e w1 ⟨he, hb⟩ => ⟨he, ⟨(Bp.below (bt hW hb)).four, (Bq.below (bt hW hb)).four⟩, bt hW hb⟩
  have HW := hidI hw6
  clear hw6 CT
  go_wp2_with fail
  go_region_held3 (fun w' => (w'.cell? ⟨w.heap.size, 0, none⟩ = some (.int .i64 id) ∧ w'.cell? ⟨w.heap.size, 1, none⟩ = some (.int .i64 ck) ∧ w'.cell? ⟨w.heap.size, 2, none⟩ = some (.slice A1 P.length c1) ∧ w'.cell? ⟨w.heap.size, 3, none⟩ = some (.slice A2 D.length c2)) ∧
      (w'.cell? ⟨w4.heap.size, 0, none⟩ = some (.int .i64 id) ∧ w'.cell? ⟨w4.heap.size, 1, none⟩ = some (.int .i64 ck) ∧ w'.cell? ⟨w4.heap.size, 2, none⟩ = some (.slice (some ⟨g3, 0, none⟩) P.length P.length) ∧ w'.cell? ⟨w4.heap.size, 3, none⟩ = some (.slice (some ⟨g4, 0, none⟩) D.length D.length)))
    ((first | assumption | (exact ⟨⟨p0, p1, p2, p3⟩, ⟨q0, q1, q2, q3⟩⟩) | (simp (maxDischargeDepth := 4) [*]; done) | (go_keep; done)))
    ((first
      | (go_at_call 20; refine (HT.out _ (by go_grown)).mono ?_; rintro e w7 ⟨g5, g6, rfl, k7, R5, R6, hb7⟩)
      | (go_at_call 15; refine (HQ.out g5 g6 _ hb7 R5 R6).mono ?_; rintro e w8 ⟨rfl, k8, hb8⟩)))
  have hw8 := bt HW.out hb8
  go_wp2_with fail
  go_ret
  exact ⟨rfl, hw8⟩
end Go.Proofs.Ytiecjkacbpbghaa
