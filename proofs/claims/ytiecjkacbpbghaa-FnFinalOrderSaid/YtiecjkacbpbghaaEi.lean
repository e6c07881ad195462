/- Contracts: groups are compared; the first blocked message by the program and by the reference. -/
import Derived.Test.YtiecjkacbpbghaaEh
namespace Go.Proofs.Ytiecjkacbpbghaa
set_option linter.unusedVariables false
open Go.RowKit

set_option maxHeartbeats 2000000 in
theorem eqGroup_c (id ck : Int) (A1 A2 E1 E2 : Option Addr) (P D : List Ent) (c1 c2 q1 q2 : Nat) (w : World) (hn1 : P.length ≤ 1048576) (hn2 : D.length ≤ 1048576) (hr1 : RE w A1 P) (hr2 : RE w A2 D) (ht1 : RE w E1 P) (ht2 : RE w E2 D) :
    Calls Try.prog 15 #[.agg #[.int .i64 id, .int .i64 ck, .slice A1 P.length c1, .slice A2 D.length c2], .agg #[.int .i64 id, .int .i64 ck, .slice E1 P.length q1, .slice E2 D.length q2]] w fun e w' => e = .returned (.bool true) ∧ Below w.heap.size w w' := by
  obtain ⟨wx, hwx⟩ : ∃ x, (w.alloc (.cells #[.int .i64 id, .int .i64 ck, .slice A1 P.length c1, .slice A2 D.length c2] 26)).alloc (.cells #[.int .i64 id, .int .i64 ck, .slice E1 P.length q1, .slice E2 D.length q2] 26) = x := ⟨_, rfl⟩
  have Bp : Box wx w.heap.size 26 #[.int .i64 id, .int .i64 ck, .slice A1 P.length c1, .slice A2 D.length c2] := by rw [← hwx]; exact (Box.new w _ _).alloc _
  have Bq : Box wx (w.heap.size + 1) 26 #[.int .i64 id, .int .i64 ck, .slice E1 P.length q1, .slice E2 D.length q2] := by rw [← hwx]; simpa using Box.new (w.alloc _) _ _
  have hw : Below w.heap.size w wx := by rw [← hwx]; go_grown
  have C1 := hidI (eqEntryS_c A1 E1 P c1 q1 wx hn1 (RE.below hr1 hw) (RE.below ht1 hw))
  have C2 := hidI (fun W (h : Below w.heap.size w W) => eqEntryS_c A2 E2 D c2 q2 W hn2 (RE.below hr2 h) (RE.below ht2 h))
  have HX := hidI hwx
  clear hr1 hr2 ht1 ht2 hwx
  go_enter Try.func15, Try.ntmps15
  go_wp2_with fail
  simp only [HX.out]
  clear HX
  refine Calls.mono C1.out ?_
  rintro e w1 ⟨rfl, hb⟩
  have hw1 := bu hb hw
  replace Bp := Bp.below hb
  replace Bq := Bq.below hb
  clear C1 hb hw
  obtain ⟨p0, p1, p2, p3⟩ := Bp.four
  obtain ⟨q0, q1, q2, q3⟩ := Bq.four
  go_wp2_with fail
  refine (C2.out _ hw1).mono ?_
  rintro e w2 ⟨rfl, hb⟩
  have hw2 := bu hb hw1
  clear C2 hb hw1 p0 p1 p2 p3 q0 q1 q2 q3 Bp Bq
  go_wp2_with fail
  go_ret
  exact ⟨rfl, hw2⟩

theorem blk_no {id ck : Int} {P D : List Ent} (h : gB id ck P D = false) : blkB id ck P D = -1 := by simp [blkB, h]
theorem blk_nil {id ck : Int} {P D : List Ent} (h : P.length = 0) : blkB id ck P D = -1 := by
  obtain rfl : P = [] := List.eq_nil_of_length_eq_zero h
  simp [blkB]
theorem blk_yes {id ck : Int} {P D : List Ent} {p : Ent} (h : gB id ck P D = true) (hp : P[0]? = some p) : blkB id ck P D = p.m := by
  cases P with
  | nil => simp at hp
  | cons a r =>
    simp at hp
    subst hp
    simp [blkB, h]

set_option maxHeartbeats 2000000 in
theorem implBl_c (id ck : Int) (A1 A2 : Option Addr) (P D : List Ent) (c1 c2 : Nat) (w : World) (hn1 : P.length ≤ 1048576) (hn2 : D.length ≤ 1048576) (hl1 : P.length ≤ c1) (hl2 : D.length ≤ c2) (z1 : A1 = none → P = [] ∧ c1 = 0) (z2 : A2 = none → D = [] ∧ c2 = 0) (hr1 : RE w A1 P) (hr2 : RE w A2 D) :
    Calls Try.prog 14 #[.agg #[.int .i64 id, .int .i64 ck, .slice A1 P.length c1, .slice A2 D.length c2]] w fun e w' => e = .returned (.int .i64 (blkB id ck P D)) ∧ Below w.heap.size w w' := by
  obtain ⟨wx, hwx⟩ : ∃ x, w.alloc (.cells #[.int .i64 id, .int .i64 ck, .slice A1 P.length c1, .slice A2 D.length c2] 26) = x := ⟨_, rfl⟩
  have Bp : Box wx w.heap.size 26 #[.int .i64 id, .int .i64 ck, .slice A1 P.length c1, .slice A2 D.length c2] := by rw [← hwx]; exact Box.new w _ _
  have hw : Below w.heap.size w wx := by rw [← hwx]; go_grown
  have C := implGr_c id ck A1 A2 P D c1 c2 wx hn1 hn2 hl1 hl2 z1 z2 (RE.below hr1 hw) (RE.below hr2 hw)
  have HR1 := hidI (fun W (h : Below w.heap.size w W) => RE.below hr1 h)
  have HX := hidI hwx
  clear hr1 hr2 hwx z1 z2
  rcases h : gB id ck P D with _ | _
  · have E := hidI (blk_no h)
    rw [h] at C
    have HC := hidI C
    clear C h
    go_enter Try.func14, Try.ntmps14
    go_wp2_with fail
    simp only [HX.out]
    clear HX
    refine Calls.mono HC.out ?_
    rintro e w1 ⟨rfl, hb⟩
    have hw1 := bu hb hw
    clear HC hb hw Bp
    go_wp2_with fail
    go_ret
    exact ⟨ret_int E.out.symm, hw1⟩
  · have HG := hidI h
    rw [h] at C
    have HC := hidI C
    clear C h
    by_cases hP : P.length = 0
    · have E := hidI (blk_nil (id := id) (ck := ck) (D := D) hP)
      have hP' : ((P.length : Int) == 0) = true := by rw [hP]; rfl
      clear hP
      go_enter Try.func14, Try.ntmps14
      go_wp2_with fail
      rw [HX.out]
      clear HX
      refine Calls.mono HC.out ?_
      rintro e w1 ⟨rfl, hb⟩
      have hw1 := bu hb hw
      replace Bp := Bp.below hb
      clear HC hb hw
      obtain ⟨p0, p1, p2, p3⟩ := Bp.four
      go_wp2_with fail
      go_ret
      exact ⟨ret_int E.out.symm, hw1⟩
    · have hP' : ((P.length : Int) == 0) = false := by simp; intro h; exact hP (by simp [h])
      have i2 : (0 : Int) < (P.length : Int) := by omega
      go_enter Try.func14, Try.ntmps14
      go_wp2_with fail
      rw [HX.out]
      clear HX
      refine Calls.mono HC.out ?_
      rintro e w1 ⟨rfl, hb⟩
      have hw1 := bu hb hw
      replace Bp := Bp.below hb
      clear HC hb hw
      obtain ⟨p0, p1, p2, p3⟩ := Bp.four
      obtain ⟨b, o, m, t, g, f, rfl, hb, hx, d0, d1, d2, d3⟩ := (HR1.out _ hw1).ent (k := 0) (by omega)
      simp only [Nat.zero_mul, Nat.add_zero] at d0 d1 d2 d3
      have E := hidI (blk_yes HG.out hx.out)
      go_wp2_with fail
      go_ret
      exact ⟨ret_int E.out.symm, hw1⟩

set_option maxHeartbeats 2000000 in
theorem specBl_c (id ck : Int) (A1 A2 : Option Addr) (P D : List Ent) (c1 c2 : Nat) (w : World) (hn1 : P.length ≤ 1048576) (hn2 : D.length ≤ 1048576) (hl1 : P.length ≤ c1) (hl2 : D.length ≤ c2) (hr1 : RE w A1 P) (hr2 : RE w A2 D) :
    Calls Try.prog 21 #[.agg #[.int .i64 id, .int .i64 ck, .slice A1 P.length c1, .slice A2 D.length c2]] w fun e w' => e = .returned (.int .i64 (blkB id ck P D)) ∧ Below w.heap.size w w' := by
  obtain ⟨wx, hwx⟩ : ∃ x, w.alloc (.cells #[.int .i64 id, .int .i64 ck, .slice A1 P.length c1, .slice A2 D.length c2] 26) = x := ⟨_, rfl⟩
  have Bp : Box wx w.heap.size 26 #[.int .i64 id, .int .i64 ck, .slice A1 P.length c1, .slice A2 D.length c2] := by rw [← hwx]; exact Box.new w _ _
  have hw : Below w.heap.size w wx := by rw [← hwx]; go_grown
  have C := specGr_c id ck A1 A2 P D c1 c2 wx hn1 hn2 hl1 hl2 (RE.below hr1 hw) (RE.below hr2 hw)
  have HR1 := hidI (fun W (h : Below w.heap.size w W) => RE.below hr1 h)
  have HX := hidI hwx
  clear hr1 hr2 hwx
  rcases h : gB id ck P D with _ | _
  · have E := hidI (blk_no h)
    rw [h] at C
    have HC := hidI C
    clear C h
    go_enter Try.func21, Try.ntmps21
    go_wp2_with fail
    simp only [HX.out]
    clear HX
    refine Calls.mono HC.out ?_
    rintro e w1 ⟨rfl, hb⟩
    have hw1 := bu hb hw
    clear HC hb hw Bp
    go_wp2_with fail
    go_ret
    exact ⟨ret_int E.out.symm, hw1⟩
  · have HG := hidI h
    rw [h] at C
    have HC := hidI C
    clear C h
    by_cases hP : P.length = 0
    · have E := hidI (blk_nil (id := id) (ck := ck) (D := D) hP)
      have hP' : ((P.length : Int) == 0) = true := by rw [hP]; rfl
      clear hP
      go_enter Try.func21, Try.ntmps21
      go_wp2_with fail
      rw [HX.out]
      clear HX
      refine Calls.mono HC.out ?_
      rintro e w1 ⟨rfl, hb⟩
      have hw1 := bu hb hw
      replace Bp := Bp.below hb
      clear HC hb hw
      obtain ⟨p0, p1, p2, p3⟩ := Bp.four
      go_wp2_with fail
      go_ret
      exact ⟨ret_int E.out.symm, hw1⟩
    · have hP' : ((P.length : Int) == 0) = false := by simp; intro h; exact hP (by simp [h])
      have i2 : (0 : Int) < (P.length : Int) := by omega
      go_enter Try.func21, Try.ntmps21
      go_wp2_with fail
      rw [HX.out]
      clear HX
      refine Calls.mono HC.out ?_
      rintro e w1 ⟨rfl, hb⟩
      have hw1 := bu hb hw
      replace Bp := Bp.below hb
      clear HC hb hw
      obtain ⟨p0, p1, p2, p3⟩ := Bp.four
      obtain ⟨b, o, m, t, g, f, rfl, hb, hx, d0, d1, d2, d3⟩ := (HR1.out _ hw1).ent (k := 0) (by omega)
      simp only [Nat.zero_mul, Nat.add_zero] at d0 d1 d2 d3
      have E := hidI (blk_yes HG.out hx.out)
      go_wp2_with fail
      go_ret
      exact ⟨ret_int E.out.symm, hw1⟩
end Go.Proofs.Ytiecjkacbpbghaa
