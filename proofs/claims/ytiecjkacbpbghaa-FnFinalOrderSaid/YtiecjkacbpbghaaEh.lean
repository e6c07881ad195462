/- Contracts: whole groups are measured, copied, compared; the first blocked message. -/
import Derived.Test.YtiecjkacbpbghaaEg
namespace Go.Proofs.Ytiecjkacbpbghaa
set_option linter.unusedVariables false
open Go.RowKit

set_option maxHeartbeats 1000000 in
theorem szGroup_c (id ck : Int) (A1 A2 : Option Addr) (n1 n2 c1 c2 : Nat) (w : World) (hn1 : (n1 : Int) ≤ 9223372036854775807) (hn2 : (n2 : Int) ≤ 9223372036854775807) :
    Calls Try.prog 18 #[.agg #[.int .i64 id, .int .i64 ck, .slice A1 n1 c1, .slice A2 n2 c2], .int .i64 1048576] w fun e w' => ∃ r : Int, e = .returned (.int .i64 r) ∧ (0 ≤ r → n1 ≤ 1048576 ∧ n2 ≤ 1048576) ∧ Below w.heap.size w w' := by
  have C1 := fun W => szEntryS_c A1 n1 c1 1048576 W hn1 (by omega) (by omega)
  by_cases h1 : (n1 : Int) ≤ 1048576
  · have C2 := fun W => szEntryS_c A2 n2 c2 (1048576 - (n1 : Int)) W hn2 (by omega) (by omega)
    rw [if_pos h1] at C1
    have d1 : decide ((1048576 : Int) - (n1 : Int) < 0) = false := decide_eq_false (by omega)
    by_cases h2 : (n2 : Int) ≤ 1048576 - (n1 : Int)
    · rw [if_pos h2] at C2
      have d2 : decide ((1048576 : Int) - (n1 : Int) - (n2 : Int) < 0) = false := decide_eq_false (by omega)
      have HC1 := hidI C1
      have HC2 := hidI C2
      clear C1 C2
      go_enter Try.func18, Try.ntmps18
      go_wp2_with fail
      refine (HC1.out _).mono ?_
      rintro e w' ⟨rfl, rfl⟩
      go_wp2_with fail
      refine (HC2.out _).mono ?_
      rintro e w' ⟨rfl, rfl⟩
      go_wp2_with fail
      go_ret
      exact ⟨_, rfl, fun _ => ⟨by omega, by omega⟩, by go_grown⟩
    · rw [if_neg h2] at C2
      have HC1 := hidI C1
      have HC2 := hidI C2
      clear C1 C2
      go_enter Try.func18, Try.ntmps18
      go_wp2_with fail
      refine (HC1.out _).mono ?_
      rintro e w' ⟨rfl, rfl⟩
      go_wp2_with fail
      refine (HC2.out _).mono ?_
      rintro e w' ⟨rfl, rfl⟩
      go_wp2_with fail
      go_ret
      exact ⟨_, rfl, fun h => absurd h (by omega), by go_grown⟩
  · rw [if_neg h1] at C1
    have HC1 := hidI C1
    clear C1
    go_enter Try.func18, Try.ntmps18
    go_wp2_with fail
    refine (HC1.out _).mono ?_
    rintro e w' ⟨rfl, rfl⟩
    go_wp2_with fail
    go_ret
    exact ⟨_, rfl, fun h => absurd h (by omega), by go_grown⟩

/-- A group in new memory. -/
def NewG (id ck : Int) (P D : List Ent) (w : World) (e : Ending) (w' : World) : Prop :=
  ∃ g1 g2 : Nat, e = .returned (.agg #[.int .i64 id, .int .i64 ck, .slice (some ⟨g1, 0, none⟩) P.length P.length, .slice (some ⟨g2, 0, none⟩) D.length D.length]) ∧ RE w' (some ⟨g1, 0, none⟩) P ∧ RE w' (some ⟨g2, 0, none⟩) D ∧ Below w.heap.size w w'

set_option maxHeartbeats 2000000 in
theorem toGroup_c (id ck : Int) (A1 A2 : Option Addr) (P D : List Ent) (c1 c2 : Nat) (w : World) (hn1 : P.length ≤ 1048576) (hn2 : D.length ≤ 1048576) (hr1 : RE w A1 P) (hr2 : RE w A2 D) :
    Calls Try.prog 20 #[.agg #[.int .i64 id, .int .i64 ck, .slice A1 P.length c1, .slice A2 D.length c2]] w (NewG id ck P D w) := by
  obtain ⟨wx, hwx⟩ : ∃ x, (((w.alloc (.cells #[.int .i64 id, .int .i64 ck, .slice A1 P.length c1, .slice A2 D.length c2] 39)).alloc (.cells #[.int .i64 0, .int .i64 0, .slice none 0 0, .slice none 0 0] 26)).alloc (.cells #[.int .i64 id, .int .i64 ck, .slice none 0 0, .slice none 0 0] 26)) = x := ⟨_, rfl⟩
  have Bp : Box wx w.heap.size 39 #[.int .i64 id, .int .i64 ck, .slice A1 P.length c1, .slice A2 D.length c2] := by rw [← hwx]; exact ((Box.new w _ _).alloc _).alloc _
  have Br : Box wx (w.heap.size + 1) 26 #[.int .i64 0, .int .i64 0, .slice none 0 0, .slice none 0 0] := by rw [← hwx]; exact (by simpa using Box.new (w.alloc _) _ _ : Box _ _ _ _).alloc _
  have Bo : Box wx (w.heap.size + 1 + 1) 26 #[.int .i64 id, .int .i64 ck, .slice none 0 0, .slice none 0 0] := by rw [← hwx]; simpa using Box.new ((w.alloc _).alloc _) _ _
  have hw : Below w.heap.size w wx := by rw [← hwx]; go_grown
  have hs : wx.heap.size = w.heap.size + 3 := by rw [← hwx]; simp
  have C1 := hidI (toEntryS_c A1 P c1 wx hn1 (RE.below hr1 hw))
  have HR2 := hidI (fun W (h : Below w.heap.size w W) => RE.below hr2 h)
  have HX := hidI hwx
  clear hr1 hr2 hwx
  go_enter Try.func20, Try.ntmps20
  go_wp2_with fail
  simp only [HX.out]
  clear HX
  refine Calls.mono C1.out ?_
  rintro e w1 ⟨g1, rfl, E1, hg1, hb⟩
  have hw1 := bu hb hw
  replace Bp := Bp.below hb
  replace Br := Br.below hb
  replace Bo := Bo.below hb
  have s1 := hb.size
  clear C1 hb hw
  have lo := Bo.lt
  have lp := Bp.lt
  have lr := Br.lt
  obtain ⟨p0, p1, p2, p3⟩ := Bp.four
  obtain ⟨o0, o1, o2, o3⟩ := Bo.four
  have z2 := Bo.frozen 2
  go_wp2_with fail
  have E1' := E1.far (p := ⟨w.heap.size + 1 + 1, 2, none⟩) (by simp; omega) (.slice (some ⟨g1, 0, none⟩) P.length P.length)
  have hw1' : Below w.heap.size w (w1.setCell ⟨w.heap.size + 1 + 1, 2, none⟩ (.slice (some ⟨g1, 0, none⟩) P.length P.length)) := hw1.setCell (by simp; omega) _
  have Br' := Br.far (p := ⟨w.heap.size + 1 + 1, 2, none⟩) (by simp) (.slice (some ⟨g1, 0, none⟩) P.length P.length)
  have Bo' := Bo.set 2 (.slice (some ⟨g1, 0, none⟩) P.length P.length)
  refine (toEntryS_c A2 D c2 _ hn2 (HR2.out _ hw1')).mono ?_
  rintro e w2 ⟨g2, rfl, E2, hg2, hb2⟩
  have hw2 := bu hb2 hw1'
  replace E1' := E1'.below hb2
  replace Br' := Br'.below hb2
  replace Bo' := Bo'.below hb2
  simp only [World.size_setCell] at hg2
  have s2 := hw2.size
  clear Bp Br Bo E1 hb2 hw1 hw1' p0 p1 p2 p3 o0 o1 o2 o3 z2 HR2
  have lo := Bo'.lt
  have lr := Br'.lt
  have o0 := Bo'.cell 0
  have o1 := Bo'.cell 1
  have o2 := Bo'.cell 2
  have o3 := Bo'.cell 3
  simp at o0 o1 o2 o3
  have z3 := Bo'.frozen 3
  obtain ⟨r0, r1, r2, r3⟩ := Br'.four
  have y0 := Br'.frozen 0
  have y1 := Br'.frozen 1
  have y2 := Br'.frozen 2
  have y3 := Br'.frozen 3
  go_wp2_with fail
  refine bodyPost_ret (v := .agg #[.int .i64 id, .int .i64 ck, .slice (some ⟨g1, 0, none⟩) P.length P.length, .slice (some ⟨g2, 0, none⟩) D.length D.length]) (by simp (maxDischargeDepth := 8) [results, Try.results20, go_sem, *]) rfl ⟨g1, g2, rfl, ?_, ?_, ?_⟩
  · refine Rd.box (t := 48) ?_
    repeat (refine Box.far ?_ (by simp; omega) _)
    exact E1'
  · refine Rd.box (t := 48) ?_
    repeat (refine Box.far ?_ (by simp; omega) _)
    exact E2
  · go_grown
end Go.Proofs.Ytiecjkacbpbghaa
