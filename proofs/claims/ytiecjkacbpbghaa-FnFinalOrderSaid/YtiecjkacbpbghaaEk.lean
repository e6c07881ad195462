/- Contracts: new groups; marks in groups without entries. The law FnExactGroupNew. -/
import Derived.Test.YtiecjkacbpbghaaEi
namespace Go.Proofs.Ytiecjkacbpbghaa
set_option linter.unusedVariables false
open Go.RowKit

/-- What GroupNew hands back. -/
def NewIs (id x : Int) (b : Bool) : Prop := (inB id 0 4 = true ∧ x = id ∧ b = true) ∨ (inB id 0 4 = false ∧ x = 0 ∧ b = false)
theorem newIs (id : Int) : ∃ x b, NewIs id x b := by
  rcases h : inB id 0 4 with _ | _
  · exact ⟨0, false, .inr ⟨h, rfl, rfl⟩⟩
  · exact ⟨id, true, .inl ⟨h, rfl, rfl⟩⟩

set_option maxHeartbeats 1000000 in
theorem implNew_c (id x : Int) (b : Bool) (h : NewIs id x b) (w : World) :
    Calls Try.prog 9 #[.int .i64 id] w fun e w' => e = .returned (.tuple #[.agg #[.int .i64 x, .int .i64 0, .slice none 0 0, .slice none 0 0], .bool b]) ∧ Below w.heap.size w w' := by
  rcases h with ⟨h, rfl, rfl⟩ | ⟨h, rfl, rfl⟩
  · have C := fun W => isGroup_c x W
    rw [h] at C
    have HC := hidI C
    clear C h
    go_enter Try.func9, Try.ntmps9
    go_wp2_with fail
    refine (HC.out _).mono ?_
    rintro e w' ⟨rfl, rfl⟩
    go_wp2_with fail
    refine bodyPost_ret (v := .tuple #[.agg #[.int .i64 x, .int .i64 0, .slice none 0 0, .slice none 0 0], .bool true]) (by simp (maxDischargeDepth := 8) [results, Try.results9, go_sem, *]) rfl ⟨rfl, ?_⟩
    go_grown
  · have C := fun W => isGroup_c id W
    rw [h] at C
    have HC := hidI C
    clear C h
    go_enter Try.func9, Try.ntmps9
    go_wp2_with fail
    refine (HC.out _).mono ?_
    rintro e w' ⟨rfl, rfl⟩
    go_wp2_with fail
    refine bodyPost_ret (v := .tuple #[.agg #[.int .i64 0, .int .i64 0, .slice none 0 0, .slice none 0 0], .bool false]) (by simp (maxDischargeDepth := 8) [results, Try.results9, go_sem, *]) rfl ⟨rfl, ?_⟩
    go_grown

set_option maxHeartbeats 1000000 in
theorem specNewT_c (id : Int) (h : inB id 0 4 = true) (w : World) :
    Calls Try.prog 10 #[.int .i64 id] w fun e w' => e = .returned (.tuple #[.agg #[.int .i64 id, .int .i64 0, .slice (some ⟨w.heap.size + 1, 0, none⟩) 0 0, .slice (some ⟨w.heap.size + 2, 0, none⟩) 0 0], .bool true]) ∧
      EV w' (w.heap.size + 1) (.slice (some ⟨w.heap.size + 1, 0, none⟩) 0 0) 0 [] ∧ EV w' (w.heap.size + 2) (.slice (some ⟨w.heap.size + 2, 0, none⟩) 0 0) 0 [] ∧ Below w.heap.size w w' := by
  have C := fun W => l1Group_c id W
  rw [h] at C
  have HC := hidI C
  clear C h
  go_enter Try.func10, Try.ntmps10
  go_wp2_with fail
  refine (HC.out _).mono ?_
  rintro e w' ⟨rfl, rfl⟩
  go_wp2_with fail
  refine bodyPost_ret (v := .tuple #[.agg #[.int .i64 id, .int .i64 0, .slice (some ⟨w.heap.size + 1, 0, none⟩) 0 0, .slice (some ⟨w.heap.size + 2, 0, none⟩) 0 0], .bool true]) (by simp (maxDischargeDepth := 8) [results, Try.results10, go_sem, *]) rfl ⟨rfl, ?_, ?_, ?_⟩
  · have h := (EV.start (w.alloc (.cells #[.int .i64 id, .int .i64 0, .slice (some ⟨w.heap.size + 1, 0, none⟩) 0 0, .slice (some ⟨w.heap.size + 1 + 1, 0, none⟩) 0 0] 26))).alloc (.cells #[] 48)
    rw [World.size_alloc] at h
    exact h
  · have h := EV.start ((w.alloc (.cells #[.int .i64 id, .int .i64 0, .slice (some ⟨w.heap.size + 1, 0, none⟩) 0 0, .slice (some ⟨w.heap.size + 1 + 1, 0, none⟩) 0 0] 26)).alloc (.cells #[] 48))
    rw [World.size_alloc, World.size_alloc] at h
    exact h
  · go_grown

set_option maxHeartbeats 1000000 in
theorem specNewF_c (id : Int) (h : inB id 0 4 = false) (w : World) :
    Calls Try.prog 10 #[.int .i64 id] w fun e w' => e = .returned (.tuple #[.agg #[.int .i64 0, .int .i64 0, .slice none 0 0, .slice none 0 0], .bool false]) ∧ Below w.heap.size w w' := by
  have C := fun W => l1Group_c id W
  rw [h] at C
  have HC := hidI C
  clear C h
  go_enter Try.func10, Try.ntmps10
  go_wp2_with fail
  refine (HC.out _).mono ?_
  rintro e w' ⟨rfl, rfl⟩
  go_wp2_with fail
  refine bodyPost_ret (v := .tuple #[.agg #[.int .i64 0, .int .i64 0, .slice none 0 0, .slice none 0 0], .bool false]) (by simp (maxDischargeDepth := 8) [results, Try.results10, go_sem, *]) rfl ⟨rfl, ?_⟩
  go_grown

theorem specNew_c (id x : Int) (b : Bool) (h : NewIs id x b) (w : World) :
    Calls Try.prog 10 #[.int .i64 id] w fun e w' => ∃ S1 S2 : Option Addr, e = .returned (.tuple #[.agg #[.int .i64 x, .int .i64 0, .slice S1 0 0, .slice S2 0 0], .bool b]) ∧ Below w.heap.size w w' := by
  rcases h with ⟨h, rfl, rfl⟩ | ⟨h, rfl, rfl⟩
  · exact (specNewT_c x h w).mono fun e w' ⟨he, _, _, hb⟩ => ⟨_, _, he, hb⟩
  · exact (specNewF_c id h w).mono fun e w' ⟨he, hb⟩ => ⟨_, _, he, hb⟩

set_option maxHeartbeats 1000000 in
theorem markE0_c (A : Option Addr) (c : Nat) (k : Int) (w : World) :
    Calls Try.prog 34 #[.slice A 0 c, .int .i64 k] w fun e w' => e = .returned (.int .i64 k) ∧ w = w' := by
  go_enter Try.func34, Try.ntmps34
  go_wp2
  go_loop [1, 5] (fun q i => q = .int .i64 k ∧ i = .int .i64 0) (fun _ _ => 0)
  case atStart => exact ⟨rfl, rfl⟩
  case round =>
    obtain ⟨rfl, rfl⟩ := hrel
    go_wp2
    go_ret
    exact ⟨rfl, rfl⟩

set_option maxHeartbeats 1000000 in
theorem heldE0_c (A : Option Addr) (c : Nat) (k : Int) (w : World) :
    Calls Try.prog 35 #[.slice A 0 c, .int .i64 k] w fun e w' => e = .returned (.int .i64 k) ∧ w = w' := by
  go_enter Try.func35, Try.ntmps35
  go_wp2
  go_loop [1, 5] (fun q i => q = .int .i64 k ∧ i = .int .i64 0) (fun _ _ => 0)
  case atStart => exact ⟨rfl, rfl⟩
  case round =>
    obtain ⟨rfl, rfl⟩ := hrel
    go_wp2
    go_ret
    exact ⟨rfl, rfl⟩

set_option maxHeartbeats 1000000 in
theorem markG0_c (x y : Int) (A1 A2 : Option Addr) (c1 c2 : Nat) (w : World) :
    Calls Try.prog 16 #[.agg #[.int .i64 x, .int .i64 y, .slice A1 0 c1, .slice A2 0 c2], .int .i64 1] w fun e w' => e = .returned (.int .i64 1) ∧ Below w.heap.size w w' := by
  go_enter Try.func16, Try.ntmps16
  go_wp2_with fail
  refine (markE0_c _ _ _ _).mono ?_
  rintro e w' ⟨rfl, rfl⟩
  go_wp2_with fail
  refine (markE0_c _ _ _ _).mono ?_
  rintro e w' ⟨rfl, rfl⟩
  go_wp2_with fail
  go_ret
  exact ⟨rfl, by go_grown⟩

set_option maxHeartbeats 1000000 in
theorem heldG0_c (x y : Int) (A1 A2 : Option Addr) (c1 c2 : Nat) (w : World) :
    Calls Try.prog 17 #[.agg #[.int .i64 x, .int .i64 y, .slice A1 0 c1, .slice A2 0 c2], .int .i64 1] w fun e w' => e = .returned (.int .i64 1) ∧ Below w.heap.size w w' := by
  go_enter Try.func17, Try.ntmps17
  go_wp2_with fail
  refine (heldE0_c _ _ _ _).mono ?_
  rintro e w' ⟨rfl, rfl⟩
  go_wp2_with fail
  refine (heldE0_c _ _ _ _).mono ?_
  rintro e w' ⟨rfl, rfl⟩
  go_wp2_with fail
  go_ret
  exact ⟨rfl, by go_grown⟩

set_option maxHeartbeats 4000000 in
theorem xNew_walk (id : Int) (w : World) :
    Calls Try.prog 4 #[.int .i64 id] w fun e w' => e = .returned (.bool true) ∧ Below w.heap.size w w' := by
  obtain ⟨x, b, hxb⟩ := newIs id
  have CI := hidI (fun W => implNew_c id x b hxb W)
  have CS := hidI (fun W => specNew_c id x b hxb W)
  have CQ := hidI (fun (S1 S2 : Option Addr) W => eqGroup_c x 0 none none S1 S2 [] [] 0 0 0 0 W (by simp) (by simp) Rd.nil Rd.nil Rd.nil Rd.nil)
  simp only [List.length_nil] at CQ
  clear hxb
  go_enter Try.func4, Try.ntmps4
  go_wp2_with fail
  refine (CS.out _).mono ?_
  rintro e w1 ⟨S1, S2, rfl, hb⟩
  have hw1 : Below w.heap.size w w1 := bu hb (by go_grown)
  clear hb CS
  obtain ⟨wx, hwx⟩ : ∃ wx, w1.alloc (.cells #[.int .i64 x, .int .i64 0, .slice S1 0 0, .slice S2 0 0] 26) = wx := ⟨_, rfl⟩
  have Bw : Box wx w1.heap.size 26 #[.int .i64 x, .int .i64 0, .slice S1 0 0, .slice S2 0 0] := by rw [← hwx]; exact Box.new w1 _ _
  have hw2 : Below w.heap.size w wx := by have := hw1.size; rw [← hwx]; go_grown
  have HX := hidI hwx
  clear hwx hw1
  go_wp2_with fail
  rw [HX.out]
  clear HX
  refine (CI.out _).mono ?_
  rintro e w3 ⟨rfl, hb⟩
  have hw3 := bt hw2 hb
  replace Bw := Bw.below hb
  clear hb hw2
  have lw := Bw.lt
  obtain ⟨p0, p1, p2, p3⟩ := Bw.four
  obtain ⟨wy, hwy⟩ : ∃ wy, w3.alloc (.cells #[.int .i64 x, .int .i64 0, .slice none 0 0, .slice none 0 0] 26) = wy := ⟨_, rfl⟩
  have Bg : Box wy w3.heap.size 26 #[.int .i64 x, .int .i64 0, .slice none 0 0, .slice none 0 0] := by rw [← hwy]; exact Box.new w3 _ _
  have hb3 : Below w3.heap.size w3 wy := by rw [← hwy]; go_grown
  have hw4 := bt hw3 hb3
  have Bw' := Bw.below hb3
  have HY := hidI hwy
  clear hwy hb3 hw3
  go_wp2_with fail
  rw [HY.out]
  clear HY p0 p1 p2 p3 lw Bw
  refine (CQ.out S1 S2 _).mono ?_
  rintro e w5 ⟨rfl, hb⟩
  have hw5 := bt hw4 hb
  replace Bw := Bw'.below hb
  replace Bg := Bg.below hb
  clear Bw' hb hw4
  have lg := Bg.lt
  obtain ⟨q0, q1, q2, q3⟩ := Bg.four
  go_wp2_with fail
  refine (markG0_c _ _ _ _ _ _ _).mono ?_
  rintro e w6 ⟨rfl, hb⟩
  have hw6 := bt hw5 hb
  replace Bw := Bw.below hb
  replace Bg := Bg.below hb
  clear hb hw5 lg q0 q1 q2 q3
  have lg := Bg.lt
  obtain ⟨q0, q1, q2, q3⟩ := Bg.four
  go_wp2_with fail
  refine (heldG0_c _ _ _ _ _ _ _).mono ?_
  rintro e w7 ⟨rfl, hb⟩
  have hw7 := bt hw6 hb
  replace Bw := Bw.below hb
  replace Bg := Bg.below hb
  clear hb hw6 lg q0 q1 q2 q3
  go_wp2_with fail
  refine (CI.out _).mono ?_
  rintro e w8 ⟨rfl, hb⟩
  have hw8 := bt hw7 hb
  replace Bw := Bw.below hb
  replace Bg := Bg.below hb
  clear hb hw7
  have lw := Bw.lt
  obtain ⟨p0, p1, p2, p3⟩ := Bw.four
  obtain ⟨wz, hwz⟩ : ∃ wz, w8.alloc (.cells #[.int .i64 x, .int .i64 0, .slice none 0 0, .slice none 0 0] 26) = wz := ⟨_, rfl⟩
  have hb8 : Below w8.heap.size w8 wz := by rw [← hwz]; go_grown
  have hw9 := bt hw8 hb8
  have Bg' := Bg.below hb8
  have HZ := hidI hwz
  clear hwz hb8 hw8 Bg
  go_wp2_with fail
  rw [HZ.out]
  clear HZ p0 p1 p2 p3 lw Bw
  refine (CQ.out S1 S2 _).mono ?_
  rintro e w10 ⟨rfl, hb⟩
  have hw10 := bt hw9 hb
  have Bg := Bg'.below hb
  clear Bg' hb hw9
  have lg := Bg.lt
  obtain ⟨q0, q1, q2, q3⟩ := Bg.four
  go_wp2_with fail
  refine (heldG0_c _ _ _ _ _ _ _).mono ?_
  rintro e w11 ⟨rfl, hb⟩
  have hw11 := bt hw10 hb
  clear hb hw10 lg q0 q1 q2 q3 Bg
  go_wp2_with fail
  go_ret
  exact ⟨rfl, hw11⟩
end Go.Proofs.Ytiecjkacbpbghaa
