/- The law FnGroupNew: its call hands back true, whatever the code. -/
import Derived.Test.YtiecjkacbpbghaaEk
import Derived.Test.YtiecjkacbpbghaaDraw
namespace Go.Proofs.Ytiecjkacbpbghaa
set_option linter.unusedVariables false
open Go.RowKit

set_option maxHeartbeats 1000000 in
theorem drawGN_c (A : Option Addr) (bs : List Int) (c : Nat) (w : World) (hm : (bs.length : Int) ≤ 9223372036854775807) (hlc : bs.length ≤ c) (hcm : (c : Int) ≤ 9223372036854775807) (hr : Rd w w.heap.size A (bs.map (Value.int .u8))) (hf : ∀ x ∈ bs, FitB x) :
    Calls Try.prog 8 #[.slice A bs.length c] w fun e w' => ∃ k : Int, e = .returned (.int .i64 k) ∧ -1 ≤ k ∧ k ≤ 6 ∧ Below w.heap.size w w' := by
  go_enter Try.func8, Try.ntmps8
  go_wp2_with fail
  refine (l6Open_c A bs c _ hm hlc hcm hr hf).mono ?_
  rintro e w1 ⟨rfl, hR, hb⟩
  clear hr hf
  go_wp2_with fail
  refine (pick_c w.heap.size 0 8 _ hR (by omega) (by omega) (by omega)).mono ?_
  rintro e w2 ⟨k, rfl, h2, _, hR2, hg2⟩
  obtain ⟨h2a, h2b⟩ := h2 (by omega)
  have hw2 := below_only hb hg2 (Nat.le_refl _) hb.size
  clear hg2 hR2 hb hR h2
  go_wp2
  go_ret
  exact ⟨k - 1, rfl, by omega, by omega, hw2⟩

set_option maxHeartbeats 1000000 in
theorem sameE0_c (A A' : Option Addr) (c c' : Nat) (w : World) :
    Calls Try.prog 28 #[.slice A 0 c, .slice A' 0 c'] w fun e w' => e = .returned (.bool true) ∧ w = w' := by
  go_enter Try.func28, Try.ntmps28
  go_wp2
  go_loop [5] (fun i => i = .int .i64 0) (fun _ => 0)
  case atStart => rfl
  case round =>
    subst hrel
    go_wp2
    go_ret
    exact ⟨rfl, rfl⟩

set_option maxHeartbeats 1000000 in
theorem sameG0_c (x : Int) (A1 A2 A3 A4 : Option Addr) (w : World) :
    Calls Try.prog 11 #[.agg #[.int .i64 x, .int .i64 0, .slice A1 0 0, .slice A2 0 0], .agg #[.int .i64 x, .int .i64 0, .slice A3 0 0, .slice A4 0 0]] w fun e w' => e = .returned (.bool true) ∧ Below w.heap.size w w' := by
  have hx : (x == x) = true := by simp
  go_enter Try.func11, Try.ntmps11
  go_wp2_with fail
  refine (sameE0_c _ _ _ _ _).mono ?_
  rintro e w' ⟨rfl, rfl⟩
  go_wp2_with fail
  refine (sameE0_c _ _ _ _ _).mono ?_
  rintro e w' ⟨rfl, rfl⟩
  go_wp2_with fail
  go_ret
  exact ⟨rfl, by go_grown⟩

theorem gB_new {id : Int} (h : inB id 0 4 = true) : gB id 0 [] [] = true :=
  gB_iff.2 ⟨h, rfl, fun k => ⟨okA_out (by simp), diA_out (by simp)⟩, fun k => ⟨okA_out (by simp), diA_out (by simp)⟩, by simp, tl_none rfl⟩

theorem valid0_c (id : Int) (h : inB id 0 4 = true) (w : World) :
    Calls Try.prog 12 #[.agg #[.int .i64 id, .int .i64 0, .slice none 0 0, .slice none 0 0]] w fun e w' => e = .returned (.bool true) ∧ Below w.heap.size w w' := by
  have C := implGr_c id 0 none none [] [] 0 0 w (by simp) (by simp) (by simp) (by simp) (by simp) (by simp) Rd.nil Rd.nil
  rw [gB_new h] at C
  exact C
theorem blocked0_c (id : Int) (w : World) :
    Calls Try.prog 14 #[.agg #[.int .i64 id, .int .i64 0, .slice none 0 0, .slice none 0 0]] w fun e w' => e = .returned (.int .i64 (-1)) ∧ Below w.heap.size w w' := by
  have C := implBl_c id 0 none none [] [] 0 0 w (by simp) (by simp) (by simp) (by simp) (by simp) (by simp) Rd.nil Rd.nil
  rw [blk_nil rfl] at C
  exact C

set_option maxHeartbeats 1000000 in
theorem trace0_c (id : Int) (h : inB id 0 4 = true) (w : World) :
    Calls Try.prog 13 #[.agg #[.int .i64 id, .int .i64 0, .slice none 0 0, .slice none 0 0]] w fun e w' => ∃ A, e = .returned (.slice A 0 0) ∧ Below w.heap.size w w' := by
  have C := hidI (fun W => valid0_c id h W)
  clear h
  obtain ⟨wx, hwx⟩ : ∃ x, w.alloc (.cells #[.int .i64 id, .int .i64 0, .slice none 0 0, .slice none 0 0] 26) = x := ⟨_, rfl⟩
  have Bp : Box wx w.heap.size 26 #[.int .i64 id, .int .i64 0, .slice none 0 0, .slice none 0 0] := by rw [← hwx]; exact Box.new w _ _
  have hw : Below w.heap.size w wx := by rw [← hwx]; go_grown
  have HX := hidI hwx
  clear hwx
  go_enter Try.func13, Try.ntmps13
  go_wp2_with fail
  rw [HX.out]
  clear HX
  refine (C.out _).mono ?_
  rintro e w1 ⟨rfl, hb⟩
  have hw1 := bu hb hw
  replace Bp := Bp.below hb
  clear hb hw
  have lp := Bp.lt
  obtain ⟨p0, p1, p2, p3⟩ := Bp.four
  go_wp2_with fail
  clear p0 p1 p2 p3 lp Bp C
  have hs1 := hw1.size
  go_loopw [3, 13] (fun o i wr => o = .slice (some ⟨w1.heap.size, 0, none⟩) 0 0 ∧ i = .int .i64 0 ∧ Below w.heap.size w wr) (fun _ _ _ => 0)
  case atStart => exact ⟨rfl, rfl, by go_grown⟩
  case round =>
    obtain ⟨rfl, rfl, hw2⟩ := hrel
    go_wp2
    go_ret
    exact ⟨_, rfl, hw2⟩

set_option maxHeartbeats 4000000 in
theorem gNew_walk (A : Option Addr) (bs : List Int) (c : Nat) (w : World) (hm : (bs.length : Int) ≤ 9223372036854775807) (hlc : bs.length ≤ c) (hcm : (c : Int) ≤ 9223372036854775807) (hr : Rd w w.heap.size A (bs.map (Value.int .u8))) (hf : ∀ x ∈ bs, FitB x) :
    Calls Try.prog 3 #[.slice A bs.length c] w fun e w' => e = .returned (.bool true) ∧ Below w.heap.size w w' := by
  by_cases hn : (1048576 : Int) < bs.length
  · clear hr hf
    go_enter Try.func3, Try.ntmps3
    go_wp2
    go_ret
    exact ⟨rfl, by go_grown⟩
  · have hn' : (bs.length : Int) ≤ 1048576 := by omega
    go_enter Try.func3, Try.ntmps3
    go_wp2_with fail
    refine (drawGN_c A bs c _ hm hlc hcm hr hf).mono ?_
    rintro e w1 ⟨id, rfl, h1, h2, hw1⟩
    clear hr hf
    obtain ⟨x, b, hxb⟩ := newIs id
    have CI := hidI (fun W => implNew_c id x b hxb W)
    have CS := hidI (fun W => specNew_c id x b hxb W)
    have CQ := hidI (fun (S1 S2 : Option Addr) W => sameG0_c x none none S1 S2 W)
    have HXB := hidI hxb
    clear hxb
    go_wp2_with fail
    refine (CI.out _).mono ?_
    rintro e w2 ⟨rfl, hb⟩
    have hw2 := bt hw1 hb
    clear hb hw1 CI
    obtain ⟨wx, hwx⟩ : ∃ wx, w2.alloc (.cells #[.int .i64 x, .int .i64 0, .slice none 0 0, .slice none 0 0] 26) = wx := ⟨_, rfl⟩
    have Bg : Box wx w2.heap.size 26 #[.int .i64 x, .int .i64 0, .slice none 0 0, .slice none 0 0] := by rw [← hwx]; exact Box.new w2 _ _
    have hw3 : Below w.heap.size w wx := by have := hw2.size; rw [← hwx]; go_grown
    have HX := hidI hwx
    clear hwx hw2
    go_wp2_with fail
    rw [HX.out]
    clear HX
    refine (CS.out _).mono ?_
    rintro e w4 ⟨S1, S2, rfl, hb⟩
    have hw4 := bt hw3 hb
    replace Bg := Bg.below hb
    clear hb hw3 CS
    have lg := Bg.lt
    obtain ⟨q0, q1, q2, q3⟩ := Bg.four
    obtain ⟨wy, hwy⟩ : ∃ wy, w4.alloc (.cells #[.int .i64 x, .int .i64 0, .slice S1 0 0, .slice S2 0 0] 26) = wy := ⟨_, rfl⟩
    have Bw : Box wy w4.heap.size 26 #[.int .i64 x, .int .i64 0, .slice S1 0 0, .slice S2 0 0] := by rw [← hwy]; exact Box.new w4 _ _
    have hb4 : Below w4.heap.size w4 wy := by rw [← hwy]; go_grown
    have hw5 := bt hw4 hb4
    have Bg' := Bg.below hb4
    have HY := hidI hwy
    clear hwy hb4 hw4
    rcases b with _ | _
    · clear HXB
      go_wp2_with fail
      rw [HY.out]
      clear HY q0 q1 q2 q3 lg Bg
      refine (CQ.out S1 S2 _).mono ?_
      rintro e w6 ⟨rfl, hb⟩
      have hw6 := bt hw5 hb
      replace Bg := Bg'.below hb
      replace Bw := Bw.below hb
      clear Bg' hb hw5
      have lg := Bg.lt
      obtain ⟨q0, q1, q2, q3⟩ := Bg.four
      have lw := Bw.lt
      obtain ⟨p0, p1, p2, p3⟩ := Bw.four
      go_wp2_with fail
      refine (CQ.out S1 S2 _).mono ?_
      rintro e w7 ⟨rfl, hb⟩
      have hw7 := bt hw6 hb
      clear hb hw6 q0 q1 q2 q3 p0 p1 p2 p3 lg lw Bg Bw
      go_wp2_with fail
      go_ret
      exact ⟨rfl, hw7⟩
    · obtain ⟨hid, rfl, _⟩ : inB id 0 4 = true ∧ x = id ∧ true = true := by
        rcases HXB.out with h | ⟨_, _, h⟩
        · exact h
        · cases h
      have CV := hidI (fun W => valid0_c x hid W)
      have CT := hidI (fun W => trace0_c x hid W)
      have hx : (x == x) = true := by simp
      clear HXB hid
      go_wp2_with fail
      rw [HY.out]
      clear HY q0 q1 q2 q3 lg Bg
      refine (CQ.out S1 S2 _).mono ?_
      rintro e w6 ⟨rfl, hb⟩
      have hw6 := bt hw5 hb
      replace Bg := Bg'.below hb
      clear Bg' hb hw5 Bw
      have lg := Bg.lt
      obtain ⟨q0, q1, q2, q3⟩ := Bg.four
      go_wp2_with fail
      refine (CV.out _).mono ?_
      rintro e w7 ⟨rfl, hb⟩
      have hw7 := bt hw6 hb
      replace Bg := Bg.below hb
      clear hb hw6 q0 q1 q2 q3 lg
      have lg := Bg.lt
      obtain ⟨q0, q1, q2, q3⟩ := Bg.four
      go_wp2_with fail
      refine (CT.out _).mono ?_
      rintro e w8 ⟨S3, rfl, hb⟩
      have hw8 := bt hw7 hb
      replace Bg := Bg.below hb
      clear hb hw7 q0 q1 q2 q3 lg
      have lg := Bg.lt
      obtain ⟨q0, q1, q2, q3⟩ := Bg.four
      go_wp2_with fail
      refine (blocked0_c x _).mono ?_
      rintro e w9 ⟨rfl, hb⟩
      have hw9 := bt hw8 hb
      clear hb hw8 q0 q1 q2 q3 lg Bg
      go_wp2_with fail
      go_ret
      exact ⟨rfl, hw9⟩
end Go.Proofs.Ytiecjkacbpbghaa
