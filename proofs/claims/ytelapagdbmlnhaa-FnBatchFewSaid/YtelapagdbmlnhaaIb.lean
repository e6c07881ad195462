/- Contracts: valid items and limits; the batch of an item. -/
import Derived.Test.YtelapagdbmlnhaaIa
import Derived.Test.YtelapagdbmlnhaaCa
import Derived.Test.YtelapagdbmlnhaaPlainB
namespace Go.Proofs.Ytelapagdbmlnhaa
set_option linter.unusedVariables false
open Go.RowKit

theorem bv_rest {xs : List Int} {b m : Int} (h : rgB xs 1 b = true) : bvB xs b m = (decide (xs.length ≤ 20) && inB b 1 99 && inB m 1 20) := by
  have : xs.all (fun x => inB x 1 b) = true := h
  simp [bvB, this]

set_option maxHeartbeats 1000000 in
theorem specBV_c (A : Option Addr) (xs : List Int) (c : Nat) (b m : Int) (w : World) (hn : (xs.length : Int) ≤ 9223372036854775807) (hr : Rd w w.heap.size A (xs.map (Value.int .i64))) :
    Calls Try.prog 15 #[.slice A xs.length c, .int .i64 b, .int .i64 m] w fun e w' => e = .returned (.bool (bvB xs b m)) ∧ w = w' := by
  go_enter Try.func15, Try.ntmps15
  go_wp2
  go_loop [7] (fun i => ∃ k : Nat, k ≤ xs.length ∧ i = .int .i64 k ∧ Hid (rgB (xs.take k) 1 b = true))
    (fun i => xs.length - (intOf i).toNat)
  case atStart => exact ⟨0, Nat.zero_le _, rfl, by simp [Hid, rgB]⟩
  case round =>
    obtain ⟨k, hk, rfl, HR⟩ := hrel
    by_cases hlt : k < xs.length
    · obtain ⟨b', o, x, rfl, hb, hx, d0⟩ := hr.int' hlt
      rcases hv : inB x 1 b with _ | _
      · have e0 : Hid (bvB xs b m = false) := bvB_bad (mem_at hx.out) hv
        go_wp2_with ((go_at_call 24; refine (l6In_c _ _ _ _).mono ?_; rintro e w' ⟨rfl, rfl⟩))
        go_ret
        exact ⟨ret_bool e0.out.symm, rfl⟩
      · go_wp2_with ((go_at_call 24; refine (l6In_c _ _ _ _).mono ?_; rintro e w' ⟨rfl, rfl⟩))
        go_round
        case rel => exact ⟨k + 1, by omega, by go_num, rgB_take HR.out hx.out hv⟩
        case measure => simp [intOf]; omega
    · obtain rfl : k = xs.length := by omega
      have h0 := HR.out
      rw [List.take_length] at h0
      have e0 : Hid _ := bv_rest (m := m) h0
      clear h0
      go_wp2_with ((go_at_call 24; refine (l6In_c _ _ _ _).mono ?_; rintro e w' ⟨rfl, rfl⟩))
      all_goals
        go_ret
        exact ⟨ret_bool (by rw [e0.out]; simp [*] <;> (intros; omega)), rfl⟩

set_option maxHeartbeats 1000000 in
theorem implBV_c (A : Option Addr) (xs : List Int) (c : Nat) (b m : Int) (w : World) (hn : (xs.length : Int) ≤ 9223372036854775807) (hr : Rd w w.heap.size A (xs.map (Value.int .i64))) :
    Calls Try.prog 22 #[.slice A xs.length c, .int .i64 b, .int .i64 m] w fun e w' => e = .returned (.bool (bvB xs b m)) ∧ w = w' := by
  have e0 : Hid (bvB xs b m = (rgB xs 1 b && (decide (xs.length ≤ 20) && inB b 1 99 && inB m 1 20))) := rfl
  go_enter Try.func22, Try.ntmps22
  go_wp2_with ((go_at_call 26; refine (inRange_c _ _ _ _ _ _ hn hr).mono ?_; rintro e w' ⟨rfl, rfl⟩))
  all_goals
    go_ret
    exact ⟨ret_bool (by rw [e0.out]; unfold inB; simp [*]; try omega), rfl⟩

set_option maxHeartbeats 1000000 in
theorem implOf_c (A : Option Addr) (xs : List Int) (c : Nat) (j : Int) (w : World) (hn : (xs.length : Int) ≤ 9223372036854775807) (hr : Rd w w.heap.size A (xs.map (Value.int .i64))) (hj : FitI j) :
    Calls Try.prog 16 #[.slice A xs.length c, .int .i64 j] w fun e w' => e = .returned (.int .i64 (ofB xs j)) ∧ w = w' := by
  obtain ⟨f0, f1⟩ := hj
  by_cases hj0 : 0 ≤ j
  · have hd : decide (j < 0) = false := by simpa using hj0
    by_cases h20 : xs.length ≤ 20
    · have h20' : (xs.length : Int) ≤ 20 := by omega
      go_enter Try.func16, Try.ntmps16
      go_wp2
      go_loop [1, 16] (fun a i => ∃ (k : Nat) (r : Int), k ≤ xs.length ∧ i = .int .i64 k ∧ a = .int .i64 r ∧ 0 ≤ r ∧ r ≤ j ∧ Hid (ofB xs j = ofG (xs.drop k) r k))
        (fun _ i => xs.length - (intOf i).toNat)
      case atStart => exact ⟨0, j, Nat.zero_le _, rfl, rfl, hj0, by omega, by simp [Hid, ofB, h20, hj0]⟩
      case round =>
        obtain ⟨k, r, hk, rfl, rfl, p0, p1, HO⟩ := hrel
        by_cases hlt : k < xs.length
        · obtain ⟨b', o, x, rfl, hb, hx, d0⟩ := hr.int' hlt
          by_cases hv : 1 ≤ x ∧ x ≤ 20
          · obtain ⟨v0, v1⟩ := hv
            have hd1 : decide (x < 1) = false := by simpa using v0
            by_cases hj1 : r < x
            · have e0 : Hid (ofB xs j = k) := by
                unfold Hid
                rw [HO.out, drop_at hx.out, ofG_here v0 v1 hj1]
              go_wp2
              go_ret
              exact ⟨ret_int e0.out.symm, rfl⟩
            · have e0 : Hid (ofB xs j = ofG (xs.drop (k + 1)) (r - x) ((k + 1 : Nat) : Int)) := by
                unfold Hid
                rw [HO.out, drop_at hx.out, ofG_next v0 v1 hj1]
                rfl
              go_wp2
              go_round
              case rel => exact ⟨k + 1, r - x, by omega, by go_num, rfl, by omega, by omega, e0⟩
              case measure => simp [intOf]; omega
          · have e0 : Hid (ofB xs j = -1) := by
              unfold Hid
              rw [HO.out, drop_at hx.out, ofG_bad hv]
            by_cases hx1 : x < 1
            · go_wp2
              go_ret
              exact ⟨ret_int e0.out.symm, rfl⟩
            · have hx2 : 20 < x := by omega
              go_wp2
              go_ret
              exact ⟨ret_int e0.out.symm, rfl⟩
        · obtain rfl : k = xs.length := by omega
          have e0 : Hid (ofB xs j = -1) := by
            unfold Hid
            rw [HO.out, List.drop_length]
            simp [ofG]
          go_wp2
          go_ret
          exact ⟨ret_int e0.out.symm, rfl⟩
    · have h20' : 20 < (xs.length : Int) := by omega
      have e0 : Hid (ofB xs j = -1) := by simp [Hid, ofB, h20]
      go_enter Try.func16, Try.ntmps16
      go_wp2
      go_ret
      exact ⟨ret_int e0.out.symm, rfl⟩
  · have e0 : Hid (ofB xs j = -1) := by simp [Hid, ofB, hj0]
    go_enter Try.func16, Try.ntmps16
    go_wp2
    go_ret
    exact ⟨ret_int e0.out.symm, rfl⟩
end Go.Proofs.Ytelapagdbmlnhaa
