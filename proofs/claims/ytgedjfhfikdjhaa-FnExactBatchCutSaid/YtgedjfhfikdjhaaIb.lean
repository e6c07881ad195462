/- Contracts: valid items and limits; the batch of an item. -/
import Derived.Test.YtgedjfhfikdjhaaIa
import Derived.Test.YtgedjfhfikdjhaaCa
import Derived.Test.YtgedjfhfikdjhaaPlainB
namespace Go.Proofs.Ytgedjfhfikdjhaa
set_option linter.unusedVariables false
open Go.RowKit

theorem bv_rest {xs : List Int} {b m : Int} (h : rgB xs 1 b = true) : bvB xs b m = (decide (xs.length ≤ 20) && inB b 1 99 && inB m 1 20) := by
  have : xs.all (fun x => inB x 1 b) = true := h
  simp [bvB, this]

set_option maxHeartbeats 1000000 in
theorem specBV_c (A : Option Addr) (xs : List Int) (c : Nat) (b m : Int) (w : World) (hn : (xs.length : Int) ≤ 9223372036854775807) (hr : Rd w w.heap.size A (xs.map (Value.int .i64))) :
    Calls Try.prog 7 #[.slice A xs.length c, .int .i64 b, .int .i64 m] w fun e w' => e = .returned (.bool (bvB xs b m)) ∧ w = w' := by
  go_enter Try.func7, Try.ntmps7
  go_wp2
  go_loop [7] (fun i => ∃ k : Nat, k ≤ xs.length ∧ i = .int .i64 k ∧ Hid (rgB (xs.take k) 1 b = true))
    (fun i => xs.length - (intOf i).toNat)
  case atStart => exact ⟨0, Nat.zero_le _, rfl, by simp [Hid, rgB]⟩
  case round =>
    obtain ⟨k, hk, rfl, HR⟩ := hrel
    by_cases hlt : k < xs.length
    · obtain ⟨b', o, x, rfl, hb, hx, d0⟩ := hr.int' hlt
      rcases hv : inB x 1 b with _ | _
      · have e0 : Hid (bvB xs b m = false) := bvB_bad (mem_at hx.out) hv
        go_wp2_with ((go_at_call 19; refine (l6In_c _ _ _ _).mono ?_; rintro e w' ⟨rfl, rfl⟩))
        go_ret
        exact ⟨ret_bool e0.out.symm, rfl⟩
      · go_wp2_with ((go_at_call 19; refine (l6In_c _ _ _ _).mono ?_; rintro e w' ⟨rfl, rfl⟩))
        go_round
        case rel => exact ⟨k + 1, by omega, by go_num, rgB_take HR.out hx.out hv⟩
        case measure => simp [intOf]; omega
    · obtain rfl : k = xs.length := by omega
      have h0 := HR.out
      rw [List.take_length] at h0
      have e0 : Hid _ := bv_rest (m := m) h0
      clear h0
      go_wp2_with ((go_at_call 19; refine (l6In_c _ _ _ _).mono ?_; rintro e w' ⟨rfl, rfl⟩))
      all_goals
        go_ret
        exact ⟨ret_bool (by rw [e0.out]; simp [*] <;> (intros; omega)), rfl⟩

set_option maxHeartbeats 1000000 in
theorem implBV_c (A : Option Addr) (xs : List Int) (c : Nat) (b m : Int) (w : World) (hn : (xs.length : Int) ≤ 9223372036854775807) (hr : Rd w w.heap.size A (xs.map (Value.int .i64))) :
    Calls Try.prog 9 #[.slice A xs.length c, .int .i64 b, .int .i64 m] w fun e w' => e = .returned (.bool (bvB xs b m)) ∧ w = w' := by
  have e0 : Hid (bvB xs b m = (rgB xs 1 b && (decide (xs.length ≤ 20) && inB b 1 99 && inB m 1 20))) := rfl
  go_enter Try.func9, Try.ntmps9
  go_wp2_with ((go_at_call 20; refine (inRange_c _ _ _ _ _ _ hn hr).mono ?_; rintro e w' ⟨rfl, rfl⟩))
  all_goals
    go_ret
    exact ⟨ret_bool (by rw [e0.out]; unfold inB; simp [*]; try omega), rfl⟩

set_option maxHeartbeats 1000000 in
theorem specOf_c (A : Option Addr) (xs : List Int) (c : Nat) (j : Int) (w : World) (hn : (xs.length : Int) ≤ 9223372036854775807) (hr : Rd w w.heap.size A (xs.map (Value.int .i64))) (hj : FitI j) :
    Calls Try.prog 11 #[.slice A xs.length c, .int .i64 j] w fun e w' => e = .returned (.int .i64 (ofB xs j)) ∧ w = w' := by
  by_cases h20 : xs.length ≤ 20
  · have h20' : (xs.length : Int) ≤ 20 := by omega
    go_enter Try.func11, Try.ntmps11
    go_wp2
    go_loop [5, 6] (fun a i => ∃ (k : Nat) (at_ : Int), k ≤ xs.length ∧ i = .int .i64 k ∧ a = .int .i64 at_ ∧ 0 ≤ at_ ∧ at_ ≤ 20 * k ∧ (0 ≤ j → at_ ≤ j) ∧ Hid (ofB xs j = if 0 ≤ j then ofG (xs.drop k) (j - at_) k else -1))
      (fun _ i => xs.length - (intOf i).toNat)
    case atStart => exact ⟨0, 0, Nat.zero_le _, rfl, rfl, by omega, by omega, by omega, by simp [Hid, ofB, h20]⟩
    case round =>
      obtain ⟨k, at_, hk, rfl, rfl, p0, p1, p2, HO⟩ := hrel
      by_cases hlt : k < xs.length
      · obtain ⟨b', o, x, rfl, hb, hx, d0⟩ := hr.int' hlt
        rcases hv : inB x 1 20 with _ | _
        · have e0 : Hid (ofB xs j = -1) := by
            have h1 := inB_false hv
            unfold Hid
            rw [HO.out, drop_at hx.out, ofG_bad (by omega)]
            simp
          go_wp2_with ((go_at_call 19; refine (l6In_c _ _ _ _).mono ?_; rintro e w' ⟨rfl, rfl⟩))
          go_ret
          exact ⟨ret_int e0.out.symm, rfl⟩
        · obtain ⟨v0, v1⟩ := inB_true hv
          by_cases hj0 : 0 ≤ j
          · by_cases hj1 : j < at_ + x
            · have e0 : Hid (ofB xs j = k) := by
                unfold Hid
                rw [HO.out, drop_at hx.out, if_pos hj0, ofG_here v0 v1 (by omega)]
              go_wp2_with ((go_at_call 19; refine (l6In_c _ _ _ _).mono ?_; rintro e w' ⟨rfl, rfl⟩))
              go_ret
              exact ⟨ret_int e0.out.symm, rfl⟩
            · have e0 : Hid (ofB xs j = if 0 ≤ j then ofG (xs.drop (k + 1)) (j - (at_ + x)) ((k + 1 : Nat) : Int) else -1) := by
                unfold Hid
                rw [HO.out, drop_at hx.out, ofG_next v0 v1 (by omega)]
                have e1 : j - at_ - x = j - (at_ + x) := by omega
                rw [e1]
                rfl
              go_wp2_with ((go_at_call 19; refine (l6In_c _ _ _ _).mono ?_; rintro e w' ⟨rfl, rfl⟩))
              go_round
              case rel => exact ⟨k + 1, at_ + x, by omega, by go_num, rfl, by omega, by omega, fun _ => by omega, e0⟩
              case measure => simp [intOf]; omega
          · have e0 : Hid (ofB xs j = if 0 ≤ j then ofG (xs.drop (k + 1)) (j - (at_ + x)) ((k + 1 : Nat) : Int) else -1) := by
              unfold Hid
              rw [HO.out, if_neg hj0, if_neg hj0]
            go_wp2_with ((go_at_call 19; refine (l6In_c _ _ _ _).mono ?_; rintro e w' ⟨rfl, rfl⟩))
            go_round
            case rel => exact ⟨k + 1, at_ + x, by omega, by go_num, rfl, by omega, by omega, fun _ => by omega, e0⟩
            case measure => simp [intOf]; omega
      · obtain rfl : k = xs.length := by omega
        have e0 : Hid (ofB xs j = -1) := by
          unfold Hid
          rw [HO.out, List.drop_length]
          simp [ofG]
        go_wp2
        go_ret
        exact ⟨ret_int e0.out.symm, rfl⟩
  · have h20' : 20 < (xs.length : Int) := by omega
    have e0 : Hid (ofB xs j = -1) := by simp [Hid, ofB, h20]
    have h0 : 0 < xs.length := by omega
    go_enter Try.func11, Try.ntmps11
    go_wp2
    refine wp_loop_rounds 1 ?_
    rw [rounds_succ]
    go_wp2
    go_ret
    exact ⟨ret_int e0.out.symm, rfl⟩

set_option maxHeartbeats 1000000 in
theorem implOf_c (A : Option Addr) (xs : List Int) (c : Nat) (j : Int) (w : World) (hn : (xs.length : Int) ≤ 9223372036854775807) (hr : Rd w w.heap.size A (xs.map (Value.int .i64))) (hj : FitI j) :
    Calls Try.prog 12 #[.slice A xs.length c, .int .i64 j] w fun e w' => e = .returned (.int .i64 (ofB xs j)) ∧ w = w' := by
  obtain ⟨f0, f1⟩ := hj
  by_cases hj0 : 0 ≤ j
  · have hd : decide (j < 0) = false := by simpa using hj0
    by_cases h20 : xs.length ≤ 20
    · have h20' : (xs.length : Int) ≤ 20 := by omega
      go_enter Try.func12, Try.ntmps12
      go_wp2
      go_loop [1, 16] (fun a i => ∃ (k : Nat) (r : Int), k ≤ xs.length ∧ i = .int .i64 k ∧ a = .int .i64 r ∧ 0 ≤ r ∧ r ≤ j ∧ Hid (ofB xs j = ofG (xs.drop k) r k))
        (fun _ i => xs.length - (intOf i).toNat)
      case atStart => exact ⟨0, j, Nat.zero_le _, rfl, rfl, hj0, by omega, by simp [Hid, ofB, h20, hj0]⟩
      case round =>
        obtain ⟨k, r, hk, rfl, rfl, p0, p1, HO⟩ := hrel
        by_cases hlt : k < xs.length
        · obtain ⟨b', o, x, rfl, hb, hx, d0⟩ := hr.int' hlt
          by_cases hv : 1 ≤ x ∧ x ≤ 20
          · obtain ⟨v0, v1⟩ := hv
            have hd1 : decide (x < 1) = false := by simpa using v0
            by_cases hj1 : r < x
            · have e0 : Hid (ofB xs j = k) := by
                unfold Hid
                rw [HO.out, drop_at hx.out, ofG_here v0 v1 hj1]
              go_wp2
              go_ret
              exact ⟨ret_int e0.out.symm, rfl⟩
            · have e0 : Hid (ofB xs j = ofG (xs.drop (k + 1)) (r - x) ((k + 1 : Nat) : Int)) := by
                unfold Hid
                rw [HO.out, drop_at hx.out, ofG_next v0 v1 hj1]
                rfl
              go_wp2
              go_round
              case rel => exact ⟨k + 1, r - x, by omega, by go_num, rfl, by omega, by omega, e0⟩
              case measure => simp [intOf]; omega
          · have e0 : Hid (ofB xs j = -1) := by
              unfold Hid
              rw [HO.out, drop_at hx.out, ofG_bad hv]
            by_cases hx1 : x < 1
            · go_wp2
              go_ret
              exact ⟨ret_int e0.out.symm, rfl⟩
            · have hx2 : 20 < x := by omega
              go_wp2
              go_ret
              exact ⟨ret_int e0.out.symm, rfl⟩
        · obtain rfl : k = xs.length := by omega
          have e0 : Hid (ofB xs j = -1) := by
            unfold Hid
            rw [HO.out, List.drop_length]
            simp [ofG]
          go_wp2
          go_ret
          exact ⟨ret_int e0.out.symm, rfl⟩
    · have h20' : 20 < (xs.length : Int) := by omega
      have e0 : Hid (ofB xs j = -1) := by simp [Hid, ofB, h20]
      go_enter Try.func12, Try.ntmps12
      go_wp2
      go_ret
      exact ⟨ret_int e0.out.symm, rfl⟩
  · have e0 : Hid (ofB xs j = -1) := by simp [Hid, ofB, hj0]
    go_enter Try.func12, Try.ntmps12
    go_wp2
    go_ret
    exact ⟨ret_int e0.out.symm, rfl⟩
end Go.Proofs.Ytgedjfhfikdjhaa
