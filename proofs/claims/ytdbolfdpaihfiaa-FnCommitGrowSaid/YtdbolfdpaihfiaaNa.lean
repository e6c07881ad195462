/- Contracts: valid lengths, how many have an entry, how many more are needed; ascending lists, majorities. -/
import Derived.Test.YtdbolfdpaihfiaaIa
import Derived.Test.YtdbolfdpaihfiaaCa
import Derived.Test.YtdbolfdpaihfiaaPlainD
namespace Go.Proofs.Ytdbolfdpaihfiaa
set_option linter.unusedVariables false
open Go.RowKit

set_option maxHeartbeats 1000000 in
theorem specLens_c (A : Option Addr) (xs : List Int) (c : Nat) (w : World) (hn : (xs.length : Int) ≤ 9223372036854775807) (hr : Rd w w.heap.size A (xs.map (Value.int .i64))) :
    Calls Try.prog 30 #[.slice A xs.length c] w fun e w' => e = .returned (.bool (lvB xs)) ∧ w = w' := by
  go_enter Try.func30, Try.ntmps30
  go_wp2
  go_loop [3] (fun i => ∃ k : Nat, k ≤ xs.length ∧ i = .int .i64 k ∧ Hid (rgB (xs.take k) 0 99 = true))
    (fun i => xs.length - (intOf i).toNat)
  case atStart => exact ⟨0, Nat.zero_le _, rfl, by simp [Hid, rgB]⟩
  case round =>
    obtain ⟨k, hk, rfl, HR⟩ := hrel
    by_cases hlt : k < xs.length
    · obtain ⟨b', o, x, rfl, hb, hx, d0⟩ := hr.int' hlt
      rcases hv : inB x 0 99 with _ | _
      · have e0 : Hid (lvB xs = false) := by
          unfold Hid
          have := rgB_bad hx.out hv
          simp [lvB, this]
        go_wp2_with ((go_at_call 37; refine (l6In_c _ _ _ _).mono ?_; rintro e w' ⟨rfl, rfl⟩))
        go_ret
        exact ⟨ret_bool e0.out.symm, rfl⟩
      · go_wp2_with ((go_at_call 37; refine (l6In_c _ _ _ _).mono ?_; rintro e w' ⟨rfl, rfl⟩))
        go_round
        case rel => exact ⟨k + 1, by omega, by go_num, rgB_take HR.out hx.out hv⟩
        case measure => simp [intOf]; omega
    · obtain rfl : k = xs.length := by omega
      have e0 : Hid (lvB xs = inB xs.length 1 7) := by
        unfold Hid
        have := rgB_full HR.out rfl
        simp [lvB, this]
      go_wp2_with ((go_at_call 37; refine (l6In_c _ _ _ _).mono ?_; rintro e w' ⟨rfl, rfl⟩))
      go_ret
      exact ⟨ret_bool e0.out.symm, rfl⟩

set_option maxHeartbeats 1000000 in
theorem implLens_c (A : Option Addr) (xs : List Int) (c : Nat) (w : World) (hn : (xs.length : Int) ≤ 9223372036854775807) (hr : Rd w w.heap.size A (xs.map (Value.int .i64))) :
    Calls Try.prog 28 #[.slice A xs.length c] w fun e w' => e = .returned (.bool (lvB xs)) ∧ w = w' := by
  have e0 : Hid (lvB xs = (rgB xs 0 99 && inB xs.length 1 7)) := rfl
  by_cases h1 : 1 ≤ xs.length <;> by_cases h2 : xs.length ≤ 7
  · have h1' : (1 : Int) ≤ xs.length := by omega
    have h2' : (xs.length : Int) ≤ 7 := by omega
    have h3 : inB xs.length 1 7 = true := inB_mk (by omega) (by omega)
    go_enter Try.func28, Try.ntmps28
    go_wp2_with ((go_at_call 38; refine (inRange_c _ _ _ _ _ _ hn hr).mono ?_; rintro e w' ⟨rfl, rfl⟩))
    go_ret
    exact ⟨ret_bool (by rw [e0.out, h3, Bool.and_true]), rfl⟩
  all_goals
    have h3 : inB xs.length 1 7 = false := inB_no (by omega)
    first
    | (have h1' : decide ((1 : Int) ≤ xs.length) = true := by simp; omega
       have h2' : decide ((xs.length : Int) ≤ 7) = false := by simp; omega
       clear h1 h2
       go_enter Try.func28, Try.ntmps28
       go_wp2_with ((go_at_call 38; refine (inRange_c _ _ _ _ _ _ hn hr).mono ?_; rintro e w' ⟨rfl, rfl⟩))
       go_ret
       exact ⟨ret_bool (by rw [e0.out, h3, Bool.and_false]), rfl⟩)
    | (have h1' : decide ((1 : Int) ≤ xs.length) = false := by simp; omega
       clear h1 h2
       go_enter Try.func28, Try.ntmps28
       go_wp2_with ((go_at_call 38; refine (inRange_c _ _ _ _ _ _ hn hr).mono ?_; rintro e w' ⟨rfl, rfl⟩))
       go_ret
       exact ⟨ret_bool (by rw [e0.out, h3, Bool.and_false]), rfl⟩)

set_option maxHeartbeats 1000000 in
theorem specHav_c (A : Option Addr) (xs : List Int) (c : Nat) (n : Int) (w : World) (hn : (xs.length : Int) ≤ 9223372036854775807) (hr : Rd w w.heap.size A (xs.map (Value.int .i64))) :
    Calls Try.prog 31 #[.slice A xs.length c, .int .i64 n] w fun e w' => e = .returned (.int .i64 (havI xs n)) ∧ w = w' := by
  go_enter Try.func31, Try.ntmps31
  go_wp2
  go_loop [5, 6] (fun q i => ∃ (k h : Nat), k ≤ xs.length ∧ i = .int .i64 k ∧ q = .int .i64 h ∧ h ≤ k ∧ Hid (h = havI (xs.take k) n))
    (fun _ i => xs.length - (intOf i).toNat)
  case atStart => exact ⟨0, 0, Nat.zero_le _, rfl, rfl, Nat.le_refl _, by simp [Hid, havI]⟩
  case round =>
    obtain ⟨k, h, hk, rfl, rfl, hh, HS⟩ := hrel
    by_cases hlt : k < xs.length
    · obtain ⟨b', o, x, rfl, hb, hx, d0⟩ := hr.int' hlt
      by_cases hv : n ≤ x
      · have HS2 : Hid (h + 1 = havI (xs.take (k + 1)) n) := by
          unfold Hid
          rw [havI_take hx.out, HS.out, if_pos hv]
        clear HS hx
        go_wp2
        go_round
        case rel => exact ⟨k + 1, h + 1, by omega, by go_num, by go_num, by omega, HS2⟩
        case measure => simp [intOf]; omega
      · have HS2 : Hid (h = havI (xs.take (k + 1)) n) := by
          unfold Hid
          rw [havI_take hx.out, HS.out, if_neg hv]
          rfl
        clear HS hx
        go_wp2
        go_round
        case rel => exact ⟨k + 1, h, by omega, by go_num, rfl, by omega, HS2⟩
        case measure => simp [intOf]; omega
    · obtain rfl : k = xs.length := by omega
      have hs := HS.out
      rw [List.take_length] at hs
      subst hs
      go_wp2
      go_ret
      exact ⟨rfl, rfl⟩

set_option maxHeartbeats 1000000 in
theorem specNeeded_c (A : Option Addr) (xs : List Int) (c : Nat) (n : Int) (w : World) (hn : (xs.length : Int) ≤ 9223372036854775807) (hr : Rd w w.heap.size A (xs.map (Value.int .i64))) :
    Calls Try.prog 25 #[.slice A xs.length c, .int .i64 n] w fun e w' => e = .returned (.int .i64 (cnB xs n)) ∧ w = w' := by
  rcases h1 : lvB xs with _ | _
  · have e0 : Hid (cnB xs n = -1) := cn_bad (.inl h1)
    go_enter Try.func25, Try.ntmps25
    go_wp2_with (first | (go_at_call 30; refine (specLens_c _ _ _ _ hn hr).mono ?_; rintro e w' ⟨rfl, rfl⟩) | (go_at_call 37; refine (l6In_c _ _ _ _).mono ?_; rintro e w' ⟨rfl, rfl⟩))
    go_ret
    exact ⟨ret_int e0.out.symm, rfl⟩
  · rcases h2 : inB n 0 99 with _ | _
    · have e0 : Hid (cnB xs n = -1) := cn_bad (.inr h2)
      go_enter Try.func25, Try.ntmps25
      go_wp2_with (first | (go_at_call 30; refine (specLens_c _ _ _ _ hn hr).mono ?_; rintro e w' ⟨rfl, rfl⟩) | (go_at_call 37; refine (l6In_c _ _ _ _).mono ?_; rintro e w' ⟨rfl, rfl⟩))
      go_ret
      exact ⟨ret_int e0.out.symm, rfl⟩
    · have e0 : Hid (cnB xs n = gmax 0 (((xs.length / 2 + 1 : Nat) : Int) - havI xs n)) := cn_yes h1 h2
      obtain ⟨_, l1, l2⟩ := lvB_iff.1 h1
      have hh := havI_le xs n
      by_cases h3 : (0 : Int) < ((xs.length / 2 + 1 : Nat) : Int) - havI xs n
      · have e1 : Hid (cnB xs n = ((xs.length / 2 + 1 : Nat) : Int) - havI xs n) := e0.out.trans (gmax_lt h3)
        go_enter Try.func25, Try.ntmps25
        go_wp2_with (first | (go_at_call 30; refine (specLens_c _ _ _ _ hn hr).mono ?_; rintro e w' ⟨rfl, rfl⟩) | (go_at_call 37; refine (l6In_c _ _ _ _).mono ?_; rintro e w' ⟨rfl, rfl⟩) | (go_at_call 31; refine (specHav_c _ _ _ _ _ hn hr).mono ?_; rintro e w' ⟨rfl, rfl⟩))
        all_goals
          go_ret
          exact ⟨ret_int (by rw [e1.out] <;> omega), rfl⟩
      · have e1 : Hid (cnB xs n = 0) := e0.out.trans (gmax_ge (by omega))
        go_enter Try.func25, Try.ntmps25
        go_wp2_with (first | (go_at_call 30; refine (specLens_c _ _ _ _ hn hr).mono ?_; rintro e w' ⟨rfl, rfl⟩) | (go_at_call 37; refine (l6In_c _ _ _ _).mono ?_; rintro e w' ⟨rfl, rfl⟩) | (go_at_call 31; refine (specHav_c _ _ _ _ _ hn hr).mono ?_; rintro e w' ⟨rfl, rfl⟩))
        all_goals
          go_ret
          exact ⟨ret_int (by rw [e1.out] <;> omega), rfl⟩

set_option maxHeartbeats 1000000 in
theorem implNeeded_c (A : Option Addr) (xs : List Int) (c : Nat) (n : Int) (w : World) (hn : (xs.length : Int) ≤ 9223372036854775807) (hr : Rd w w.heap.size A (xs.map (Value.int .i64))) :
    Calls Try.prog 13 #[.slice A xs.length c, .int .i64 n] w fun e w' => e = .returned (.int .i64 (cnB xs n)) ∧ w = w' := by
  rcases h1 : lvB xs with _ | _
  · have e0 : Hid (cnB xs n = -1) := cn_bad (.inl h1)
    go_enter Try.func13, Try.ntmps13
    go_wp2_with ((go_at_call 28; refine (implLens_c _ _ _ _ hn hr).mono ?_; rintro e w' ⟨rfl, rfl⟩))
    go_ret
    exact ⟨ret_int e0.out.symm, rfl⟩
  · obtain ⟨_, l1, l2⟩ := lvB_iff.1 h1
    by_cases h2 : n < 0
    · have e0 : Hid (cnB xs n = -1) := cn_bad (.inr (inB_no (by omega)))
      go_enter Try.func13, Try.ntmps13
      go_wp2_with ((go_at_call 28; refine (implLens_c _ _ _ _ hn hr).mono ?_; rintro e w' ⟨rfl, rfl⟩))
      go_ret
      exact ⟨ret_int e0.out.symm, rfl⟩
    · have h2' : decide (n < 0) = false := by simpa using h2
      by_cases h3 : 99 < n
      · have e0 : Hid (cnB xs n = -1) := cn_bad (.inr (inB_no (by omega)))
        go_enter Try.func13, Try.ntmps13
        go_wp2_with ((go_at_call 28; refine (implLens_c _ _ _ _ hn hr).mono ?_; rintro e w' ⟨rfl, rfl⟩))
        go_ret
        exact ⟨ret_int e0.out.symm, rfl⟩
      · have e0 : Hid (cnB xs n = gmax 0 (((xs.length / 2 + 1 : Nat) : Int) - havI xs n)) := cn_yes h1 (inB_mk (by omega) (by omega))
        have h3' : decide (99 < n) = false := by simpa using h3
        go_enter Try.func13, Try.ntmps13
        go_wp2_with ((go_at_call 28; refine (implLens_c _ _ _ _ hn hr).mono ?_; rintro e w' ⟨rfl, rfl⟩))
        go_loop [5, 25] (fun q i => ∃ (k h : Nat), k ≤ xs.length ∧ i = .int .i64 k ∧ q = .int .i64 (((xs.length / 2 + 1 : Nat) : Int) - h) ∧ h ≤ k ∧ Hid (h = havI (xs.take k) n))
          (fun _ i => xs.length - (intOf i).toNat)
        case atStart => exact ⟨0, 0, Nat.zero_le _, rfl, by go_num, Nat.le_refl _, by simp [Hid, havI]⟩
        case round =>
          obtain ⟨k, h, hk, rfl, rfl, hh, HS⟩ := hrel
          by_cases hlt : k < xs.length
          · obtain ⟨b', o, x, rfl, hb, hx, d0⟩ := hr.int' hlt
            by_cases hv : n ≤ x
            · have HS2 : Hid (h + 1 = havI (xs.take (k + 1)) n) := by
                unfold Hid
                rw [havI_take hx.out, HS.out, if_pos hv]
              clear HS hx
              go_wp2
              go_round
              case rel => exact ⟨k + 1, h + 1, by omega, by go_num, by congr 1; omega, by omega, HS2⟩
              case measure => simp [intOf]; omega
            · have HS2 : Hid (h = havI (xs.take (k + 1)) n) := by
                unfold Hid
                rw [havI_take hx.out, HS.out, if_neg hv]
                rfl
              clear HS hx
              go_wp2
              go_round
              case rel => exact ⟨k + 1, h, by omega, by go_num, rfl, by omega, HS2⟩
              case measure => simp [intOf]; omega
          · obtain rfl : k = xs.length := by omega
            have hs := HS.out
            rw [List.take_length] at hs
            rw [← hs] at e0
            clear HS hs
            by_cases h4 : (0 : Int) < ((xs.length / 2 + 1 : Nat) : Int) - h
            · have e1 : Hid (cnB xs n = ((xs.length / 2 + 1 : Nat) : Int) - h) := e0.out.trans (gmax_lt h4)
              go_wp2
              all_goals
                go_ret
                exact ⟨ret_int (by rw [e1.out] <;> omega), rfl⟩
            · have e1 : Hid (cnB xs n = 0) := e0.out.trans (gmax_ge (by omega))
              go_wp2
              all_goals
                go_ret
                exact ⟨ret_int (by rw [e1.out] <;> omega), rfl⟩
end Go.Proofs.Ytdbolfdpaihfiaa
