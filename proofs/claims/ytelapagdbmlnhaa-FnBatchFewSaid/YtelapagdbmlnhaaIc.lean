/- Contracts: do batches fit? -/
import Derived.Test.YtelapagdbmlnhaaIb
namespace Go.Proofs.Ytelapagdbmlnhaa
set_option linter.unusedVariables false
open Go.RowKit

set_option maxHeartbeats 2000000 in
theorem specFits_c (A : Option Addr) (xs : List Int) (c : Nat) (b m : Int) (A' : Option Addr) (ys : List Int) (c' : Nat) (w : World) (hn : (xs.length : Int) ≤ 9223372036854775807) (hn' : (ys.length : Int) ≤ 9223372036854775807)
    (hr : Rd w w.heap.size A (xs.map (Value.int .i64))) (hr' : Rd w w.heap.size A' (ys.map (Value.int .i64))) :
    Calls Try.prog 19 #[.slice A xs.length c, .int .i64 b, .int .i64 m, .slice A' ys.length c'] w fun e w' => e = .returned (.bool (fitB' xs b m ys)) ∧ w = w' := by
  rcases hv : bvB xs b m with _ | _
  · have e0 : Hid (fitB' xs b m ys = false) := by simp [Hid, fitB', hv]
    go_enter Try.func19, Try.ntmps19
    go_wp2_with ((go_at_call 15; refine (specBV_c _ _ _ _ _ _ hn hr).mono ?_; rintro e w' ⟨rfl, rfl⟩))
    go_ret
    exact ⟨ret_bool e0.out.symm, rfl⟩
  · obtain ⟨q1, q2, q3, q4, q5, q6⟩ := bvB_iff.1 hv
    have e0 : Hid (fitB' xs b m ys = fitG b m xs ys) := by simp [Hid, fitB', hv]
    have Q1 : Hid (∀ x ∈ xs, 1 ≤ x ∧ x ≤ b) := q1
    clear q1
    go_enter Try.func19, Try.ntmps19
    go_wp2_with ((go_at_call 15; refine (specBV_c _ _ _ _ _ _ hn hr).mono ?_; rintro e w' ⟨rfl, rfl⟩))
    go_loop [9, 10] (fun a i => ∃ (k at_ : Nat), k ≤ ys.length ∧ i = .int .i64 k ∧ a = .int .i64 at_ ∧ at_ ≤ xs.length ∧ Hid (fitB' xs b m ys = fitG b m (xs.drop at_) (ys.drop k)))
      (fun _ i => ys.length - (intOf i).toNat)
    case atStart => exact ⟨0, 0, Nat.zero_le _, rfl, rfl, Nat.zero_le _, by simpa using e0⟩
    case round =>
      obtain ⟨k, at_, hk, rfl, rfl, p0, HO⟩ := hrel
      by_cases hlt : k < ys.length
      · obtain ⟨b', o, x, rfl, hb, hx, d0⟩ := hr'.int' hlt
        have eO : Hid (fitB' xs b m ys = fitG b m (xs.drop at_) (x :: ys.drop (k + 1))) := by
          unfold Hid
          rw [HO.out, drop_at hx.out]
        have hdl : Hid ((xs.drop at_).length = xs.length - at_) := List.length_drop
        clear hx HO
        rcases hv : inB x 1 m with _ | _
        · have e1 : Hid (fitB' xs b m ys = false) := by
            have h1 := inB_false hv
            unfold Hid
            rw [eO.out, fitG_bad (by omega)]
          go_wp2_with ((go_at_call 24; refine (l6In_c _ _ _ _).mono ?_; rintro e w' ⟨rfl, rfl⟩))
          go_ret
          exact ⟨ret_bool e1.out.symm, rfl⟩
        · obtain ⟨v0, v1⟩ := inB_true hv
          by_cases hov : (xs.length : Int) < at_ + x
          · have e1 : Hid (fitB' xs b m ys = false) := by
              have := hdl.out
              unfold Hid
              rw [eO.out, fitG_bad (by omega)]
            go_wp2_with ((go_at_call 24; refine (l6In_c _ _ _ _).mono ?_; rintro e w' ⟨rfl, rfl⟩))
            go_ret
            exact ⟨ret_bool e1.out.symm, rfl⟩
          · go_wp2_with ((go_at_call 24; refine (l6In_c _ _ _ _).mono ?_; rintro e w' ⟨rfl, rfl⟩))
            go_loop [11, 12] (fun s i => ∃ (j : Nat) (sm : Int), (j : Int) ≤ x ∧ i = .int .i64 ((at_ + j : Nat) : Int) ∧ s = .int .i64 sm ∧ 0 ≤ sm ∧ sm ≤ 99 * j ∧ Hid (sm = sumI ((xs.drop at_).take j)))
              (fun _ i => (at_ + x).toNat - (intOf i).toNat)
            case atStart => exact ⟨0, 0, by omega, by simp, rfl, by omega, by omega, by simp [Hid, sumI]⟩
            case round =>
              obtain ⟨j, sm, hj, rfl, rfl, s0, s1, HS⟩ := hrel
              by_cases hjl : (j : Int) < x
              · have hjx : at_ + j < xs.length := by omega
                obtain ⟨b2, o2, z, rfl, hb2, hz, f0⟩ := hr.int' hjx
                obtain ⟨z0, z1⟩ := Q1.out z (mem_at hz.out)
                have HS2 : Hid (sm + z = sumI ((xs.drop at_).take (j + 1))) := by
                  unfold Hid
                  rw [sum_at hz.out, HS.out]
                clear hz HS
                go_wp2
                go_round
                case rel => exact ⟨j + 1, sm + z, by omega, by go_num, rfl, by omega, by omega, HS2⟩
                case measure => simp [intOf]; omega
              · have ej : Hid (j = x.toNat) := by unfold Hid; omega
                have HS2 : Hid (sm = sumI ((xs.drop at_).take x.toNat)) := by
                  unfold Hid
                  rw [← ej.out]
                  exact HS.out
                have hjx : (j : Int) = x := by omega
                by_cases hbs : b < sm
                · have e1 : Hid (fitB' xs b m ys = false) := by
                    unfold Hid
                    rw [eO.out, fitG_over (by rw [← HS2.out]; exact hbs)]
                  clear hjx
                  go_wp2
                  go_ret
                  exact ⟨ret_bool e1.out.symm, rfl⟩
                · have e1 : Hid (fitB' xs b m ys = fitG b m (xs.drop (at_ + j)) (ys.drop (k + 1))) := by
                    have := hdl.out
                    unfold Hid
                    rw [eO.out, fitG_next (by omega) (by rw [← HS2.out]; exact hbs), List.drop_drop, ← ej.out]
                  have hxj : x = (j : Int) := hjx.symm
                  clear hjx
                  subst hxj
                  go_wp2
                  go_round
                  case rel => exact ⟨k + 1, at_ + j, by omega, by go_num, by go_num, by omega, e1⟩
                  case measure => simp [intOf]; omega
      · obtain rfl : k = ys.length := by omega
        have e1 : Hid (fitB' xs b m ys = decide ((at_ : Int) = xs.length)) := by
          unfold Hid
          rw [HO.out, List.drop_length]
          have : (xs.drop at_).length = xs.length - at_ := List.length_drop
          by_cases h : at_ = xs.length
          · subst h
            simp [fitG]
          · have h2 : xs.drop at_ ≠ [] := fun h3 => by rw [h3] at this; simp at this; omega
            rw [decide_eq_false (by omega)]
            simpa [fitG] using h2
        go_wp2
        go_ret
        exact ⟨ret_bool (by rw [e1.out]; rfl), rfl⟩

set_option maxHeartbeats 2000000 in
theorem implFits_c (A : Option Addr) (xs : List Int) (c : Nat) (b m : Int) (A' : Option Addr) (ys : List Int) (c' : Nat) (w : World) (hn : (xs.length : Int) ≤ 9223372036854775807) (hn' : (ys.length : Int) ≤ 9223372036854775807)
    (hlc : xs.length ≤ c) (hcm : (c : Int) ≤ 9223372036854775807)
    (hr : Rd w w.heap.size A (xs.map (Value.int .i64))) (hr' : Rd w w.heap.size A' (ys.map (Value.int .i64))) :
    Calls Try.prog 17 #[.slice A xs.length c, .int .i64 b, .int .i64 m, .slice A' ys.length c'] w fun e w' => e = .returned (.bool (fitB' xs b m ys)) ∧ w = w' := by
  rcases hv : bvB xs b m with _ | _
  · have e0 : Hid (fitB' xs b m ys = false) := by simp [Hid, fitB', hv]
    go_enter Try.func17, Try.ntmps17
    go_wp2_with ((go_at_call 22; refine (implBV_c _ _ _ _ _ _ hn hr).mono ?_; rintro e w' ⟨rfl, rfl⟩))
    go_ret
    exact ⟨ret_bool e0.out.symm, rfl⟩
  · obtain ⟨q1, q2, q3, q4, q5, q6⟩ := bvB_iff.1 hv
    have e0 : Hid (fitB' xs b m ys = fitG b m xs ys) := by simp [Hid, fitB', hv]
    have Q1 : Hid (∀ x ∈ xs, 1 ≤ x ∧ x ≤ b) := q1
    clear q1
    go_enter Try.func17, Try.ntmps17
    go_wp2_with ((go_at_call 22; refine (implBV_c _ _ _ _ _ _ hn hr).mono ?_; rintro e w' ⟨rfl, rfl⟩))
    go_loop [9, 22] (fun a i => ∃ (k at_ : Nat), k ≤ ys.length ∧ i = .int .i64 k ∧ a = .int .i64 at_ ∧ at_ ≤ xs.length ∧ Hid (fitB' xs b m ys = fitG b m (xs.drop at_) (ys.drop k)))
      (fun _ i => ys.length - (intOf i).toNat)
    case atStart => exact ⟨0, 0, Nat.zero_le _, rfl, rfl, Nat.zero_le _, by simpa using e0⟩
    case round =>
      obtain ⟨k, at_, hk, rfl, rfl, p0, HO⟩ := hrel
      by_cases hlt : k < ys.length
      · obtain ⟨b', o, x, rfl, hb, hx, d0⟩ := hr'.int' hlt
        have eO : Hid (fitB' xs b m ys = fitG b m (xs.drop at_) (x :: ys.drop (k + 1))) := by
          unfold Hid
          rw [HO.out, drop_at hx.out]
        have hdl : Hid ((xs.drop at_).length = xs.length - at_) := List.length_drop
        clear hx HO
        by_cases hbad : ¬ (1 ≤ x ∧ x ≤ m ∧ x ≤ (xs.length : Int) - at_)
        · have e1 : Hid (fitB' xs b m ys = false) := by
            have := hdl.out
            unfold Hid
            rw [eO.out, fitG_bad (by omega)]
          by_cases h1 : x < 1
          · go_wp2
            go_ret
            exact ⟨ret_bool e1.out.symm, rfl⟩
          · have h1' : decide (x < 1) = false := by simpa using h1
            by_cases h2 : m < x
            · go_wp2
              go_ret
              exact ⟨ret_bool e1.out.symm, rfl⟩
            · have h2' : decide (m < x) = false := by simpa using h2
              have h3 : (xs.length : Int) - at_ < x := by omega
              go_wp2
              go_ret
              exact ⟨ret_bool e1.out.symm, rfl⟩
        · obtain ⟨v0, v1, v2⟩ := Classical.not_not.1 hbad
          clear hbad
          have h1' : decide (x < 1) = false := by simpa using v0
          have h2' : decide (m < x) = false := by simpa using v1
          obtain ⟨n, rfl⟩ := Int.eq_ofNat_of_zero_le (show 0 ≤ x by omega)
          have hnl : at_ + n ≤ xs.length := by omega
          obtain ⟨b2, o2, rfl, hb2, hcell⟩ := hr.lit (by simp; omega)
          have HC : Hid _ := hcell
          clear hcell
          go_wp2
          go_loop [12, 48] (fun s i => ∃ (j : Nat) (sm : Int), j ≤ n ∧ i = .int .i64 (j : Int) ∧ s = .int .i64 sm ∧ 0 ≤ sm ∧ sm ≤ 99 * j ∧ Hid (sm = sumI ((xs.drop at_).take j)))
            (fun _ i => n - (intOf i).toNat)
          case atStart => exact ⟨0, 0, by omega, by simp, rfl, by omega, by omega, by simp [Hid, sumI]⟩
          case round =>
            obtain ⟨j, sm, hj, rfl, rfl, s0, s1, HS⟩ := hrel
            by_cases hjl : j < n
            · have hjx : at_ + j < xs.length := by omega
              obtain ⟨z, hz⟩ : ∃ z, xs[at_ + j]? = some z := ⟨_, List.getElem?_eq_getElem hjx⟩
              have f0 := HC.out (at_ + j) (.int .i64 z) (by rw [List.getElem?_map, hz]; rfl)
              rw [← Nat.add_assoc] at f0
              obtain ⟨z0, z1⟩ := Q1.out z (mem_at hz)
              have HS2 : Hid (sm + z = sumI ((xs.drop at_).take (j + 1))) := by
                unfold Hid
                rw [sum_at hz, HS.out]
              clear hz HS
              go_wp2
              go_round
              case rel => exact ⟨j + 1, sm + z, by omega, by go_num, rfl, by omega, by omega, HS2⟩
              case measure => simp [intOf]; omega
            · obtain rfl : j = n := by omega
              by_cases hbs : b < sm
              · have e1 : Hid (fitB' xs b m ys = false) := by
                  unfold Hid
                  rw [eO.out, fitG_over (by rw [Int.toNat_natCast, ← HS.out]; exact hbs)]
                go_wp2
                go_ret
                exact ⟨ret_bool e1.out.symm, rfl⟩
              · have e1 : Hid (fitB' xs b m ys = fitG b m (xs.drop (at_ + j)) (ys.drop (k + 1))) := by
                  have := hdl.out
                  unfold Hid
                  rw [eO.out, fitG_next (by omega) (by rw [Int.toNat_natCast, ← HS.out]; exact hbs), List.drop_drop, Int.toNat_natCast]
                go_wp2
                go_round
                case rel => exact ⟨k + 1, at_ + j, by omega, by go_num, by go_num, by omega, e1⟩
                case measure => simp [intOf]; omega
      · obtain rfl : k = ys.length := by omega
        have e1 : Hid (fitB' xs b m ys = decide ((at_ : Int) = xs.length)) := by
          unfold Hid
          rw [HO.out, List.drop_length]
          have : (xs.drop at_).length = xs.length - at_ := List.length_drop
          by_cases h : at_ = xs.length
          · subst h
            simp [fitG]
          · have h2 : xs.drop at_ ≠ [] := fun h3 => by rw [h3] at this; simp at this; omega
            rw [decide_eq_false (by omega)]
            simpa [fitG] using h2
        go_wp2
        go_ret
        exact ⟨ret_bool (by rw [e1.out]; rfl), rfl⟩
end Go.Proofs.Ytelapagdbmlnhaa
