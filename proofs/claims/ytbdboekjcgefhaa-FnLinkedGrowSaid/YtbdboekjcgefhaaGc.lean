/- Contracts: the reference's common groups, groups of both sets. -/
import Derived.Test.YtbdboekjcgefhaaGb
namespace Go.Proofs.Ytbdboekjcgefhaa
set_option linter.unusedVariables false
open Go.RowKit

set_option maxHeartbeats 2000000 in
theorem l1Union_c (A : Option Addr) (xs : List Int) (c : Nat) (A' : Option Addr) (ys : List Int) (c' : Nat) (w : World) (hn : xs.length ≤ 1048576) (hn' : ys.length ≤ 1048576)
    (hr : Rd w w.heap.size A (xs.map (Value.int .i64))) (hr' : Rd w w.heap.size A' (ys.map (Value.int .i64))) :
    Calls Try.prog 38 #[.slice A xs.length c, .slice A' ys.length c'] w (NewI (pickL (fun g => hasB xs g || hasB ys g)) w) := by
  have V0 : IV (w.alloc (.cells #[] 3)) w.heap.size (.slice (some ⟨w.heap.size, 0, none⟩) 0 0) 0 [] := (IS.full (xs := []) (Box.new w _ _) (by omega) (Nat.zero_le _)).iv
  go_enter Try.func38, Try.ntmps38
  go_wp2
  go_loopw [5, 6] (fun o i wr => ∃ (k n : Nat) (v : Value), k ≤ 5 ∧ i = .int .i64 k ∧ o = v ∧ n ≤ k ∧ IV wr w.heap.size v n (preL (fun g => hasB xs g || hasB ys g) k) ∧ Below w.heap.size w wr)
    (fun _ i _ => 5 - (intOf i).toNat)
  case atStart => exact ⟨0, 0, _, by omega, rfl, rfl, by omega, V0, by go_grown⟩
  case round =>
    clear V0
    obtain ⟨k, n, v, hk, rfl, rfl, hn, V, hw⟩ := hrel
    have hs := hw.size
    by_cases hlt : k < 5
    · have C1 := l1Has_c A xs c (k : Int) wr (by omega) (hr.below hw).low
      have C2 := l1Has_c A' ys c' (k : Int) wr (by omega) (hr'.below hw).low
      have HY := preL_yes (p := fun g => hasB xs g || hasB ys g) hlt
      have HN := preL_no (p := fun g => hasB xs g || hasB ys g) hlt
      have HW := hidI hw
      rcases e1 : hasB xs (k : Int) with _ | _
      · rcases e2 : hasB ys (k : Int) with _ | _
        · have HE := hidI (HN (by simp [e1, e2]))
          rw [e1] at C1
          rw [e2] at C2
          have HC1 := hidI C1
          have HC2 := hidI C2
          clear HY HN e1 e2 hw C1 C2
          go_wp2_with fail
          refine Calls.mono HC1.out ?_
          rintro e w1 ⟨rfl, rfl⟩
          go_wp2_with fail
          refine Calls.mono HC2.out ?_
          rintro e w1 ⟨rfl, rfl⟩
          clear HC1 HC2
          go_wp2
          go_roundw
          case rel => exact ⟨k + 1, n, _, by omega, by go_num, rfl, by omega, by rw [HE.out]; exact V, HW.out⟩
          case measure => simp [intOf]; omega
        · have HE := hidI (HY (by simp [e2]))
          rw [e1] at C1
          rw [e2] at C2
          have HC1 := hidI C1
          have HC2 := hidI C2
          clear HY HN e1 e2 hw C1 C2
          go_wp2_with fail
          refine Calls.mono HC1.out ?_
          rintro e w1 ⟨rfl, rfl⟩
          go_wp2_with fail
          refine Calls.mono HC2.out ?_
          rintro e w1 ⟨rfl, rfl⟩
          clear HC1 HC2
          go_wp2_with (at_builtin; refine wpList_append_IV (k : Int) rfl _ _ rfl rfl (V.alloc _) rfl (by simp) (by omega) (by simp; omega) ?_; intro v6 w6 V6 hb6 hg6)
          have hw6 : Below w.heap.size w w6 := (HW.out.alloc hs _).trans hb6
          go_roundw
          case rel => exact ⟨k + 1, n + 1, _, by omega, by go_num, rfl, by omega, by rw [HE.out]; exact V6, hw6⟩
          case measure => simp [intOf]; omega
      · have HE := hidI (HY (by simp [e1]))
        rw [e1] at C1
        have HC1 := hidI C1
        clear HY HN e1 hw C1 C2
        go_wp2_with fail
        refine Calls.mono HC1.out ?_
        rintro e w1 ⟨rfl, rfl⟩
        clear HC1
        go_wp2_with (at_builtin; refine wpList_append_IV (k : Int) rfl _ _ rfl rfl (V.alloc _) rfl (by simp) (by omega) (by simp; omega) ?_; intro v6 w6 V6 hb6 hg6)
        have hw6 : Below w.heap.size w w6 := (HW.out.alloc hs _).trans hb6
        go_roundw
        case rel => exact ⟨k + 1, n + 1, _, by omega, by go_num, rfl, by omega, by rw [HE.out]; exact V6, hw6⟩
        case measure => simp [intOf]; omega
    · obtain rfl : k = 5 := by omega
      rw [preL_full] at V
      go_wp2
      go_ret
      exact NewI.mk V hw

end Go.Proofs.Ytbdboekjcgefhaa
