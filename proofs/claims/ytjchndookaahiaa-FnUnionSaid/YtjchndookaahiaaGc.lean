/- Contracts: the reference's common groups, groups of both sets. -/
import Derived.Test.YtjchndookaahiaaGb
namespace Go.Proofs.Ytjchndookaahiaa
set_option linter.unusedVariables false
open Go.RowKit

set_option maxHeartbeats 2000000 in
theorem l1Union_c (A : Option Addr) (xs : List Int) (c : Nat) (A' : Option Addr) (ys : List Int) (c' : Nat) (w : World) (hn : xs.length ≤ 1048576) (hn' : ys.length ≤ 1048576)
    (hr : Rd w w.heap.size A (xs.map (Value.int .i64))) (hr' : Rd w w.heap.size A' (ys.map (Value.int .i64))) :
    Calls Try.prog 33 #[.slice A xs.length c, .slice A' ys.length c'] w (NewI (pickL (fun g => hasB xs g || hasB ys g)) w) := by
  have V0 : IV (w.alloc (.cells #[] 3)) w.heap.size (.slice (some ⟨w.heap.size, 0, none⟩) 0 0) 0 [] := (IS.full (xs := []) (Box.new w _ _) (by omega) (Nat.zero_le _)).iv
  go_enter Try.func33, Try.ntmps33
  go_wp2
  go_loopw [5, 6] (fun o i wr => ∃ (k n : Nat) (v : Value), k ≤ 5 ∧ i = .int .i64 k ∧ o = v ∧ n ≤ k ∧ IV wr w.heap.size v n (preL (fun g => hasB xs g || hasB ys g) k) ∧ Below w.heap.size w wr)
    (fun _ i _ => 5 - (intOf i).toNat)
  case atStart => exact ⟨0, 0, _, by omega, rfl, rfl, by omega, V0, by go_grown⟩
  case round =>
    clear V0
    obtain ⟨k, n, v, hk, rfl, rfl, hn, V, hw⟩ := hrel
    have hs := hw.size
    by_cases hlt : k < 5
    · have C1 := l1Has_c A xs c (k : Int) wr (by omega) (hr.below hw).low
      have C2 := l1Has_c A' ys c' (k : Int) wr (by omega) (hr'.below hw).low
      have HY := preL_yes (p := fun g => hasB xs g || hasB ys g) hlt
      have HN := preL_no (p := fun g => hasB xs g || hasB ys g) hlt
      have HW := hidI hw
      rcases e1 : hasB xs (k : Int) with _ | _
      · rcases e2 : hasB ys (k : Int) with _ | _
        · have HE := hidI (HN (by simp [e1, e2]))
          rw [e1] at C1
          rw [e2] at C2
          have HC1 := hidI C1
          have HC2 := hidI C2
          clear HY HN e1 e2 hw C1 C2
          go_wp2_with fail
          refine Calls.mono HC1.out ?_
          rintro e w1 ⟨rfl, rfl⟩
          go_wp2_with fail
          refine Calls.mono HC2.out ?_
          rintro e w1 ⟨rfl, rfl⟩
          clear HC1 HC2
          go_wp2
          go_roundw
          case rel => exact ⟨k + 1, n, _, by omega, by go_num, rfl, by omega, by rw [HE.out]; exact V, HW.out⟩
          case measure => simp [intOf]; omega
        · have HE := hidI (HY (by simp [e2]))
          rw [e1] at C1
          rw [e2] at C2
          have HC1 := hidI C1
          have HC2 := hidI C2
          clear HY HN e1 e2 hw C1 C2
          go_wp2_with fail
          refine Calls.mono HC1.out ?_
          rintro e w1 ⟨rfl, rfl⟩
          go_wp2_with fail
          refine Calls.mono HC2.out ?_
          rintro e w1 ⟨rfl, rfl⟩
          clear HC1 HC2
          go_wp2_with (at_builtin; refine wpList_append_IV (k : Int) rfl _ _ rfl rfl (V.alloc _) rfl (by simp) (by omega) (by simp; omega) ?_; intro v6 w6 V6 hb6 hg6)
          have hw6 : Below w.heap.size w w6 := (HW.out.alloc hs _).trans hb6
          go_roundw
          case rel => exact ⟨k + 1, n + 1, _, by omega, by go_num, rfl, by omega, by rw [HE.out]; exact V6, hw6⟩
          case measure => simp [intOf]; omega
      · have HE := hidI (HY (by simp [e1]))
        rw [e1] at C1
        have HC1 := hidI C1
        clear HY HN e1 hw C1 C2
        go_wp2_with fail
        refine Calls.mono HC1.out ?_
        rintro e w1 ⟨rfl, rfl⟩
        clear HC1
        go_wp2_with (at_builtin; refine wpList_append_IV (k : Int) rfl _ _ rfl rfl (V.alloc _) rfl (by simp) (by omega) (by simp; omega) ?_; intro v6 w6 V6 hb6 hg6)
        have hw6 : Below w.heap.size w w6 := (HW.out.alloc hs _).trans hb6
        go_roundw
        case rel => exact ⟨k + 1, n + 1, _, by omega, by go_num, rfl, by omega, by rw [HE.out]; exact V6, hw6⟩
        case measure => simp [intOf]; omega
    · obtain rfl : k = 5 := by omega
      rw [preL_full] at V
      go_wp2
      go_ret
      exact NewI.mk V hw

set_option maxHeartbeats 1000000 in
theorem specUni_c (A : Option Addr) (xs : List Int) (c : Nat) (A' : Option Addr) (ys : List Int) (c' : Nat) (w : World) (hn : xs.length ≤ 1048576) (hn' : ys.length ≤ 1048576)
    (hr : Rd w w.heap.size A (xs.map (Value.int .i64))) (hr' : Rd w w.heap.size A' (ys.map (Value.int .i64))) :
    Calls Try.prog 19 #[.slice A xs.length c, .slice A' ys.length c'] w (NewI (uniL xs ys) w) := by
  have V1 := fun w h => specGV_c A xs c w hn h
  have V2 := fun w h => specGV_c A' ys c' w hn' h
  rcases e1 : gvB xs with _ | _
  · have E : Hid (uniL xs ys = []) := uni_no (by simp [e1])
    rw [e1] at V1
    clear V2 e1
    go_enter Try.func19, Try.ntmps19
    go_wp2_with fail
    refine (V1 _ hr).mono ?_
    rintro e w1 ⟨rfl, hb⟩
    have hs := hb.size
    clear V1
    go_wp2_with fail
    go_ret
    rw [E.out]
    exact NewI.mk (IS.full (xs := []) (Box.new w1 _ _) hs (Nat.zero_le _)).iv (by go_grown)
  · rcases e2 : gvB ys with _ | _
    · have E : Hid (uniL xs ys = []) := uni_no (by simp [e2])
      rw [e1] at V1
      rw [e2] at V2
      clear e1 e2
      go_enter Try.func19, Try.ntmps19
      go_wp2_with fail
      refine (V1 _ hr).mono ?_
      rintro e w1 ⟨rfl, hb⟩
      go_wp2_with fail
      refine (V2 _ (hr'.below hb).low).mono ?_
      rintro e w2 ⟨rfl, hb2⟩
      have hw2 := bt hb hb2
      have hs := hw2.size
      clear V1 V2 hb hb2
      go_wp2_with fail
      go_ret
      rw [E.out]
      exact NewI.mk (IS.full (xs := []) (Box.new w2 _ _) hs (Nat.zero_le _)).iv (by go_grown)
    · have E : Hid (uniL xs ys = pickL (fun g => hasB xs g || hasB ys g)) := uni_yes e1 e2
      rw [e1] at V1
      rw [e2] at V2
      clear e1 e2
      go_enter Try.func19, Try.ntmps19
      go_wp2_with fail
      refine (V1 _ hr).mono ?_
      rintro e w1 ⟨rfl, hb⟩
      go_wp2_with fail
      refine (V2 _ (hr'.below hb).low).mono ?_
      rintro e w2 ⟨rfl, hb2⟩
      have hw2 := hidI (bt hb hb2)
      clear V1 V2 hb hb2
      go_wp2_with fail
      refine (l1Union_c A xs c A' ys c' w2 hn hn' (hr.below hw2.out).low (hr'.below hw2.out).low).mono ?_
      rintro e w3 ⟨A3, c3, rfl, S3, hb3⟩
      go_wp2_with fail
      go_ret
      rw [E.out]
      exact ⟨A3, c3, rfl, S3.mono hw2.out.size, bt hw2.out hb3⟩

set_option maxHeartbeats 2000000 in
theorem specCom_c (A : Option Addr) (xs : List Int) (c : Nat) (A' : Option Addr) (ys : List Int) (c' : Nat) (w : World) (hn : xs.length ≤ 1048576) (hn' : ys.length ≤ 1048576)
    (hr : Rd w w.heap.size A (xs.map (Value.int .i64))) (hr' : Rd w w.heap.size A' (ys.map (Value.int .i64))) :
    Calls Try.prog 15 #[.slice A xs.length c, .slice A' ys.length c'] w (NewI (comL xs ys) w) := by
  have V1 := fun w h => specGV_c A xs c w hn h
  have V2 := fun w h => specGV_c A' ys c' w hn' h
  have V0 : IV (w.alloc (.cells #[] 3)) w.heap.size (.slice (some ⟨w.heap.size, 0, none⟩) 0 0) 0 [] := (IS.full (xs := []) (Box.new w _ _) (by omega) (Nat.zero_le _)).iv
  rcases e1 : gvB xs with _ | _
  · have E : Hid (comL xs ys = []) := com_no (by simp [e1])
    rw [e1] at V1
    clear V2 e1
    go_enter Try.func15, Try.ntmps15
    go_wp2_with fail
    refine (V1 _ (hr.below (by go_grown)).low).mono ?_
    rintro e w1 ⟨rfl, hb⟩
    replace V0 := V0.below hb
    have hw1 : Below w.heap.size w w1 := bu hb (by go_grown)
    clear V1 hb
    go_wp2_with fail
    go_ret
    rw [E.out]
    exact NewI.mk V0 hw1
  · rcases e2 : gvB ys with _ | _
    · have E : Hid (comL xs ys = []) := com_no (by simp [e2])
      rw [e1] at V1
      rw [e2] at V2
      clear e1 e2
      go_enter Try.func15, Try.ntmps15
      go_wp2_with fail
      refine (V1 _ (hr.below (by go_grown)).low).mono ?_
      rintro e w1 ⟨rfl, hb⟩
      replace V0 := V0.below hb
      have hw1 : Below w.heap.size w w1 := bu hb (by go_grown)
      clear V1 hb
      go_wp2_with fail
      refine (V2 _ (hr'.below hw1).low).mono ?_
      rintro e w2 ⟨rfl, hb⟩
      replace V0 := V0.below hb
      have hw2 := bt hw1 hb
      clear V2 hb hw1
      go_wp2_with fail
      go_ret
      rw [E.out]
      exact NewI.mk V0 hw2
    · have E : Hid (comL xs ys = xs.filter (hasB ys)) := by
        unfold Hid
        rw [com_yes e1 e2, com_filter e1]
      have h5 := gv_le e1
      rw [e1] at V1
      rw [e2] at V2
      clear e1 e2
      go_enter Try.func15, Try.ntmps15
      go_wp2_with fail
      refine (V1 _ (hr.below (by go_grown)).low).mono ?_
      rintro e w1 ⟨rfl, hb⟩
      replace V0 := V0.below hb
      have hw1 : Below w.heap.size w w1 := bu hb (by go_grown)
      clear V1 hb
      go_wp2_with fail
      refine (V2 _ (hr'.below hw1).low).mono ?_
      rintro e w2 ⟨rfl, hb⟩
      replace V0 := V0.below hb
      have hw2 := bt hw1 hb
      clear V2 hb hw1
      go_wp2_with fail
      go_loopw [5, 6] (fun o i wr => ∃ (k n : Nat) (v : Value), k ≤ xs.length ∧ i = .int .i64 k ∧ o = v ∧ n ≤ k ∧ IV wr w.heap.size v n ((xs.take k).filter (hasB ys)) ∧ Below w.heap.size w wr)
        (fun _ i _ => xs.length - (intOf i).toNat)
      case atStart => exact ⟨0, 0, _, by omega, rfl, rfl, by omega, V0, hw2⟩
      case round =>
        clear V0 hw2
        obtain ⟨k, n, v, hk, rfl, rfl, hn, V, hw⟩ := hrel
        have hs := hw.size
        by_cases hlt : k < xs.length
        · obtain ⟨b, o, x, rfl, hb, hx, d0⟩ := (hr.below hw).int' hlt
          have C2 := l1Has_c A' ys c' x wr (by omega) (hr'.below hw).low
          have HW := hidI hw
          have hbw : b < wr.heap.size := by omega
          have i1 : (0 : Int) ≤ (k : Int) := by omega
          have i2 : (k : Int) < (xs.length : Int) := by omega
          rcases e2 : hasB ys x with _ | _
          · have HE := hidI (show (xs.take (k + 1)).filter (hasB ys) = (xs.take k).filter (hasB ys) by rw [take_at hx.out, List.filter_append]; simp [e2])
            rw [e2] at C2
            have HC2 := hidI C2
            clear e2 hw C2
            go_wp2_with fail
            refine Calls.mono HC2.out ?_
            rintro e w1 ⟨rfl, rfl⟩
            clear HC2
            go_wp2_with fail
            go_roundw
            case rel => exact ⟨k + 1, n, _, by omega, by go_num, rfl, by omega, by rw [HE.out]; exact V, HW.out⟩
            case measure => simp [intOf]; omega
          · have HE := hidI (show (xs.take (k + 1)).filter (hasB ys) = (xs.take k).filter (hasB ys) ++ [x] by rw [take_at hx.out, List.filter_append]; simp [e2])
            rw [e2] at C2
            have HC2 := hidI C2
            clear e2 hw C2
            go_wp2_with fail
            refine Calls.mono HC2.out ?_
            rintro e w1 ⟨rfl, rfl⟩
            clear HC2
            go_wp2_with (at_builtin; refine wpList_append_IV x rfl _ _ rfl rfl (V.alloc _) rfl (by simp) (by omega) (by simp; omega) ?_; intro v6 w6 V6 hb6 hg6)
            have hw6 : Below w.heap.size w w6 := (HW.out.alloc hs _).trans hb6
            go_roundw
            case rel => exact ⟨k + 1, n + 1, _, by omega, by go_num, rfl, by omega, by rw [HE.out]; exact V6, hw6⟩
            case measure => simp [intOf]; omega
        · obtain rfl : k = xs.length := by omega
          rw [List.take_length] at V
          go_wp2
          go_ret
          rw [E.out]
          exact NewI.mk V hw
end Go.Proofs.Ytjchndookaahiaa
