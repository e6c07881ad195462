/- Contracts: common groups, the groups of both sets. -/
import Derived.Test.YtbdboekjcgefhaaGa
import Derived.Test.YtbdboekjcgefhaaAp
namespace Go.Proofs.Ytbdboekjcgefhaa
set_option linter.unusedVariables false
open Go.RowKit

theorem hidI {p : Prop} (h : p) : Hid p := h

/-- The accepted groups below k. -/
def preL (p : Int → Bool) (k : Nat) : List Int := (([0, 1, 2, 3, 4] : List Int).take k).filter p
theorem preL_zero (p : Int → Bool) : preL p 0 = [] := rfl
theorem preL_full (p : Int → Bool) : preL p 5 = pickL p := rfl
theorem preL_snoc {k : Nat} (hk : k < 5) : ([0, 1, 2, 3, 4] : List Int).take (k + 1) = ([0, 1, 2, 3, 4] : List Int).take k ++ [(k : Int)] := by
  rcases (show k = 0 ∨ k = 1 ∨ k = 2 ∨ k = 3 ∨ k = 4 by omega) with rfl | rfl | rfl | rfl | rfl <;> rfl
theorem preL_yes {p : Int → Bool} {k : Nat} (hk : k < 5) (h : p (k : Int) = true) : preL p (k + 1) = preL p k ++ [(k : Int)] := by
  unfold preL
  rw [preL_snoc hk, List.filter_append]
  simp [h]
theorem preL_no {p : Int → Bool} {k : Nat} (hk : k < 5) (h : p (k : Int) = false) : preL p (k + 1) = preL p k := by
  unfold preL
  rw [preL_snoc hk, List.filter_append]
  simp [h]
theorem preL_le (p : Int → Bool) (k : Nat) : (preL p k).length ≤ 5 := by
  unfold preL
  refine Nat.le_trans (List.length_filter_le _ _) ?_
  rw [List.length_take]
  simp
  omega

theorem NewI.mk {xs : List Int} {w w' : World} {v : Value} {n : Nat} (V : IV w' w.heap.size v n xs) (hb : Below w.heap.size w w') : NewI xs w (.returned v) w' := by
  have hl := V.len
  subst hl
  obtain ⟨A, c, rfl, S⟩ := V.open_
  exact ⟨A, c, rfl, S, hb⟩
theorem IV.zero (w : World) (B : Nat) : IV w B (.slice none 0 0) 0 [] := (IS.nil w B).iv

set_option maxHeartbeats 1000000 in
theorem pickC_c (b1 b2 : Nat) (p : Int → Bool) (w : World)
    (hcl : Hid (∀ (g : Int) (W : World), Below w.heap.size w W → Calls Try.prog 41 #[.int .i64 g, .pointer (some ⟨b1, 0, none⟩), .pointer (some ⟨b2, 0, none⟩)] W fun e W' => e = .returned (.bool (p g)) ∧ Below W.heap.size W W')) :
    Calls Try.prog 40 #[.func (.func 41) #[] #[.pointer (some ⟨b1, 0, none⟩), .pointer (some ⟨b2, 0, none⟩)]] w (NewI (pickL p) w) := by
  have V0 : IV (w.alloc (.cells #[] 3)) w.heap.size (.slice (some ⟨w.heap.size, 0, none⟩) 0 0) 0 [] := (IS.full (xs := []) (Box.new w _ _) (by omega) (Nat.zero_le _)).iv
  go_enter Try.func40, Try.ntmps40
  go_wp2
  go_loopw [3, 6] (fun o i wr => ∃ (k n : Nat) (v : Value), k ≤ 5 ∧ i = .int .i64 k ∧ o = v ∧ n ≤ k ∧ IV wr w.heap.size v n (preL p k) ∧ Below w.heap.size w wr)
    (fun _ i _ => 5 - (intOf i).toNat)
  case atStart => exact ⟨0, 0, _, by omega, rfl, rfl, by omega, V0, by go_grown⟩
  case round =>
    clear V0
    obtain ⟨k, n, v, hk, rfl, rfl, hn, V, hw⟩ := hrel
    have hs := hw.size
    by_cases hlt : k < 5
    · rcases hp : p (k : Int) with _ | _
      · have C := hcl.out (k : Int) wr hw
        rw [hp] at C
        have HC := hidI C
        have HP : Hid _ := hp
        have HW : Hid _ := hw
        clear C hp hw
        go_wp2_with fail
        refine HC.out.mono ?_
        rintro e w1 ⟨rfl, hb⟩
        replace V := V.below hb
        have hw1 := bt HW.out hb
        clear hb HC
        go_wp2
        go_roundw
        case rel => exact ⟨k + 1, n, _, by omega, by go_num, rfl, by omega, by rw [preL_no hlt HP.out]; exact V, hw1⟩
        case measure => simp [intOf]; omega
      · have C := hcl.out (k : Int) wr hw
        rw [hp] at C
        have HC := hidI C
        have HP : Hid _ := hp
        have HW : Hid _ := hw
        clear C hp hw
        go_wp2_with fail
        refine HC.out.mono ?_
        rintro e w1 ⟨rfl, hb⟩
        replace V := V.below hb
        have hw1 := bt HW.out hb
        have hs1 := hw1.size
        clear hb HC
        go_wp2_with (at_builtin; refine wpList_append_IV (k : Int) rfl _ _ rfl rfl (V.alloc _) rfl (by simp) (by omega) (by simp; omega) ?_; intro v6 w6 V6 hb6 hg6)
        have hw6 : Below w.heap.size w w6 := (hw1.alloc hs1 _).trans hb6
        go_roundw
        case rel => exact ⟨k + 1, n + 1, _, by omega, by go_num, rfl, by omega, by rw [preL_yes hlt HP.out]; exact V6, hw6⟩
        case measure => simp [intOf]; omega
    · obtain rfl : k = 5 := by omega
      rw [preL_full] at V
      go_wp2
      go_ret
      exact NewI.mk V hw

set_option maxHeartbeats 1000000 in
theorem pickU_c (b1 b2 : Nat) (p : Int → Bool) (w : World)
    (hcl : Hid (∀ (g : Int) (W : World), Below w.heap.size w W → Calls Try.prog 46 #[.int .i64 g, .pointer (some ⟨b1, 0, none⟩), .pointer (some ⟨b2, 0, none⟩)] W fun e W' => e = .returned (.bool (p g)) ∧ Below W.heap.size W W')) :
    Calls Try.prog 40 #[.func (.func 46) #[] #[.pointer (some ⟨b1, 0, none⟩), .pointer (some ⟨b2, 0, none⟩)]] w (NewI (pickL p) w) := by
  have V0 : IV (w.alloc (.cells #[] 3)) w.heap.size (.slice (some ⟨w.heap.size, 0, none⟩) 0 0) 0 [] := (IS.full (xs := []) (Box.new w _ _) (by omega) (Nat.zero_le _)).iv
  go_enter Try.func40, Try.ntmps40
  go_wp2
  go_loopw [3, 6] (fun o i wr => ∃ (k n : Nat) (v : Value), k ≤ 5 ∧ i = .int .i64 k ∧ o = v ∧ n ≤ k ∧ IV wr w.heap.size v n (preL p k) ∧ Below w.heap.size w wr)
    (fun _ i _ => 5 - (intOf i).toNat)
  case atStart => exact ⟨0, 0, _, by omega, rfl, rfl, by omega, V0, by go_grown⟩
  case round =>
    clear V0
    obtain ⟨k, n, v, hk, rfl, rfl, hn, V, hw⟩ := hrel
    have hs := hw.size
    by_cases hlt : k < 5
    · rcases hp : p (k : Int) with _ | _
      · have C := hcl.out (k : Int) wr hw
        rw [hp] at C
        have HC := hidI C
        have HP : Hid _ := hp
        have HW : Hid _ := hw
        clear C hp hw
        go_wp2_with fail
        refine HC.out.mono ?_
        rintro e w1 ⟨rfl, hb⟩
        replace V := V.below hb
        have hw1 := bt HW.out hb
        clear hb HC
        go_wp2
        go_roundw
        case rel => exact ⟨k + 1, n, _, by omega, by go_num, rfl, by omega, by rw [preL_no hlt HP.out]; exact V, hw1⟩
        case measure => simp [intOf]; omega
      · have C := hcl.out (k : Int) wr hw
        rw [hp] at C
        have HC := hidI C
        have HP : Hid _ := hp
        have HW : Hid _ := hw
        clear C hp hw
        go_wp2_with fail
        refine HC.out.mono ?_
        rintro e w1 ⟨rfl, hb⟩
        replace V := V.below hb
        have hw1 := bt HW.out hb
        have hs1 := hw1.size
        clear hb HC
        go_wp2_with (at_builtin; refine wpList_append_IV (k : Int) rfl _ _ rfl rfl (V.alloc _) rfl (by simp) (by omega) (by simp; omega) ?_; intro v6 w6 V6 hb6 hg6)
        have hw6 : Below w.heap.size w w6 := (hw1.alloc hs1 _).trans hb6
        go_roundw
        case rel => exact ⟨k + 1, n + 1, _, by omega, by go_num, rfl, by omega, by rw [preL_yes hlt HP.out]; exact V6, hw6⟩
        case measure => simp [intOf]; omega
    · obtain rfl : k = 5 := by omega
      rw [preL_full] at V
      go_wp2
      go_ret
      exact NewI.mk V hw

set_option maxHeartbeats 1000000 in
theorem comCl_c (b1 b2 : Nat) (g : Int) (A : Option Addr) (xs : List Int) (c : Nat) (A' : Option Addr) (ys : List Int) (c' : Nat) (w : World) (hn : (xs.length : Int) ≤ 9223372036854775807) (hn' : (ys.length : Int) ≤ 9223372036854775807)
    (h1 : w.cell? ⟨b1, 0, none⟩ = some (.slice A xs.length c)) (h2 : w.cell? ⟨b2, 0, none⟩ = some (.slice A' ys.length c')) (hr : Rd w w.heap.size A (xs.map (Value.int .i64))) (hr' : Rd w w.heap.size A' (ys.map (Value.int .i64))) :
    Calls Try.prog 41 #[.int .i64 g, .pointer (some ⟨b1, 0, none⟩), .pointer (some ⟨b2, 0, none⟩)] w fun e w' => e = .returned (.bool (hasB xs g && hasB ys g)) ∧ Below w.heap.size w w' := by
  have H1 := fun w h => setHas_c A xs c g w hn h
  have H2 := fun w h => setHas_c A' ys c' g w hn' h
  rcases e1 : hasB xs g with _ | _ <;> rcases e2 : hasB ys g with _ | _
  all_goals
    rw [e1] at H1
    rw [e2] at H2
    clear e1 e2
    go_enter Try.func41, Try.ntmps41
    go_wp2_with fail
    refine (H1 _ hr).mono ?_
    rintro e w1 ⟨rfl, rfl⟩
    go_wp2_with fail
    try (refine (H2 _ hr').mono ?_; rintro e w1 ⟨rfl, rfl⟩; go_wp2_with fail)
    go_ret
    exact ⟨rfl, by go_grown⟩

set_option maxHeartbeats 1000000 in
theorem uniCl_c (b1 b2 : Nat) (g : Int) (A : Option Addr) (xs : List Int) (c : Nat) (A' : Option Addr) (ys : List Int) (c' : Nat) (w : World) (hn : (xs.length : Int) ≤ 9223372036854775807) (hn' : (ys.length : Int) ≤ 9223372036854775807)
    (h1 : w.cell? ⟨b1, 0, none⟩ = some (.slice A xs.length c)) (h2 : w.cell? ⟨b2, 0, none⟩ = some (.slice A' ys.length c')) (hr : Rd w w.heap.size A (xs.map (Value.int .i64))) (hr' : Rd w w.heap.size A' (ys.map (Value.int .i64))) :
    Calls Try.prog 46 #[.int .i64 g, .pointer (some ⟨b1, 0, none⟩), .pointer (some ⟨b2, 0, none⟩)] w fun e w' => e = .returned (.bool (hasB xs g || hasB ys g)) ∧ Below w.heap.size w w' := by
  have H1 := fun w h => setHas_c A xs c g w hn h
  have H2 := fun w h => setHas_c A' ys c' g w hn' h
  rcases e1 : hasB xs g with _ | _ <;> rcases e2 : hasB ys g with _ | _
  all_goals
    rw [e1] at H1
    rw [e2] at H2
    clear e1 e2
    go_enter Try.func46, Try.ntmps46
    go_wp2_with fail
    refine (H1 _ hr).mono ?_
    rintro e w1 ⟨rfl, rfl⟩
    go_wp2_with fail
    try (refine (H2 _ hr').mono ?_; rintro e w1 ⟨rfl, rfl⟩; go_wp2_with fail)
    go_ret
    exact ⟨rfl, by go_grown⟩

set_option maxHeartbeats 1000000 in
theorem implCom_c (A : Option Addr) (xs : List Int) (c : Nat) (A' : Option Addr) (ys : List Int) (c' : Nat) (w : World) (hn : xs.length ≤ 1048576) (hn' : ys.length ≤ 1048576)
    (hr : Rd w w.heap.size A (xs.map (Value.int .i64))) (hr' : Rd w w.heap.size A' (ys.map (Value.int .i64))) :
    Calls Try.prog 26 #[.slice A xs.length c, .slice A' ys.length c'] w (NewI (comL xs ys) w) := by
  have V1 := fun w h => implGV_c A xs c w hn h
  have V2 := fun w h => implGV_c A' ys c' w hn' h
  have hw := Below.refl w.heap.size w
  rcases e1 : gvB xs with _ | _
  · have E : Hid (comL xs ys = []) := com_no (by simp [e1])
    rw [e1] at V1
    clear V2 e1
    go_enter Try.func26, Try.ntmps26
    go_wp2_with fail
    refine (V1 _ (hr.below (by go_grown)).low).mono ?_
    rintro e w1 ⟨rfl, hb⟩
    have hw1 : Below w.heap.size w w1 := bu hb (by go_grown)
    clear hb V1
    go_wp2_with fail
    go_ret
    rw [E.out]
    exact NewI.mk (IV.zero _ _) hw1
  · have Bx := (Box.new w 24 #[.slice A xs.length c]).alloc (.cells #[.slice A' ys.length c'] 24)
    have By : Box ((w.alloc (.cells #[.slice A xs.length c] 24)).alloc (.cells #[.slice A' ys.length c'] 24)) (w.heap.size + 1) 24 #[.slice A' ys.length c'] := by simpa using Box.new (w.alloc (.cells #[.slice A xs.length c] 24)) 24 #[.slice A' ys.length c']
    have HBx := hidI Bx
    have HBy := hidI By
    rcases e2 : gvB ys with _ | _
    · have E : Hid (comL xs ys = []) := com_no (by simp [e2])
      rw [e1] at V1
      rw [e2] at V2
      clear e1 e2 Bx By
      go_enter Try.func26, Try.ntmps26
      go_wp2_with fail
      refine (V1 _ (hr.below (by go_grown)).low).mono ?_
      rintro e w1 ⟨rfl, hb⟩
      have hw1 : Below w.heap.size w w1 := bu hb (by go_grown)
      have By1 := (HBy.out.below hb).cell 0
      have ly := (HBy.out.below hb).lt
      simp only [List.getElem?_toArray, List.getElem?_cons_zero] at By1
      clear hb V1 HBx HBy
      go_wp2_with fail
      refine (V2 _ (hr'.below hw1).low).mono ?_
      rintro e w2 ⟨rfl, hb⟩
      have hw2 := bt hw1 hb
      clear hb By1 hw1
      go_wp2_with fail
      go_ret
      rw [E.out]
      exact NewI.mk (IV.zero _ _) hw2
    · have E : Hid (comL xs ys = pickL (fun g => hasB xs g && hasB ys g)) := com_yes e1 e2
      rw [e1] at V1
      rw [e2] at V2
      clear e1 e2 Bx By
      go_enter Try.func26, Try.ntmps26
      go_wp2_with fail
      refine (V1 _ (hr.below (by go_grown)).low).mono ?_
      rintro e w1 ⟨rfl, hb⟩
      have hw1 : Below w.heap.size w w1 := bu hb (by go_grown)
      have Bx1 := HBx.out.below hb
      have By1 := HBy.out.below hb
      have c1 := By1.cell 0
      have ly := By1.lt
      simp only [List.getElem?_toArray, List.getElem?_cons_zero] at c1
      have HBx1 := hidI Bx1
      have HBy1 := hidI By1
      clear hb V1 HBx HBy Bx1 By1
      go_wp2_with fail
      refine (V2 _ (hr'.below hw1).low).mono ?_
      rintro e w2 ⟨rfl, hb⟩
      have hw2 := bt hw1 hb
      have Bx2 := HBx1.out.below hb
      have By2 := HBy1.out.below hb
      clear hb c1 ly hw1 HBx1 HBy1 V2
      have HC : Hid (∀ (g : Int) (W : World), Below w2.heap.size w2 W → Calls Try.prog 41 #[.int .i64 g, .pointer (some ⟨w.heap.size, 0, none⟩), .pointer (some ⟨w.heap.size + 1, 0, none⟩)] W fun e W' => e = .returned (.bool (hasB xs g && hasB ys g)) ∧ Below W.heap.size W W') := fun g W hW =>
        comCl_c w.heap.size (w.heap.size + 1) g A xs c A' ys c' W (by omega) (by omega) (by simpa using (Bx2.below hW).cell 0) (by simpa using (By2.below hW).cell 0) ((hr.below hw2).low.below hW).low ((hr'.below hw2).low.below hW).low
      have HW := hidI hw2
      have HE := E
      clear Bx2 By2 hw2
      go_wp2_with fail
      refine (pickC_c _ _ _ w2 HC).mono ?_
      rintro e w3 ⟨A3, c3, rfl, S3, hb3⟩
      clear HC
      go_wp2_with fail
      go_ret
      rw [E.out]
      exact ⟨A3, c3, rfl, S3.mono HW.out.size, bt HW.out hb3⟩
set_option maxHeartbeats 1000000 in
theorem implUni_c (A : Option Addr) (xs : List Int) (c : Nat) (A' : Option Addr) (ys : List Int) (c' : Nat) (w : World) (hn : xs.length ≤ 1048576) (hn' : ys.length ≤ 1048576)
    (hr : Rd w w.heap.size A (xs.map (Value.int .i64))) (hr' : Rd w w.heap.size A' (ys.map (Value.int .i64))) :
    Calls Try.prog 37 #[.slice A xs.length c, .slice A' ys.length c'] w (NewI (uniL xs ys) w) := by
  have V1 := fun w h => implGV_c A xs c w hn h
  have V2 := fun w h => implGV_c A' ys c' w hn' h
  have hw := Below.refl w.heap.size w
  rcases e1 : gvB xs with _ | _
  · have E : Hid (uniL xs ys = []) := uni_no (by simp [e1])
    rw [e1] at V1
    clear V2 e1
    go_enter Try.func37, Try.ntmps37
    go_wp2_with fail
    refine (V1 _ (hr.below (by go_grown)).low).mono ?_
    rintro e w1 ⟨rfl, hb⟩
    have hw1 : Below w.heap.size w w1 := bu hb (by go_grown)
    clear hb V1
    go_wp2_with fail
    go_ret
    rw [E.out]
    exact NewI.mk (IV.zero _ _) hw1
  · have Bx := (Box.new w 24 #[.slice A xs.length c]).alloc (.cells #[.slice A' ys.length c'] 24)
    have By : Box ((w.alloc (.cells #[.slice A xs.length c] 24)).alloc (.cells #[.slice A' ys.length c'] 24)) (w.heap.size + 1) 24 #[.slice A' ys.length c'] := by simpa using Box.new (w.alloc (.cells #[.slice A xs.length c] 24)) 24 #[.slice A' ys.length c']
    have HBx := hidI Bx
    have HBy := hidI By
    rcases e2 : gvB ys with _ | _
    · have E : Hid (uniL xs ys = []) := uni_no (by simp [e2])
      rw [e1] at V1
      rw [e2] at V2
      clear e1 e2 Bx By
      go_enter Try.func37, Try.ntmps37
      go_wp2_with fail
      refine (V1 _ (hr.below (by go_grown)).low).mono ?_
      rintro e w1 ⟨rfl, hb⟩
      have hw1 : Below w.heap.size w w1 := bu hb (by go_grown)
      have By1 := (HBy.out.below hb).cell 0
      have ly := (HBy.out.below hb).lt
      simp only [List.getElem?_toArray, List.getElem?_cons_zero] at By1
      clear hb V1 HBx HBy
      go_wp2_with fail
      refine (V2 _ (hr'.below hw1).low).mono ?_
      rintro e w2 ⟨rfl, hb⟩
      have hw2 := bt hw1 hb
      clear hb By1 hw1
      go_wp2_with fail
      go_ret
      rw [E.out]
      exact NewI.mk (IV.zero _ _) hw2
    · have E : Hid (uniL xs ys = pickL (fun g => hasB xs g || hasB ys g)) := uni_yes e1 e2
      rw [e1] at V1
      rw [e2] at V2
      clear e1 e2 Bx By
      go_enter Try.func37, Try.ntmps37
      go_wp2_with fail
      refine (V1 _ (hr.below (by go_grown)).low).mono ?_
      rintro e w1 ⟨rfl, hb⟩
      have hw1 : Below w.heap.size w w1 := bu hb (by go_grown)
      have Bx1 := HBx.out.below hb
      have By1 := HBy.out.below hb
      have c1 := By1.cell 0
      have ly := By1.lt
      simp only [List.getElem?_toArray, List.getElem?_cons_zero] at c1
      have HBx1 := hidI Bx1
      have HBy1 := hidI By1
      clear hb V1 HBx HBy Bx1 By1
      go_wp2_with fail
      refine (V2 _ (hr'.below hw1).low).mono ?_
      rintro e w2 ⟨rfl, hb⟩
      have hw2 := bt hw1 hb
      have Bx2 := HBx1.out.below hb
      have By2 := HBy1.out.below hb
      clear hb c1 ly hw1 HBx1 HBy1 V2
      have HC : Hid (∀ (g : Int) (W : World), Below w2.heap.size w2 W → Calls Try.prog 46 #[.int .i64 g, .pointer (some ⟨w.heap.size, 0, none⟩), .pointer (some ⟨w.heap.size + 1, 0, none⟩)] W fun e W' => e = .returned (.bool (hasB xs g || hasB ys g)) ∧ Below W.heap.size W W') := fun g W hW =>
        uniCl_c w.heap.size (w.heap.size + 1) g A xs c A' ys c' W (by omega) (by omega) (by simpa using (Bx2.below hW).cell 0) (by simpa using (By2.below hW).cell 0) ((hr.below hw2).low.below hW).low ((hr'.below hw2).low.below hW).low
      have HW := hidI hw2
      have HE := E
      clear Bx2 By2 hw2
      go_wp2_with fail
      refine (pickU_c _ _ _ w2 HC).mono ?_
      rintro e w3 ⟨A3, c3, rfl, S3, hb3⟩
      clear HC
      go_wp2_with fail
      go_ret
      rw [E.out]
      exact ⟨A3, c3, rfl, S3.mono HW.out.size, bt HW.out hb3⟩
end Go.Proofs.Ytbdboekjcgefhaa
