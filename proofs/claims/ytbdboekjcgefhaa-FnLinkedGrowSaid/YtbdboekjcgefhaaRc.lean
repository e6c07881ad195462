/- Contracts: sets are valid; the sets that name a group. -/
import Derived.Test.YtbdboekjcgefhaaRb
import Derived.Test.YtbdboekjcgefhaaGc
import Derived.Test.YtbdboekjcgefhaaPlainL
namespace Go.Proofs.Ytbdboekjcgefhaa
set_option linter.unusedVariables false
open Go.RowKit

/-- The indexes below k whose sets name g. -/
def namAt (sets : List (List Int)) (g : Int) (k : Nat) : List Int := ((List.range k).filter (fun i => hasB (sets.getD i []) g)).map (fun i : Nat => (i : Int))
theorem namAt_zero (sets : List (List Int)) (g : Int) : namAt sets g 0 = [] := rfl
theorem namAt_yes {sets : List (List Int)} {g : Int} {k : Nat} {s : List Int} (h : sets[k]? = some s) (hs : hasB s g = true) : namAt sets g (k + 1) = namAt sets g k ++ [(k : Int)] := by
  unfold namAt
  rw [List.range_succ, List.filter_append, List.map_append]
  simp [h, hs]
theorem namAt_no {sets : List (List Int)} {g : Int} {k : Nat} {s : List Int} (h : sets[k]? = some s) (hs : hasB s g = false) : namAt sets g (k + 1) = namAt sets g k := by
  unfold namAt
  rw [List.range_succ, List.filter_append, List.map_append]
  simp [h, hs]
theorem namAt_le (sets : List (List Int)) (g : Int) (k : Nat) : (namAt sets g k).length ≤ k := by
  unfold namAt
  rw [List.length_map]
  refine Nat.le_trans (List.length_filter_le _ _) ?_
  simp
theorem namAt_mem {sets : List (List Int)} {g : Int} {k : Nat} {i : Int} : i ∈ namAt sets g k ↔ ∃ j : Nat, i = (j : Int) ∧ j < k ∧ hasB (sets.getD j []) g = true := by
  unfold namAt
  simp only [List.mem_map, List.mem_filter, List.mem_range]
  constructor
  · rintro ⟨j, ⟨h1, h2⟩, rfl⟩; exact ⟨j, rfl, h1, h2⟩
  · rintro ⟨j, rfl, h1, h2⟩; exact ⟨j, ⟨h1, h2⟩, rfl⟩
noncomputable def namL (sets : List (List Int)) (g : Int) : List Int := if setsB sets g = true then namAt sets g sets.length else []
theorem nam_yes {sets : List (List Int)} {g : Int} (h : setsB sets g = true) : namL sets g = namAt sets g sets.length := if_pos h
theorem nam_no {sets : List (List Int)} {g : Int} (h : setsB sets g = false) : namL sets g = [] := if_neg (by simp [h])
theorem nam_le (sets : List (List Int)) (g : Int) : (namL sets g).length ≤ 12 := by
  rcases h : setsB sets g with _ | _
  · rw [nam_no h]; simp
  · rw [nam_yes h]
    exact Nat.le_trans (namAt_le _ _ _) (setsB_iff.1 h).2.1

theorem all_take' {sets : List (List Int)} {k : Nat} {s : List Int} (hx : sets[k]? = some s) (h : (sets.take k).all gvB = true) (hs : gvB s = true) : (sets.take (k + 1)).all gvB = true := by
  rw [take_at hx, List.all_append, h]
  simp [hs]
theorem all_no' {sets : List (List Int)} {k : Nat} {s : List Int} (hx : sets[k]? = some s) (hs : gvB s = false) : sets.all gvB = false := by
  rw [Bool.eq_false_iff]
  intro h
  have := List.all_eq_true.1 h s (mem_at hx)
  rw [hs] at this
  cases this
theorem setsB_all {sets : List (List Int)} {g : Int} (h : sets.all gvB = false) : setsB sets g = false := by simp [setsB, h]

set_option maxHeartbeats 2000000 in
theorem areSets_c (A : Option Addr) (hs : List Hnd) (c : Nat) (g : Int) (w : World) (hn : hs.length ≤ 1048576) (hl : Hid (∀ h ∈ hs, h.xs.length ≤ 1048576)) (hr : Hid (RR w A hs)) :
    Calls Try.prog 32 #[.slice A hs.length c, .int .i64 g] w fun e w' => e = .returned (.bool (setsB (rowsOf hs) g)) ∧ Below w.heap.size w w' := by
  by_cases h12 : 12 < hs.length
  · have E := hidI (show setsB (rowsOf hs) g = false by
      have : ¬ (rowsOf hs).length ≤ 12 := by rw [rowsOf_length]; omega
      simp [setsB, this])
    have d1 : decide ((12 : Int) < (hs.length : Int)) = true := decide_eq_true (by omega)
    go_enter Try.func32, Try.ntmps32
    go_wp2_with fail
    go_ret
    exact ⟨ret_bool E.out.symm, by go_grown⟩
  have d1 : decide ((12 : Int) < (hs.length : Int)) = false := decide_eq_false (by omega)
  have C0 := fun w => isGroup_c g w
  rcases hg : inB g 0 4 with _ | _
  · have E := hidI (show setsB (rowsOf hs) g = false by simp [setsB, hg])
    rw [hg] at C0
    clear hg
    go_enter Try.func32, Try.ntmps32
    go_wp2_with fail
    refine (C0 _).mono ?_
    rintro e w' ⟨rfl, rfl⟩
    clear C0
    go_wp2_with fail
    go_ret
    exact ⟨ret_bool E.out.symm, by go_grown⟩
  have E := hidI (show setsB (rowsOf hs) g = (rowsOf hs).all gvB by
    have : (rowsOf hs).length ≤ 12 := by rw [rowsOf_length]; omega
    simp [setsB, hg, this])
  rw [hg] at C0
  clear hg
  go_enter Try.func32, Try.ntmps32
  go_wp2_with fail
  refine (C0 _).mono ?_
  rintro e w' ⟨rfl, rfl⟩
  clear C0
  go_wp2_with fail
  go_loopw [17] (fun i wr => ∃ k : Nat, k ≤ hs.length ∧ i = .int .i64 k ∧ Hid (((rowsOf hs).take k).all gvB = true) ∧ Below w.heap.size w wr)
    (fun i _ => hs.length - (intOf i).toNat)
  case atStart => exact ⟨0, Nat.zero_le _, rfl, by simp [Hid], by go_grown⟩
  case round =>
    obtain ⟨k, hk, rfl, HA, hw⟩ := hrel
    by_cases hlt : k < hs.length
    · obtain ⟨b, o, A1, c1, xs, rfl, hb, hx, d0, hrow⟩ := (hr.out.below hw).at_ hlt
      have hx1 := hl.out _ (mem_at hx.out)
      simp only at hx1
      have CV := implGV_c A1 xs c1 wr hx1 hrow
      have HW := hidI hw
      clear hw hrow hx1
      rcases hv : gvB xs with _ | _
      · rw [hv] at CV
        have HC := hidI CV
        have E1 := hidI (show setsB (rowsOf hs) g = false by rw [E.out]; exact all_no' (rowsOf_at hx.out) hv)
        clear CV hv
        go_wp2_with fail
        refine Calls.mono HC.out ?_
        rintro e w1 ⟨rfl, hb1⟩
        have hw1 := bt HW.out hb1
        clear hb1 HC
        go_wp2_with fail
        go_ret
        exact ⟨ret_bool E1.out.symm, hw1⟩
      · rw [hv] at CV
        have HC := hidI CV
        have HA1 := hidI (all_take' (rowsOf_at hx.out) HA.out hv)
        clear CV hv
        go_wp2_with fail
        refine Calls.mono HC.out ?_
        rintro e w1 ⟨rfl, hb1⟩
        have hw1 := bt HW.out hb1
        clear hb1 HC
        go_wp2_with fail
        go_roundw
        case rel => exact ⟨k + 1, by omega, by go_num, HA1, hw1⟩
        case measure => simp [intOf]; omega
    · obtain rfl : k = hs.length := by omega
      have E1 := hidI (show setsB (rowsOf hs) g = true by
        rw [E.out]
        have := HA.out
        rwa [← rowsOf_length, List.take_length] at this)
      go_wp2
      go_ret
      exact ⟨ret_bool E1.out.symm, hw⟩

set_option maxHeartbeats 2000000 in
theorem l1Sets_c (A : Option Addr) (hs : List Hnd) (c : Nat) (w : World) (hn : hs.length ≤ 1048576) (hl : Hid (∀ h ∈ hs, h.xs.length ≤ 1048576)) (hr : Hid (RR w A hs)) :
    Calls Try.prog 28 #[.slice A hs.length c] w fun e w' => e = .returned (.bool ((rowsOf hs).all gvB && decide (hs.length ≤ 12))) ∧ Below w.heap.size w w' := by
  go_enter Try.func28, Try.ntmps28
  go_wp2_with fail
  go_loopw [3] (fun i wr => ∃ k : Nat, k ≤ hs.length ∧ i = .int .i64 k ∧ Hid (((rowsOf hs).take k).all gvB = true) ∧ Below w.heap.size w wr)
    (fun i _ => hs.length - (intOf i).toNat)
  case atStart => exact ⟨0, Nat.zero_le _, rfl, by simp [Hid], by go_grown⟩
  case round =>
    obtain ⟨k, hk, rfl, HA, hw⟩ := hrel
    by_cases hlt : k < hs.length
    · obtain ⟨b, o, A1, c1, xs, rfl, hb, hx, d0, hrow⟩ := (hr.out.below hw).at_ hlt
      have hx1 := hl.out _ (mem_at hx.out)
      simp only at hx1
      have CV := specGV_c A1 xs c1 wr hx1 hrow
      have HW := hidI hw
      clear hw hrow hx1
      rcases hv : gvB xs with _ | _
      · rw [hv] at CV
        have HC := hidI CV
        have E1 := hidI (show ((rowsOf hs).all gvB && decide (hs.length ≤ 12)) = false by rw [all_no' (rowsOf_at hx.out) hv]; rfl)
        clear CV hv
        go_wp2_with fail
        refine Calls.mono HC.out ?_
        rintro e w1 ⟨rfl, hb1⟩
        have hw1 := bt HW.out hb1
        clear hb1 HC
        go_wp2_with fail
        go_ret
        exact ⟨ret_bool E1.out.symm, hw1⟩
      · rw [hv] at CV
        have HC := hidI CV
        have HA1 := hidI (all_take' (rowsOf_at hx.out) HA.out hv)
        clear CV hv
        go_wp2_with fail
        refine Calls.mono HC.out ?_
        rintro e w1 ⟨rfl, hb1⟩
        have hw1 := bt HW.out hb1
        clear hb1 HC
        go_wp2_with fail
        go_roundw
        case rel => exact ⟨k + 1, by omega, by go_num, HA1, hw1⟩
        case measure => simp [intOf]; omega
    · obtain rfl : k = hs.length := by omega
      have ha : (rowsOf hs).all gvB = true := by
        have := HA.out
        rwa [← rowsOf_length, List.take_length] at this
      by_cases h12 : hs.length ≤ 12
      · have E1 := hidI (show ((rowsOf hs).all gvB && decide (hs.length ≤ 12)) = true by rw [ha]; simp [h12])
        have d1 : decide ((hs.length : Int) ≤ 12) = true := decide_eq_true (by omega)
        clear ha
        go_wp2
        go_ret
        exact ⟨ret_bool E1.out.symm, hw⟩
      · have E1 := hidI (show ((rowsOf hs).all gvB && decide (hs.length ≤ 12)) = false by rw [ha]; simp [h12])
        have d1 : decide ((hs.length : Int) ≤ 12) = false := decide_eq_false (by omega)
        clear ha
        go_wp2
        go_ret
        exact ⟨ret_bool E1.out.symm, hw⟩
theorem setsB_split (sets : List (List Int)) (g : Int) : setsB sets g = ((sets.all gvB && decide (sets.length ≤ 12)) && inB g 0 4) := by
  simp [setsB, Bool.and_assoc]

set_option maxHeartbeats 2000000 in
theorem implNam_c (A : Option Addr) (hs : List Hnd) (c : Nat) (g : Int) (w : World) (hn : hs.length ≤ 1048576) (hl : Hid (∀ h ∈ hs, h.xs.length ≤ 1048576)) (hr : Hid (RR w A hs)) :
    Calls Try.prog 14 #[.slice A hs.length c, .int .i64 g] w (NewI (namL (rowsOf hs) g) w) := by
  have C0 := areSets_c A hs c g w hn hl hr
  rcases e0 : setsB (rowsOf hs) g with _ | _
  · have E := hidI (nam_no e0)
    rw [e0] at C0
    have HC0 := hidI C0
    clear C0 e0
    go_enter Try.func14, Try.ntmps14
    go_wp2_with fail
    refine Calls.mono HC0.out ?_
    rintro e w1 ⟨rfl, hb⟩
    clear HC0
    go_wp2_with fail
    go_ret
    rw [E.out]
    exact NewI.mk (IV.zero _ _) hb
  · have E := hidI (nam_yes e0)
    have h12 : hs.length ≤ 12 := by have := (setsB_iff.1 e0).2.1; rwa [rowsOf_length] at this
    rw [e0] at C0
    have HC0 := hidI C0
    clear C0 e0
    go_enter Try.func14, Try.ntmps14
    go_wp2_with fail
    refine Calls.mono HC0.out ?_
    rintro e w1 ⟨rfl, hb⟩
    have hs1 := hb.size
    have V0 : IV (w1.alloc (.cells #[] 3)) w.heap.size (.slice (some ⟨w1.heap.size, 0, none⟩) 0 0) 0 [] := (IS.full (xs := []) (Box.new w1 _ _) hs1 (Nat.zero_le _)).iv
    have hw1 : Below w.heap.size w (w1.alloc (.cells #[] 3)) := hb.alloc hs1 _
    clear hb HC0
    go_wp2_with fail
    go_loopw [5, 15] (fun o i wr => ∃ (k n : Nat) (v : Value), k ≤ hs.length ∧ i = .int .i64 k ∧ o = v ∧ n ≤ k ∧ IV wr w.heap.size v n (namAt (rowsOf hs) g k) ∧ Below w.heap.size w wr)
      (fun _ i _ => hs.length - (intOf i).toNat)
    case atStart => exact ⟨0, 0, _, Nat.zero_le _, rfl, rfl, Nat.le_refl _, V0, hw1⟩
    case round =>
      clear V0 hw1
      obtain ⟨k, n, v, hk, rfl, rfl, hnk, V, hw⟩ := hrel
      by_cases hlt : k < hs.length
      · obtain ⟨b, o, A1, c1, xs, rfl, hb, hx, d0, hrow⟩ := (hr.out.below hw).at_ hlt
        have hx1 := hl.out _ (mem_at hx.out)
        simp only at hx1
        have CV := setHas_c A1 xs c1 g wr (by omega) hrow
        have hws := hw.size
        have HW := hidI hw
        clear hw hrow hx1
        rcases hv : hasB xs g with _ | _
        · rw [hv] at CV
          have HC := hidI CV
          have HE := hidI (namAt_no (rowsOf_at hx.out) hv)
          clear CV hv
          go_wp2_with fail
          refine Calls.mono HC.out ?_
          rintro e w1 ⟨rfl, rfl⟩
          clear HC
          go_wp2_with fail
          go_roundw
          case rel => exact ⟨k + 1, n, _, by omega, by go_num, rfl, by omega, by rw [HE.out]; exact V, HW.out⟩
          case measure => simp [intOf]; omega
        · rw [hv] at CV
          have HC := hidI CV
          have HE := hidI (namAt_yes (rowsOf_at hx.out) hv)
          clear CV hv
          go_wp2_with fail
          refine Calls.mono HC.out ?_
          rintro e w1 ⟨rfl, rfl⟩
          clear HC
          go_wp2_with (at_builtin; refine wpList_append_IV (k : Int) rfl _ _ rfl rfl (V.alloc _) rfl (by simp) (by omega) (by simp; omega) ?_; intro v6 w6 V6 hb6 hg6)
          have hw6 : Below w.heap.size w w6 := (HW.out.alloc hws _).trans hb6
          go_roundw
          case rel => exact ⟨k + 1, n + 1, _, by omega, by go_num, rfl, by omega, by rw [HE.out]; exact V6, hw6⟩
          case measure => simp [intOf]; omega
      · obtain rfl : k = hs.length := by omega
        rw [← rowsOf_length] at V
        go_wp2
        go_ret
        rw [E.out]
        exact NewI.mk V hw

set_option maxHeartbeats 2000000 in
theorem specNam_c (A : Option Addr) (hs : List Hnd) (c : Nat) (g : Int) (w : World) (hn : hs.length ≤ 1048576) (hl : Hid (∀ h ∈ hs, h.xs.length ≤ 1048576)) (hr : Hid (RR w A hs)) :
    Calls Try.prog 12 #[.slice A hs.length c, .int .i64 g] w (NewI (namL (rowsOf hs) g) w) := by
  have V0 : IV (w.alloc (.cells #[] 3)) w.heap.size (.slice (some ⟨w.heap.size, 0, none⟩) 0 0) 0 [] := (IS.full (xs := []) (Box.new w _ _) (by omega) (Nat.zero_le _)).iv
  have C0 := fun W h => l1Sets_c A hs c W hn hl h
  have C1 := fun W => l1Group_c g W
  have ES := setsB_split (rowsOf hs) g
  rw [rowsOf_length] at ES
  rcases e0 : ((rowsOf hs).all gvB && decide (hs.length ≤ 12)) with _ | _
  · have E := hidI (nam_no (sets := rowsOf hs) (g := g) (by rw [ES, e0]; rfl))
    rw [e0] at C0
    have HC0 := hidI C0
    clear C0 e0 ES C1
    go_enter Try.func12, Try.ntmps12
    go_wp2_with fail
    refine (HC0.out _ (hr.out.alloc _)).mono ?_
    rintro e w1 ⟨rfl, hb⟩
    replace V0 := V0.below hb
    have hw1 : Below w.heap.size w w1 := bu hb (by go_grown)
    clear HC0 hb
    go_wp2_with fail
    go_ret
    rw [E.out]
    exact NewI.mk V0 hw1
  · rcases e1 : inB g 0 4 with _ | _
    · have E := hidI (nam_no (sets := rowsOf hs) (g := g) (by rw [ES, e0, e1]; rfl))
      rw [e0] at C0
      rw [e1] at C1
      have HC0 := hidI C0
      have HC1 := hidI C1
      clear C0 e0 ES C1 e1
      go_enter Try.func12, Try.ntmps12
      go_wp2_with fail
      refine (HC0.out _ (hr.out.alloc _)).mono ?_
      rintro e w1 ⟨rfl, hb⟩
      replace V0 := V0.below hb
      have hw1 : Below w.heap.size w w1 := bu hb (by go_grown)
      clear HC0 hb
      go_wp2_with fail
      refine (HC1.out _).mono ?_
      rintro e w' ⟨rfl, rfl⟩
      go_wp2_with fail
      go_ret
      rw [E.out]
      exact NewI.mk V0 hw1
    · have E := hidI (nam_yes (sets := rowsOf hs) (g := g) (by rw [ES, e0, e1]; rfl))
      have h12 : hs.length ≤ 12 := by
        simp only [Bool.and_eq_true, decide_eq_true_eq] at e0
        exact e0.2
      rw [e0] at C0
      rw [e1] at C1
      have HC0 := hidI C0
      have HC1 := hidI C1
      clear C0 e0 ES C1 e1
      go_enter Try.func12, Try.ntmps12
      go_wp2_with fail
      refine (HC0.out _ (hr.out.alloc _)).mono ?_
      rintro e w1 ⟨rfl, hb⟩
      replace V0 := V0.below hb
      have hw1 : Below w.heap.size w w1 := bu hb (by go_grown)
      clear HC0 hb
      go_wp2_with fail
      refine (HC1.out _).mono ?_
      rintro e w' ⟨rfl, rfl⟩
      clear HC1
      go_wp2_with fail
      go_loopw [5, 6] (fun o i wr => ∃ (k n : Nat) (v : Value), k ≤ hs.length ∧ i = .int .i64 k ∧ o = v ∧ n ≤ k ∧ IV wr w.heap.size v n (namAt (rowsOf hs) g k) ∧ Below w.heap.size w wr)
        (fun _ i _ => hs.length - (intOf i).toNat)
      case atStart => exact ⟨0, 0, _, Nat.zero_le _, rfl, rfl, Nat.le_refl _, V0, hw1⟩
      case round =>
        clear V0 hw1
        obtain ⟨k, n, v, hk, rfl, rfl, hnk, V, hw⟩ := hrel
        by_cases hlt : k < hs.length
        · obtain ⟨b, o, A1, c1, xs, rfl, hb, hx, d0, hrow⟩ := (hr.out.below hw).at_ hlt
          have hx1 := hl.out _ (mem_at hx.out)
          simp only at hx1
          have CV := l1Has_c A1 xs c1 g wr (by omega) hrow
          have hws := hw.size
          have HW := hidI hw
          clear hw hrow hx1
          rcases hv : hasB xs g with _ | _
          · rw [hv] at CV
            have HC := hidI CV
            have HE := hidI (namAt_no (rowsOf_at hx.out) hv)
            clear CV hv
            go_wp2_with fail
            refine Calls.mono HC.out ?_
            rintro e w1 ⟨rfl, rfl⟩
            clear HC
            go_wp2_with fail
            go_roundw
            case rel => exact ⟨k + 1, n, _, by omega, by go_num, rfl, by omega, by rw [HE.out]; exact V, HW.out⟩
            case measure => simp [intOf]; omega
          · rw [hv] at CV
            have HC := hidI CV
            have HE := hidI (namAt_yes (rowsOf_at hx.out) hv)
            clear CV hv
            go_wp2_with fail
            refine Calls.mono HC.out ?_
            rintro e w1 ⟨rfl, rfl⟩
            clear HC
            go_wp2_with (at_builtin; refine wpList_append_IV (k : Int) rfl _ _ rfl rfl (V.alloc _) rfl (by simp) (by omega) (by simp; omega) ?_; intro v6 w6 V6 hb6 hg6)
            have hw6 : Below w.heap.size w w6 := (HW.out.alloc hws _).trans hb6
            go_roundw
            case rel => exact ⟨k + 1, n + 1, _, by omega, by go_num, rfl, by omega, by rw [HE.out]; exact V6, hw6⟩
            case measure => simp [intOf]; omega
        · obtain rfl : k = hs.length := by omega
          rw [← rowsOf_length] at V
          go_wp2
          go_ret
          rw [E.out]
          exact NewI.mk V hw
end Go.Proofs.Ytbdboekjcgefhaa
