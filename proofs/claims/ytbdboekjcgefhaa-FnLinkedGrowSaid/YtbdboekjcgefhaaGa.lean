/- Contracts: sets of groups are valid, contain a group. -/
import Derived.Test.YtbdboekjcgefhaaIa
import Derived.Test.YtbdboekjcgefhaaCa
namespace Go.Proofs.Ytbdboekjcgefhaa
set_option linter.unusedVariables false
open Go.RowKit

set_option maxHeartbeats 1000000 in
theorem ascending_c (A : Option Addr) (xs : List Int) (c : Nat) (w : World) (hn : (xs.length : Int) ≤ 9223372036854775806) (hr : Rd w w.heap.size A (xs.map (Value.int .i64))) :
    Calls Try.prog 48 #[.slice A xs.length c] w fun e w' => e = .returned (.bool (ascB xs)) ∧ Below w.heap.size w w' := by
  go_enter Try.func48, Try.ntmps48
  go_wp2
  go_loopw [3] (fun i wr => ∃ k : Nat, (k = 0 ∨ k + 1 ≤ xs.length) ∧ i = .int .i64 ((k : Int) + 1) ∧ Hid (ascP (xs.take (k + 1))) ∧ Below w.heap.size w wr)
    (fun i _ => xs.length - (intOf i).toNat)
  case atStart => exact ⟨0, .inl rfl, rfl, asc_short (by rw [List.length_take]; omega), by go_grown⟩
  case round =>
    obtain ⟨k, hk, rfl, HS, hw⟩ := hrel
    by_cases hlt : k + 1 < xs.length
    · obtain ⟨b, o, rfl, hb, hcell⟩ := (hr.below hw).lit (by simp; omega)
      obtain ⟨x, hx⟩ : ∃ x, xs[k]? = some x := ⟨_, List.getElem?_eq_getElem (by omega)⟩
      obtain ⟨y, hy⟩ : ∃ y, xs[k + 1]? = some y := ⟨_, List.getElem?_eq_getElem hlt⟩
      have d0 := hcell k (.int .i64 x) (by rw [List.getElem?_map, hx]; rfl)
      have d1 := hcell (k + 1) (.int .i64 y) (by rw [List.getElem?_map, hy]; rfl)
      have hbw : b < wr.heap.size := by have := hw.size; omega
      have HW : Hid _ := hw
      have HX : Hid _ := hx
      have HY : Hid _ := hy
      have i1 : (0 : Int) ≤ (k : Int) + 1 := by omega
      have i2 : (k : Int) + 1 < (xs.length : Int) := by omega
      have i3 : ((k : Int) + 1).toNat = k + 1 := by omega
      have i4 : (k : Int) + 1 - 1 = k := by omega
      have i5 : (k : Int) < (xs.length : Int) := by omega
      have i6 : IntKind.i64.wrap ((k : Int) + 1 - 1) = k := by rw [IntWalk.i64_in _ (by omega)]; omega
      clear hcell hx hy hw hk
      by_cases hl : x < y
      · have hl' : ¬ y ≤ x := by omega
        go_wp2_with fail
        refine wp_region_ext (by first | with_reducible assumption | exact Below.refl _ _) (by kernel_rfl) (by kernel_rfl) ?_
        intro hx hx2
        repeat (go_big_quiet_step (fail))
        refine wpQuiet_nil ?_
        clear hx hx2
        rintro _ ⟨⟨w1, hb⟩, rfl⟩
        have hK := bt (by first | with_reducible assumption | exact Below.refl _ _) hb
        have hc := bcell hK
        have hf := bfrozen hK
        have hs := bsize hK
        clear hb
        (try (refine bw (w := w) hK ?_ ?_; (focus (first | exact HW.out | (have hq := HW.out; go_grown; done) | (go_grown; done))); intro hw hwz; have hK := hK))
        (try (refine bz hK (w.heap.size) ?_ ?_; (focus (first | omega | (simp; done) | (simp; omega))); intro hz0 hd0 hg0))
        (try (refine bz hK (w.heap.size + 1) ?_ ?_; (focus (first | omega | (simp; done) | (simp; omega))); intro hz1 hd1 hg1))
        (try (refine bz hK (w.heap.size + 2) ?_ ?_; (focus (first | omega | (simp; done) | (simp; omega))); intro hz2 hd2 hg2))
        (try (refine bz hK (w.heap.size + 3) ?_ ?_; (focus (first | omega | (simp; done) | (simp; omega))); intro hz3 hd3 hg3))
        (try (refine bz hK g ?_ ?_; (focus (first | omega | (simp; done) | (simp; omega))); intro hzg hdg hgg))
        (try (refine bz hK g1 ?_ ?_; (focus (first | omega | (simp; done) | (simp; omega))); intro hzg hdg hgg))
        (try (refine bz hK g2 ?_ ?_; (focus (first | omega | (simp; done) | (simp; omega))); intro hzg hdg hgg))
        go_wp2
        go_roundw
        case rel => exact ⟨k + 1, .inr (by omega), by go_num, asc_take HS.out HX.out HY.out hl, bt HW.out hK⟩
        case measure => simp [intOf]; omega
      · have hl' : y ≤ x := by omega
        have e0 : Hid (ascB xs = false) := ascB_no.2 (asc_no HX.out HY.out hl')
        go_wp2_with fail
        refine wp_region_ext (by first | with_reducible assumption | exact Below.refl _ _) (by kernel_rfl) (by kernel_rfl) ?_
        intro hx hx2
        repeat (go_big_quiet_step (fail))
        refine wpQuiet_nil ?_
        clear hx hx2
        rintro _ ⟨⟨w1, hb⟩, rfl⟩
        have hK := bt (by first | with_reducible assumption | exact Below.refl _ _) hb
        have hc := bcell hK
        have hf := bfrozen hK
        have hs := bsize hK
        clear hb
        (try (refine bw (w := w) hK ?_ ?_; (focus (first | exact HW.out | (have hq := HW.out; go_grown; done) | (go_grown; done))); intro hw hwz; have hK := hK))
        (try (refine bz hK (w.heap.size) ?_ ?_; (focus (first | omega | (simp; done) | (simp; omega))); intro hz0 hd0 hg0))
        (try (refine bz hK (w.heap.size + 1) ?_ ?_; (focus (first | omega | (simp; done) | (simp; omega))); intro hz1 hd1 hg1))
        (try (refine bz hK (w.heap.size + 2) ?_ ?_; (focus (first | omega | (simp; done) | (simp; omega))); intro hz2 hd2 hg2))
        (try (refine bz hK (w.heap.size + 3) ?_ ?_; (focus (first | omega | (simp; done) | (simp; omega))); intro hz3 hd3 hg3))
        (try (refine bz hK g ?_ ?_; (focus (first | omega | (simp; done) | (simp; omega))); intro hzg hdg hgg))
        (try (refine bz hK g1 ?_ ?_; (focus (first | omega | (simp; done) | (simp; omega))); intro hzg hdg hgg))
        (try (refine bz hK g2 ?_ ?_; (focus (first | omega | (simp; done) | (simp; omega))); intro hzg hdg hgg))
        go_wp2
        go_ret
        exact ⟨ret_bool e0.out.symm, bt HW.out hK⟩
    · have e0 : Hid (ascB xs = true) := ascB_iff.2 (by
        by_cases h1 : xs.length ≤ 1
        · exact asc_short h1
        · have h2 : k + 1 = xs.length := by omega
          exact asc_full HS.out h2)
      have hlt' : ¬ (k : Int) + 1 < (xs.length : Int) := by omega
      have hkm : (k : Int) + 1 ≤ 9223372036854775807 := by omega
      go_wp2
      go_ret
      exact ⟨ret_bool e0.out.symm, hw⟩

theorem gv_split (xs : List Int) : gvB xs = (decide (0 < xs.length) && (ascB xs && rgB xs 0 4)) := rfl

set_option maxHeartbeats 1000000 in
theorem setValid_c (A : Option Addr) (xs : List Int) (c : Nat) (w : World) (hn : xs.length ≤ 1048576) (hr : Rd w w.heap.size A (xs.map (Value.int .i64))) :
    Calls Try.prog 47 #[.slice A xs.length c] w fun e w' => e = .returned (.bool (gvB xs)) ∧ Below w.heap.size w w' := by
  have e0 : Hid (gvB xs = (decide (0 < xs.length) && (ascB xs && rgB xs 0 4))) := gv_split xs
  by_cases h1 : 0 < xs.length
  · have h1' : decide ((0 : Int) < (xs.length : Int)) = true := decide_eq_true (by omega)
    rcases ha : ascB xs with _ | _
    · have e1 : Hid (gvB xs = false) := by unfold Hid; rw [e0.out]; simp [ha]
      clear e0
      go_enter Try.func47, Try.ntmps47
      go_wp2_with ((go_at_call 48; refine (ascending_c _ _ _ _ (by omega) hr).mono ?_; rintro e w1 ⟨rfl, hb⟩; have hK := bt (by first | with_reducible assumption | exact Below.refl _ _) hb; have hc := bcell hK; have hf := bfrozen hK; have hs := bsize hK; clear hb; (try simp only [World.size_drew, World.cell?_drew, World.frozen?_drew] at hc hf hs); (try (refine bw (w := w) hK ?_ ?_; (focus (first | exact HW.out | (have hq := HW.out; go_grown; done) | (go_grown; done))); intro hw hwz; have hK := hK)); (try (refine bz hK (w.heap.size) ?_ ?_; (focus (first | omega | (simp; done) | (simp; omega))); intro hz0 hd0 hg0)); (try (refine bz hK (w.heap.size + 1) ?_ ?_; (focus (first | omega | (simp; done) | (simp; omega))); intro hz1 hd1 hg1)); (try (refine bz hK (w.heap.size + 2) ?_ ?_; (focus (first | omega | (simp; done) | (simp; omega))); intro hz2 hd2 hg2)); (try (refine bz hK (w.heap.size + 3) ?_ ?_; (focus (first | omega | (simp; done) | (simp; omega))); intro hz3 hd3 hg3)); (try (refine bz hK g ?_ ?_; (focus (first | omega | (simp; done) | (simp; omega))); intro hzg hdg hgg)); (try (refine bz hK g1 ?_ ?_; (focus (first | omega | (simp; done) | (simp; omega))); intro hzg hdg hgg)); (try (refine bz hK g2 ?_ ?_; (focus (first | omega | (simp; done) | (simp; omega))); intro hzg hdg hgg))))
      go_ret
      exact ⟨ret_bool e1.out.symm, by assumption⟩
    · have e1 : Hid (gvB xs = rgB xs 0 4) := by unfold Hid; rw [e0.out]; simp [ha, h1]
      clear e0
      go_enter Try.func47, Try.ntmps47
      go_wp2_with (first | (go_at_call 48; refine (ascending_c _ _ _ _ (by omega) hr).mono ?_; rintro e w1 ⟨rfl, hb⟩; have hK := bt (by first | with_reducible assumption | exact Below.refl _ _) hb; have hc := bcell hK; have hf := bfrozen hK; have hs := bsize hK; clear hb; (try simp only [World.size_drew, World.cell?_drew, World.frozen?_drew] at hc hf hs); (try (refine bw (w := w) hK ?_ ?_; (focus (first | exact HW.out | (have hq := HW.out; go_grown; done) | (go_grown; done))); intro hw hwz; have hK := hK)); (try (refine bz hK (w.heap.size) ?_ ?_; (focus (first | omega | (simp; done) | (simp; omega))); intro hz0 hd0 hg0)); (try (refine bz hK (w.heap.size + 1) ?_ ?_; (focus (first | omega | (simp; done) | (simp; omega))); intro hz1 hd1 hg1)); (try (refine bz hK (w.heap.size + 2) ?_ ?_; (focus (first | omega | (simp; done) | (simp; omega))); intro hz2 hd2 hg2)); (try (refine bz hK (w.heap.size + 3) ?_ ?_; (focus (first | omega | (simp; done) | (simp; omega))); intro hz3 hd3 hg3)); (try (refine bz hK g ?_ ?_; (focus (first | omega | (simp; done) | (simp; omega))); intro hzg hdg hgg)); (try (refine bz hK g1 ?_ ?_; (focus (first | omega | (simp; done) | (simp; omega))); intro hzg hdg hgg)); (try (refine bz hK g2 ?_ ?_; (focus (first | omega | (simp; done) | (simp; omega))); intro hzg hdg hgg))) | (go_at_call 49; refine (inRange_c _ _ _ _ _ _ (by omega) (hr.below (by with_reducible assumption)).low).mono ?_; rintro e w' ⟨rfl, rfl⟩))
      go_ret
      exact ⟨ret_bool e1.out.symm, by assumption⟩
  · have h1' : decide ((0 : Int) < (xs.length : Int)) = false := decide_eq_false (by omega)
    have e1 : Hid (gvB xs = false) := by unfold Hid; rw [e0.out]; simp [h1]
    clear e0
    go_enter Try.func47, Try.ntmps47
    go_wp2_with fail
    go_ret
    exact ⟨ret_bool e1.out.symm, by go_grown⟩

set_option maxHeartbeats 1000000 in
theorem implGV_c (A : Option Addr) (xs : List Int) (c : Nat) (w : World) (hn : xs.length ≤ 1048576) (hr : Rd w w.heap.size A (xs.map (Value.int .i64))) :
    Calls Try.prog 39 #[.slice A xs.length c] w fun e w' => e = .returned (.bool (gvB xs)) ∧ Below w.heap.size w w' := by
  go_enter Try.func39, Try.ntmps39
  go_wp2_with fail
  refine (setValid_c A xs c _ hn hr).mono ?_
  rintro e w1 ⟨rfl, hb⟩
  go_wp2
  go_ret
  exact ⟨rfl, hb⟩

set_option maxHeartbeats 1000000 in
theorem setHas_c (A : Option Addr) (xs : List Int) (c : Nat) (g : Int) (w : World) (hn : (xs.length : Int) ≤ 9223372036854775807) (hr : Rd w w.heap.size A (xs.map (Value.int .i64))) :
    Calls Try.prog 33 #[.slice A xs.length c, .int .i64 g] w fun e w' => e = .returned (.bool (hasB xs g)) ∧ w = w' := by
  go_enter Try.func33, Try.ntmps33
  go_wp2
  go_loop [9] (fun i => ∃ k : Nat, k ≤ xs.length ∧ i = .int .i64 k ∧ Hid (¬ g ∈ xs.take k))
    (fun i => xs.length - (intOf i).toNat)
  case atStart => exact ⟨0, Nat.zero_le _, rfl, by simp [Hid]⟩
  case round =>
    obtain ⟨k, hk, rfl, HN⟩ := hrel
    by_cases hlt : k < xs.length
    · obtain ⟨b, o, x, rfl, hb, hx, d0⟩ := hr.int' hlt
      by_cases e : x = g
      · subst e
        go_wp2_with fail
        go_ret
        exact ⟨ret_bool (hasB_iff.2 (mem_at hx.out)).symm, rfl⟩
      · go_wp2_with fail
        go_round
        case rel =>
          refine ⟨k + 1, by omega, by go_num, ?_⟩
          unfold Hid
          rw [take_at hx.out, List.mem_append]
          rintro (h | h)
          · exact HN.out h
          · simp at h
            exact e h.symm
        case measure => simp [intOf]; omega
    · obtain rfl : k = xs.length := by omega
      go_wp2
      go_ret
      have := HN.out
      rw [List.take_length] at this
      exact ⟨ret_bool (hasB_no.2 this).symm, rfl⟩

set_option maxHeartbeats 1000000 in
theorem l1Has_c (A : Option Addr) (xs : List Int) (c : Nat) (g : Int) (w : World) (hn : (xs.length : Int) ≤ 9223372036854775807) (hr : Rd w w.heap.size A (xs.map (Value.int .i64))) :
    Calls Try.prog 30 #[.slice A xs.length c, .int .i64 g] w fun e w' => e = .returned (.bool (hasB xs g)) ∧ w = w' := by
  go_enter Try.func30, Try.ntmps30
  go_wp2
  go_loop [5] (fun i => ∃ k : Nat, k ≤ xs.length ∧ i = .int .i64 k ∧ Hid (¬ g ∈ xs.take k))
    (fun i => xs.length - (intOf i).toNat)
  case atStart => exact ⟨0, Nat.zero_le _, rfl, by simp [Hid]⟩
  case round =>
    obtain ⟨k, hk, rfl, HN⟩ := hrel
    by_cases hlt : k < xs.length
    · obtain ⟨b, o, x, rfl, hb, hx, d0⟩ := hr.int' hlt
      by_cases e : x = g
      · subst e
        go_wp2_with fail
        go_ret
        exact ⟨ret_bool (hasB_iff.2 (mem_at hx.out)).symm, rfl⟩
      · go_wp2_with fail
        go_round
        case rel =>
          refine ⟨k + 1, by omega, by go_num, ?_⟩
          unfold Hid
          rw [take_at hx.out, List.mem_append]
          rintro (h | h)
          · exact HN.out h
          · simp at h
            exact e h.symm
        case measure => simp [intOf]; omega
    · obtain rfl : k = xs.length := by omega
      go_wp2
      go_ret
      have := HN.out
      rw [List.take_length] at this
      exact ⟨ret_bool (hasB_no.2 this).symm, rfl⟩

theorem gv_bad_rg {xs : List Int} (h : rgB xs 0 4 = false) : gvB xs = false := by rw [gv_split, h]; simp
theorem gv_bad_asc {xs : List Int} (h : ¬ ascP xs) : gvB xs = false := by rw [gv_split, ascB_no.2 h]; simp

set_option maxHeartbeats 2000000 in
theorem specGV_c (A : Option Addr) (xs : List Int) (c : Nat) (w : World) (hn : xs.length ≤ 1048576) (hr : Rd w w.heap.size A (xs.map (Value.int .i64))) :
    Calls Try.prog 42 #[.slice A xs.length c] w fun e w' => e = .returned (.bool (gvB xs)) ∧ Below w.heap.size w w' := by
  go_enter Try.func42, Try.ntmps42
  go_wp2
  go_loopw [3] (fun i wr => ∃ k : Nat, k ≤ xs.length ∧ i = .int .i64 k ∧ Hid (ascP (xs.take k)) ∧ Hid (rgB (xs.take k) 0 4 = true) ∧ Below w.heap.size w wr)
    (fun i _ => xs.length - (intOf i).toNat)
  case atStart => exact ⟨0, Nat.zero_le _, rfl, asc_short (by simp), by simp [Hid, rgB], by go_grown⟩
  case round =>
    obtain ⟨k, hk, rfl, HS, HR, hw⟩ := hrel
    by_cases hlt : k < xs.length
    · obtain ⟨b, o, rfl, hb, hcell⟩ := (hr.below hw).lit (by simp; omega)
      obtain ⟨y, hy⟩ : ∃ y, xs[k]? = some y := ⟨_, List.getElem?_eq_getElem hlt⟩
      have d1 := hcell k (.int .i64 y) (by rw [List.getElem?_map, hy]; rfl)
      have hbw : b < wr.heap.size := by have := hw.size; omega
      have HW : Hid _ := hw
      have HY : Hid _ := hy
      have i1 : (0 : Int) ≤ (k : Int) := by omega
      have i2 : (k : Int) < (xs.length : Int) := by omega
      rcases hv : inB y 0 4 with _ | _
      · have e0 : Hid (gvB xs = false) := gv_bad_rg (rgB_bad hy hv)
        clear hcell hy hw
        go_wp2_with fail
        refine wp_region_ext (by first | with_reducible assumption | exact Below.refl _ _) (by kernel_rfl) (by kernel_rfl) ?_
        intro hx hx2
        repeat (go_big_quiet_step ((first | (go_at_call 29; exact ext_call_same (l1Group_c _ _)))))
        refine wpQuiet_nil ?_
        clear hx hx2
        rintro _ ⟨⟨w1, hb⟩, rfl⟩
        have hK := bt (by first | with_reducible assumption | exact Below.refl _ _) hb
        have hc := bcell hK
        have hf := bfrozen hK
        have hs := bsize hK
        clear hb
        (try (refine bw (w := w) hK ?_ ?_; (focus (first | exact HW.out | (have hq := HW.out; go_grown; done) | (go_grown; done))); intro hw hwz; have hK := hK))
        (try (refine bz hK (w.heap.size) ?_ ?_; (focus (first | omega | (simp; done) | (simp; omega))); intro hz0 hd0 hg0))
        (try (refine bz hK (w.heap.size + 1) ?_ ?_; (focus (first | omega | (simp; done) | (simp; omega))); intro hz1 hd1 hg1))
        (try (refine bz hK (w.heap.size + 2) ?_ ?_; (focus (first | omega | (simp; done) | (simp; omega))); intro hz2 hd2 hg2))
        (try (refine bz hK (w.heap.size + 3) ?_ ?_; (focus (first | omega | (simp; done) | (simp; omega))); intro hz3 hd3 hg3))
        (try (refine bz hK g ?_ ?_; (focus (first | omega | (simp; done) | (simp; omega))); intro hzg hdg hgg))
        (try (refine bz hK g1 ?_ ?_; (focus (first | omega | (simp; done) | (simp; omega))); intro hzg hdg hgg))
        (try (refine bz hK g2 ?_ ?_; (focus (first | omega | (simp; done) | (simp; omega))); intro hzg hdg hgg))
        go_wp2
        go_ret
        exact ⟨ret_bool e0.out.symm, bt HW.out hK⟩
      · by_cases hk0 : k = 0
        · subst hk0
          have hd : decide ((0 : Int) < 0) = false := rfl
          have i3 : (0 : Int) < (xs.length : Int) := by omega
          rw [Nat.add_zero] at d1
          clear hcell hy hw
          go_wp2_with fail
          refine wp_region_ext (by first | with_reducible assumption | exact Below.refl _ _) (by kernel_rfl) (by kernel_rfl) ?_
          intro hx hx2
          repeat (go_big_quiet_step ((first | (go_at_call 29; exact ext_call_same (l1Group_c _ _)))))
          refine wpQuiet_nil ?_
          clear hx hx2
          rintro _ ⟨⟨w1, hb⟩, rfl⟩
          have hK := bt (by first | with_reducible assumption | exact Below.refl _ _) hb
          have hc := bcell hK
          have hf := bfrozen hK
          have hs := bsize hK
          clear hb
          (try (refine bw (w := w) hK ?_ ?_; (focus (first | exact HW.out | (have hq := HW.out; go_grown; done) | (go_grown; done))); intro hw hwz; have hK := hK))
          (try (refine bz hK (w.heap.size) ?_ ?_; (focus (first | omega | (simp; done) | (simp; omega))); intro hz0 hd0 hg0))
          (try (refine bz hK (w.heap.size + 1) ?_ ?_; (focus (first | omega | (simp; done) | (simp; omega))); intro hz1 hd1 hg1))
          (try (refine bz hK (w.heap.size + 2) ?_ ?_; (focus (first | omega | (simp; done) | (simp; omega))); intro hz2 hd2 hg2))
          (try (refine bz hK (w.heap.size + 3) ?_ ?_; (focus (first | omega | (simp; done) | (simp; omega))); intro hz3 hd3 hg3))
          (try (refine bz hK g ?_ ?_; (focus (first | omega | (simp; done) | (simp; omega))); intro hzg hdg hgg))
          (try (refine bz hK g1 ?_ ?_; (focus (first | omega | (simp; done) | (simp; omega))); intro hzg hdg hgg))
          (try (refine bz hK g2 ?_ ?_; (focus (first | omega | (simp; done) | (simp; omega))); intro hzg hdg hgg))
          go_wp2
          go_roundw
          case rel => exact ⟨1, by omega, by go_num, asc_short (by rw [List.length_take]; omega), rgB_take HR.out HY.out hv, bt HW.out hK⟩
          case measure => simp [intOf]; omega
        · obtain ⟨k, rfl⟩ : ∃ k', k = k' + 1 := ⟨k - 1, by omega⟩
          obtain ⟨x, hx⟩ : ∃ x, xs[k]? = some x := ⟨_, List.getElem?_eq_getElem (by omega)⟩
          have d0 := hcell k (.int .i64 x) (by rw [List.getElem?_map, hx]; rfl)
          have HX : Hid _ := hx
          have hd : decide ((0 : Int) < (k : Int) + 1) = true := decide_eq_true (by omega)
          have i3 : ((k : Int) + 1).toNat = k + 1 := by omega
          have i5 : (k : Int) < (xs.length : Int) := by omega
          have i7 : IntKind.i64.wrap ((k : Int) + 1 - 1) = k := by rw [IntWalk.i64_in _ (by omega)] <;> omega
          have i8 : (k : Int) + 1 - 1 = k := by omega
          have i9 : (0 : Int) ≤ (k : Int) := by omega
          simp only [Int.natCast_add, Int.cast_ofNat_Int] at i1 i2
          clear hcell hy hx hw
          by_cases hl : x < y
          · have hl' : decide (y ≤ x) = false := decide_eq_false (by omega)
            go_wp2_with fail
            refine wp_region_ext (by first | with_reducible assumption | exact Below.refl _ _) (by kernel_rfl) (by kernel_rfl) ?_
            intro hx hx2
            repeat (go_big_quiet_step ((first | (go_at_call 29; exact ext_call_same (l1Group_c _ _)))))
            refine wpQuiet_nil ?_
            clear hx hx2
            rintro _ ⟨⟨w1, hb⟩, rfl⟩
            have hK := bt (by first | with_reducible assumption | exact Below.refl _ _) hb
            have hc := bcell hK
            have hf := bfrozen hK
            have hs := bsize hK
            clear hb
            (try (refine bw (w := w) hK ?_ ?_; (focus (first | exact HW.out | (have hq := HW.out; go_grown; done) | (go_grown; done))); intro hw hwz; have hK := hK))
            (try (refine bz hK (w.heap.size) ?_ ?_; (focus (first | omega | (simp; done) | (simp; omega))); intro hz0 hd0 hg0))
            (try (refine bz hK (w.heap.size + 1) ?_ ?_; (focus (first | omega | (simp; done) | (simp; omega))); intro hz1 hd1 hg1))
            (try (refine bz hK (w.heap.size + 2) ?_ ?_; (focus (first | omega | (simp; done) | (simp; omega))); intro hz2 hd2 hg2))
            (try (refine bz hK (w.heap.size + 3) ?_ ?_; (focus (first | omega | (simp; done) | (simp; omega))); intro hz3 hd3 hg3))
            (try (refine bz hK g ?_ ?_; (focus (first | omega | (simp; done) | (simp; omega))); intro hzg hdg hgg))
            (try (refine bz hK g1 ?_ ?_; (focus (first | omega | (simp; done) | (simp; omega))); intro hzg hdg hgg))
            (try (refine bz hK g2 ?_ ?_; (focus (first | omega | (simp; done) | (simp; omega))); intro hzg hdg hgg))
            go_wp2
            go_roundw
            case rel => exact ⟨k + 1 + 1, by omega, by go_num, asc_take HS.out HX.out HY.out hl, rgB_take HR.out HY.out hv, bt HW.out hK⟩
            case measure => simp [intOf]; omega
          · have hl' : decide (y ≤ x) = true := decide_eq_true (by omega)
            have e0 : Hid (gvB xs = false) := gv_bad_asc (asc_no HX.out HY.out (by omega))
            go_wp2_with fail
            refine wp_region_ext (by first | with_reducible assumption | exact Below.refl _ _) (by kernel_rfl) (by kernel_rfl) ?_
            intro hx hx2
            repeat (go_big_quiet_step ((first | (go_at_call 29; exact ext_call_same (l1Group_c _ _)))))
            refine wpQuiet_nil ?_
            clear hx hx2
            rintro _ ⟨⟨w1, hb⟩, rfl⟩
            have hK := bt (by first | with_reducible assumption | exact Below.refl _ _) hb
            have hc := bcell hK
            have hf := bfrozen hK
            have hs := bsize hK
            clear hb
            (try (refine bw (w := w) hK ?_ ?_; (focus (first | exact HW.out | (have hq := HW.out; go_grown; done) | (go_grown; done))); intro hw hwz; have hK := hK))
            (try (refine bz hK (w.heap.size) ?_ ?_; (focus (first | omega | (simp; done) | (simp; omega))); intro hz0 hd0 hg0))
            (try (refine bz hK (w.heap.size + 1) ?_ ?_; (focus (first | omega | (simp; done) | (simp; omega))); intro hz1 hd1 hg1))
            (try (refine bz hK (w.heap.size + 2) ?_ ?_; (focus (first | omega | (simp; done) | (simp; omega))); intro hz2 hd2 hg2))
            (try (refine bz hK (w.heap.size + 3) ?_ ?_; (focus (first | omega | (simp; done) | (simp; omega))); intro hz3 hd3 hg3))
            (try (refine bz hK g ?_ ?_; (focus (first | omega | (simp; done) | (simp; omega))); intro hzg hdg hgg))
            (try (refine bz hK g1 ?_ ?_; (focus (first | omega | (simp; done) | (simp; omega))); intro hzg hdg hgg))
            (try (refine bz hK g2 ?_ ?_; (focus (first | omega | (simp; done) | (simp; omega))); intro hzg hdg hgg))
            go_wp2
            go_ret
            exact ⟨ret_bool e0.out.symm, bt HW.out hK⟩
    · obtain rfl : k = xs.length := by omega
      have e0 : Hid (gvB xs = decide (0 < xs.length)) := by
        have h1 := ascB_iff.2 (asc_full HS.out rfl)
        have h2 := rgB_full HR.out rfl
        unfold Hid
        rw [gv_split, h1, h2]
        simp
      by_cases h1 : 0 < xs.length
      · have h1' : decide ((0 : Int) < (xs.length : Int)) = true := decide_eq_true (by omega)
        go_wp2
        go_ret
        exact ⟨ret_bool (by rw [e0.out]; simp [h1]), hw⟩
      · have h1' : decide ((0 : Int) < (xs.length : Int)) = false := decide_eq_false (by omega)
        go_wp2
        go_ret
        exact ⟨ret_bool (by rw [e0.out]; simp [h1]), hw⟩
end Go.Proofs.Ytbdboekjcgefhaa
