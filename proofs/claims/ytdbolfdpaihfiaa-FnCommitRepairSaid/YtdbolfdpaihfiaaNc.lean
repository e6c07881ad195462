/- Contracts: the leader. -/
import Derived.Test.YtdbolfdpaihfiaaNb
namespace Go.Proofs.Ytdbolfdpaihfiaa
set_option linter.unusedVariables false
open Go.RowKit

theorem lead_start {xs live : List Int} (h : lvB xs = true) (k : lmB live xs.length = true) : ∃ c0 : Nat, live[0]? = some (c0 : Int) ∧ c0 < xs.length ∧ leadB xs live = leadG xs c0 live ∧ leadB xs live = leadG xs c0 (live.drop 1) := by
  obtain ⟨h1, h2, h3⟩ := lmB_iff.1 k
  cases live with
  | nil => simp at h1
  | cons c r =>
    obtain ⟨c0, rfl⟩ := Int.eq_ofNat_of_zero_le (h3 c (by simp)).1
    have := (h3 (c0 : Int) (by simp)).2
    have e : leadB xs ((c0 : Int) :: r) = leadG xs c0 ((c0 : Int) :: r) := lead_ok h k
    refine ⟨c0, rfl, by omega, e, ?_⟩
    rw [e, lead_self]
    rfl

set_option maxHeartbeats 2000000 in
theorem specLeader_c (A : Option Addr) (xs : List Int) (c : Nat) (A' : Option Addr) (live : List Int) (c' : Nat) (w : World) (hn : xs.length ≤ 1048576) (hn' : live.length ≤ 1048576) (hr : Rd w w.heap.size A (xs.map (Value.int .i64))) (hr' : Rd w w.heap.size A' (live.map (Value.int .i64))) :
    Calls Try.prog 16 #[.slice A xs.length c, .slice A' live.length c'] w fun e w' => e = .returned (.int .i64 (leadB xs live)) ∧ Below w.heap.size w w' := by
  rcases h1 : lvB xs with _ | _
  · have e0 : Hid (leadB xs live = -1) := lead_bad (.inl h1)
    go_enter Try.func16, Try.ntmps16
    go_wp2_with ((go_at_call 30; refine (specLens_c _ _ _ _ (by omega) hr).mono ?_; rintro e w' ⟨rfl, rfl⟩))
    go_ret
    exact ⟨ret_int e0.out.symm, by go_grown⟩
  · rcases h2 : lmB live xs.length with _ | _
    · have e0 : Hid (leadB xs live = -1) := lead_bad (.inr h2)
      go_enter Try.func16, Try.ntmps16
      go_wp2_with (first | (go_at_call 30; refine (specLens_c _ _ _ _ (by omega) hr).mono ?_; rintro e w' ⟨rfl, rfl⟩) | (go_at_call 34; refine (specLive_c _ _ _ _ _ _ _ hn' hn hr').mono ?_; rintro e w1 ⟨rfl, hb⟩; have hK := bt (by first | with_reducible assumption | exact Below.refl _ _) hb; have hc := bcell hK; have hf := bfrozen hK; have hs := bsize hK; clear hb; (try simp only [World.size_drew, World.cell?_drew, World.frozen?_drew] at hc hf hs); (try (refine bw (w := w) hK ?_ ?_; (focus (first | exact HW.out | (have hq := HW.out; go_grown; done) | (go_grown; done))); intro hw hwz; have hK := hK)); (try (refine bz hK (w.heap.size) ?_ ?_; (focus (first | omega | (simp; done) | (simp; omega))); intro hz0 hd0 hg0)); (try (refine bz hK (w.heap.size + 1) ?_ ?_; (focus (first | omega | (simp; done) | (simp; omega))); intro hz1 hd1 hg1)); (try (refine bz hK (w.heap.size + 2) ?_ ?_; (focus (first | omega | (simp; done) | (simp; omega))); intro hz2 hd2 hg2)); (try (refine bz hK (w.heap.size + 3) ?_ ?_; (focus (first | omega | (simp; done) | (simp; omega))); intro hz3 hd3 hg3)); (try (refine bz hK g ?_ ?_; (focus (first | omega | (simp; done) | (simp; omega))); intro hzg hdg hgg)); (try (refine bz hK g1 ?_ ?_; (focus (first | omega | (simp; done) | (simp; omega))); intro hzg hdg hgg)); (try (refine bz hK g2 ?_ ?_; (focus (first | omega | (simp; done) | (simp; omega))); intro hzg hdg hgg))))
      go_ret
      exact ⟨ret_int e0.out.symm, by go_grown⟩
    · obtain ⟨c0, hc0, hc0l, hq, hst⟩ := lead_start h1 h2
      clear hq
      have hlv := (lmB_iff.1 h2).2.2
      have hll := (List.getElem?_eq_some_iff.1 hc0).1
      have LV : Hid _ := hlv
      have ST : Hid _ := hst
      obtain ⟨b2, o2, rfl, hb2, hcl⟩ := hr'.lit (by simp; omega)
      have z0 := hcl 0 (.int .i64 c0) (by rw [List.getElem?_map, hc0]; rfl)
      rw [Nat.add_zero] at z0
      clear hlv hst hcl hc0
      go_enter Try.func16, Try.ntmps16
      go_wp2_with (first | (go_at_call 30; refine (specLens_c _ _ _ _ (by omega) hr).mono ?_; rintro e w' ⟨rfl, rfl⟩) | (go_at_call 34; refine (specLive_c _ _ _ _ _ _ _ hn' hn hr').mono ?_; rintro e w1 ⟨rfl, hb⟩; have hK := bt (by first | with_reducible assumption | exact Below.refl _ _) hb; have hc := bcell hK; have hf := bfrozen hK; have hs := bsize hK; clear hb; (try simp only [World.size_drew, World.cell?_drew, World.frozen?_drew] at hc hf hs); (try (refine bw (w := w) hK ?_ ?_; (focus (first | exact HW.out | (have hq := HW.out; go_grown; done) | (go_grown; done))); intro hw hwz; have hK := hK)); (try (refine bz hK (w.heap.size) ?_ ?_; (focus (first | omega | (simp; done) | (simp; omega))); intro hz0 hd0 hg0)); (try (refine bz hK (w.heap.size + 1) ?_ ?_; (focus (first | omega | (simp; done) | (simp; omega))); intro hz1 hd1 hg1)); (try (refine bz hK (w.heap.size + 2) ?_ ?_; (focus (first | omega | (simp; done) | (simp; omega))); intro hz2 hd2 hg2)); (try (refine bz hK (w.heap.size + 3) ?_ ?_; (focus (first | omega | (simp; done) | (simp; omega))); intro hz3 hd3 hg3)); (try (refine bz hK g ?_ ?_; (focus (first | omega | (simp; done) | (simp; omega))); intro hzg hdg hgg)); (try (refine bz hK g1 ?_ ?_; (focus (first | omega | (simp; done) | (simp; omega))); intro hzg hdg hgg)); (try (refine bz hK g2 ?_ ?_; (focus (first | omega | (simp; done) | (simp; omega))); intro hzg hdg hgg))))
      go_loopw [5, 6] (fun q i wr => ∃ (k ld : Nat), k + 1 ≤ live.length ∧ i = .int .i64 ((k : Int) + 1) ∧ q = .int .i64 ld ∧ ld < xs.length ∧ Hid (leadB xs live = leadG xs ld (live.drop (k + 1))) ∧ Below w.heap.size w wr)
        (fun _ i _ => live.length - (intOf i).toNat)
      case atStart => exact ⟨0, c0, by omega, by simp, rfl, hc0l, ST, by go_grown⟩
      case round =>
        obtain ⟨k, ld, hk, rfl, rfl, hld, HS, hw⟩ := hrel
        by_cases hlt : k + 1 < live.length
        · obtain ⟨_, _, e, _, hcl⟩ := (hr'.below hw).lit (by simp; omega)
          simp only [Option.some.injEq, Addr.mk.injEq, and_true] at e
          obtain ⟨rfl, rfl⟩ := e
          obtain ⟨b1, o1, rfl, hb1, hcell⟩ := (hr.below hw).lit (by simp; omega)
          obtain ⟨y, hy⟩ : ∃ y, live[k + 1]? = some y := ⟨_, List.getElem?_eq_getElem hlt⟩
          obtain ⟨y0, y1⟩ := LV.out y (mem_at hy)
          obtain ⟨cn, rfl⟩ := Int.eq_ofNat_of_zero_le y0
          have hcn : cn < xs.length := by omega
          have d0 := hcl (k + 1) (.int .i64 cn) (by rw [List.getElem?_map, hy]; rfl)
          have d1 := hcell cn (.int .i64 xs[cn]) (by simp [hcn])
          have d2 := hcell ld (.int .i64 xs[ld]) (by simp [hld])
          have u1 : at0 xs cn = xs[cn] := at0_of (List.getElem?_eq_getElem hcn)
          have u2 : at0 xs ld = xs[ld] := at0_of (List.getElem?_eq_getElem hld)
          generalize xs[cn] = v at d1 u1
          generalize xs[ld] = u at d2 u2
          have hbw : b1 < wr.heap.size := by have := hw.size; omega
          have hbw2 : b2 < wr.heap.size := by have := hw.size; omega
          have HY : Hid (live.drop (k + 1) = (cn : Int) :: live.drop (k + 1 + 1)) := drop_at hy
          have i1 : (0 : Int) ≤ (k : Int) + 1 := by omega
          have i2 : (k : Int) + 1 < (live.length : Int) := by omega
          have i3 : ((k : Int) + 1).toNat = k + 1 := by omega
          have i4 : (cn : Int) < (xs.length : Int) := by omega
          have i5 : (ld : Int) < (xs.length : Int) := by omega
          have i6 : (0 : Int) ≤ (cn : Int) := by omega
          have i7 : (0 : Int) ≤ (ld : Int) := by omega
          have hne : (k : Int) + 1 ≤ 1048576 := by omega
          have HW : Hid _ := hw
          by_cases hv : u < v
          · have e1 : Hid (leadB xs live = leadG xs cn (live.drop (k + 1 + 1))) := by
              unfold Hid
              rw [HS.out, HY.out, lead_yes (by rw [u1, u2]; exact hv)]
            clear hcl hcell hy hw u1 u2 HS
            go_wp2_with fail
            refine wp_region_ext (by first | with_reducible assumption | exact Below.refl _ _) (by kernel_rfl) (by kernel_rfl) ?_
            intro hx hx2
            repeat (go_big_quiet_step (fail))
            refine wpQuiet_nil ?_
            clear hx hx2
            rintro _ ⟨⟨w1, hb⟩, rfl⟩
            have hK := bt (by first | with_reducible assumption | exact Below.refl _ _) hb
            have hc := bcell hK
            have hf := bfrozen hK
            have hs := bsize hK
            clear hb
            (try (refine bw (w := w) hK ?_ ?_; (focus (first | exact HW.out | (have hq := HW.out; go_grown; done) | (go_grown; done))); intro hw hwz; have hK := hK))
            (try (refine bz hK (w.heap.size) ?_ ?_; (focus (first | omega | (simp; done) | (simp; omega))); intro hz0 hd0 hg0))
            (try (refine bz hK (w.heap.size + 1) ?_ ?_; (focus (first | omega | (simp; done) | (simp; omega))); intro hz1 hd1 hg1))
            (try (refine bz hK (w.heap.size + 2) ?_ ?_; (focus (first | omega | (simp; done) | (simp; omega))); intro hz2 hd2 hg2))
            (try (refine bz hK (w.heap.size + 3) ?_ ?_; (focus (first | omega | (simp; done) | (simp; omega))); intro hz3 hd3 hg3))
            (try (refine bz hK g ?_ ?_; (focus (first | omega | (simp; done) | (simp; omega))); intro hzg hdg hgg))
            (try (refine bz hK g1 ?_ ?_; (focus (first | omega | (simp; done) | (simp; omega))); intro hzg hdg hgg))
            (try (refine bz hK g2 ?_ ?_; (focus (first | omega | (simp; done) | (simp; omega))); intro hzg hdg hgg))
            go_wp2
            go_roundw
            case rel => exact ⟨k + 1, cn, by omega, by go_num, rfl, hcn, e1, bt HW.out hK⟩
            case measure => simp [intOf]; omega
          · have hv' : decide (u < v) = false := decide_eq_false hv
            have e1 : Hid (leadB xs live = leadG xs ld (live.drop (k + 1 + 1))) := by
              unfold Hid
              rw [HS.out, HY.out, lead_no (by rw [u1, u2]; exact hv)]
            clear hcl hcell hy hw u1 u2 HS hv
            go_wp2_with fail
            refine wp_region_ext (by first | with_reducible assumption | exact Below.refl _ _) (by kernel_rfl) (by kernel_rfl) ?_
            intro hx hx2
            repeat (go_big_quiet_step (fail))
            refine wpQuiet_nil ?_
            clear hx hx2
            rintro _ ⟨⟨w1, hb⟩, rfl⟩
            have hK := bt (by first | with_reducible assumption | exact Below.refl _ _) hb
            have hc := bcell hK
            have hf := bfrozen hK
            have hs := bsize hK
            clear hb
            (try (refine bw (w := w) hK ?_ ?_; (focus (first | exact HW.out | (have hq := HW.out; go_grown; done) | (go_grown; done))); intro hw hwz; have hK := hK))
            (try (refine bz hK (w.heap.size) ?_ ?_; (focus (first | omega | (simp; done) | (simp; omega))); intro hz0 hd0 hg0))
            (try (refine bz hK (w.heap.size + 1) ?_ ?_; (focus (first | omega | (simp; done) | (simp; omega))); intro hz1 hd1 hg1))
            (try (refine bz hK (w.heap.size + 2) ?_ ?_; (focus (first | omega | (simp; done) | (simp; omega))); intro hz2 hd2 hg2))
            (try (refine bz hK (w.heap.size + 3) ?_ ?_; (focus (first | omega | (simp; done) | (simp; omega))); intro hz3 hd3 hg3))
            (try (refine bz hK g ?_ ?_; (focus (first | omega | (simp; done) | (simp; omega))); intro hzg hdg hgg))
            (try (refine bz hK g1 ?_ ?_; (focus (first | omega | (simp; done) | (simp; omega))); intro hzg hdg hgg))
            (try (refine bz hK g2 ?_ ?_; (focus (first | omega | (simp; done) | (simp; omega))); intro hzg hdg hgg))
            go_wp2
            go_roundw
            case rel => exact ⟨k + 1, ld, by omega, by go_num, rfl, hld, e1, bt HW.out hK⟩
            case measure => simp [intOf]; omega
        · have e1 : Hid (leadB xs live = ld) := by
            unfold Hid
            rw [HS.out, List.drop_of_length_le (by omega)]
            rfl
          have hlt' : ¬ (k : Int) + 1 < (live.length : Int) := by omega
          have hne : (k : Int) + 1 ≤ 1048576 := by omega
          go_wp2
          go_ret
          exact ⟨ret_int e1.out.symm, hw⟩

set_option maxHeartbeats 2000000 in
theorem implLeader_c (A : Option Addr) (xs : List Int) (c : Nat) (A' : Option Addr) (live : List Int) (c' : Nat) (w : World) (hn : xs.length ≤ 1048576) (hn' : live.length ≤ 1048576) (hr : Rd w w.heap.size A (xs.map (Value.int .i64))) (hr' : Rd w w.heap.size A' (live.map (Value.int .i64))) :
    Calls Try.prog 15 #[.slice A xs.length c, .slice A' live.length c'] w fun e w' => e = .returned (.int .i64 (leadB xs live)) ∧ Below w.heap.size w w' := by
  rcases h1 : lvB xs with _ | _
  · have e0 : Hid (leadB xs live = -1) := lead_bad (.inl h1)
    go_enter Try.func15, Try.ntmps15
    go_wp2_with ((go_at_call 28; refine (implLens_c _ _ _ _ (by omega) hr).mono ?_; rintro e w' ⟨rfl, rfl⟩))
    go_ret
    exact ⟨ret_int e0.out.symm, by go_grown⟩
  · rcases h2 : lmB live xs.length with _ | _
    · have e0 : Hid (leadB xs live = -1) := lead_bad (.inr h2)
      go_enter Try.func15, Try.ntmps15
      go_wp2_with (first | (go_at_call 28; refine (implLens_c _ _ _ _ (by omega) hr).mono ?_; rintro e w' ⟨rfl, rfl⟩) | (go_at_call 33; refine (isMaj_c _ _ _ _ _ hn' hn hr').mono ?_; rintro e w1 ⟨rfl, hb⟩; have hK := bt (by first | with_reducible assumption | exact Below.refl _ _) hb; have hc := bcell hK; have hf := bfrozen hK; have hs := bsize hK; clear hb; (try simp only [World.size_drew, World.cell?_drew, World.frozen?_drew] at hc hf hs); (try (refine bw (w := w) hK ?_ ?_; (focus (first | exact HW.out | (have hq := HW.out; go_grown; done) | (go_grown; done))); intro hw hwz; have hK := hK)); (try (refine bz hK (w.heap.size) ?_ ?_; (focus (first | omega | (simp; done) | (simp; omega))); intro hz0 hd0 hg0)); (try (refine bz hK (w.heap.size + 1) ?_ ?_; (focus (first | omega | (simp; done) | (simp; omega))); intro hz1 hd1 hg1)); (try (refine bz hK (w.heap.size + 2) ?_ ?_; (focus (first | omega | (simp; done) | (simp; omega))); intro hz2 hd2 hg2)); (try (refine bz hK (w.heap.size + 3) ?_ ?_; (focus (first | omega | (simp; done) | (simp; omega))); intro hz3 hd3 hg3)); (try (refine bz hK g ?_ ?_; (focus (first | omega | (simp; done) | (simp; omega))); intro hzg hdg hgg)); (try (refine bz hK g1 ?_ ?_; (focus (first | omega | (simp; done) | (simp; omega))); intro hzg hdg hgg)); (try (refine bz hK g2 ?_ ?_; (focus (first | omega | (simp; done) | (simp; omega))); intro hzg hdg hgg))))
      go_ret
      exact ⟨ret_int e0.out.symm, by go_grown⟩
    · obtain ⟨c0, hc0, hc0l, hst, hq⟩ := lead_start h1 h2
      clear hq
      have hlv := (lmB_iff.1 h2).2.2
      have hll := (List.getElem?_eq_some_iff.1 hc0).1
      have LV : Hid _ := hlv
      have ST : Hid _ := hst
      obtain ⟨b2, o2, rfl, hb2, hcl⟩ := hr'.lit (by simp; omega)
      have z0 := hcl 0 (.int .i64 c0) (by rw [List.getElem?_map, hc0]; rfl)
      rw [Nat.add_zero] at z0
      clear hlv hst hcl hc0
      go_enter Try.func15, Try.ntmps15
      go_wp2_with (first | (go_at_call 28; refine (implLens_c _ _ _ _ (by omega) hr).mono ?_; rintro e w' ⟨rfl, rfl⟩) | (go_at_call 33; refine (isMaj_c _ _ _ _ _ hn' hn hr').mono ?_; rintro e w1 ⟨rfl, hb⟩; have hK := bt (by first | with_reducible assumption | exact Below.refl _ _) hb; have hc := bcell hK; have hf := bfrozen hK; have hs := bsize hK; clear hb; (try simp only [World.size_drew, World.cell?_drew, World.frozen?_drew] at hc hf hs); (try (refine bw (w := w) hK ?_ ?_; (focus (first | exact HW.out | (have hq := HW.out; go_grown; done) | (go_grown; done))); intro hw hwz; have hK := hK)); (try (refine bz hK (w.heap.size) ?_ ?_; (focus (first | omega | (simp; done) | (simp; omega))); intro hz0 hd0 hg0)); (try (refine bz hK (w.heap.size + 1) ?_ ?_; (focus (first | omega | (simp; done) | (simp; omega))); intro hz1 hd1 hg1)); (try (refine bz hK (w.heap.size + 2) ?_ ?_; (focus (first | omega | (simp; done) | (simp; omega))); intro hz2 hd2 hg2)); (try (refine bz hK (w.heap.size + 3) ?_ ?_; (focus (first | omega | (simp; done) | (simp; omega))); intro hz3 hd3 hg3)); (try (refine bz hK g ?_ ?_; (focus (first | omega | (simp; done) | (simp; omega))); intro hzg hdg hgg)); (try (refine bz hK g1 ?_ ?_; (focus (first | omega | (simp; done) | (simp; omega))); intro hzg hdg hgg)); (try (refine bz hK g2 ?_ ?_; (focus (first | omega | (simp; done) | (simp; omega))); intro hzg hdg hgg))))
      go_loopw [5, 23] (fun q i wr => ∃ (k ld : Nat), k ≤ live.length ∧ i = .int .i64 k ∧ q = .int .i64 ld ∧ ld < xs.length ∧ Hid (leadB xs live = leadG xs ld (live.drop k)) ∧ Below w.heap.size w wr)
        (fun _ i _ => live.length - (intOf i).toNat)
      case atStart => exact ⟨0, c0, by omega, by simp, rfl, hc0l, ST, by go_grown⟩
      case round =>
        obtain ⟨k, ld, hk, rfl, rfl, hld, HS, hw⟩ := hrel
        by_cases hlt : k < live.length
        · obtain ⟨_, _, e, _, hcl⟩ := (hr'.below hw).lit (by simp; omega)
          simp only [Option.some.injEq, Addr.mk.injEq, and_true] at e
          obtain ⟨rfl, rfl⟩ := e
          obtain ⟨b1, o1, rfl, hb1, hcell⟩ := (hr.below hw).lit (by simp; omega)
          obtain ⟨y, hy⟩ : ∃ y, live[k]? = some y := ⟨_, List.getElem?_eq_getElem hlt⟩
          obtain ⟨y0, y1⟩ := LV.out y (mem_at hy)
          obtain ⟨cn, rfl⟩ := Int.eq_ofNat_of_zero_le y0
          have hcn : cn < xs.length := by omega
          have d0 := hcl k (.int .i64 cn) (by rw [List.getElem?_map, hy]; rfl)
          have d1 := hcell cn (.int .i64 xs[cn]) (by simp [hcn])
          have d2 := hcell ld (.int .i64 xs[ld]) (by simp [hld])
          have u1 : at0 xs cn = xs[cn] := at0_of (List.getElem?_eq_getElem hcn)
          have u2 : at0 xs ld = xs[ld] := at0_of (List.getElem?_eq_getElem hld)
          generalize xs[cn] = v at d1 u1
          generalize xs[ld] = u at d2 u2
          have hbw : b1 < wr.heap.size := by have := hw.size; omega
          have hbw2 : b2 < wr.heap.size := by have := hw.size; omega
          have HY : Hid (live.drop k = (cn : Int) :: live.drop (k + 1)) := drop_at hy
          have i4 : (cn : Int) < (xs.length : Int) := by omega
          have i5 : (ld : Int) < (xs.length : Int) := by omega
          have i6 : (0 : Int) ≤ (cn : Int) := by omega
          have i7 : (0 : Int) ≤ (ld : Int) := by omega
          have HW : Hid _ := hw
          by_cases hv : u < v
          · have e1 : Hid (leadB xs live = leadG xs cn (live.drop (k + 1))) := by
              unfold Hid
              rw [HS.out, HY.out, lead_yes (by rw [u1, u2]; exact hv)]
            clear hcl hcell hy hw u1 u2 HS
            go_wp2_with fail
            refine wp_region_ext (by first | with_reducible assumption | exact Below.refl _ _) (by kernel_rfl) (by kernel_rfl) ?_
            intro hx hx2
            repeat (go_big_quiet_step (fail))
            refine wpQuiet_nil ?_
            clear hx hx2
            rintro _ ⟨⟨w1, hb⟩, rfl⟩
            have hK := bt (by first | with_reducible assumption | exact Below.refl _ _) hb
            have hc := bcell hK
            have hf := bfrozen hK
            have hs := bsize hK
            clear hb
            (try (refine bw (w := w) hK ?_ ?_; (focus (first | exact HW.out | (have hq := HW.out; go_grown; done) | (go_grown; done))); intro hw hwz; have hK := hK))
            (try (refine bz hK (w.heap.size) ?_ ?_; (focus (first | omega | (simp; done) | (simp; omega))); intro hz0 hd0 hg0))
            (try (refine bz hK (w.heap.size + 1) ?_ ?_; (focus (first | omega | (simp; done) | (simp; omega))); intro hz1 hd1 hg1))
            (try (refine bz hK (w.heap.size + 2) ?_ ?_; (focus (first | omega | (simp; done) | (simp; omega))); intro hz2 hd2 hg2))
            (try (refine bz hK (w.heap.size + 3) ?_ ?_; (focus (first | omega | (simp; done) | (simp; omega))); intro hz3 hd3 hg3))
            (try (refine bz hK g ?_ ?_; (focus (first | omega | (simp; done) | (simp; omega))); intro hzg hdg hgg))
            (try (refine bz hK g1 ?_ ?_; (focus (first | omega | (simp; done) | (simp; omega))); intro hzg hdg hgg))
            (try (refine bz hK g2 ?_ ?_; (focus (first | omega | (simp; done) | (simp; omega))); intro hzg hdg hgg))
            go_wp2
            go_roundw
            case rel => exact ⟨k + 1, cn, by omega, by go_num, rfl, hcn, e1, bt HW.out hK⟩
            case measure => simp [intOf]; omega
          · have hv' : v ≤ u := by omega
            have e1 : Hid (leadB xs live = leadG xs ld (live.drop (k + 1))) := by
              unfold Hid
              rw [HS.out, HY.out, lead_no (by rw [u1, u2]; exact hv)]
            clear hcl hcell hy hw u1 u2 HS hv
            go_wp2_with fail
            refine wp_region_ext (by first | with_reducible assumption | exact Below.refl _ _) (by kernel_rfl) (by kernel_rfl) ?_
            intro hx hx2
            repeat (go_big_quiet_step (fail))
            refine wpQuiet_nil ?_
            clear hx hx2
            rintro _ ⟨⟨w1, hb⟩, rfl⟩
            have hK := bt (by first | with_reducible assumption | exact Below.refl _ _) hb
            have hc := bcell hK
            have hf := bfrozen hK
            have hs := bsize hK
            clear hb
            (try (refine bw (w := w) hK ?_ ?_; (focus (first | exact HW.out | (have hq := HW.out; go_grown; done) | (go_grown; done))); intro hw hwz; have hK := hK))
            (try (refine bz hK (w.heap.size) ?_ ?_; (focus (first | omega | (simp; done) | (simp; omega))); intro hz0 hd0 hg0))
            (try (refine bz hK (w.heap.size + 1) ?_ ?_; (focus (first | omega | (simp; done) | (simp; omega))); intro hz1 hd1 hg1))
            (try (refine bz hK (w.heap.size + 2) ?_ ?_; (focus (first | omega | (simp; done) | (simp; omega))); intro hz2 hd2 hg2))
            (try (refine bz hK (w.heap.size + 3) ?_ ?_; (focus (first | omega | (simp; done) | (simp; omega))); intro hz3 hd3 hg3))
            (try (refine bz hK g ?_ ?_; (focus (first | omega | (simp; done) | (simp; omega))); intro hzg hdg hgg))
            (try (refine bz hK g1 ?_ ?_; (focus (first | omega | (simp; done) | (simp; omega))); intro hzg hdg hgg))
            (try (refine bz hK g2 ?_ ?_; (focus (first | omega | (simp; done) | (simp; omega))); intro hzg hdg hgg))
            go_wp2
            go_roundw
            case rel => exact ⟨k + 1, ld, by omega, by go_num, rfl, hld, e1, bt HW.out hK⟩
            case measure => simp [intOf]; omega
        · have e1 : Hid (leadB xs live = ld) := by
            unfold Hid
            rw [HS.out, List.drop_of_length_le (by omega)]
            rfl
          have hlt' : ¬ (k : Int) < (live.length : Int) := by omega
          go_wp2
          go_ret
          exact ⟨ret_int e1.out.symm, hw⟩
end Go.Proofs.Ytdbolfdpaihfiaa
