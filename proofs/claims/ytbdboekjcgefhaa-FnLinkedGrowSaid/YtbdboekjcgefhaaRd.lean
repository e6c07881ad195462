/- Contracts: the linked groups, by the program and by the reference. -/
import Derived.Test.YtbdboekjcgefhaaRc
import Derived.Deep.RegionHeld3
import Derived.Deep.DrawnRows
namespace Go.Proofs.Ytbdboekjcgefhaa
set_option linter.unusedVariables false
open Go.RowKit
attribute [local go_sem ↓] Go.wp_at_zero Go.wp_at_succ

theorem fold_take {sets : List (List Int)} {k : Nat} {s : List Int} (L : List Int) (h : sets[k]? = some s) : (sets.take (k + 1)).foldl stepL L = stepL ((sets.take k).foldl stepL L) s := by
  rw [take_at h, List.foldl_append]
  rfl
theorem fold_full (sets : List (List Int)) (L : List Int) : (sets.take sets.length).foldl stepL L = roundL sets L := by
  rw [List.take_length]
  rfl
theorem step_yes {L s : List Int} (h : 0 < (comL L s).length) : stepL L s = uniL L s := if_pos h
theorem step_no {L s : List Int} (h : ¬ 0 < (comL L s).length) : stepL L s = L := if_neg h
theorem link_le (sets : List (List Int)) (g : Int) : (linkB sets g).length ≤ 5 := by
  rcases h : setsB sets g with _ | _
  · rw [link_bad h]; simp
  · exact gv_le (link_is h).valid

/-- A slice of ints of the call's own, its value named. -/
theorem NewI.open_ {xs : List Int} {w w' : World} {e : Ending} (h : NewI xs w e w') : ∃ A c, e = .returned (.slice A xs.length c) ∧ IS w' w.heap.size A xs.length c xs ∧ Below w.heap.size w w' := h

set_option maxHeartbeats 4000000 in
theorem implLink_c (A : Option Addr) (hs : List Hnd) (c : Nat) (g : Int) (w : World) (hn : hs.length ≤ 1048576) (hl : Hid (∀ h ∈ hs, h.xs.length ≤ 1048576)) (hr : Hid (RR w A hs)) :
    Calls Try.prog 24 #[.slice A hs.length c, .int .i64 g] w (NewI (linkB (rowsOf hs) g) w) := by
  have C0 := areSets_c A hs c g w hn hl hr
  rcases e0 : setsB (rowsOf hs) g with _ | _
  · have E := hidI (link_bad e0)
    rw [e0] at C0
    have HC0 := hidI C0
    clear C0 e0
    go_enter Try.func24, Try.ntmps24
    go_wp2_with fail
    refine Calls.mono HC0.out ?_
    rintro e w1 ⟨rfl, hb⟩
    clear HC0
    go_wp2_with fail
    go_ret
    rw [E.out]
    exact NewI.mk (IV.zero _ _) hb
  · have E := hidI (link_yes e0)
    obtain ⟨hv, h12, g0, g4⟩ := setsB_iff.1 e0
    rw [rowsOf_length] at h12
    have HV := hidI hv
    have HG := hidI (one_gv g0 g4)
    rw [e0] at C0
    have HC0 := hidI C0
    clear C0 e0 hv
    go_enter Try.func24, Try.ntmps24
    go_wp2_with fail
    refine Calls.mono HC0.out ?_
    rintro e w1 ⟨rfl, hb⟩
    have hs1 := hb.size
    have S0 : IS (w1.alloc (.cells #[.int .i64 g] 3)) w.heap.size (some ⟨w1.heap.size, 0, none⟩) 1 1 [g] := IS.full (xs := [g]) (Box.new w1 _ _) hs1 (by simp [maxLen])
    have hw1 : Below w.heap.size w (w1.alloc (.cells #[.int .i64 g] 3)) := hb.alloc hs1 _
    clear hb HC0
    go_wp2_with fail
    go_loopw [5, 14] (fun o i wr => ∃ (k : Nat) (A' : Option Addr) (c' : Nat) (L : List Int), k ≤ 5 ∧ i = .int .i64 k ∧ o = .slice A' L.length c' ∧ IS wr w.heap.size A' L.length c' L ∧ Hid (gvB L = true) ∧ Hid (L = linkN (rowsOf hs) k [g]) ∧ Below w.heap.size w wr)
      (fun _ i _ => 5 - (intOf i).toNat)
    case atStart => exact ⟨0, _, _, [g], by omega, rfl, rfl, S0, HG, rfl, hw1⟩
    case round =>
      clear S0 hw1
      obtain ⟨k, A', c', L, hk, rfl, rfl, S, HL, HE, hw⟩ := hrel
      obtain ⟨wo, rfl⟩ : ∃ wo : World, wo = wr := ⟨_, rfl⟩
      by_cases hlt : k < 5
      · have d5 : decide ((k : Int) < 5) = true := decide_eq_true (by omega)
        go_wp2_with fail
        go_loopw [5, 18] (fun o i wr => ∃ (j : Nat) (A' : Option Addr) (c' : Nat) (M : List Int), j ≤ hs.length ∧ i = .int .i64 j ∧ o = .slice A' M.length c' ∧ IS wr w.heap.size A' M.length c' M ∧ Hid (gvB M = true) ∧ Hid (M = ((rowsOf hs).take j).foldl stepL L) ∧ Below w.heap.size w wr)
          (fun _ i _ => hs.length - (intOf i).toNat)
        case atStart => exact ⟨0, _, _, L, Nat.zero_le _, rfl, rfl, S, HL, by show _ = _; simp, hw⟩
        case round =>
          clear S hw
          obtain ⟨j, A2, c2, M, hj, rfl, rfl, S, HM, HF, hw⟩ := hrel
          by_cases hjt : j < hs.length
          · obtain ⟨b, o, A1, c1, xs, rfl, hb, hx, d0, hrow⟩ := (hr.out.below hw).at_ hjt
            have hM5 := gv_le HM.out
            have hvx : gvB xs = true := HV.out xs (List.mem_of_getElem? (rowsOf_at hx.out))
            have hx5 := gv_le hvx
            have FT := fold_take L (rowsOf_at hx.out)
            rw [← HF.out] at FT
            have HC := hidI (implCom_c A2 M c2 A1 xs c1 wr (by omega) (by omega) S.rd hrow)
            have HU := hidI (fun W (hb : Below wr.heap.size wr W) => implUni_c A2 M c2 A1 xs c1 W (by omega) (by omega) (S.below hb).rd (hrow.below hb).low)
            have HX := hidI (step_gv HM.out hvx)
            have hws := hw.size
            have HW := hidI hw
            have HFT := hidI FT
            clear hw hrow hvx FT
            by_cases hc : 0 < (comL M xs).length
            · have HS := hidI (step_yes hc)
              have hd : decide (0 < (comL M xs).length) = true := decide_eq_true hc
              go_wp2_with fail
              refine Calls.mono HC.out ?_
              rintro e w1 ⟨A3, c3, rfl, _, hb1⟩
              have HB1 := hidI hb1
              clear hb1 HC
              go_wp2_with fail
              refine Calls.mono (HU.out _ HB1.out) ?_
              rintro e w2 ⟨A4, c4, rfl, S4, hb2⟩
              have hb1s := HB1.out.size
              have HB2 := hidI (bt HB1.out hb2)
              have S5 := S4.mono (B' := w.heap.size) (by omega)
              rw [← HS.out] at S5
              clear hb2 S4 HU hd hc
              go_wp2_with fail
              go_roundw
              case rel => exact ⟨j + 1, A4, c4, stepL M xs, by omega, by go_num, by rw [HS.out], S5, HX, by show _ = _; rw [HFT.out], bt HW.out HB2.out⟩
              case measure => simp [intOf]; omega
            · have HS := hidI (step_no hc)
              have hd : decide (0 < (comL M xs).length) = false := decide_eq_false hc
              go_wp2_with fail
              refine Calls.mono HC.out ?_
              rintro e w1 ⟨A3, c3, rfl, _, hb1⟩
              have HB1 := hidI hb1
              have S5 := S.below hb1
              clear hb1 HC HU hc
              go_wp2_with fail
              go_roundw
              case rel => exact ⟨j + 1, A2, c2, M, by omega, by go_num, rfl, S5, HM, by show _ = _; rw [HFT.out, HS.out], bt HW.out HB1.out⟩
              case measure => simp [intOf]; omega
          · obtain rfl : j = hs.length := by omega
            have HE2 := hidI (show M = linkN (rowsOf hs) (k + 1) [g] by
              rw [linkN_succ, ← HE.out, HF.out, ← rowsOf_length, fold_full])
            go_wp2_with fail
            go_roundw
            case rel => exact ⟨k + 1, A2, c2, M, by omega, by go_num, rfl, S, HM, HE2, hw⟩
            case measure => simp [intOf]; omega
      · obtain rfl : k = 5 := by omega
        go_wp2
        go_ret
        rw [E.out, ← HE.out]
        exact ⟨A', c', rfl, S, hw⟩

set_option maxHeartbeats 8000000 in
theorem specLink_c (A : Option Addr) (hs : List Hnd) (c : Nat) (g : Int) (w : World) (hn : hs.length ≤ 1048576) (hl : Hid (∀ h ∈ hs, h.xs.length ≤ 1048576)) (hr : Hid (RR w A hs)) :
    Calls Try.prog 25 #[.slice A hs.length c, .int .i64 g] w (NewI (linkB (rowsOf hs) g) w) := by
  have C0 := l1Sets_c A hs c w hn hl hr
  have C1 := fun W => l1Group_c g W
  have ES := setsB_split (rowsOf hs) g
  rw [rowsOf_length] at ES
  rcases e0 : ((rowsOf hs).all gvB && decide (hs.length ≤ 12)) with _ | _
  · have E := hidI (link_bad (sets := rowsOf hs) (g := g) (by rw [ES, e0]; rfl))
    rw [e0] at C0
    have HC0 := hidI C0
    clear C0 e0 ES C1
    go_enter Try.func25, Try.ntmps25
    go_wp2_with fail
    refine Calls.mono HC0.out ?_
    rintro e w1 ⟨rfl, hb⟩
    have hs1 := hb.size
    clear HC0
    go_wp2_with fail
    go_ret
    rw [E.out]
    exact NewI.mk (IS.full (xs := []) (Box.new w1 _ _) hs1 (Nat.zero_le _)).iv (hb.alloc hs1 _)
  rcases e1 : inB g 0 4 with _ | _
  · have E := hidI (link_bad (sets := rowsOf hs) (g := g) (by rw [ES, e0, e1]; rfl))
    rw [e0] at C0
    rw [e1] at C1
    have HC0 := hidI C0
    have HC1 := hidI C1
    clear C0 e0 ES C1 e1
    go_enter Try.func25, Try.ntmps25
    go_wp2_with fail
    refine Calls.mono HC0.out ?_
    rintro e w1 ⟨rfl, hb⟩
    have hs1 := hb.size
    clear HC0
    go_wp2_with fail
    refine (HC1.out _).mono ?_
    rintro e w' ⟨rfl, rfl⟩
    go_wp2_with fail
    go_ret
    rw [E.out]
    exact NewI.mk (IS.full (xs := []) (Box.new w1 _ _) hs1 (Nat.zero_le _)).iv (hb.alloc hs1 _)
  · have hset : setsB (rowsOf hs) g = true := by rw [ES, e0, e1]; rfl
    have E := hidI (link_yes hset)
    obtain ⟨hv, h12, g0, g4⟩ := setsB_iff.1 hset
    rw [rowsOf_length] at h12
    have HV := hidI hv
    have HG := hidI (one_gv g0 g4)
    rw [e0] at C0
    rw [e1] at C1
    have HC0 := hidI C0
    have HC1 := hidI C1
    clear C0 e0 ES C1 e1 hset hv
    go_enter Try.func25, Try.ntmps25
    go_wp2_with fail
    refine Calls.mono HC0.out ?_
    rintro e w1 ⟨rfl, hb⟩
    have hs1 := hb.size
    clear HC0
    go_wp2_with fail
    refine (HC1.out _).mono ?_
    rintro e w' ⟨rfl, rfl⟩
    have S0 : IS (w1.alloc (.cells #[.int .i64 g] 3)) w.heap.size (some ⟨w1.heap.size, 0, none⟩) 1 1 [g] := IS.full (xs := [g]) (Box.new w1 _ _) hs1 (by simp [maxLen])
    have hw1 : Below w.heap.size w (w1.alloc (.cells #[.int .i64 g] 3)) := hb.alloc hs1 _
    clear hb HC1
    go_wp2_with fail
    go_loopw [5, 6] (fun o i wr => ∃ (k : Nat) (A' : Option Addr) (c' : Nat) (L : List Int), k ≤ 5 ∧ i = .int .i64 k ∧ o = .slice A' L.length c' ∧ IS wr w.heap.size A' L.length c' L ∧ Hid (gvB L = true) ∧ Hid (L = linkN (rowsOf hs) k [g]) ∧ Below w.heap.size w wr)
      (fun _ i _ => 5 - (intOf i).toNat)
    case atStart => exact ⟨0, _, _, [g], by omega, rfl, rfl, S0, HG, rfl, hw1⟩
    case round =>
      clear S0 hw1
      obtain ⟨k, A', c', L, hk, rfl, rfl, S, HL, HE, hw⟩ := hrel
      obtain ⟨wo, rfl⟩ : ∃ wo : World, wo = wr := ⟨_, rfl⟩
      by_cases hlt : k < 5
      · have d5 : decide ((k : Int) < 5) = true := decide_eq_true (by omega)
        go_wp2_with fail
        go_loopw [5, 7] (fun o i wr => ∃ (j : Nat) (A' : Option Addr) (c' : Nat) (M : List Int), j ≤ hs.length ∧ i = .int .i64 j ∧ o = .slice A' M.length c' ∧ IS wr w.heap.size A' M.length c' M ∧ Hid (gvB M = true) ∧ Hid (M = ((rowsOf hs).take j).foldl stepL L) ∧ Below w.heap.size w wr)
          (fun _ i _ => hs.length - (intOf i).toNat)
        case atStart => exact ⟨0, _, _, L, Nat.zero_le _, rfl, rfl, S, HL, by show _ = _; simp, hw⟩
        case round =>
          clear S hw
          obtain ⟨j, A2, c2, M, hj, rfl, rfl, S, HM, HF, hw⟩ := hrel
          by_cases hjt : j < hs.length
          · obtain ⟨b, o, A1, c1, xs, rfl, hb, hx, d0, hrow⟩ := (hr.out.below hw).at_ hjt
            have hM5 := gv_le HM.out
            have hvx : gvB xs = true := HV.out xs (List.mem_of_getElem? (rowsOf_at hx.out))
            have hx5 := gv_le hvx
            have FT := fold_take L (rowsOf_at hx.out)
            rw [← HF.out] at FT
            have HU := hidI (fun W (hb : Below wr.heap.size wr W) => l1Union_c A2 M c2 A1 xs c1 W (by omega) (by omega) (S.below hb).rd (hrow.below hb).low)
            have HY := hidI (uni_yes HM.out hvx)
            have RF := step_ref HM.out hvx
            obtain ⟨U, hU⟩ : ∃ U, pickL (fun g => hasB M g || hasB xs g) = U := ⟨_, rfl⟩
            rw [hU] at RF HU HY
            clear hU
            have HV2 : Hid (∀ W, Below wr.heap.size wr W → Calls Try.prog 38 #[.slice A2 M.length c2, .slice A1 xs.length c1] W fun e w1 => ∃ A3 c3, e = .returned (.slice A3 U.length c3) ∧ w1.cell? ⟨b, o + j, none⟩ = some (.slice A1 xs.length c1) ∧ Below wr.heap.size wr w1) := fun W hW =>
              (HU.out W hW).mono fun e w1 ⟨A3, c3, he, _, hb1⟩ => ⟨A3, c3, he, ((bt hW hb1).cell (p := ⟨b, o + j, none⟩) hb).trans d0, bt hW hb1⟩
            have HX := hidI (step_gv HM.out hvx)
            have hws := hw.size
            have HW := hidI hw
            have HFT := hidI FT
            have i1 : (0 : Int) ≤ (j : Int) := by omega
            have i2 : (j : Int) < (hs.length : Int) := by omega
            clear hw hrow hvx FT
            by_cases hc : 0 < (comL M xs).length
            · have HS := hidI (step_yes hc)
              have hq := RF.2 hc
              have hd : decide (U.length < M.length + xs.length) = true := decide_eq_true hq
              have hd' : decide ((U.length : Int) < (M.length : Int) + (xs.length : Int)) = true := decide_eq_true (by omega)
              have hwr : IntKind.i64.wrap ((M.length : Int) + (xs.length : Int)) = (M.length : Int) + (xs.length : Int) := IntWalk.i64_in _ (by omega)
              clear RF hc
              go_wp2_with fail
              go_region_held3 (fun w' => w'.cell? ⟨b, o + j, none⟩ = some (.slice A1 xs.length c1))
                ((first | assumption | (simp (maxDischargeDepth := 4) [*]; done) | (go_keep; done)))
                ((go_at_call 38; refine (HV2.out _ (by go_grown)).mono ?_; rintro e w1 ⟨A3, c3, rfl, k3, hb1⟩))
              have HB1 := hidI hb1
              clear hb1
              go_wp2_with fail
              refine Calls.mono (HU.out _ HB1.out) ?_
              rintro e w2 ⟨A4, c4, rfl, S4, hb2⟩
              have hb1s := HB1.out.size
              have HB2 := hidI (bt HB1.out hb2)
              have S5 := S4.mono (B' := w.heap.size) (by omega)
              rw [← HY.out, ← HS.out] at S5
              clear hb2 S4 HU hd hd' hwr
              go_wp2_with fail
              go_roundw
              case rel => exact ⟨j + 1, A4, c4, stepL M xs, by omega, by go_num, by rw [HS.out, HY.out], S5, HX, by show _ = _; rw [HFT.out], bt HW.out HB2.out⟩
              case measure => simp [intOf]; omega
            · have HS := hidI (step_no hc)
              have hq : ¬ U.length < M.length + xs.length := fun h => hc (RF.1 h)
              have hd : decide (U.length < M.length + xs.length) = false := decide_eq_false hq
              have hd' : decide ((U.length : Int) < (M.length : Int) + (xs.length : Int)) = false := decide_eq_false (by omega)
              have hwr : IntKind.i64.wrap ((M.length : Int) + (xs.length : Int)) = (M.length : Int) + (xs.length : Int) := IntWalk.i64_in _ (by omega)
              clear RF hc
              go_wp2_with fail
              go_region_held3 (fun w' => w'.cell? ⟨b, o + j, none⟩ = some (.slice A1 xs.length c1))
                ((first | assumption | (simp (maxDischargeDepth := 4) [*]; done) | (go_keep; done)))
                ((go_at_call 38; refine (HV2.out _ (by go_grown)).mono ?_; rintro e w1 ⟨A3, c3, rfl, k3, hb1⟩))
              have HB1 := hidI hb1
              have S5 := S.below hb1
              clear hb1
              go_wp2_with fail
              go_roundw
              case rel => exact ⟨j + 1, A2, c2, M, by omega, by go_num, rfl, S5, HM, by show _ = _; rw [HFT.out, HS.out], bt HW.out HB1.out⟩
              case measure => simp [intOf]; omega
          · obtain rfl : j = hs.length := by omega
            have HE2 := hidI (show M = linkN (rowsOf hs) (k + 1) [g] by
              rw [linkN_succ, ← HE.out, HF.out, ← rowsOf_length, fold_full])
            go_wp2_with fail
            go_roundw
            case rel => exact ⟨k + 1, A2, c2, M, by omega, by go_num, rfl, S, HM, HE2, hw⟩
            case measure => simp [intOf]; omega
      · obtain rfl : k = 5 := by omega
        go_wp2
        go_ret
        rw [E.out, ← HE.out]
        exact ⟨A', c', rfl, S, hw⟩
end Go.Proofs.Ytbdboekjcgefhaa
