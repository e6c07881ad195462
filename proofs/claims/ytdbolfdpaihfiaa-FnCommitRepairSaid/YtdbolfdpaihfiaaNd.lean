/- Contracts: copies of lists; repairs. -/
import Derived.Test.YtdbolfdpaihfiaaNc
import Derived.Test.YtdbolfdpaihfiaaAp
import Derived.BigRegion
namespace Go.Proofs.Ytdbolfdpaihfiaa
set_option linter.unusedVariables false
open Go.RowKit

set_option maxHeartbeats 1000000 in
theorem cloneI_c (A : Option Addr) (xs : List Int) (c : Nat) (w : World) (hn : xs.length ≤ 1048576) (hp : 0 < xs.length) (hr : Rd w w.heap.size A (xs.map (Value.int .i64))) :
    Calls Try.prog 35 #[.slice A xs.length c] w (NewI xs w) := by
  obtain ⟨b, o, rfl, hb, _⟩ := hr.lit (by simp; omega)
  go_enter Try.func35, Try.ntmps35
  go_wp2_with (first
    | (at_make; refine wpList_make_IV xs.length rfl _ _ rfl rfl rfl (by omega) ?_; intro w1 V1 hb1 hs1)
    | (at_builtin; refine wpList_append_IVs xs rfl _ _ rfl rfl V1 rfl rfl (hr.below hb1) (by omega) (by omega) ?_; intro v2 w2 V2 hb2 hg2))
  go_ret
  obtain ⟨A2, c2, rfl, S2⟩ := V2.open_
  simp only [Nat.zero_add, List.nil_append] at S2
  exact ⟨A2, c2, by simp, S2, hb1.trans hb2⟩

/-- The repaired lengths. -/
def RepI (xs live : List Int) (w : World) (e : Ending) (w' : World) : Prop :=
  ∃ A c, e = .returned (.tuple #[.slice A (repB xs live).length c, .bool (repOk xs live)]) ∧ IS w' w.heap.size A (repB xs live).length c (repB xs live) ∧ Below w.heap.size w w'

theorem rep_bad {xs live : List Int} (h : leadB xs live < 0) : repB xs live = [] ∧ repOk xs live = false := by
  have : ¬ 0 ≤ leadB xs live := by omega
  simp [repB, repOk, h, this]
theorem rep_good {xs live : List Int} {ld : Nat} (h : leadB xs live = ld) : repB xs live = repG (at0 xs ld) xs live ∧ repOk xs live = true := by
  have h0 : ¬ leadB xs live < 0 := by omega
  have h1 : 0 ≤ leadB xs live := by omega
  simp only [repB, repOk, if_neg h0, h1, decide_true, and_true]
  rw [h]

set_option maxHeartbeats 2000000 in
theorem specRep_c (A : Option Addr) (xs : List Int) (c : Nat) (A' : Option Addr) (live : List Int) (c' : Nat) (w : World) (hn : xs.length ≤ 1048576) (hn' : live.length ≤ 1048576) (hr : Rd w w.heap.size A (xs.map (Value.int .i64))) (hr' : Rd w w.heap.size A' (live.map (Value.int .i64))) :
    Calls Try.prog 20 #[.slice A xs.length c, .slice A' live.length c'] w (RepI xs live w) := by
  by_cases hneg : leadB xs live < 0
  · have e0 : Hid _ := rep_bad hneg
    have hd : decide (leadB xs live < 0) = true := decide_eq_true hneg
    go_enter Try.func20, Try.ntmps20
    go_wp2_with fail
    refine (specLeader_c _ _ _ _ _ _ _ hn hn' hr hr').mono ?_
    rintro e w1 ⟨rfl, hb⟩
    have q1 := hb.size
    go_wp2_with fail
    go_ret2
    unfold RepI
    rw [e0.out.1, e0.out.2]
    exact ⟨_, _, rfl, (IS.full (xs := []) (Box.new w1 _ _) hb.size (Nat.zero_le _)), by go_grown⟩
  · have hgood : (lvB xs && lmB live xs.length) = true := by
      rcases h : lvB xs && lmB live xs.length with _ | _
      · exact absurd (lead_neg.2 h) hneg
      · rfl
    simp only [Bool.and_eq_true] at hgood
    have hin := lead_in hgood.1 hgood.2
    have hlv := (lmB_iff.1 hgood.2).2.2
    have LV : Hid _ := hlv
    obtain ⟨ld, hld⟩ := Int.eq_ofNat_of_zero_le hin.2.2.2.1
    have hldl : ld < xs.length := by have := hin.2.2.2.2; omega
    have e0 : Hid _ := rep_good hld
    obtain ⟨u, hu⟩ : ∃ u, xs[ld]? = some u := ⟨_, List.getElem?_eq_getElem hldl⟩
    have e1 : Hid (at0 xs ld = u) := at0_of hu
    obtain ⟨b, o, rfl, hb0, hcell⟩ := hr.lit (by simp; omega)
    have HCU : Hid (∀ w1, Below w.heap.size w w1 → w1.cell? ⟨b, o + ld, none⟩ = some (.int .i64 u)) := fun w1 h => (h.cell (p := ⟨b, o + ld, none⟩) hb0).trans (hcell ld _ (by rw [List.getElem?_map, hu]; rfl))
    have LD : Hid (leadB xs live = (ld : Int)) := hld
    have hd : ¬ (ld : Int) < 0 := by omega
    clear hin hlv hu hcell hgood hneg hld
    go_enter Try.func20, Try.ntmps20
    go_wp2_with fail
    refine (specLeader_c _ _ _ _ _ _ _ hn hn' hr hr').mono ?_
    rw [LD.out]
    rintro e w1 ⟨rfl, hb⟩
    have q1 := hb.size
    have V : IV (w1.alloc (.cells #[] 3)) w.heap.size (.slice (some ⟨w1.heap.size, 0, none⟩) 0 0) 0 [] := (IS.full (xs := []) (Box.new w1 _ _) (by omega) (Nat.zero_le _)).iv
    go_wp2_with (at_builtin; refine wpList_append_IVs xs rfl _ _ rfl rfl V rfl rfl (hr.below (by go_grown)) (by omega) (by simp; omega) ?_; intro v2 w2 V2 hb2 hg2)
    have hw2 : Below w.heap.size w w2 := (Below.trans (by go_grown) hb2)
    obtain ⟨A1, c1, rfl, S1⟩ := V2.open_
    simp only [Nat.zero_add, List.nil_append] at S1 ⊢
    clear V V2 hb2 hg2 hb
    go_loopw [8] (fun i wr => ∃ k : Nat, k ≤ live.length ∧ i = .int .i64 k ∧ IS wr w.heap.size A1 xs.length c1 (repG u xs (live.take k)) ∧ Below w.heap.size w wr)
      (fun i _ => live.length - (intOf i).toNat)
    case atStart => exact ⟨0, Nat.zero_le _, rfl, by simpa [repG] using S1, hw2⟩
    case round =>
      clear S1 hw2
      obtain ⟨k, hk, rfl, S, hw⟩ := hrel
      by_cases hlt : k < live.length
      · obtain ⟨b2, o2, y, rfl, hb2, hy, d0⟩ := (hr'.below hw).int' hlt
        obtain ⟨y0, y1⟩ := LV.out y (mem_at hy.out)
        obtain ⟨cn, rfl⟩ := Int.eq_ofNat_of_zero_le y0
        have hcn : cn < xs.length := by omega
        have d1 := HCU.out _ hw
        obtain ⟨g1, rfl, hB1, hl1, hc1⟩ := S.at_ (by omega)
        have hlen := S.len
        obtain ⟨z, hz⟩ : ∃ z, (repG u xs (live.take k))[cn]? = some z := ⟨_, List.getElem?_eq_getElem (by omega)⟩
        have d2 := hc1 cn z hz
        have f2 := S.frozen cn
        have hS : Hid (IS (wr.setCell ⟨g1, cn, none⟩ (.int .i64 u)) w.heap.size (some ⟨g1, 0, none⟩) xs.length c1 (repG u xs (live.take (k + 1)))) := by
          unfold Hid
          rw [take_at hy.out, rep_snoc]
          exact S.set u
        have i4 : (cn : Int) < (xs.length : Int) := by omega
        have i5 : (ld : Int) < (xs.length : Int) := by omega
        clear hc1 hz hlen y0 y1 S
        have HW : Hid _ := hw
        clear hw
        go_wp2_with fail
        go_region
        go_wp2_with fail
        go_roundw
        case rel =>
          have hw := HW.out
          exact ⟨k + 1, by omega, by go_num, hS.out, by go_grown⟩
        case measure => simp [intOf]; omega
      · obtain rfl : k = live.length := by omega
        have e2 : Hid ((repG u xs live).length = xs.length) := rep_len _ _ _
        rw [List.take_length] at S
        go_wp2_with fail
        go_ret2
        unfold RepI
        rw [e0.out.1, e0.out.2, e1.out, e2.out]
        exact ⟨A1, c1, rfl, S, hw⟩

set_option maxHeartbeats 2000000 in
theorem implRep_c (A : Option Addr) (xs : List Int) (c : Nat) (A' : Option Addr) (live : List Int) (c' : Nat) (w : World) (hn : xs.length ≤ 1048576) (hn' : live.length ≤ 1048576) (hr : Rd w w.heap.size A (xs.map (Value.int .i64))) (hr' : Rd w w.heap.size A' (live.map (Value.int .i64))) :
    Calls Try.prog 19 #[.slice A xs.length c, .slice A' live.length c'] w (RepI xs live w) := by
  by_cases hneg : leadB xs live < 0
  · have e0 : Hid _ := rep_bad hneg
    have hd : decide (leadB xs live < 0) = true := decide_eq_true hneg
    go_enter Try.func19, Try.ntmps19
    go_wp2_with fail
    refine (implLeader_c _ _ _ _ _ _ _ hn hn' hr hr').mono ?_
    rintro e w1 ⟨rfl, hb⟩
    go_wp2_with fail
    go_ret2
    unfold RepI
    rw [e0.out.1, e0.out.2]
    exact ⟨none, 0, rfl, IS.nil _ _, by go_grown⟩
  · have hgood : (lvB xs && lmB live xs.length) = true := by
      rcases h : lvB xs && lmB live xs.length with _ | _
      · exact absurd (lead_neg.2 h) hneg
      · rfl
    simp only [Bool.and_eq_true] at hgood
    have hin := lead_in hgood.1 hgood.2
    have hlv := (lmB_iff.1 hgood.2).2.2
    have LV : Hid _ := hlv
    obtain ⟨ld, hld⟩ := Int.eq_ofNat_of_zero_le hin.2.2.2.1
    have hldl : ld < xs.length := by have := hin.2.2.2.2; omega
    have e0 : Hid _ := rep_good hld
    obtain ⟨u, hu⟩ : ∃ u, xs[ld]? = some u := ⟨_, List.getElem?_eq_getElem hldl⟩
    have e1 : Hid (at0 xs ld = u) := at0_of hu
    obtain ⟨b, o, rfl, hb0, hcell⟩ := hr.lit (by simp; omega)
    have HCU : Hid (∀ w1, Below w.heap.size w w1 → w1.cell? ⟨b, o + ld, none⟩ = some (.int .i64 u)) := fun w1 h => (h.cell (p := ⟨b, o + ld, none⟩) hb0).trans (hcell ld _ (by rw [List.getElem?_map, hu]; rfl))
    have LD : Hid (leadB xs live = (ld : Int)) := hld
    have hd : ¬ (ld : Int) < 0 := by omega
    clear hin hlv hu hcell hgood hneg hld
    go_enter Try.func19, Try.ntmps19
    go_wp2_with fail
    refine (implLeader_c _ _ _ _ _ _ _ hn hn' hr hr').mono ?_
    rw [LD.out]
    rintro e w1 ⟨rfl, hb⟩
    have q1 := hb.size
    go_wp2_with fail
    refine (cloneI_c _ xs _ _ hn (by omega) (hr.below (by go_grown)).low).mono ?_
    rintro e w2 ⟨A1, c1, rfl, S1, hb2⟩
    have hw2 : Below w.heap.size w w2 := bt hb hb2
    replace S1 := S1.mono q1
    clear hb2 hb
    go_wp2_with fail
    go_loopw [19] (fun i wr => ∃ k : Nat, k ≤ live.length ∧ i = .int .i64 k ∧ IS wr w.heap.size A1 xs.length c1 (repG u xs (live.take k)) ∧ Below w.heap.size w wr)
      (fun i _ => live.length - (intOf i).toNat)
    case atStart => exact ⟨0, Nat.zero_le _, rfl, by simpa [repG] using S1, hw2⟩
    case round =>
      clear S1 hw2
      obtain ⟨k, hk, rfl, S, hw⟩ := hrel
      by_cases hlt : k < live.length
      · obtain ⟨b2, o2, y, rfl, hb2, hy, d0⟩ := (hr'.below hw).int' hlt
        obtain ⟨y0, y1⟩ := LV.out y (mem_at hy.out)
        obtain ⟨cn, rfl⟩ := Int.eq_ofNat_of_zero_le y0
        have hcn : cn < xs.length := by omega
        have d1 := HCU.out _ hw
        obtain ⟨g1, rfl, hB1, hl1, hc1⟩ := S.at_ (by omega)
        have hlen := S.len
        obtain ⟨z, hz⟩ : ∃ z, (repG u xs (live.take k))[cn]? = some z := ⟨_, List.getElem?_eq_getElem (by omega)⟩
        have d2 := hc1 cn z hz
        have f2 := S.frozen cn
        have hS : Hid (IS (wr.setCell ⟨g1, cn, none⟩ (.int .i64 u)) w.heap.size (some ⟨g1, 0, none⟩) xs.length c1 (repG u xs (live.take (k + 1)))) := by
          unfold Hid
          rw [take_at hy.out, rep_snoc]
          exact S.set u
        have i4 : (cn : Int) < (xs.length : Int) := by omega
        have i5 : (ld : Int) < (xs.length : Int) := by omega
        clear hc1 hz hlen y0 y1 S
        have HW : Hid _ := hw
        clear hw
        go_wp2_with fail
        go_roundw
        case rel =>
          have hw := HW.out
          exact ⟨k + 1, by omega, by go_num, hS.out, by go_grown⟩
        case measure => simp [intOf]; omega
      · obtain rfl : k = live.length := by omega
        have e2 : Hid ((repG u xs live).length = xs.length) := rep_len _ _ _
        rw [List.take_length] at S
        go_wp2_with fail
        go_ret2
        unfold RepI
        rw [e0.out.1, e0.out.2, e1.out, e2.out]
        exact ⟨A1, c1, rfl, S, hw⟩
end Go.Proofs.Ytdbolfdpaihfiaa
