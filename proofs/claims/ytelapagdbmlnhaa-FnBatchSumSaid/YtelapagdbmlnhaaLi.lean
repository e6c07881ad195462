/- The laws FnBatchAll, FnBatchFull, FnBatchSum: their calls hand back true, whatever the codes. -/
import Derived.Test.YtelapagdbmlnhaaDs
import Derived.Test.YtelapagdbmlnhaaIc
import Derived.Test.YtelapagdbmlnhaaId
import Derived.Test.YtelapagdbmlnhaaIe
namespace Go.Proofs.Ytelapagdbmlnhaa
set_option linter.unusedVariables false
open Go.RowKit

set_option maxHeartbeats 4000000 in
theorem bAll_walk (A : Option Addr) (bs : List Int) (c : Nat) (w : World) (hm : (bs.length : Int) ≤ 9223372036854775807) (hlc : bs.length ≤ c) (hcm : (c : Int) ≤ 9223372036854775807) (hr : Rd w w.heap.size A (bs.map (Value.int .u8))) (hf : ∀ x ∈ bs, FitB x) :
    Calls Try.prog 3 #[.slice A bs.length c] w fun e w' => e = .returned (.bool true) ∧ Below w.heap.size w w' := by
  by_cases hn : (1048576 : Int) < bs.length
  · go_enter Try.func3, Try.ntmps3
    go_wp2
    go_ret
    exact ⟨rfl, by go_grown⟩
  · have hn' : (bs.length : Int) ≤ 1048576 := by omega
    have hw := Below.refl w.heap.size w
    go_enter Try.func3, Try.ntmps3
    go_wp2_with fail
    refine (drawBC_c A bs c _ hm hlc hcm hr hf).mono ?_
    rintro e w1 ⟨L, b, m, A1, c1, rfl, h1, h2, h3, h4, h5, h6, S1, hb⟩
    have hK : Below w.heap.size w w1 := bu hb (by go_grown)
    replace hw := hK
    clear hb hK
    have hL : (L.length : Int) ≤ 9223372036854775807 := by omega
    have hO0 := cutB_len L b m
    obtain ⟨O, HO⟩ : ∃ O, Hid (cutB L b m = O) := ⟨_, rfl⟩
    rw [HO.out] at hO0
    have hO : (O.length : Int) ≤ 9223372036854775807 := by omega
    have H2 : Hid (∀ x ∈ L, 0 ≤ x ∧ x ≤ 30) := h2
    clear h2
    go_wp2_with fail
    refine (implCut_c _ L _ b m _ hL S1.rd).mono ?_
    rw [HO.out]
    rintro e w2 ⟨A2, c2, rfl, S2, hb⟩
    have hK : Below w1.heap.size w1 w2 := bu hb (by go_grown)
    replace S1 := S1.below hK
    replace hw := bt hw hK
    clear hb hK
    go_wp2_with fail
    refine (specCut_c _ L _ b m _ hL S1.rd).mono ?_
    rw [HO.out]
    rintro e w3 ⟨A3, c3, rfl, S3, hb⟩
    have hK : Below w2.heap.size w2 w3 := bu hb (by go_grown)
    replace S1 := S1.below hK
    replace S2 := S2.below hK
    replace hw := bt hw hK
    clear hb hK
    go_wp2_with fail
    refine (sameInts_c _ _ O _ _ _ hO S2.rd S3.rd).mono ?_
    rintro e w4 ⟨rfl, hb⟩
    have hK : Below w3.heap.size w3 w4 := bu hb (by go_grown)
    replace S1 := S1.below hK
    replace S2 := S2.below hK
    replace S3 := S3.below hK
    replace hw := bt hw hK
    have zzw4 := hK.size
    clear hb hK
    rcases hv : bvB L b m with _ | _
    · go_wp2_with ((go_at_call 15; refine (specBV_c _ _ _ _ _ _ hL S1.rd).mono ?_; rintro e w' ⟨rfl, rfl⟩))
      refine (sameInts_c _ _ O _ _ _ hO S2.rd S3.rd).mono ?_
      rintro e w5 ⟨rfl, hb⟩
      have hK : Below w4.heap.size w4 w5 := bu hb (by go_grown)
      replace hw := bt hw hK
      have zzw5 := hK.size
      clear hb hK
      go_wp2_with fail
      go_ret
      exact ⟨rfl, hw⟩
    · have HV : Hid (bvB L b m = true) := hv
      go_wp2_with ((go_at_call 15; refine (specBV_c _ _ _ _ _ _ hL S1.rd).mono ?_; rintro e w' ⟨rfl, rfl⟩))
      clear hv
      go_loop [8, 9] (fun s i => ∃ (k : Nat) (sm : Int), k ≤ L.length ∧ i = .int .i64 k ∧ s = .int .i64 sm ∧ 0 ≤ sm ∧ sm ≤ 30 * k ∧ Hid (sm = sumI (L.take k))) (fun _ i => L.length - (intOf i).toNat)
      case atStart => exact ⟨0, 0, Nat.zero_le _, rfl, rfl, by omega, by omega, by simp [Hid, sumI]⟩
      case round =>
        obtain ⟨k, sm, hk, rfl, rfl, s0, s1, HS⟩ := hrel
        by_cases hlt : k < L.length
        · obtain ⟨g1, o1, z, rfl, _, hz, d0⟩ := S1.rd.int' hlt
          obtain ⟨z0, z1⟩ := H2.out z (mem_at hz.out)
          have HS2 : Hid (sm + z = sumI (L.take (k + 1))) := by
            unfold Hid
            rw [sum_take_at hz.out, HS.out]
          clear hz HS
          go_wp2_with fail
          go_round
          case rel => exact ⟨k + 1, sm + z, by omega, by go_num, rfl, by omega, by omega, HS2⟩
          case measure => simp [intOf]; omega
        · obtain rfl : k = L.length := by omega
          have hs := HS.out
          rw [List.take_length] at hs
          have HS2 : Hid (sm = sumI L) := hs
          clear hs HS
          by_cases h7 : b < sm
          · go_wp2_with fail
            go_ret
            exact ⟨rfl, hw⟩
          · have h7' : decide (b < sm) = false := by simpa using h7
            by_cases h8 : m < L.length
            · go_wp2_with fail
              go_ret
              exact ⟨rfl, hw⟩
            · have h8' : decide (m < (L.length : Int)) = false := by simpa using h8
              have ha := cutB_all HV.out (by rw [← HS2.out]; omega) (by omega)
              rw [HO.out] at ha
              clear HO
              by_cases hp : 0 < L.length
              · rw [if_pos hp] at ha
                subst ha
                by_cases h1 : (1 : Int) < L.length
                · go_wp2_with fail
                  go_ret
                  exact ⟨rfl, hw⟩
                · have h2 : (L.length : Int) = 1 := by omega
                  have h3 : L.length = 1 := by omega
                  go_wp2_with fail
                  go_ret
                  exact ⟨rfl, hw⟩
              · rw [if_neg hp] at ha
                subst ha
                obtain rfl : L = [] := List.eq_nil_of_length_eq_zero (by omega)
                go_wp2_with fail
                go_ret
                exact ⟨rfl, hw⟩

set_option maxHeartbeats 4000000 in
theorem bFull_walk (A : Option Addr) (bs : List Int) (c : Nat) (w : World) (hm : (bs.length : Int) ≤ 9223372036854775807) (hlc : bs.length ≤ c) (hcm : (c : Int) ≤ 9223372036854775807) (hr : Rd w w.heap.size A (bs.map (Value.int .u8))) (hf : ∀ x ∈ bs, FitB x) :
    Calls Try.prog 4 #[.slice A bs.length c] w fun e w' => e = .returned (.bool true) ∧ Below w.heap.size w w' := by
  by_cases hn : (1048576 : Int) < bs.length
  · go_enter Try.func4, Try.ntmps4
    go_wp2
    go_ret
    exact ⟨rfl, by go_grown⟩
  · have hn' : (bs.length : Int) ≤ 1048576 := by omega
    have hw := Below.refl w.heap.size w
    go_enter Try.func4, Try.ntmps4
    go_wp2_with fail
    refine (drawBC_c A bs c _ hm hlc hcm hr hf).mono ?_
    rintro e w1 ⟨L, b, m, A1, c1, rfl, h1, h2, h3, h4, h5, h6, S1, hb⟩
    have hK : Below w.heap.size w w1 := bu hb (by go_grown)
    replace hw := hK
    clear hb hK
    have hL : (L.length : Int) ≤ 9223372036854775807 := by omega
    have hO0 := cutB_len L b m
    obtain ⟨O, HO⟩ : ∃ O, Hid (cutB L b m = O) := ⟨_, rfl⟩
    rw [HO.out] at hO0
    have hO : (O.length : Int) ≤ 9223372036854775807 := by omega
    have H2 : Hid (∀ x ∈ L, 0 ≤ x ∧ x ≤ 30) := h2
    clear h2
    go_wp2_with fail
    refine (implCut_c _ L _ b m _ hL S1.rd).mono ?_
    rw [HO.out]
    rintro e w2 ⟨A2, c2, rfl, S2, hb⟩
    have hK : Below w1.heap.size w1 w2 := bu hb (by go_grown)
    replace S1 := S1.below hK
    replace hw := bt hw hK
    clear hb hK
    go_wp2_with fail
    refine (specCut_c _ L _ b m _ hL S1.rd).mono ?_
    rw [HO.out]
    rintro e w3 ⟨A3, c3, rfl, S3, hb⟩
    have hK : Below w2.heap.size w2 w3 := bu hb (by go_grown)
    replace S1 := S1.below hK
    replace S2 := S2.below hK
    replace hw := bt hw hK
    clear hb hK
    go_wp2_with fail
    refine (sameInts_c _ _ O _ _ _ hO S2.rd S3.rd).mono ?_
    rintro e w4 ⟨rfl, hb⟩
    have hK : Below w3.heap.size w3 w4 := bu hb (by go_grown)
    replace S1 := S1.below hK
    replace S2 := S2.below hK
    replace S3 := S3.below hK
    replace hw := bt hw hK
    have zzw4 := hK.size
    clear hb hK
    by_cases hp : O.length < 2
    · have hpb : decide ((O.length : Int) < 2) = true := by simp; omega
      clear hp
      go_wp2_with fail
      refine (sameInts_c _ _ O _ _ _ hO S2.rd S3.rd).mono ?_
      rintro e w5 ⟨rfl, hb⟩
      have hK : Below w4.heap.size w4 w5 := bu hb (by go_grown)
      replace hw := bt hw hK
      have zzw5 := hK.size
      clear hb hK
      go_wp2_with fail
      go_ret
      exact ⟨rfl, hw⟩
    · have hpb : decide ((O.length : Int) < 2) = false := by simp; omega
      have hv := (cutB_pos (show 0 < (cutB L b m).length by rw [HO.out]; omega)).1
      have FF : Hid (fullG b m L O) := by
        have := cutB_full hv
        rwa [HO.out] at this
      have FT : Hid (fitG b m L O = true) := by
        have := cutB_fits hv
        rw [HO.out] at this
        simp only [fitB', hv, Bool.true_and] at this
        exact this
      clear hv
      go_wp2_with fail
      clear hpb
      go_loop [8, 9] (fun a i => ∃ (k at_ : Nat), k + 1 ≤ O.length ∧ i = .int .i64 k ∧ a = .int .i64 at_ ∧ at_ ≤ L.length ∧ Hid (fullG b m (L.drop at_) (O.drop k)) ∧ Hid (fitG b m (L.drop at_) (O.drop k) = true)) (fun _ i => O.length - (intOf i).toNat)
      case atStart => exact ⟨0, 0, by omega, rfl, rfl, Nat.zero_le _, FF, FT⟩
      case round =>
        obtain ⟨k, at_, hk, rfl, rfl, a0, FF, FT⟩ := hrel
        by_cases hlt : k + 1 < O.length
        · obtain ⟨g2, rfl, _, _, hcell⟩ := S2.at_ (by omega)
          obtain ⟨n, hn1⟩ : ∃ n, O[k]? = some n := ⟨_, List.getElem?_eq_getElem (by omega)⟩
          obtain ⟨n2, hn2⟩ : ∃ n2, O[k + 1]? = some n2 := ⟨_, List.getElem?_eq_getElem hlt⟩
          have d0 := hcell k n hn1
          have FF1 := FF.out
          have FT1 := FT.out
          rw [drop_at hn1, drop_at hn2] at FF1 FT1
          obtain ⟨f1, f2⟩ := fullG_cons FF1
          obtain ⟨t1, t2, t3, t4⟩ := fitG_cons FT1
          obtain ⟨t5, _, t7, _⟩ := fitG_cons t4
          rw [List.drop_drop, ← drop_at hn2] at f2 t4
          rw [List.length_drop] at t3
          rw [List.length_drop, List.length_drop] at t7
          have F1 : Hid _ := f1
          have F2 : Hid _ := f2
          have F4 : Hid _ := t4
          clear hcell hn1 hn2 FF1 FT1 f1 f2 t4 FF FT
          obtain ⟨nn, rfl⟩ := Int.eq_ofNat_of_zero_le (show 0 ≤ n by omega)
          have a1 : at_ + nn < L.length := by omega
          go_wp2_with fail
          go_loop [10, 11] (fun s i => ∃ (j : Nat) (sm : Int), j ≤ nn + 1 ∧ i = .int .i64 ((at_ + j : Nat) : Int) ∧ s = .int .i64 sm ∧ 0 ≤ sm ∧ sm ≤ 30 * j ∧ Hid (sm = sumI ((L.drop at_).take j)))
            (fun _ i => at_ + nn + 1 - (intOf i).toNat)
          case atStart => exact ⟨0, 0, by omega, by simp, rfl, by omega, by omega, by simp [Hid, sumI]⟩
          case round =>
            obtain ⟨j, sm, hj, rfl, rfl, s0, s1, HS⟩ := hrel
            by_cases hjl : j < nn + 1
            · have hjx : at_ + j < L.length := by omega
              obtain ⟨g1, o1, z, rfl, _, hz, f0⟩ := S1.rd.int' hjx
              obtain ⟨z0, z1⟩ := H2.out z (mem_at hz.out)
              have HS2 : Hid (sm + z = sumI ((L.drop at_).take (j + 1))) := by
                unfold Hid
                rw [sum_at hz.out, HS.out]
              clear hz HS
              go_wp2_with fail
              go_round
              case rel => exact ⟨j + 1, sm + z, by omega, by go_num, rfl, by omega, by omega, HS2⟩
              case measure => simp [intOf]; omega
            · obtain rfl : j = nn + 1 := by omega
              have f3 := F1.out
              rw [Int.toNat_natCast, ← HS.out] at f3
              by_cases h7 : sm ≤ b
              · have h8 : ¬ (nn : Int) < m := by omega
                go_wp2_with fail
                go_round
                case rel => exact ⟨k + 1, at_ + nn, by omega, by go_num, by go_num, by omega, F2, F4⟩
                case measure => simp [intOf]; omega
              · have h7' : decide (sm ≤ b) = false := by simpa using h7
                go_wp2_with fail
                go_round
                case rel => exact ⟨k + 1, at_ + nn, by omega, by go_num, by go_num, by omega, F2, F4⟩
                case measure => simp [intOf]; omega
        · go_wp2_with fail
          go_ret
          exact ⟨rfl, hw⟩

set_option maxHeartbeats 4000000 in
theorem bSum_walk (A : Option Addr) (bs : List Int) (c : Nat) (w : World) (hm : (bs.length : Int) ≤ 9223372036854775807) (hlc : bs.length ≤ c) (hcm : (c : Int) ≤ 9223372036854775807) (hr : Rd w w.heap.size A (bs.map (Value.int .u8))) (hf : ∀ x ∈ bs, FitB x) :
    Calls Try.prog 8 #[.slice A bs.length c] w fun e w' => e = .returned (.bool true) ∧ Below w.heap.size w w' := by
  by_cases hn : (1048576 : Int) < bs.length
  · go_enter Try.func8, Try.ntmps8
    go_wp2
    go_ret
    exact ⟨rfl, by go_grown⟩
  · have hn' : (bs.length : Int) ≤ 1048576 := by omega
    have hw := Below.refl w.heap.size w
    go_enter Try.func8, Try.ntmps8
    go_wp2_with fail
    refine (drawBC_c A bs c _ hm hlc hcm hr hf).mono ?_
    rintro e w1 ⟨L, b, m, A1, c1, rfl, h1, h2, h3, h4, h5, h6, S1, hb⟩
    have hK : Below w.heap.size w w1 := bu hb (by go_grown)
    replace hw := hK
    clear hb hK
    have hL : (L.length : Int) ≤ 9223372036854775807 := by omega
    have hO0 := cutB_len L b m
    obtain ⟨O, HO⟩ : ∃ O, Hid (cutB L b m = O) := ⟨_, rfl⟩
    rw [HO.out] at hO0
    have hO : (O.length : Int) ≤ 9223372036854775807 := by omega
    have H2 : Hid (∀ x ∈ L, 0 ≤ x ∧ x ≤ 30) := h2
    clear h2
    go_wp2_with fail
    refine (implCut_c _ L _ b m _ hL S1.rd).mono ?_
    rw [HO.out]
    rintro e w2 ⟨A2, c2, rfl, S2, hb⟩
    have hK : Below w1.heap.size w1 w2 := bu hb (by go_grown)
    replace S1 := S1.below hK
    replace hw := bt hw hK
    clear hb hK
    go_wp2_with fail
    refine (specCut_c _ L _ b m _ hL S1.rd).mono ?_
    rw [HO.out]
    rintro e w3 ⟨A3, c3, rfl, S3, hb⟩
    have hK : Below w2.heap.size w2 w3 := bu hb (by go_grown)
    replace S1 := S1.below hK
    replace S2 := S2.below hK
    replace hw := bt hw hK
    clear hb hK
    go_wp2_with fail
    refine (sameInts_c _ _ O _ _ _ hO S2.rd S3.rd).mono ?_
    rintro e w4 ⟨rfl, hb⟩
    have hK : Below w3.heap.size w3 w4 := bu hb (by go_grown)
    replace S1 := S1.below hK
    replace S2 := S2.below hK
    replace S3 := S3.below hK
    replace hw := bt hw hK
    have zzw4 := hK.size
    clear hb hK
    rcases hv : bvB L b m with _ | _
    · go_wp2_with ((go_at_call 15; refine (specBV_c _ _ _ _ _ _ hL S1.rd).mono ?_; rintro e w' ⟨rfl, rfl⟩))
      refine (sameInts_c _ _ O _ _ _ hO S2.rd S3.rd).mono ?_
      rintro e w5 ⟨rfl, hb⟩
      have hK : Below w4.heap.size w4 w5 := bu hb (by go_grown)
      replace hw := bt hw hK
      have zzw5 := hK.size
      clear hb hK
      go_wp2_with fail
      go_ret
      exact ⟨rfl, hw⟩
    · have hs := cutB_sum hv
      rw [HO.out] at hs
      obtain ⟨s1, s2, s3⟩ := hs
      have SU : Hid (sumI O = L.length) := s1
      have SO : Hid (∀ n ∈ O, 1 ≤ n ∧ n ≤ 20) := s2
      clear s1 s2
      go_wp2_with ((go_at_call 15; refine (specBV_c _ _ _ _ _ _ hL S1.rd).mono ?_; rintro e w' ⟨rfl, rfl⟩))
      clear hv
      go_loop [8, 9] (fun a i => ∃ (k : Nat) (at_ : Int), k ≤ O.length ∧ i = .int .i64 k ∧ a = .int .i64 at_ ∧ 0 ≤ at_ ∧ at_ ≤ 20 * k ∧ Hid (at_ = sumI (O.take k))) (fun _ i => O.length - (intOf i).toNat)
      case atStart => exact ⟨0, 0, Nat.zero_le _, rfl, rfl, by omega, by omega, by simp [Hid, sumI]⟩
      case round =>
        obtain ⟨k, at_, hk, rfl, rfl, a0, a1, HA⟩ := hrel
        by_cases hlt : k < O.length
        · obtain ⟨g2, rfl, _, _, hcell⟩ := S2.at_ (by omega)
          obtain ⟨n, hn1⟩ : ∃ n, O[k]? = some n := ⟨_, List.getElem?_eq_getElem (by omega)⟩
          have d0 := hcell k n hn1
          obtain ⟨n0, n1⟩ := SO.out n (mem_at hn1)
          have HA2 : Hid (at_ + n = sumI (O.take (k + 1))) := by
            unfold Hid
            rw [sum_take_at hn1, HA.out]
          have HOf : Hid (∀ j : Int, 0 ≤ j → j < n → ofB O (at_ + j) = k) := fun j j0 j1 => by
            rw [HA.out]
            exact ofB_at SO.out s3 hn1 j0 j1
          clear hn1 hcell HA
          go_wp2_with fail
          go_loop [10] (fun i => ∃ j : Nat, (j : Int) ≤ n ∧ i = .int .i64 (at_ + j)) (fun i => (at_ + n).toNat - (intOf i).toNat)
          case atStart => exact ⟨0, by omega, by simp⟩
          case round =>
            obtain ⟨j, hj, rfl⟩ := hrel
            by_cases hjl : (j : Int) < n
            · have e1 := HOf.out j (by omega) hjl
              go_wp2_with ((go_at_call 16; refine (implOf_c _ O _ _ _ hO S2.rd ⟨by omega, by omega⟩).mono ?_; rintro e w' ⟨rfl, rfl⟩))
              go_round
              case rel => exact ⟨j + 1, by omega, by go_num⟩
              case measure => simp [intOf]; omega
            · obtain rfl : n = j := by omega
              go_wp2_with fail
              go_round
              case rel => exact ⟨k + 1, at_ + j, by omega, by go_num, rfl, by omega, by omega, HA2⟩
              case measure => simp [intOf]; omega
        · obtain rfl : k = O.length := by omega
          have ha := HA.out
          rw [List.take_length, SU.out] at ha
          subst ha
          have e1 : ofB O (L.length : Int) = -1 := by
            have := ofB_end SO.out s3
            rwa [SU.out] at this
          have e2 := ofB_neg O
          go_wp2_with ((go_at_call 16; refine (implOf_c _ O _ _ _ hO S2.rd ⟨by omega, by omega⟩).mono ?_; rintro e w' ⟨rfl, rfl⟩))
          go_ret
          exact ⟨rfl, hw⟩
end Go.Proofs.Ytelapagdbmlnhaa
