/- The laws FnBatchCut, FnBatchSingle, FnBatchLarger: their calls hand back true, whatever the codes. -/
import Derived.Test.YtelapagdbmlnhaaDs
import Derived.Test.YtelapagdbmlnhaaIc
import Derived.Test.YtelapagdbmlnhaaId
import Derived.Test.YtelapagdbmlnhaaIe
namespace Go.Proofs.Ytelapagdbmlnhaa
set_option linter.unusedVariables false
open Go.RowKit

set_option maxHeartbeats 4000000 in
theorem bCut_walk (A : Option Addr) (bs : List Int) (c : Nat) (w : World) (hm : (bs.length : Int) ≤ 9223372036854775807) (hlc : bs.length ≤ c) (hcm : (c : Int) ≤ 9223372036854775807) (hr : Rd w w.heap.size A (bs.map (Value.int .u8))) (hf : ∀ x ∈ bs, FitB x) :
    Calls Try.prog 9 #[.slice A bs.length c] w fun e w' => e = .returned (.bool true) ∧ Below w.heap.size w w' := by
  by_cases hn : (1048576 : Int) < bs.length
  · go_enter Try.func9, Try.ntmps9
    go_wp2
    go_ret
    exact ⟨rfl, by go_grown⟩
  · have hn' : (bs.length : Int) ≤ 1048576 := by omega
    have hw := Below.refl w.heap.size w
    go_enter Try.func9, Try.ntmps9
    go_wp2_with fail
    refine (drawBC_c A bs c _ hm hlc hcm hr hf).mono ?_
    rintro e w1 ⟨L, b, m, A1, c1, rfl, h1, h2, h3, h4, h5, h6, S1, hb⟩
    have hK : Below w.heap.size w w1 := bu hb (by go_grown)
    replace hw := hK
    clear hb hK
    have hL : (L.length : Int) ≤ 9223372036854775807 := by omega
    have hO0 := cutB_len L b m
    obtain ⟨O, HO⟩ : ∃ O, Hid (cutB L b m = O) := ⟨_, rfl⟩
    rw [HO.out] at hO0
    have hO : (O.length : Int) ≤ 9223372036854775807 := by omega
    have H2 : Hid (∀ x ∈ L, 0 ≤ x ∧ x ≤ 30) := h2
    clear h2
    go_wp2_with fail
    refine (implCut_c _ L _ b m _ hL S1.rd).mono ?_
    rw [HO.out]
    rintro e w2 ⟨A2, c2, rfl, S2, hb⟩
    have hK : Below w1.heap.size w1 w2 := bu hb (by go_grown)
    replace S1 := S1.below hK
    replace hw := bt hw hK
    clear hb hK
    go_wp2_with fail
    refine (specCut_c _ L _ b m _ hL S1.rd).mono ?_
    rw [HO.out]
    rintro e w3 ⟨A3, c3, rfl, S3, hb⟩
    have hK : Below w2.heap.size w2 w3 := bu hb (by go_grown)
    replace S1 := S1.below hK
    replace S2 := S2.below hK
    replace hw := bt hw hK
    clear hb hK
    go_wp2_with fail
    refine (sameInts_c _ _ O _ _ _ hO S2.rd S3.rd).mono ?_
    rintro e w4 ⟨rfl, hb⟩
    have hK : Below w3.heap.size w3 w4 := bu hb (by go_grown)
    replace S1 := S1.below hK
    replace S2 := S2.below hK
    replace S3 := S3.below hK
    replace hw := bt hw hK
    have zzw4 := hK.size
    clear hb hK
    rcases hv : bvB L b m with _ | _
    · go_wp2_with ((go_at_call 15; refine (specBV_c _ _ _ _ _ _ hL S1.rd).mono ?_; rintro e w' ⟨rfl, rfl⟩))
      refine (sameInts_c _ _ O _ _ _ hO S2.rd S3.rd).mono ?_
      rintro e w5 ⟨rfl, hb⟩
      have hK : Below w4.heap.size w4 w5 := bu hb (by go_grown)
      replace hw := bt hw hK
      have zzw5 := hK.size
      clear hb hK
      go_wp2_with fail
      go_ret
      exact ⟨rfl, hw⟩
    · have e1 : fitB' L b m O = true := by rw [← HO.out]; exact cutB_fits hv
      have k0 := S1.cap.1
      have k1 : (c1 : Int) ≤ 9223372036854775807 := by have := S1.cap.2; unfold maxLen at this; omega
      go_wp2_with (first | (go_at_call 15; refine (specBV_c _ _ _ _ _ _ hL S1.rd).mono ?_; rintro e w' ⟨rfl, rfl⟩) | (go_at_call 17; refine (implFits_c _ _ _ _ _ _ _ _ _ hL hO k0 k1 S1.rd S2.rd).mono ?_; rintro e w' ⟨rfl, rfl⟩))
      go_ret
      exact ⟨rfl, hw⟩

set_option maxHeartbeats 4000000 in
theorem bSingle_walk (A : Option Addr) (bs : List Int) (c : Nat) (w : World) (hm : (bs.length : Int) ≤ 9223372036854775807) (hlc : bs.length ≤ c) (hcm : (c : Int) ≤ 9223372036854775807) (hr : Rd w w.heap.size A (bs.map (Value.int .u8))) (hf : ∀ x ∈ bs, FitB x) :
    Calls Try.prog 7 #[.slice A bs.length c] w fun e w' => e = .returned (.bool true) ∧ Below w.heap.size w w' := by
  by_cases hn : (1048576 : Int) < bs.length
  · go_enter Try.func7, Try.ntmps7
    go_wp2
    go_ret
    exact ⟨rfl, by go_grown⟩
  · have hn' : (bs.length : Int) ≤ 1048576 := by omega
    have hw := Below.refl w.heap.size w
    go_enter Try.func7, Try.ntmps7
    go_wp2_with fail
    refine (drawBC_c A bs c _ hm hlc hcm hr hf).mono ?_
    rintro e w1 ⟨L, b, m, A1, c1, rfl, h1, h2, h3, h4, h5, h6, S1, hb⟩
    have hK : Below w.heap.size w w1 := bu hb (by go_grown)
    replace hw := hK
    clear hb hK
    have hL : (L.length : Int) ≤ 9223372036854775807 := by omega
    have hO0 := cutB_len L b m
    obtain ⟨O, HO⟩ : ∃ O, Hid (cutB L b m = O) := ⟨_, rfl⟩
    rw [HO.out] at hO0
    have hO : (O.length : Int) ≤ 9223372036854775807 := by omega
    have H2 : Hid (∀ x ∈ L, 0 ≤ x ∧ x ≤ 30) := h2
    clear h2
    go_wp2_with fail
    refine (implCut_c _ L _ b m _ hL S1.rd).mono ?_
    rw [HO.out]
    rintro e w2 ⟨A2, c2, rfl, S2, hb⟩
    have hK : Below w1.heap.size w1 w2 := bu hb (by go_grown)
    replace S1 := S1.below hK
    replace hw := bt hw hK
    clear hb hK
    go_wp2_with fail
    refine (specCut_c _ L _ b m _ hL S1.rd).mono ?_
    rw [HO.out]
    rintro e w3 ⟨A3, c3, rfl, S3, hb⟩
    have hK : Below w2.heap.size w2 w3 := bu hb (by go_grown)
    replace S1 := S1.below hK
    replace S2 := S2.below hK
    replace hw := bt hw hK
    clear hb hK
    go_wp2_with fail
    refine (sameInts_c _ _ O _ _ _ hO S2.rd S3.rd).mono ?_
    rintro e w4 ⟨rfl, hb⟩
    have hK : Below w3.heap.size w3 w4 := bu hb (by go_grown)
    replace S1 := S1.below hK
    replace S2 := S2.below hK
    replace S3 := S3.below hK
    replace hw := bt hw hK
    have zzw4 := hK.size
    clear hb hK
    rcases hv : bvB L b m with _ | _
    · go_wp2_with ((go_at_call 15; refine (specBV_c _ _ _ _ _ _ hL S1.rd).mono ?_; rintro e w' ⟨rfl, rfl⟩))
      refine (sameInts_c _ _ O _ _ _ hO S2.rd S3.rd).mono ?_
      rintro e w5 ⟨rfl, hb⟩
      have hK : Below w4.heap.size w4 w5 := bu hb (by go_grown)
      replace hw := bt hw hK
      have zzw5 := hK.size
      clear hb hK
      go_wp2_with fail
      go_ret
      exact ⟨rfl, hw⟩
    · have HX : Hid (cutB L b 1 = List.replicate L.length 1) := cutB_ones hv
      go_wp2_with ((go_at_call 15; refine (specBV_c _ _ _ _ _ _ hL S1.rd).mono ?_; rintro e w' ⟨rfl, rfl⟩))
      refine (implCut_c _ L _ b 1 _ hL S1.rd).mono ?_
      rw [HX.out]
      rintro e w5 ⟨A5, c5, rfl, S5, hb⟩
      have hK : Below w4.heap.size w4 w5 := bu hb (by go_grown)
      replace hw := bt hw hK
      clear hb hK
      simp only [List.length_replicate] at S5 ⊢
      go_wp2_with fail
      go_loop [9] (fun i => ∃ k : Nat, k ≤ L.length ∧ i = .int .i64 k) (fun i => L.length - (intOf i).toNat)
      case atStart => exact ⟨0, Nat.zero_le _, rfl⟩
      case round =>
        obtain ⟨k, hk, rfl⟩ := hrel
        by_cases hlt : k < L.length
        · obtain ⟨g5, rfl, _, _, hcell⟩ := S5.at_ (by omega)
          have d0 := hcell k 1 (by simp [hlt])
          clear hcell
          go_wp2_with fail
          go_round
          case rel => exact ⟨k + 1, by omega, by go_num⟩
          case measure => simp [intOf]; omega
        · obtain rfl : k = L.length := by omega
          go_wp2_with fail
          go_ret
          exact ⟨rfl, hw⟩

set_option maxHeartbeats 4000000 in
theorem bLarger_walk (A : Option Addr) (bs : List Int) (c : Nat) (w : World) (hm : (bs.length : Int) ≤ 9223372036854775807) (hlc : bs.length ≤ c) (hcm : (c : Int) ≤ 9223372036854775807) (hr : Rd w w.heap.size A (bs.map (Value.int .u8))) (hf : ∀ x ∈ bs, FitB x) :
    Calls Try.prog 5 #[.slice A bs.length c] w fun e w' => e = .returned (.bool true) ∧ Below w.heap.size w w' := by
  by_cases hn : (1048576 : Int) < bs.length
  · go_enter Try.func5, Try.ntmps5
    go_wp2
    go_ret
    exact ⟨rfl, by go_grown⟩
  · have hn' : (bs.length : Int) ≤ 1048576 := by omega
    have hw := Below.refl w.heap.size w
    go_enter Try.func5, Try.ntmps5
    go_wp2_with fail
    refine (drawBC_c A bs c _ hm hlc hcm hr hf).mono ?_
    rintro e w1 ⟨L, b, m, A1, c1, rfl, h1, h2, h3, h4, h5, h6, S1, hb⟩
    have hK : Below w.heap.size w w1 := bu hb (by go_grown)
    replace hw := hK
    clear hb hK
    have hL : (L.length : Int) ≤ 9223372036854775807 := by omega
    have hO0 := cutB_len L b m
    obtain ⟨O, HO⟩ : ∃ O, Hid (cutB L b m = O) := ⟨_, rfl⟩
    rw [HO.out] at hO0
    have hO : (O.length : Int) ≤ 9223372036854775807 := by omega
    have H2 : Hid (∀ x ∈ L, 0 ≤ x ∧ x ≤ 30) := h2
    clear h2
    go_wp2_with fail
    refine (implCut_c _ L _ b m _ hL S1.rd).mono ?_
    rw [HO.out]
    rintro e w2 ⟨A2, c2, rfl, S2, hb⟩
    have hK : Below w1.heap.size w1 w2 := bu hb (by go_grown)
    replace S1 := S1.below hK
    replace hw := bt hw hK
    clear hb hK
    go_wp2_with fail
    refine (specCut_c _ L _ b m _ hL S1.rd).mono ?_
    rw [HO.out]
    rintro e w3 ⟨A3, c3, rfl, S3, hb⟩
    have hK : Below w2.heap.size w2 w3 := bu hb (by go_grown)
    replace S1 := S1.below hK
    replace S2 := S2.below hK
    replace hw := bt hw hK
    clear hb hK
    go_wp2_with fail
    refine (sameInts_c _ _ O _ _ _ hO S2.rd S3.rd).mono ?_
    rintro e w4 ⟨rfl, hb⟩
    have hK : Below w3.heap.size w3 w4 := bu hb (by go_grown)
    replace S1 := S1.below hK
    replace S2 := S2.below hK
    replace S3 := S3.below hK
    replace hw := bt hw hK
    have zzw4 := hK.size
    clear hb hK
    by_cases hp : O.length = 0
    · have hpb : ((O.length : Int) == 0) = true := by rw [hp]; rfl
      clear hp
      go_wp2_with fail
      refine (sameInts_c _ _ O _ _ _ hO S2.rd S3.rd).mono ?_
      rintro e w5 ⟨rfl, hb⟩
      have hK : Below w4.heap.size w4 w5 := bu hb (by go_grown)
      replace hw := bt hw hK
      have zzw5 := hK.size
      clear hb hK
      go_wp2_with fail
      go_ret
      exact ⟨rfl, hw⟩
    · have hp' : ¬ (O.length : Int) = 0 := by omega
      have hpb : ((O.length : Int) == 0) = false := by simpa using hp'
      have hpos : 0 < (cutB L b m).length := by rw [HO.out]; omega
      obtain ⟨q1, q2, q3, q4, q5, q6⟩ := bvB_iff.1 (cutB_pos hpos).1
      have la := fun h => larger_of (b' := b + 1) (m' := m) hpos (by omega) (Int.le_refl _) h q6
      have lb := fun h => larger_of (b' := b) (m' := m + 1) hpos (Int.le_refl _) (by omega) q4 h
      obtain ⟨Oa, HA⟩ : ∃ Oa, Hid (cutB L (b + 1) m = Oa) := ⟨_, rfl⟩
      obtain ⟨Ob, HB⟩ : ∃ Ob, Hid (cutB L b (m + 1) = Ob) := ⟨_, rfl⟩
      rw [HO.out, HA.out] at la
      rw [HO.out, HB.out] at lb
      have na := fun h => (HA.out).symm.trans (cutB_none (xs := L) (b := b + 1) (m := m) (.inl h))
      have nb := fun h => (HB.out).symm.trans (cutB_none (xs := L) (b := b) (m := m + 1) (.inr h))
      have ka := cutB_len L (b + 1) m
      have kb := cutB_len L b (m + 1)
      rw [HA.out] at ka
      rw [HB.out] at kb
      have LA : Hid _ := la
      have LB : Hid _ := lb
      have NA : Hid _ := na
      have NB : Hid _ := nb
      clear la lb na nb q1
      go_wp2_with fail
      refine (implCut_c _ L _ (b + 1) m _ hL S1.rd).mono ?_
      rw [HA.out]
      rintro e w5 ⟨A5, c5, rfl, S5, hb⟩
      have hK : Below w4.heap.size w4 w5 := bu hb (by go_grown)
      replace S1 := S1.below hK
      replace hw := bt hw hK
      clear hb hK
      go_wp2_with fail
      refine (implCut_c _ L _ b (m + 1) _ hL S1.rd).mono ?_
      rw [HB.out]
      rintro e w6 ⟨A6, c6, rfl, S6, hb⟩
      have hK : Below w5.heap.size w5 w6 := bu hb (by go_grown)
      replace hw := bt hw hK
      clear hb hK
      by_cases hb9 : b = 99
      · subst hb9
        obtain rfl := NA.out (by omega)
        by_cases hm20 : m = 20
        · subst hm20
          obtain rfl := NB.out (by omega)
          go_wp2_with fail
          go_ret
          exact ⟨rfl, hw⟩
        · obtain ⟨b1, b2⟩ := LB.out (by omega)
          have b3 : (0 : Int) < (Ob.length : Int) := by omega
          have b4 : (Ob.length : Int) ≤ (O.length : Int) := by omega
          go_wp2_with fail
          go_ret
          exact ⟨rfl, hw⟩
      · obtain ⟨a1, a2⟩ := LA.out (by omega)
        have a3 : (0 : Int) < (Oa.length : Int) := by omega
        have a4 : (Oa.length : Int) ≤ (O.length : Int) := by omega
        by_cases hm20 : m = 20
        · subst hm20
          obtain rfl := NB.out (by omega)
          go_wp2_with fail
          go_ret
          exact ⟨rfl, hw⟩
        · obtain ⟨b1, b2⟩ := LB.out (by omega)
          have b3 : (0 : Int) < (Ob.length : Int) := by omega
          have b4 : (Ob.length : Int) ≤ (O.length : Int) := by omega
          go_wp2_with fail
          go_ret
          exact ⟨rfl, hw⟩
end Go.Proofs.Ytelapagdbmlnhaa
