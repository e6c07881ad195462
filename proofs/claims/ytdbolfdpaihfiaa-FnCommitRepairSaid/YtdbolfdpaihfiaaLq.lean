/- The laws FnCommitIndex, FnCommitLeader, FnCommitRepair: their calls hand back true, whatever the code. -/
import Derived.Test.YtdbolfdpaihfiaaDu
import Derived.Test.YtdbolfdpaihfiaaNd
import Derived.Test.YtdbolfdpaihfiaaNe
import Derived.Test.YtdbolfdpaihfiaaPlainE
namespace Go.Proofs.Ytdbolfdpaihfiaa
set_option linter.unusedVariables false
open Go.RowKit

theorem ci_yes {xs : List Int} (h : ¬ ciB xs < 0) : lvB xs = true := by
  rcases k : lvB xs with _ | _
  · exact absurd (by rw [ci_bad k]; decide) h
  · rfl

set_option maxHeartbeats 4000000 in
theorem cIndex_walk (A : Option Addr) (bs : List Int) (c : Nat) (w : World) (hm : (bs.length : Int) ≤ 9223372036854775807) (hlc : bs.length ≤ c) (hcm : (c : Int) ≤ 9223372036854775807) (hr : Rd w w.heap.size A (bs.map (Value.int .u8))) (hf : ∀ x ∈ bs, FitB x) :
    Calls Try.prog 8 #[.slice A bs.length c] w fun e w' => e = .returned (.bool true) ∧ Below w.heap.size w w' := by
  by_cases hn : (1048576 : Int) < bs.length
  · go_enter Try.func8, Try.ntmps8
    go_wp2
    go_ret
    exact ⟨rfl, by go_grown⟩
  · have hn' : (bs.length : Int) ≤ 1048576 := by omega
    have hw := Below.refl w.heap.size w
    go_enter Try.func8, Try.ntmps8
    go_wp2_with fail
    refine (drawCI_c A bs c _ hm hlc hcm hr hf).mono ?_
    rintro e w1 ⟨L, A1, c1, rfl, h1, h2, S1, hb⟩
    have hK : Below w.heap.size w w1 := bu hb (by go_grown)
    replace hw := hK
    clear hb hK h2
    have hL : (L.length : Int) ≤ 9223372036854775807 := by omega
    obtain ⟨ci, HC⟩ : ∃ ci, Hid (ciB L = ci) := ⟨_, rfl⟩
    have CI := fun w h => implCI_c A1 L c1 w hL h
    have CS := fun w h => specCI_c A1 L c1 w hL h
    rw [HC.out] at CI CS
    go_wp2_with fail
    refine (CI _ S1.rd).mono ?_
    rintro e w2 ⟨rfl, hb⟩
    have hK : Below w1.heap.size w1 w2 := bu hb (by go_grown)
    replace S1 := S1.below hK
    replace hw := bt hw hK
    have zzw2 := hK.size
    clear hb hK
    by_cases hneg : ci < 0
    · have hd : decide (ci < 0) = true := decide_eq_true hneg
      go_wp2_with ((go_at_call 12; refine (CS _ S1.rd).mono ?_; rintro e w' ⟨rfl, rfl⟩))
      go_ret
      exact ⟨rfl, hw⟩
    · have hd : decide (ci < 0) = false := decide_eq_false hneg
      have hv := ci_yes (xs := L) (by rw [HC.out]; exact hneg)
      obtain ⟨q1, q2⟩ := ci_counts hv
      have q3 := havI_le L ci
      have q4 := havI_le L (ci + 1)
      have q5 := (ci_is hv).hi
      rw [HC.out] at q1 q2 q5
      have Q1 : Hid _ := q1
      have Q2 : Hid _ := q2
      have Q3 : Hid _ := q3
      have Q4 : Hid _ := q4
      have Q5 : Hid _ := q5
      clear hv CI q1 q2 q3 q4 q5
      go_wp2_with ((go_at_call 12; refine (CS _ S1.rd).mono ?_; rintro e w' ⟨rfl, rfl⟩))
      clear CS
      go_loopw [6, 7, 8] (fun p q i wr => ∃ k a b : Nat, k ≤ L.length ∧ p = .int .i64 a ∧ q = .int .i64 b ∧ i = .int .i64 k ∧ a ≤ k ∧ b ≤ k ∧ Hid (a = havI (L.take k) ci) ∧ Hid (b = havI (L.take k) (ci + 1)) ∧ IS wr w.heap.size A1 L.length c1 L ∧ Below w.heap.size w wr) (fun _ _ i _ => L.length - (intOf i).toNat)
      case atStart => exact ⟨0, 0, 0, Nat.zero_le _, rfl, rfl, rfl, Nat.le_refl _, Nat.le_refl _, by simp [Hid, havI], by simp [Hid, havI], S1, hw⟩
      case round =>
        clear S1 hw
        obtain ⟨k, a, b, hk, rfl, rfl, rfl, ha, hb, HA, HB, S1, hw⟩ := hrel
        by_cases hlt : k < L.length
        · obtain ⟨g1, rfl, _, l1, hc1⟩ := S1.at_ (by omega)
          obtain ⟨z, hz⟩ : ∃ z, L[k]? = some z := ⟨_, List.getElem?_eq_getElem hlt⟩
          have d1 := hc1 k z hz
          have HW : Hid _ := hw
          by_cases u1 : ci ≤ z
          · have HA2 : Hid (a + 1 = havI (L.take (k + 1)) ci) := by
              unfold Hid
              rw [havI_take hz, HA.out, if_pos u1]
            by_cases u2 : ci < z
            · have HB2 : Hid (b + 1 = havI (L.take (k + 1)) (ci + 1)) := by
                unfold Hid
                rw [havI_take hz, HB.out, if_pos (by omega)]
              clear hc1 hz hw HA HB
              go_wp2
              go_roundw
              case rel => exact ⟨k + 1, a + 1, b + 1, by omega, by go_num, by go_num, by go_num, by omega, by omega, HA2, HB2, S1, HW.out⟩
              case measure => simp [intOf]; omega
            · have HB2 : Hid (b = havI (L.take (k + 1)) (ci + 1)) := by
                unfold Hid
                rw [havI_take hz, HB.out, if_neg (by omega)]
                rfl
              clear hc1 hz hw HA HB
              go_wp2
              go_roundw
              case rel => exact ⟨k + 1, a + 1, b, by omega, by go_num, rfl, by go_num, by omega, by omega, HA2, HB2, S1, HW.out⟩
              case measure => simp [intOf]; omega
          · have HA2 : Hid (a = havI (L.take (k + 1)) ci) := by
              unfold Hid
              rw [havI_take hz, HA.out, if_neg u1]
              rfl
            have u2 : ¬ ci < z := by omega
            have HB2 : Hid (b = havI (L.take (k + 1)) (ci + 1)) := by
              unfold Hid
              rw [havI_take hz, HB.out, if_neg (by omega)]
              rfl
            clear hc1 hz hw HA HB
            go_wp2
            go_roundw
            case rel => exact ⟨k + 1, a, b, by omega, rfl, rfl, by go_num, by omega, by omega, HA2, HB2, S1, HW.out⟩
            case measure => simp [intOf]; omega
        · obtain rfl : k = L.length := by omega
          have e1 := HA.out
          have e2 := HB.out
          rw [List.take_length] at e1 e2
          have q1 := Q1.out
          have q2 := Q2.out
          have q5 := Q5.out
          rw [← e1] at q1
          rw [← e2] at q2
          clear e1 e2 HA HB
          have t1 : decide ((L.length : Int) < 2 * (a : Int)) = true := decide_eq_true (by omega)
          by_cases hh : 2 * (b : Int) ≤ (L.length : Int)
          · have t2 : decide (2 * (b : Int) ≤ (L.length : Int)) = true := decide_eq_true hh
            clear hh q1 q2 q5
            go_wp2
            go_ret
            exact ⟨rfl, hw⟩
          · have t2 : decide (2 * (b : Int) ≤ (L.length : Int)) = false := decide_eq_false hh
            have t3 : ci = 99 := by omega
            subst t3
            clear hh q1 q2 q5
            go_wp2
            go_ret
            exact ⟨rfl, hw⟩

set_option maxHeartbeats 4000000 in
theorem cLeader_walk (A : Option Addr) (bs : List Int) (c : Nat) (w : World) (hm : (bs.length : Int) ≤ 9223372036854775807) (hlc : bs.length ≤ c) (hcm : (c : Int) ≤ 9223372036854775807) (hr : Rd w w.heap.size A (bs.map (Value.int .u8))) (hf : ∀ x ∈ bs, FitB x) :
    Calls Try.prog 4 #[.slice A bs.length c] w fun e w' => e = .returned (.bool true) ∧ Below w.heap.size w w' := by
  by_cases hn : (1048576 : Int) < bs.length
  · go_enter Try.func4, Try.ntmps4
    go_wp2
    go_ret
    exact ⟨rfl, by go_grown⟩
  · have hn' : (bs.length : Int) ≤ 1048576 := by omega
    have hw := Below.refl w.heap.size w
    go_enter Try.func4, Try.ntmps4
    go_wp2_with fail
    refine (drawCL_c A bs c _ hm hlc hcm hr hf).mono ?_
    rintro e w1 ⟨L, A1, c1, Y, A2, c2, rfl, h1, h2, h3, h4, S1, S2, hb⟩
    have hK : Below w.heap.size w w1 := bu hb (by go_grown)
    replace hw := hK
    clear hb hK h2 h4
    have hL : L.length ≤ 1048576 := by omega
    have hLm : (L.length : Int) ≤ 9223372036854775807 := by omega
    have hY : Y.length ≤ 1048576 := by omega
    have hYm : (Y.length : Int) ≤ 9223372036854775807 := by omega
    obtain ⟨ld, hld⟩ : ∃ ld, leadB L Y = ld := ⟨_, rfl⟩
    have CI := fun w h h' => implLeader_c A1 L c1 A2 Y c2 w hL hY h h'
    have CS := fun w h h' => specLeader_c A1 L c1 A2 Y c2 w hL hY h h'
    rw [hld] at CI CS
    go_wp2_with fail
    refine (CI _ S1.rd S2.rd).mono ?_
    rintro e w2 ⟨rfl, hb⟩
    have hK : Below w1.heap.size w1 w2 := bu hb (by go_grown)
    replace S1 := S1.below hK
    replace S2 := S2.below hK
    replace hw := bt hw hK
    have zzw2 := hK.size
    clear hb hK
    go_wp2_with fail
    refine (CS _ S1.rd S2.rd).mono ?_
    rintro e w3 ⟨rfl, hb⟩
    have hK : Below w2.heap.size w2 w3 := bu hb (by go_grown)
    replace S1 := S1.below hK
    replace S2 := S2.below hK
    replace hw := bt hw hK
    have zzw3 := hK.size
    clear hb hK
    by_cases hneg : ld < 0
    · have hd : decide (ld < 0) = true := decide_eq_true hneg
      go_wp2_with fail
      go_ret
      exact ⟨rfl, hw⟩
    · have hd : decide (ld < 0) = false := decide_eq_false hneg
      have hgood : (lvB L && lmB Y L.length) = true := by
        rcases h : lvB L && lmB Y L.length with _ | _
        · exact absurd (lead_neg.2 h) (by omega)
        · rfl
      simp only [Bool.and_eq_true] at hgood
      have hin := lead_in hgood.1 hgood.2
      rw [hld] at hin
      obtain ⟨n, rfl⟩ := Int.eq_ofNat_of_zero_le hin.2.2.2.1
      have hnl : n < L.length := by have := hin.2.2.2.2; omega
      obtain ⟨u, hu⟩ : ∃ u, L[n]? = some u := ⟨_, List.getElem?_eq_getElem hnl⟩
      have hlc2 := lead_ci hgood.1 hgood.2 hld
      rw [at0_of hu] at hlc2
      have hb1 : hasB Y n = true := hasB_iff.2 hin.1
      have HI := fun w h => hasInt_c A2 Y c2 (n : Int) w hYm h
      rw [hb1] at HI
      obtain ⟨ci, hci⟩ : ∃ ci, ciB L = ci := ⟨_, rfl⟩
      have HC := fun w h => implCI_c A1 L c1 w hLm h
      rw [hci] at HC hlc2
      obtain ⟨g1, rfl, _, l1, hc1⟩ := S1.at_ (by omega)
      have d1 := hc1 n u hu
      have t1 : decide (ci ≤ u) = true := decide_eq_true hlc2
      have i1 : (0 : Int) ≤ (n : Int) := by omega
      have i2 : (n : Int) < (L.length : Int) := by omega
      have HW : Hid _ := hw
      clear hin hgood hld CI CS hu hneg hc1 hci hb1 hw hlc2
      go_wp2_with fail
      refine wp_region_ext (by first | with_reducible assumption | exact Below.refl _ _) (by kernel_rfl) (by kernel_rfl) ?_
      intro hx hx2
      repeat (go_big_quiet_step ((first | (go_at_call 17; exact ext_call_same (HI _ (S2.rd.ext _))) | (go_at_call 11; exact ext_call (HC _ (S1.rd.ext _))))))
      refine wpQuiet_nil ?_
      clear hx hx2
      rintro _ ⟨⟨w1, hb⟩, rfl⟩
      have hK := bt (by first | with_reducible assumption | exact Below.refl _ _) hb
      have hc := bcell hK
      have hf := bfrozen hK
      have hs := bsize hK
      clear hb
      (try (refine bw (w := w) hK ?_ ?_; (focus (first | exact HW.out | (have hq := HW.out; go_grown; done) | (go_grown; done))); intro hw hwz; have hK := hK))
      (try (refine bz hK (w.heap.size) ?_ ?_; (focus (first | omega | (simp; done) | (simp; omega))); intro hz0 hd0 hg0))
      (try (refine bz hK (w.heap.size + 1) ?_ ?_; (focus (first | omega | (simp; done) | (simp; omega))); intro hz1 hd1 hg1))
      (try (refine bz hK (w.heap.size + 2) ?_ ?_; (focus (first | omega | (simp; done) | (simp; omega))); intro hz2 hd2 hg2))
      (try (refine bz hK (w.heap.size + 3) ?_ ?_; (focus (first | omega | (simp; done) | (simp; omega))); intro hz3 hd3 hg3))
      (try (refine bz hK g ?_ ?_; (focus (first | omega | (simp; done) | (simp; omega))); intro hzg hdg hgg))
      (try (refine bz hK g1 ?_ ?_; (focus (first | omega | (simp; done) | (simp; omega))); intro hzg hdg hgg))
      (try (refine bz hK g2 ?_ ?_; (focus (first | omega | (simp; done) | (simp; omega))); intro hzg hdg hgg))
      go_wp2
      go_ret
      exact ⟨rfl, bt HW.out hK⟩

set_option maxHeartbeats 4000000 in
theorem cRepair_walk (A : Option Addr) (bs : List Int) (c : Nat) (w : World) (hm : (bs.length : Int) ≤ 9223372036854775807) (hlc : bs.length ≤ c) (hcm : (c : Int) ≤ 9223372036854775807) (hr : Rd w w.heap.size A (bs.map (Value.int .u8))) (hf : ∀ x ∈ bs, FitB x) :
    Calls Try.prog 5 #[.slice A bs.length c] w fun e w' => e = .returned (.bool true) ∧ Below w.heap.size w w' := by
  by_cases hn : (1048576 : Int) < bs.length
  · go_enter Try.func5, Try.ntmps5
    go_wp2
    go_ret
    exact ⟨rfl, by go_grown⟩
  · have hn' : (bs.length : Int) ≤ 1048576 := by omega
    have hw := Below.refl w.heap.size w
    go_enter Try.func5, Try.ntmps5
    go_wp2_with fail
    refine (drawCR_c A bs c _ hm hlc hcm hr hf).mono ?_
    rintro e w1 ⟨L, A1, c1, Y, A2, c2, rfl, h1, h2, h3, h4, S1, S2, hb⟩
    have hK : Below w.heap.size w w1 := bu hb (by go_grown)
    replace hw := hK
    clear hb hK h2 h4
    have hL : L.length ≤ 1048576 := by omega
    have hLm : (L.length : Int) ≤ 9223372036854775807 := by omega
    have hY : Y.length ≤ 1048576 := by omega
    have hR0 := repB_le L Y
    have CI := fun w h h' => implRep_c A1 L c1 A2 Y c2 w hL hY h h'
    have CS := fun w h h' => specRep_c A1 L c1 A2 Y c2 w hL hY h h'
    unfold RepI at CS CI
    obtain ⟨R, hR⟩ : ∃ R, repB L Y = R := ⟨_, rfl⟩
    obtain ⟨ok, hok⟩ : ∃ ok, repOk L Y = ok := ⟨_, rfl⟩
    rw [hR, hok] at CI CS
    rw [hR] at hR0
    have HR : Hid _ := hR
    have HO : Hid _ := hok
    clear hR hok
    have hRm : (R.length : Int) ≤ 9223372036854775807 := by omega
    go_wp2_with fail
    refine (CI _ S1.rd S2.rd).mono ?_
    rintro e w2 ⟨A3, c3, rfl, S3, hb⟩
    have hK : Below w1.heap.size w1 w2 := bu hb (by go_grown)
    replace S1 := S1.below hK
    replace S2 := S2.below hK
    replace hw := bt hw hK
    have zzw2 := hK.size
    clear hb hK
    go_wp2_with fail
    refine (CS _ S1.rd S2.rd).mono ?_
    rintro e w3 ⟨A4, c4, rfl, S4, hb⟩
    have hK : Below w2.heap.size w2 w3 := bu hb (by go_grown)
    replace S1 := S1.below hK
    replace S2 := S2.below hK
    replace S3 := S3.below hK
    replace hw := bt hw hK
    have zzw3 := hK.size
    clear hb hK
    go_wp2_with fail
    rcases ok with _ | _
    · skip
      refine (sameInts_c _ _ R _ _ _ hRm S3.rd S4.rd).mono ?_
      rintro e w4 ⟨rfl, hb⟩
      have hK : Below w3.heap.size w3 w4 := bu hb (by go_grown)
      replace S3 := S3.below hK
      replace S4 := S4.below hK
      replace hw := bt hw hK
      have zzw4 := hK.size
      clear hb hK
      go_wp2_with fail
      refine (sameInts_c _ _ R _ _ _ hRm S3.rd S4.rd).mono ?_
      rintro e w5 ⟨rfl, hb⟩
      have hK : Below w4.heap.size w4 w5 := bu hb (by go_grown)
      replace hw := bt hw hK
      have zzw5 := hK.size
      clear hb hK
      go_wp2_with fail
      go_ret
      exact ⟨rfl, hw⟩
    · skip
      refine (sameInts_c _ _ R _ _ _ hRm S3.rd S4.rd).mono ?_
      rintro e w4 ⟨rfl, hb⟩
      have hK : Below w3.heap.size w3 w4 := bu hb (by go_grown)
      replace S1 := S1.below hK
      replace S2 := S2.below hK
      replace S3 := S3.below hK
      replace S4 := S4.below hK
      replace hw := bt hw hK
      have zzw4 := hK.size
      clear hb hK
      have h0 : 0 ≤ leadB L Y := by
        have := HO.out
        simpa [repOk] using this
      have hgood : (lvB L && lmB Y L.length) = true := by
        rcases h : lvB L && lmB Y L.length with _ | _
        · exact absurd (lead_neg.2 h) (by omega)
        · rfl
      simp only [Bool.and_eq_true] at hgood
      obtain ⟨n, hn1⟩ := Int.eq_ofNat_of_zero_le h0
      have hnl : n < L.length := by have := (lead_in hgood.1 hgood.2).2.2.2.2; omega
      obtain ⟨u, hu⟩ : ∃ u, L[n]? = some u := ⟨_, List.getElem?_eq_getElem hnl⟩
      obtain ⟨r1, r2, r3, r4⟩ := rep_valid hgood.1 hgood.2 hn1
      obtain ⟨p1, p2⟩ := rep_ci hgood.1 hgood.2 hn1
      rw [at0_of hu] at p2
      rw [HR.out] at r2 p1 p2
      obtain ⟨ci, hci⟩ : ∃ ci, ciB L = ci := ⟨_, rfl⟩
      obtain ⟨cr, hcr⟩ : ∃ cr, ciB R = cr := ⟨_, rfl⟩
      have HC := fun w h => implCI_c A1 L c1 w hLm h
      have HX := fun w h => implCI_c A3 R c3 w hRm h
      rw [hci] at HC p1
      rw [hcr] at HX p1 p2
      have CL := fun w h h' => implLeader_c A1 L c1 A2 Y c2 w hL hY h h'
      rw [hn1] at CL
      have P1 : Hid _ := p1
      have P2 : Hid _ := p2
      have R2 : Hid _ := r2
      have HU : Hid _ := hu
      clear h0 hgood hn1 r1 r2 r3 r4 HO CI CS hci hcr hu p1 p2
      go_wp2_with fail
      refine (CL _ S1.rd S2.rd).mono ?_
      rintro e w5 ⟨rfl, hb⟩
      have hK : Below w4.heap.size w4 w5 := bu hb (by go_grown)
      replace S1 := S1.below hK
      replace S3 := S3.below hK
      replace hw := bt hw hK
      have zzw5 := hK.size
      clear hb hK
      go_wp2_with fail
      refine (HX _ S3.rd).mono ?_
      rintro e w6 ⟨rfl, hb⟩
      have hK : Below w5.heap.size w5 w6 := bu hb (by go_grown)
      replace S1 := S1.below hK
      replace hw := bt hw hK
      have zzw6 := hK.size
      clear hb hK
      go_wp2_with fail
      refine (HC _ S1.rd).mono ?_
      rintro e w7 ⟨rfl, hb⟩
      have hK : Below w6.heap.size w6 w7 := bu hb (by go_grown)
      replace S1 := S1.below hK
      replace hw := bt hw hK
      have zzw7 := hK.size
      clear hb hK
      obtain ⟨g1, rfl, _, l1, hc1⟩ := S1.at_ (by omega)
      have d1 := hc1 n u HU.out
      have t1 : decide (ci ≤ cr) = true := decide_eq_true P1.out
      have t2 : decide (u ≤ cr) = true := decide_eq_true P2.out
      have t3 : ((R.length : Int) == (L.length : Int)) = true := by rw [R2.out]; simp
      have i1 : (0 : Int) ≤ (n : Int) := by omega
      have i2 : (n : Int) < (L.length : Int) := by omega
      clear hc1 S3 S2 S4 HC CL HX
      go_wp2
      go_ret
      exact ⟨rfl, hw⟩
end Go.Proofs.Ytdbolfdpaihfiaa
