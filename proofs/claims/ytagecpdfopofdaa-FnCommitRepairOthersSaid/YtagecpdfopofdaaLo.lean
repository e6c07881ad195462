/- The laws FnCommitLeaderMost, FnCommitRepairOthers: their calls hand back true, whatever the codes. -/
import Derived.Test.YtagecpdfopofdaaDu
import Derived.Test.YtagecpdfopofdaaNd
namespace Go.Proofs.Ytagecpdfopofdaa
set_option linter.unusedVariables false
open Go.RowKit

set_option maxHeartbeats 4000000 in
theorem cMost_walk (A : Option Addr) (bs : List Int) (c : Nat) (w : World) (hm : (bs.length : Int) ≤ 9223372036854775807) (hlc : bs.length ≤ c) (hcm : (c : Int) ≤ 9223372036854775807) (hr : Rd w w.heap.size A (bs.map (Value.int .u8))) (hf : ∀ x ∈ bs, FitB x) :
    Calls Try.prog 5 #[.slice A bs.length c] w fun e w' => e = .returned (.bool true) ∧ Below w.heap.size w w' := by
  by_cases hn : (1048576 : Int) < bs.length
  · go_enter Try.func5, Try.ntmps5
    go_wp2
    go_ret
    exact ⟨rfl, by go_grown⟩
  · have hn' : (bs.length : Int) ≤ 1048576 := by omega
    have hw := Below.refl w.heap.size w
    go_enter Try.func5, Try.ntmps5
    go_wp2_with fail
    refine (drawCL_c A bs c _ hm hlc hcm hr hf).mono ?_
    rintro e w1 ⟨L, A1, c1, Y, A2, c2, rfl, h1, h2, h3, h4, S1, S2, hb⟩
    have hK : Below w.heap.size w w1 := bu hb (by go_grown)
    replace hw := hK
    clear hb hK h2 h4
    have hL : L.length ≤ 1048576 := by omega
    have hY : Y.length ≤ 1048576 := by omega
    obtain ⟨ld, hld⟩ : ∃ ld, leadB L Y = ld := ⟨_, rfl⟩
    have CI := fun w h h' => implLeader_c A1 L c1 A2 Y c2 w hL hY h h'
    have CS := fun w h h' => specLeader_c A1 L c1 A2 Y c2 w hL hY h h'
    rw [hld] at CI CS
    go_wp2_with fail
    refine (CI _ S1.rd S2.rd).mono ?_
    rintro e w2 ⟨rfl, hb⟩
    have hK : Below w1.heap.size w1 w2 := bu hb (by go_grown)
    replace S1 := S1.below hK
    replace S2 := S2.below hK
    replace hw := bt hw hK
    have zzw2 := hK.size
    clear hb hK
    go_wp2_with fail
    refine (CS _ S1.rd S2.rd).mono ?_
    rintro e w3 ⟨rfl, hb⟩
    have hK : Below w2.heap.size w2 w3 := bu hb (by go_grown)
    replace S1 := S1.below hK
    replace S2 := S2.below hK
    replace hw := bt hw hK
    have zzw3 := hK.size
    clear hb hK
    by_cases hneg : ld < 0
    · have hd : decide (ld < 0) = true := decide_eq_true hneg
      go_wp2_with fail
      go_ret
      exact ⟨rfl, hw⟩
    · have hd : decide (ld < 0) = false := decide_eq_false hneg
      have hgood : (lvB L && lmB Y L.length) = true := by
        rcases h : lvB L && lmB Y L.length with _ | _
        · exact absurd (lead_neg.2 h) (by omega)
        · rfl
      simp only [Bool.and_eq_true] at hgood
      have hin := lead_in hgood.1 hgood.2
      rw [hld] at hin
      obtain ⟨n, rfl⟩ := Int.eq_ofNat_of_zero_le hin.2.2.2.1
      have hnl : n < L.length := by have := hin.2.2.2.2; omega
      obtain ⟨u, hu⟩ : ∃ u, L[n]? = some u := ⟨_, List.getElem?_eq_getElem hnl⟩
      have HU : Hid (at0 L n = u) := at0_of hu
      have HM : Hid (∀ c ∈ Y, at0 L c ≤ u) := by rw [← HU.out]; exact hin.2.1
      have HF : Hid (∀ c ∈ Y, c < (n : Int) → at0 L c < u) := by rw [← HU.out]; exact hin.2.2.1
      have LV : Hid _ := (lmB_iff.1 hgood.2).2.2
      have HN : Hid (L[n]? = some u) := hu
      clear hin hgood hld CI CS hu hneg
      go_wp2_with fail
      go_loopw [7] (fun i wr => ∃ k : Nat, k ≤ Y.length ∧ i = .int .i64 k ∧ IS wr w.heap.size A1 L.length c1 L ∧ IS wr w.heap.size A2 Y.length c2 Y ∧ Below w.heap.size w wr) (fun i _ => Y.length - (intOf i).toNat)
      case atStart => exact ⟨0, Nat.zero_le _, rfl, S1, S2, hw⟩
      case round =>
        clear S1 S2 hw
        obtain ⟨k, hk, rfl, S1, S2, hw⟩ := hrel
        by_cases hlt : k < Y.length
        · obtain ⟨g1, rfl, _, l1, hc1⟩ := S1.at_ (by omega)
          obtain ⟨g2, rfl, _, l2, hc2⟩ := S2.at_ (by omega)
          obtain ⟨y, hy⟩ : ∃ y, Y[k]? = some y := ⟨_, List.getElem?_eq_getElem hlt⟩
          obtain ⟨y0, y1⟩ := LV.out y (mem_at hy)
          obtain ⟨cn, rfl⟩ := Int.eq_ofNat_of_zero_le y0
          have hcn : cn < L.length := by omega
          obtain ⟨v, hv⟩ : ∃ v, L[cn]? = some v := ⟨_, List.getElem?_eq_getElem hcn⟩
          have d0 := hc2 k _ hy
          have d1 := hc1 cn v hv
          have d2 := hc1 n u HN.out
          have hvu := HM.out _ (mem_at hy)
          rw [at0_of hv] at hvu
          have hvl := HF.out _ (mem_at hy)
          rw [at0_of hv] at hvl
          have t1 : decide (u < v) = false := decide_eq_false (by omega)
          have i1 : (0 : Int) ≤ (k : Int) := by omega
          have i2 : (k : Int) < (Y.length : Int) := by omega
          have i4 : (cn : Int) < (L.length : Int) := by omega
          have i5 : (n : Int) < (L.length : Int) := by omega
          have i6 : (0 : Int) ≤ (cn : Int) := by omega
          have i7 : (0 : Int) ≤ (n : Int) := by omega
          have HW : Hid _ := hw
          by_cases hlow : cn < n
          · have t2 : (v == u) = false := by have := hvl (by omega); simp; omega
            have t3 : decide (cn < n) = true := decide_eq_true hlow
            clear hc1 hc2 hy hv hw hvl hvu y0 y1 hlow
            go_wp2_with fail
            refine wp_region_ext (by first | with_reducible assumption | exact Below.refl _ _) (by kernel_rfl) (by kernel_rfl) ?_
            intro hx hx2
            repeat (go_big_quiet_step (fail))
            refine wpQuiet_nil ?_
            clear hx hx2
            rintro _ ⟨⟨w1, hb⟩, rfl⟩
            have hK := bt (by first | with_reducible assumption | exact Below.refl _ _) hb
            have hc := bcell hK
            have hf := bfrozen hK
            have hs := bsize hK
            clear hb
            (try (refine bw (w := w) hK ?_ ?_; (focus (first | exact HW.out | (have hq := HW.out; go_grown; done) | (go_grown; done))); intro hw hwz; have hK := hK))
            (try (refine bz hK (w.heap.size) ?_ ?_; (focus (first | omega | (simp; done) | (simp; omega))); intro hz0 hd0 hg0))
            (try (refine bz hK (w.heap.size + 1) ?_ ?_; (focus (first | omega | (simp; done) | (simp; omega))); intro hz1 hd1 hg1))
            (try (refine bz hK (w.heap.size + 2) ?_ ?_; (focus (first | omega | (simp; done) | (simp; omega))); intro hz2 hd2 hg2))
            (try (refine bz hK (w.heap.size + 3) ?_ ?_; (focus (first | omega | (simp; done) | (simp; omega))); intro hz3 hd3 hg3))
            (try (refine bz hK g ?_ ?_; (focus (first | omega | (simp; done) | (simp; omega))); intro hzg hdg hgg))
            (try (refine bz hK g1 ?_ ?_; (focus (first | omega | (simp; done) | (simp; omega))); intro hzg hdg hgg))
            (try (refine bz hK g2 ?_ ?_; (focus (first | omega | (simp; done) | (simp; omega))); intro hzg hdg hgg))
            go_wp2
            go_roundw
            case rel => exact ⟨k + 1, by omega, by go_num, S1.below hK, S2.below hK, bt HW.out hK⟩
            case measure => simp [intOf]; omega
          · have t3 : decide (cn < n) = false := decide_eq_false hlow
            clear hc1 hc2 hy hv hw hvl hvu y0 y1 hlow
            go_wp2_with fail
            refine wp_region_ext (by first | with_reducible assumption | exact Below.refl _ _) (by kernel_rfl) (by kernel_rfl) ?_
            intro hx hx2
            repeat (go_big_quiet_step (fail))
            refine wpQuiet_nil ?_
            clear hx hx2
            rintro _ ⟨⟨w1, hb⟩, rfl⟩
            have hK := bt (by first | with_reducible assumption | exact Below.refl _ _) hb
            have hc := bcell hK
            have hf := bfrozen hK
            have hs := bsize hK
            clear hb
            (try (refine bw (w := w) hK ?_ ?_; (focus (first | exact HW.out | (have hq := HW.out; go_grown; done) | (go_grown; done))); intro hw hwz; have hK := hK))
            (try (refine bz hK (w.heap.size) ?_ ?_; (focus (first | omega | (simp; done) | (simp; omega))); intro hz0 hd0 hg0))
            (try (refine bz hK (w.heap.size + 1) ?_ ?_; (focus (first | omega | (simp; done) | (simp; omega))); intro hz1 hd1 hg1))
            (try (refine bz hK (w.heap.size + 2) ?_ ?_; (focus (first | omega | (simp; done) | (simp; omega))); intro hz2 hd2 hg2))
            (try (refine bz hK (w.heap.size + 3) ?_ ?_; (focus (first | omega | (simp; done) | (simp; omega))); intro hz3 hd3 hg3))
            (try (refine bz hK g ?_ ?_; (focus (first | omega | (simp; done) | (simp; omega))); intro hzg hdg hgg))
            (try (refine bz hK g1 ?_ ?_; (focus (first | omega | (simp; done) | (simp; omega))); intro hzg hdg hgg))
            (try (refine bz hK g2 ?_ ?_; (focus (first | omega | (simp; done) | (simp; omega))); intro hzg hdg hgg))
            go_wp2
            go_roundw
            case rel => exact ⟨k + 1, by omega, by go_num, S1.below hK, S2.below hK, bt HW.out hK⟩
            case measure => simp [intOf]; omega
        · obtain rfl : k = Y.length := by omega
          go_wp2
          go_ret
          exact ⟨rfl, hw⟩

set_option maxHeartbeats 4000000 in
theorem cOthers_walk (A : Option Addr) (bs : List Int) (c : Nat) (w : World) (hm : (bs.length : Int) ≤ 9223372036854775807) (hlc : bs.length ≤ c) (hcm : (c : Int) ≤ 9223372036854775807) (hr : Rd w w.heap.size A (bs.map (Value.int .u8))) (hf : ∀ x ∈ bs, FitB x) :
    Calls Try.prog 7 #[.slice A bs.length c] w fun e w' => e = .returned (.bool true) ∧ Below w.heap.size w w' := by
  by_cases hn : (1048576 : Int) < bs.length
  · go_enter Try.func7, Try.ntmps7
    go_wp2
    go_ret
    exact ⟨rfl, by go_grown⟩
  · have hn' : (bs.length : Int) ≤ 1048576 := by omega
    have hw := Below.refl w.heap.size w
    go_enter Try.func7, Try.ntmps7
    go_wp2_with fail
    refine (drawCR_c A bs c _ hm hlc hcm hr hf).mono ?_
    rintro e w1 ⟨L, A1, c1, Y, A2, c2, rfl, h1, h2, h3, h4, S1, S2, hb⟩
    have hK : Below w.heap.size w w1 := bu hb (by go_grown)
    replace hw := hK
    clear hb hK h2 h4
    have hL : L.length ≤ 1048576 := by omega
    have hY : Y.length ≤ 1048576 := by omega
    have hYm : (Y.length : Int) ≤ 9223372036854775807 := by omega
    have hR0 := repB_le L Y
    have CI := fun w h h' => implRep_c A1 L c1 A2 Y c2 w hL hY h h'
    have CS := fun w h h' => specRep_c A1 L c1 A2 Y c2 w hL hY h h'
    unfold RepI at CS CI
    obtain ⟨R, hR⟩ : ∃ R, repB L Y = R := ⟨_, rfl⟩
    obtain ⟨ok, hok⟩ : ∃ ok, repOk L Y = ok := ⟨_, rfl⟩
    rw [hR, hok] at CI CS
    rw [hR] at hR0
    have HR : Hid _ := hR
    have HO : Hid _ := hok
    clear hR hok
    have hRm : (R.length : Int) ≤ 9223372036854775807 := by omega
    go_wp2_with fail
    refine (CI _ S1.rd S2.rd).mono ?_
    rintro e w2 ⟨A3, c3, rfl, S3, hb⟩
    have hK : Below w1.heap.size w1 w2 := bu hb (by go_grown)
    replace S1 := S1.below hK
    replace S2 := S2.below hK
    replace hw := bt hw hK
    have zzw2 := hK.size
    clear hb hK
    go_wp2_with fail
    refine (CS _ S1.rd S2.rd).mono ?_
    rintro e w3 ⟨A4, c4, rfl, S4, hb⟩
    have hK : Below w2.heap.size w2 w3 := bu hb (by go_grown)
    replace S1 := S1.below hK
    replace S2 := S2.below hK
    replace S3 := S3.below hK
    replace hw := bt hw hK
    have zzw3 := hK.size
    clear hb hK
    go_wp2_with fail
    rcases ok with _ | _
    · skip
      refine (sameInts_c _ _ R _ _ _ hRm S3.rd S4.rd).mono ?_
      rintro e w4 ⟨rfl, hb⟩
      have hK : Below w3.heap.size w3 w4 := bu hb (by go_grown)
      replace S3 := S3.below hK
      replace S4 := S4.below hK
      replace hw := bt hw hK
      have zzw4 := hK.size
      clear hb hK
      go_wp2_with fail
      refine (sameInts_c _ _ R _ _ _ hRm S3.rd S4.rd).mono ?_
      rintro e w5 ⟨rfl, hb⟩
      have hK : Below w4.heap.size w4 w5 := bu hb (by go_grown)
      replace hw := bt hw hK
      have zzw5 := hK.size
      clear hb hK
      go_wp2_with fail
      go_ret
      exact ⟨rfl, hw⟩
    · skip
      refine (sameInts_c _ _ R _ _ _ hRm S3.rd S4.rd).mono ?_
      rintro e w4 ⟨rfl, hb⟩
      have hK : Below w3.heap.size w3 w4 := bu hb (by go_grown)
      replace S1 := S1.below hK
      replace S2 := S2.below hK
      replace S3 := S3.below hK
      replace S4 := S4.below hK
      replace hw := bt hw hK
      have zzw4 := hK.size
      clear hb hK
      have h0 : 0 ≤ leadB L Y := by
        have := HO.out
        simpa [repOk] using this
      have hgood : (lvB L && lmB Y L.length) = true := by
        rcases h : lvB L && lmB Y L.length with _ | _
        · exact absurd (lead_neg.2 h) (by omega)
        · rfl
      simp only [Bool.and_eq_true] at hgood
      obtain ⟨n, hn1⟩ := Int.eq_ofNat_of_zero_le h0
      have hnl : n < L.length := by have := (lead_in hgood.1 hgood.2).2.2.2.2; omega
      obtain ⟨u, hu⟩ : ∃ u, L[n]? = some u := ⟨_, List.getElem?_eq_getElem hnl⟩
      obtain ⟨r1, r2, r3, r4⟩ := rep_valid hgood.1 hgood.2 hn1
      have RV : Hid (∀ j, j < L.length → R[j]? = if (j : Int) ∈ Y then some u else L[j]?) := fun j hj => by
        have := rep_val hgood.1 hgood.2 hn1 hj
        rwa [HR.out, at0_of hu] at this
      rw [HR.out] at r1 r2 r3 r4
      have HN : Hid (L[n]? = some u) := hu
      have CL := fun w h h' => implLeader_c A1 L c1 A2 Y c2 w hL hY h h'
      rw [hn1] at CL
      have CX := fun w h h' => implRep_c A3 R c3 A2 Y c2 w (by omega) hY h h'
      unfold RepI at CX
      have e5 : repOk R Y = true := by simp [repOk, r3]
      rw [r4, e5] at CX
      have hlen : Hid (R.length = L.length) := r2
      clear h0 hgood hn1 hu r1 r2 r3 r4 e5 HO
      go_wp2_with fail
      refine (CL _ S1.rd S2.rd).mono ?_
      rintro e w5 ⟨rfl, hb⟩
      have hK : Below w4.heap.size w4 w5 := bu hb (by go_grown)
      replace S1 := S1.below hK
      replace S2 := S2.below hK
      replace S3 := S3.below hK
      replace hw := bt hw hK
      have zzw5 := hK.size
      clear hb hK
      go_wp2_with fail
      go_loopw [10] (fun i wr => ∃ k : Nat, k ≤ L.length ∧ i = .int .i64 k ∧ IS wr w.heap.size A1 L.length c1 L ∧ IS wr w.heap.size A2 Y.length c2 Y ∧ IS wr w1.heap.size A3 R.length c3 R ∧ Below w.heap.size w wr) (fun i _ => L.length - (intOf i).toNat)
      case atStart => exact ⟨0, Nat.zero_le _, rfl, S1, S2, S3, hw⟩
      case round =>
        clear S1 S2 S3 S4 hw
        obtain ⟨k, hk, rfl, S1, S2, S3, hw⟩ := hrel
        by_cases hlt : k < L.length
        · have hlr : k < R.length := by rw [hlen.out]; exact hlt
          obtain ⟨g1, rfl, _, l1, hc1⟩ := S1.at_ (by omega)
          obtain ⟨g3, rfl, _, l3, hc3⟩ := S3.at_ (by omega)
          obtain ⟨z, hz⟩ : ∃ z, L[k]? = some z := ⟨_, List.getElem?_eq_getElem hlt⟩
          have d1 := hc1 k z hz
          have d2 := hc1 n u HN.out
          have RVk := RV.out k hlt
          have i1 : (0 : Int) ≤ (k : Int) := by omega
          have i2 : (k : Int) < (L.length : Int) := by omega
          have i4 : (k : Int) < (R.length : Int) := by omega
          have i5 : (n : Int) < (L.length : Int) := by omega
          have i7 : (0 : Int) ≤ (n : Int) := by omega
          have HW : Hid _ := hw
          by_cases hmem : (k : Int) ∈ Y
          · have hb1 : hasB Y k = true := hasB_iff.2 hmem
            rw [if_pos hmem] at RVk
            have d3 := hc3 k u RVk
            have HI := fun w h => hasInt_c A2 Y c2 (k : Int) w hYm h
            rw [hb1] at HI
            clear hc1 hc3 hz hw RVk hmem hb1
            go_wp2_with fail
            refine wp_region_ext (by first | with_reducible assumption | exact Below.refl _ _) (by kernel_rfl) (by kernel_rfl) ?_
            intro hx hx2
            repeat (go_big_quiet_step ((first | (go_at_call 21; exact ext_call_same (HI _ (S2.rd.ext _))))))
            refine wpQuiet_nil ?_
            clear hx hx2
            rintro _ ⟨⟨w1, hb⟩, rfl⟩
            have hK := bt (by first | with_reducible assumption | exact Below.refl _ _) hb
            have hc := bcell hK
            have hf := bfrozen hK
            have hs := bsize hK
            clear hb
            (try (refine bw (w := w) hK ?_ ?_; (focus (first | exact HW.out | (have hq := HW.out; go_grown; done) | (go_grown; done))); intro hw hwz; have hK := hK))
            (try (refine bz hK (w.heap.size) ?_ ?_; (focus (first | omega | (simp; done) | (simp; omega))); intro hz0 hd0 hg0))
            (try (refine bz hK (w.heap.size + 1) ?_ ?_; (focus (first | omega | (simp; done) | (simp; omega))); intro hz1 hd1 hg1))
            (try (refine bz hK (w.heap.size + 2) ?_ ?_; (focus (first | omega | (simp; done) | (simp; omega))); intro hz2 hd2 hg2))
            (try (refine bz hK (w.heap.size + 3) ?_ ?_; (focus (first | omega | (simp; done) | (simp; omega))); intro hz3 hd3 hg3))
            (try (refine bz hK g ?_ ?_; (focus (first | omega | (simp; done) | (simp; omega))); intro hzg hdg hgg))
            (try (refine bz hK g1 ?_ ?_; (focus (first | omega | (simp; done) | (simp; omega))); intro hzg hdg hgg))
            (try (refine bz hK g2 ?_ ?_; (focus (first | omega | (simp; done) | (simp; omega))); intro hzg hdg hgg))
            go_wp2
            go_roundw
            case rel => exact ⟨k + 1, by omega, by go_num, S1.below hK, S2.below hK, S3.below hK, bt HW.out hK⟩
            case measure => simp [intOf]; omega
          · have hb1 : hasB Y k = false := hasB_no.2 hmem
            rw [if_neg hmem, hz] at RVk
            have d3 := hc3 k z RVk
            have HI := fun w h => hasInt_c A2 Y c2 (k : Int) w hYm h
            rw [hb1] at HI
            clear hc1 hc3 hz hw RVk hmem hb1
            go_wp2_with fail
            refine wp_region_ext (by first | with_reducible assumption | exact Below.refl _ _) (by kernel_rfl) (by kernel_rfl) ?_
            intro hx hx2
            repeat (go_big_quiet_step ((first | (go_at_call 21; exact ext_call_same (HI _ (S2.rd.ext _))))))
            refine wpQuiet_nil ?_
            clear hx hx2
            rintro _ ⟨⟨w1, hb⟩, rfl⟩
            have hK := bt (by first | with_reducible assumption | exact Below.refl _ _) hb
            have hc := bcell hK
            have hf := bfrozen hK
            have hs := bsize hK
            clear hb
            (try (refine bw (w := w) hK ?_ ?_; (focus (first | exact HW.out | (have hq := HW.out; go_grown; done) | (go_grown; done))); intro hw hwz; have hK := hK))
            (try (refine bz hK (w.heap.size) ?_ ?_; (focus (first | omega | (simp; done) | (simp; omega))); intro hz0 hd0 hg0))
            (try (refine bz hK (w.heap.size + 1) ?_ ?_; (focus (first | omega | (simp; done) | (simp; omega))); intro hz1 hd1 hg1))
            (try (refine bz hK (w.heap.size + 2) ?_ ?_; (focus (first | omega | (simp; done) | (simp; omega))); intro hz2 hd2 hg2))
            (try (refine bz hK (w.heap.size + 3) ?_ ?_; (focus (first | omega | (simp; done) | (simp; omega))); intro hz3 hd3 hg3))
            (try (refine bz hK g ?_ ?_; (focus (first | omega | (simp; done) | (simp; omega))); intro hzg hdg hgg))
            (try (refine bz hK g1 ?_ ?_; (focus (first | omega | (simp; done) | (simp; omega))); intro hzg hdg hgg))
            (try (refine bz hK g2 ?_ ?_; (focus (first | omega | (simp; done) | (simp; omega))); intro hzg hdg hgg))
            go_wp2
            go_roundw
            case rel => exact ⟨k + 1, by omega, by go_num, S1.below hK, S2.below hK, S3.below hK, bt HW.out hK⟩
            case measure => simp [intOf]; omega
        · obtain rfl : k = L.length := by omega
          go_wp2_with fail
          refine (CX _ S3.rd S2.rd).mono ?_
          rintro e w6 ⟨A6, c6, rfl, S6, hb⟩
          replace S3 := S3.below (bu hb (by go_grown))
          have hw6 : Below w.heap.size w w6 := bu hb (by go_grown)
          clear hb hw
          go_wp2_with fail
          refine (sameInts_c _ _ R _ _ _ hRm S6.rd S3.rd).mono ?_
          rintro e w7 ⟨rfl, hb⟩
          have hw7 : Below w.heap.size w w7 := bu hb (by go_grown)
          go_wp2_with fail
          go_ret
          exact ⟨rfl, hw7⟩
end Go.Proofs.Ytagecpdfopofdaa
