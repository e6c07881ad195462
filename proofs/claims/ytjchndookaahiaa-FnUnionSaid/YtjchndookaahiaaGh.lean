/- The law FnUnion: its call hands back true, whatever the code. -/
import Derived.Test.YtjchndookaahiaaGg
namespace Go.Proofs.Ytjchndookaahiaa
set_option linter.unusedVariables false
open Go.RowKit

set_option maxHeartbeats 8000000 in
theorem gUnion_walk (A : Option Addr) (bs : List Int) (c : Nat) (w : World) (hm : (bs.length : Int) ≤ 9223372036854775807) (hlc : bs.length ≤ c) (hcm : (c : Int) ≤ 9223372036854775807) (hr : Rd w w.heap.size A (bs.map (Value.int .u8))) (hf : ∀ x ∈ bs, FitB x) :
    Calls Try.prog 9 #[.slice A bs.length c] w fun e w' => e = .returned (.bool true) ∧ Below w.heap.size w w' := by
  by_cases hn : (1048576 : Int) < bs.length
  · go_enter Try.func9, Try.ntmps9
    go_wp2
    go_ret
    exact ⟨rfl, by go_grown⟩
  · have hn' : (bs.length : Int) ≤ 1048576 := by omega
    have hw := Below.refl w.heap.size w
    go_enter Try.func9, Try.ntmps9
    go_wp2_with fail
    refine (drawGU_c A bs c _ hm hlc hcm hr hf).mono ?_
    rintro e w1 ⟨L, A1, c1, Y, A2, c2, rfl, h1, h2, h3, h4, S1, S2, hb⟩
    have hK : Below w.heap.size w w1 := bu hb (by go_grown)
    replace hw := hK
    clear hb hK h2 h4 hr hf
    have hL : L.length ≤ 1048576 := by omega
    have hY : Y.length ≤ 1048576 := by omega
    have hLm : (L.length : Int) ≤ 9223372036854775807 := by omega
    have hYm : (Y.length : Int) ≤ 9223372036854775807 := by omega
    have CI := implUni_c A1 L c1 A2 Y c2
    have CS := specUni_c A1 L c1 A2 Y c2
    have hR0 := uniL_le'' L Y
    have RP := @uni_has L Y
    have UP := @uni_pos' L Y
    have RG := @uni_gv L Y
    have RL := @uni_len L Y
    have CC := implCom_c A1 L c1 A2 Y c2
    have hC0 := comL_le'' L Y
    unfold NewI at CC
    generalize hCC : comL L Y = C at *
    clear hCC
    unfold NewI at CI CS
    generalize hRR : uniL L Y = R at *
    clear hRR
    have hR : R.length ≤ 1048576 := by omega
    have hRm : (R.length : Int) ≤ 9223372036854775807 := by omega
    have HCI := hidI CI
    have HCS := hidI CS
    clear CI CS
    go_wp2_with fail
    refine (HCI.out _ hL hY S1.rd S2.rd).mono ?_
    rintro e w2 ⟨A3, c3, rfl, S3, hb⟩
    have hK : Below w1.heap.size w1 w2 := bu hb (by go_grown)
    replace S1 := S1.below hK
    replace S2 := S2.below hK
    replace hw := bt hw hK
    have zzw2 := hK.size
    clear hb hK
    go_wp2_with fail
    refine (HCS.out _ hL hY S1.rd S2.rd).mono ?_
    rintro e w3 ⟨A4, c4, rfl, S4, hb⟩
    have hK : Below w2.heap.size w2 w3 := bu hb (by go_grown)
    replace S1 := S1.below hK
    replace S2 := S2.below hK
    replace S3 := S3.below hK
    replace hw := bt hw hK
    have zzw3 := hK.size
    clear hb hK
    go_wp2_with fail
    refine (sameInts_c _ _ R _ _ _ hRm S3.rd S4.rd).mono ?_
    rintro e w4 ⟨rfl, hb⟩
    have hK : Below w3.heap.size w3 w4 := bu hb (by go_grown)
    replace S1 := S1.below hK
    replace S2 := S2.below hK
    replace S3 := S3.below hK
    replace S4 := S4.below hK
    replace hw := bt hw hK
    have zzw4 := hK.size
    clear hb hK
    by_cases h0 : R.length = 0
    · have hz : ((R.length : Int) == 0) = true := by rw [h0]; rfl
      clear h0 CC RP UP RG RL
      go_wp2_with fail
      refine (sameInts_c _ _ R _ _ _ hRm S3.rd S4.rd).mono ?_
      rintro e w5 ⟨rfl, hb⟩
      have hK : Below w4.heap.size w4 w5 := bu hb (by go_grown)
      replace hw := bt hw hK
      have zzw5 := hK.size
      clear hb hK
      go_wp2_with fail
      go_ret
      exact ⟨rfl, hw⟩
    have hz : ((R.length : Int) == 0) = false := by simp; intro h; exact h0 (by simp [h])
    obtain ⟨e1, e2⟩ := UP h0
    have RH := hidI (RP e1 e2)
    have HRG := hidI (RG e1 e2)
    have HRL := hidI (RL e1 e2)
    have HCC := hidI CC
    clear RP UP RG RL CC h0 e1 e2
    clear S4
    go_wp2_with fail
    go_loopw [7] (fun i wr => ∃ k : Nat, k ≤ 5 ∧ i = .int .i64 k ∧ IS wr w.heap.size A1 L.length c1 L ∧ IS wr w.heap.size A2 Y.length c2 Y ∧ IS wr w1.heap.size A3 R.length c3 R ∧ Below w.heap.size w wr) (fun i _ => 5 - (intOf i).toNat)
    case atStart => exact ⟨0, Nat.zero_le _, rfl, S1, S2, S3, hw⟩
    case round =>
      clear S1 S2 S3 hw
      obtain ⟨k, hk, rfl, S1, S2, S3, hw⟩ := hrel
      by_cases hlt : k < 5
      · have HE := RH.out (k : Int) (by omega) (by omega)
        have C1 := hasInt_c A1 L c1 (k : Int) wr hLm S1.rd
        have C2 := hasInt_c A2 Y c2 (k : Int) wr hYm S2.rd
        have C3 := hasInt_c A3 R c3 (k : Int) wr hRm S3.rd
        rw [HE] at C3
        have HW := hidI hw
        clear HE hw
        rcases e1 : hasB L (k : Int) with _ | _ <;> rcases e2 : hasB Y (k : Int) with _ | _
        all_goals
          rw [e1, e2] at C3
          rw [e1] at C1
          rw [e2] at C2
          have H1 := hidI C1
          have H2 := hidI C2
          have H3 := hidI C3
          clear C1 C2 C3 e1 e2
          go_wp2_with fail
          refine Calls.mono H3.out ?_
          rintro e w1 ⟨rfl, rfl⟩
          go_wp2_with fail
          refine Calls.mono H1.out ?_
          rintro e w1 ⟨rfl, rfl⟩
          go_wp2_with fail
          try (refine Calls.mono H2.out ?_; rintro e w1 ⟨rfl, rfl⟩; go_wp2_with fail)
          clear H1 H2 H3
          go_roundw
          case rel => exact ⟨k + 1, by omega, by go_num, S1, S2, S3, HW.out⟩
          case measure => simp [intOf]; omega
      · obtain rfl : k = 5 := by omega
        go_wp2_with fail
        refine (HCC.out _ hL hY S1.rd S2.rd).mono ?_
        rintro e v1 ⟨A5, c5, rfl, S5, hb⟩
        have hK : Below wr.heap.size wr v1 := bu hb (by go_grown)
        replace S3 := S3.below hK
        replace hw := bt hw hK
        have zzv1 := hK.size
        clear hb hK
        have VR := implGV_c A3 R c3 v1 hR S3.rd
        rw [HRG.out] at VR
        have HV := hidI VR
        have he := HRL.out
        have hq : ((R.length : Int) + (C.length : Int) == (L.length : Int) + (Y.length : Int)) = true := by
          simp
          omega
        clear VR he
        go_wp2_with fail
        refine Calls.mono HV.out ?_
        rintro e v3 ⟨rfl, hb⟩
        replace hw := bt hw hb
        clear hb HV
        go_wp2_with fail
        go_ret
        exact ⟨rfl, hw⟩
end Go.Proofs.Ytjchndookaahiaa
