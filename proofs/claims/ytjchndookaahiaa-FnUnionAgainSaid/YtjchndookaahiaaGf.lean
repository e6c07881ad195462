/- The laws FnUnionAgain, FnCommon, FnUnion: their calls hand back true, whatever the codes. -/
import Derived.Test.YtjchndookaahiaaGc
import Derived.Test.YtjchndookaahiaaGd
namespace Go.Proofs.Ytjchndookaahiaa
set_option linter.unusedVariables false
open Go.RowKit

theorem uniL_le' (xs ys : List Int) : (uniL xs ys).length ≤ 5 := by
  unfold uniL
  split
  · exact pickL_le _
  · simp
theorem uni_pos {a b : List Int} (h : ¬ (uniL a b).length = 0) : gvB a = true ∧ gvB b = true := by
  unfold uniL at h
  split at h
  · rename_i k
    simpa [Bool.and_eq_true] using k
  · simp at h
theorem uni_same {a : List Int} (h : gvB a = true) : uniL a a = a := by
  rw [uni_yes h h]
  simp only [Bool.or_self]
  exact (gv_pick h).symm
theorem uni_again {a b : List Int} (h : gvB a = true) (k : gvB b = true) : uniL (uniL a b) b = uniL a b := by
  have hu := uni_gv h k
  refine pair_ext ?_ ?_ fun z => ?_
  · rw [uni_yes hu k]; exact pickL_pair _
  · rw [uni_yes h k]; exact pickL_pair _
  · rw [uni_mem hu k, uni_mem h k]
    constructor
    · rintro (m | m)
      · exact m
      · exact .inr m
    · exact .inl

set_option maxHeartbeats 4000000 in
theorem gAgain_walk (A : Option Addr) (bs : List Int) (c : Nat) (w : World) (hm : (bs.length : Int) ≤ 9223372036854775807) (hlc : bs.length ≤ c) (hcm : (c : Int) ≤ 9223372036854775807) (hr : Rd w w.heap.size A (bs.map (Value.int .u8))) (hf : ∀ x ∈ bs, FitB x) :
    Calls Try.prog 7 #[.slice A bs.length c] w fun e w' => e = .returned (.bool true) ∧ Below w.heap.size w w' := by
  by_cases hn : (1048576 : Int) < bs.length
  · go_enter Try.func7, Try.ntmps7
    go_wp2
    go_ret
    exact ⟨rfl, by go_grown⟩
  · have hn' : (bs.length : Int) ≤ 1048576 := by omega
    have hw := Below.refl w.heap.size w
    go_enter Try.func7, Try.ntmps7
    go_wp2_with fail
    refine (drawGU_c A bs c _ hm hlc hcm hr hf).mono ?_
    rintro e w1 ⟨L, A1, c1, Y, A2, c2, rfl, h1, h2, h3, h4, S1, S2, hb⟩
    have hK : Below w.heap.size w w1 := bu hb (by go_grown)
    replace hw := hK
    clear hb hK h2 h4 hr hf
    have hL : L.length ≤ 1048576 := by omega
    have hY : Y.length ≤ 1048576 := by omega
    have CI := implUni_c A1 L c1 A2 Y c2
    have CS := specUni_c A1 L c1 A2 Y c2
    have CL := implUni_c A1 L c1 A1 L c1
    have CR := fun A c => implUni_c A (uniL L Y) c A2 Y c2
    have hR0 := uniL_le' L Y
    have UP := @uni_pos L Y
    have US := @uni_same L
    have UA := @uni_again L Y
    unfold NewI at CI CS CL CR
    generalize uniL L Y = R at hR0 CI CS CR UP UA
    have hR : R.length ≤ 1048576 := by omega
    have hRm : (R.length : Int) ≤ 9223372036854775807 := by omega
    have hLm : (L.length : Int) ≤ 9223372036854775807 := by omega
    have HCI := hidI CI
    have HCS := hidI CS
    have HCL := hidI CL
    have HCR := hidI CR
    have HUP := hidI UP
    have HUS := hidI US
    have HUA := hidI UA
    clear CI CS CL CR UP US UA
    go_wp2_with fail
    refine (HCI.out _ hL hY S1.rd S2.rd).mono ?_
    rintro e w2 ⟨A3, c3, rfl, S3, hb⟩
    have hK : Below w1.heap.size w1 w2 := bu hb (by go_grown)
    replace S1 := S1.below hK
    replace S2 := S2.below hK
    replace hw := bt hw hK
    have zzw2 := hK.size
    clear hb hK
    go_wp2_with fail
    refine (HCS.out _ hL hY S1.rd S2.rd).mono ?_
    rintro e w3 ⟨A4, c4, rfl, S4, hb⟩
    have hK : Below w2.heap.size w2 w3 := bu hb (by go_grown)
    replace S1 := S1.below hK
    replace S2 := S2.below hK
    replace S3 := S3.below hK
    replace hw := bt hw hK
    have zzw3 := hK.size
    clear hb hK
    go_wp2_with fail
    refine (sameInts_c _ _ R _ _ _ hRm S3.rd S4.rd).mono ?_
    rintro e w4 ⟨rfl, hb⟩
    have hK : Below w3.heap.size w3 w4 := bu hb (by go_grown)
    replace S1 := S1.below hK
    replace S2 := S2.below hK
    replace S3 := S3.below hK
    replace S4 := S4.below hK
    replace hw := bt hw hK
    have zzw4 := hK.size
    clear hb hK
    by_cases h0 : R.length = 0
    · have hz : ((R.length : Int) == 0) = true := by rw [h0]; rfl
      clear h0
      go_wp2_with fail
      refine (sameInts_c _ _ R _ _ _ hRm S3.rd S4.rd).mono ?_
      rintro e w5 ⟨rfl, hb⟩
      have hK : Below w4.heap.size w4 w5 := bu hb (by go_grown)
      replace hw := bt hw hK
      have zzw5 := hK.size
      clear hb hK
      go_wp2_with fail
      go_ret
      exact ⟨rfl, hw⟩
    · have hz : ((R.length : Int) == 0) = false := by simp; intro h; exact h0 (by simp [h])
      obtain ⟨gL, gY⟩ := HUP.out h0
      have e1 := HUS.out gL
      have e2 := HUA.out gL gY
      have CL := HCL.out
      have CR := HCR.out
      rw [e1] at CL
      rw [e2] at CR
      have HL := hidI CL
      have HR := hidI CR
      clear h0 gL gY e1 e2 CL CR HCL HCR
      go_wp2_with fail
      refine (HL.out _ hL hL S1.rd S1.rd).mono ?_
      rintro e w5 ⟨A5, c5, rfl, S5, hb⟩
      have hK : Below w4.heap.size w4 w5 := bu hb (by go_grown)
      replace S1 := S1.below hK
      replace S2 := S2.below hK
      replace S3 := S3.below hK
      replace hw := bt hw hK
      have zzw5 := hK.size
      clear hb hK
      go_wp2_with fail
      refine (sameInts_c _ _ L _ _ _ hLm S5.rd S1.rd).mono ?_
      rintro e w6 ⟨rfl, hb⟩
      have hK : Below w5.heap.size w5 w6 := bu hb (by go_grown)
      replace S2 := S2.below hK
      replace S3 := S3.below hK
      replace hw := bt hw hK
      have zzw6 := hK.size
      clear hb hK
      go_wp2_with fail
      refine (HR.out _ _ _ hR hY S3.rd S2.rd).mono ?_
      rintro e w7 ⟨A7, c7, rfl, S7, hb⟩
      have hK : Below w6.heap.size w6 w7 := bu hb (by go_grown)
      replace S3 := S3.below hK
      replace hw := bt hw hK
      have zzw7 := hK.size
      clear hb hK
      go_wp2_with fail
      refine (sameInts_c _ _ R _ _ _ hRm S7.rd S3.rd).mono ?_
      rintro e w8 ⟨rfl, hb⟩
      have hK : Below w7.heap.size w7 w8 := bu hb (by go_grown)
      replace hw := bt hw hK
      have zzw8 := hK.size
      clear hb hK
      go_wp2_with fail
      go_ret
      exact ⟨rfl, hw⟩
end Go.Proofs.Ytjchndookaahiaa
