/- The law FnExactBatchCut: its call hands back true, whatever the arguments. -/
import Derived.Test.YtgedjfhfikdjhaaId
import Derived.Test.YtgedjfhfikdjhaaIe
namespace Go.Proofs.Ytgedjfhfikdjhaa
set_option linter.unusedVariables false
open Go.RowKit

set_option maxHeartbeats 4000000 in
theorem xCut_walk (A : Option Addr) (xs : List Int) (c : Nat) (b m : Int) (w : World) (hm : (xs.length : Int) ≤ 9223372036854775807) (hr : Rd w w.heap.size A (xs.map (Value.int .i64))) :
    Calls Try.prog 6 #[.slice A xs.length c, .int .i64 b, .int .i64 m] w fun e w' => e = .returned (.bool true) ∧ Below w.heap.size w w' := by
  by_cases hn : xs.length ≤ 1048576
  · have hw := Below.refl w.heap.size w
    have hcl : (cutB xs b m).length ≤ 20 := by
      rcases hv : bvB xs b m with _ | _
      · simp [cutB, hv]
      · exact (cutB_sum hv).2.2
    have CS := specCut_c
    have CI := implCut_c
    generalize hL : cutB xs b m = L at hcl
    have HL : Hid _ := hL
    clear hL CS CI
    have hcm : (L.length : Int) ≤ 9223372036854775807 := by omega
    go_enter Try.func6, Try.ntmps6
    go_wp2_with fail
    refine (toIntS_c A xs c _ hn (hr.below (by go_grown)).low).mono ?_
    rintro e w1 ⟨A1, c1, rfl, S1, hb⟩
    have hK : Below w.heap.size w w1 := bu hb (by go_grown)
    replace hw := bt hw hK
    have zzw1 := hK.size
    clear hb hK
    go_wp2_with fail
    refine (specCut_c _ xs _ b m _ hm S1.rd).mono ?_
    rw [HL.out]
    rintro e w2 ⟨A2, c2, rfl, S2, hb⟩
    have hK : Below w1.heap.size w1 w2 := bu hb (by go_grown)
    replace hw := bt hw hK
    have zzw2 := hK.size
    clear hb hK S1
    have l2 := S2.lt
    go_wp2_with fail
    refine (toIntS_c A xs c _ hn (hr.below (by go_grown)).low).mono ?_
    rintro e w3 ⟨A3, c3, rfl, S3, hb⟩
    have hK : Below w2.heap.size w2 w3 := bu hb (by go_grown)
    replace S2 := S2.below hK
    replace hw := bt hw hK
    have zzw3 := hK.size
    clear hb hK
    have l3 := S3.lt
    go_wp2_with fail
    refine (implCut_c _ xs _ b m _ hm S3.rd).mono ?_
    rw [HL.out]
    rintro e w4 ⟨A4, c4, rfl, S4, hb⟩
    have hK : Below w3.heap.size w3 w4 := bu hb (by go_grown)
    replace S2 := S2.below hK
    replace S3 := S3.below hK
    replace hw := bt hw hK
    have zzw4 := hK.size
    clear hb hK
    have l4 := S4.lt
    go_wp2_with fail
    refine (eqIntS_c _ _ L _ _ _ hcm S4.rd S2.rd).mono ?_
    rintro e w5 ⟨rfl, hb⟩
    have hK : Below w4.heap.size w4 w5 := bu hb (by go_grown)
    replace S2 := S2.below hK
    replace S3 := S3.below hK
    replace S4 := S4.below hK
    replace hw := bt hw hK
    have zzw5 := hK.size
    clear hb hK
    go_wp2_with fail
    refine (toIntS_c A xs c _ hn (hr.below (by go_grown)).low).mono ?_
    rintro e w6 ⟨A6, c6, rfl, S6, hb⟩
    have hK : Below w5.heap.size w5 w6 := bu hb (by go_grown)
    replace S2 := S2.below hK
    replace S3 := S3.below hK
    replace S4 := S4.below hK
    replace hw := bt hw hK
    have zzw6 := hK.size
    clear hb hK
    go_wp2_with fail
    refine (eqIntS_c _ _ xs _ _ _ hm S3.rd S6.rd).mono ?_
    rintro e w7 ⟨rfl, hb⟩
    have hK : Below w6.heap.size w6 w7 := bu hb (by go_grown)
    replace S2 := S2.below hK
    replace S3 := S3.below hK
    replace S4 := S4.below hK
    replace hw := bt hw hK
    have zzw7 := hK.size
    clear hb hK
    go_wp2_with fail
    refine (markIntS_c _ _ _ _ 1 _ _ hn (by omega) (by omega) S3).mono ?_
    rintro e w8 ⟨rfl, T3, hg⟩
    replace S2 := S2.apart hg (fun a a' e1 e2 => by have z1 := l2 a e1; have z2 := l3 a' e2; omega)
    replace S4 := S4.apart hg (fun a a' e1 e2 => by have z1 := l4 a e1; have z2 := l3 a' e2; omega)
    replace hw := below_grown hw hg (fun g e1 => by obtain ⟨a, e2, e3⟩ := Option.map_eq_some_iff.1 e1; have z1 := l3 a e2; omega) hw.size
    have zzw8 := hg.size
    clear hg
    clear S3 T3 S6
    have hk0 : decide (1 + (xs.length : Int) < 0) = false := by simp; omega
    go_wp2_with fail
    refine (eqIntS_c _ _ L _ _ _ hcm S4.rd S2.rd).mono ?_
    rintro e w9 ⟨rfl, hb⟩
    have hK : Below w8.heap.size w8 w9 := bu hb (by go_grown)
    replace S2 := S2.below hK
    replace S4 := S4.below hK
    replace hw := bt hw hK
    have zzw9 := hK.size
    clear hb hK
    go_wp2_with fail
    refine (markIntS_c _ _ _ _ 1 _ _ (by omega) (by omega) (by omega) S4).mono ?_
    rintro e w10 ⟨rfl, T4, hg⟩
    replace S2 := S2.apart hg (fun a a' e1 e2 => by have z1 := l2 a e1; have z2 := l4 a' e2; omega)
    replace hw := below_grown hw hg (fun g e1 => by obtain ⟨a, e2, e3⟩ := Option.map_eq_some_iff.1 e1; have z1 := l4 a e2; omega) hw.size
    have zzw10 := hg.size
    clear hg
    clear S4
    go_wp2_with ((go_at_call 18; refine (heldIntS_c _ _ _ 1 _ _ (by omega) (by omega) (by omega) T4).mono ?_; rintro e w' ⟨rfl, rfl⟩))
    refine (toIntS_c A xs c _ hn (hr.below (by go_grown)).low).mono ?_
    rintro e w11 ⟨A11, c11, rfl, S11, hb⟩
    have hK : Below w10.heap.size w10 w11 := bu hb (by go_grown)
    replace S2 := S2.below hK
    replace T4 := T4.below hK
    replace hw := bt hw hK
    have zzw11 := hK.size
    clear hb hK
    go_wp2_with fail
    refine (implCut_c _ xs _ b m _ hm S11.rd).mono ?_
    rw [HL.out]
    rintro e w12 ⟨A12, c12, rfl, S12, hb⟩
    have hK : Below w11.heap.size w11 w12 := bu hb (by go_grown)
    replace S2 := S2.below hK
    replace T4 := T4.below hK
    replace hw := bt hw hK
    clear hb hK
    go_wp2_with fail
    refine (eqIntS_c _ _ L _ _ _ hcm S12.rd S2.rd).mono ?_
    rintro e w13 ⟨rfl, hb⟩
    have hK : Below w12.heap.size w12 w13 := bu hb (by go_grown)
    replace T4 := T4.below hK
    replace hw := bt hw hK
    have zzw13 := hK.size
    clear hb hK
    go_wp2_with ((go_at_call 18; refine (heldIntS_c _ _ _ 1 _ _ (by omega) (by omega) (by omega) T4).mono ?_; rintro e w' ⟨rfl, rfl⟩))
    go_ret
    exact ⟨rfl, hw⟩
  · have hn' : (1048576 : Int) < xs.length := by omega
    go_enter Try.func6, Try.ntmps6
    go_wp2
    go_ret
    exact ⟨rfl, by go_grown⟩
end Go.Proofs.Ytgedjfhfikdjhaa
