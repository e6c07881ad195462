/- The law FnExactBatchFits: its call hands back true, whatever the arguments. -/
import Derived.Test.YtgedjfhfikdjhaaIc
namespace Go.Proofs.Ytgedjfhfikdjhaa
set_option linter.unusedVariables false
open Go.RowKit

set_option maxHeartbeats 2000000 in
theorem xFits_walk (A : Option Addr) (xs : List Int) (c : Nat) (b m : Int) (A' : Option Addr) (ys : List Int) (c' : Nat) (w : World) (hm : (xs.length : Int) ≤ 9223372036854775807) (hm' : (ys.length : Int) ≤ 9223372036854775807)
    (hr : Rd w w.heap.size A (xs.map (Value.int .i64))) (hr' : Rd w w.heap.size A' (ys.map (Value.int .i64))) :
    Calls Try.prog 5 #[.slice A xs.length c, .int .i64 b, .int .i64 m, .slice A' ys.length c'] w fun e w' => e = .returned (.bool true) ∧ Below w.heap.size w w' := by
  by_cases hn : xs.length ≤ 1048576
  · by_cases hn' : ys.length ≤ 1048576
    · have hw := Below.refl w.heap.size w
      go_enter Try.func5, Try.ntmps5
      go_wp2_with fail
      refine (toIntS_c A xs c _ hn (hr.below (by go_grown)).low).mono ?_
      rintro e w1 ⟨A1, c1, rfl, S1, hb⟩
      have hK : Below w.heap.size w w1 := bu hb (by go_grown)
      replace hw := bt hw hK
      clear hb hK
      go_wp2_with fail
      refine (toIntS_c A' ys c' _ hn' (hr'.below (by go_grown)).low).mono ?_
      rintro e w2 ⟨A2, c2, rfl, S2, hb⟩
      have hK : Below w1.heap.size w1 w2 := bu hb (by go_grown)
      replace S1 := S1.below hK
      replace hw := bt hw hK
      clear hb hK
      go_wp2_with ((go_at_call 13; refine (specFits_c _ _ _ _ _ _ _ _ _ hm hm' S1.rd S2.rd).mono ?_; rintro e w' ⟨rfl, rfl⟩))
      refine (toIntS_c A xs c _ hn (hr.below (by go_grown)).low).mono ?_
      rintro e w3 ⟨A3, c3, rfl, S3, hb⟩
      have hK : Below w2.heap.size w2 w3 := bu hb (by go_grown)
      replace hw := bt hw hK
      clear hb hK
      go_wp2_with fail
      refine (toIntS_c A' ys c' _ hn' (hr'.below (by go_grown)).low).mono ?_
      rintro e w4 ⟨A4, c4, rfl, S4, hb⟩
      have hK : Below w3.heap.size w3 w4 := bu hb (by go_grown)
      replace S3 := S3.below hK
      replace hw := bt hw hK
      clear hb hK
      have k0 := S3.cap.1
      have k1 : (c3 : Int) ≤ 9223372036854775807 := by have := S3.cap.2; unfold maxLen at this; omega
      go_wp2_with ((go_at_call 14; refine (implFits_c _ _ _ _ _ _ _ _ _ hm hm' k0 k1 S3.rd S4.rd).mono ?_; rintro e w' ⟨rfl, rfl⟩))
      clear k0 k1
      refine (toIntS_c A xs c _ hn (hr.below (by go_grown)).low).mono ?_
      rintro e w5 ⟨A5, c5, rfl, S5, hb⟩
      have hK : Below w4.heap.size w4 w5 := bu hb (by go_grown)
      replace S3 := S3.below hK
      replace S4 := S4.below hK
      replace hw := bt hw hK
      clear hb hK
      go_wp2_with fail
      refine (eqIntS_c _ _ xs _ _ _ hm S3.rd S5.rd).mono ?_
      rintro e w6 ⟨rfl, hb⟩
      have hK : Below w5.heap.size w5 w6 := bu hb (by go_grown)
      replace S4 := S4.below hK
      replace hw := bt hw hK
      clear hb hK
      go_wp2_with fail
      refine (toIntS_c A' ys c' _ hn' (hr'.below (by go_grown)).low).mono ?_
      rintro e w7 ⟨A7, c7, rfl, S7, hb⟩
      have hK : Below w6.heap.size w6 w7 := bu hb (by go_grown)
      replace S4 := S4.below hK
      replace hw := bt hw hK
      clear hb hK
      go_wp2_with fail
      refine (eqIntS_c _ _ ys _ _ _ hm' S4.rd S7.rd).mono ?_
      rintro e w8 ⟨rfl, hb⟩
      have hK : Below w7.heap.size w7 w8 := bu hb (by go_grown)
      replace hw := bt hw hK
      clear hb hK
      go_wp2_with fail
      go_ret
      exact ⟨rfl, hw⟩
    · have hn2 : (1048576 : Int) < ys.length := by omega
      go_enter Try.func5, Try.ntmps5
      go_wp2
      go_ret
      exact ⟨rfl, by go_grown⟩
  · have hn' : (1048576 : Int) < xs.length := by omega
    go_enter Try.func5, Try.ntmps5
    go_wp2
    go_ret
    exact ⟨rfl, by go_grown⟩
end Go.Proofs.Ytgedjfhfikdjhaa
