/- The laws FnExactCommitNeeded, FnExactCommitLeader: their calls hand back true, whatever the arguments. -/
import Derived.Test.YtagecpdfopofdaaNc
namespace Go.Proofs.Ytagecpdfopofdaa
set_option linter.unusedVariables false
open Go.RowKit

set_option maxHeartbeats 1000000 in
theorem xNeed_walk (A : Option Addr) (xs : List Int) (c : Nat) (j : Int) (w : World) (hm : (xs.length : Int) ≤ 9223372036854775807) (hr : Rd w w.heap.size A (xs.map (Value.int .i64))) :
    Calls Try.prog 3 #[.slice A xs.length c, .int .i64 j] w fun e w' => e = .returned (.bool true) ∧ Below w.heap.size w w' := by
  by_cases hn : xs.length ≤ 1048576
  · have hw := Below.refl w.heap.size w
    go_enter Try.func3, Try.ntmps3
    go_wp2_with fail
    refine (toIntS_c A xs c _ hn (hr.below (by go_grown)).low).mono ?_
    rintro e w1 ⟨A1, c1, rfl, S1, hb⟩
    have hK : Below w.heap.size w w1 := bu hb (by go_grown)
    replace hw := bt hw hK
    have zzw1 := hK.size
    clear hb hK
    go_wp2_with ((go_at_call 8; refine (specNeeded_c _ _ _ _ _ hm S1.rd).mono ?_; rintro e w' ⟨rfl, rfl⟩))
    refine (toIntS_c A xs c _ hn (hr.below (by go_grown)).low).mono ?_
    rintro e w2 ⟨A2, c2, rfl, S2, hb⟩
    have hK : Below w1.heap.size w1 w2 := bu hb (by go_grown)
    replace hw := bt hw hK
    have zzw2 := hK.size
    clear hb hK
    go_wp2_with ((go_at_call 10; refine (implNeeded_c _ _ _ _ _ hm S2.rd).mono ?_; rintro e w' ⟨rfl, rfl⟩))
    refine (toIntS_c A xs c _ hn (hr.below (by go_grown)).low).mono ?_
    rintro e w3 ⟨A3, c3, rfl, S3, hb⟩
    have hK : Below w2.heap.size w2 w3 := bu hb (by go_grown)
    replace S2 := S2.below hK
    replace hw := bt hw hK
    have zzw3 := hK.size
    clear hb hK
    go_wp2_with fail
    refine (eqIntS_c _ _ xs _ _ _ hm S2.rd S3.rd).mono ?_
    rintro e w4 ⟨rfl, hb⟩
    have hK : Below w3.heap.size w3 w4 := bu hb (by go_grown)
    replace hw := bt hw hK
    have zzw4 := hK.size
    clear hb hK
    go_wp2_with fail
    go_ret
    exact ⟨rfl, hw⟩
  · have hn' : (1048576 : Int) < xs.length := by omega
    go_enter Try.func3, Try.ntmps3
    go_wp2
    go_ret
    exact ⟨rfl, by go_grown⟩

set_option maxHeartbeats 2000000 in
theorem xLead_walk (A : Option Addr) (xs : List Int) (c : Nat) (A' : Option Addr) (ys : List Int) (c' : Nat) (w : World) (hm : (xs.length : Int) ≤ 9223372036854775807) (hm' : (ys.length : Int) ≤ 9223372036854775807)
    (hr : Rd w w.heap.size A (xs.map (Value.int .i64))) (hr' : Rd w w.heap.size A' (ys.map (Value.int .i64))) :
    Calls Try.prog 4 #[.slice A xs.length c, .slice A' ys.length c'] w fun e w' => e = .returned (.bool true) ∧ Below w.heap.size w w' := by
  by_cases hn : xs.length ≤ 1048576
  · by_cases hn' : ys.length ≤ 1048576
    · have hw := Below.refl w.heap.size w
      go_enter Try.func4, Try.ntmps4
      go_wp2_with fail
      refine (toIntS_c A xs c _ hn (hr.below (by go_grown)).low).mono ?_
      rintro e w1 ⟨A1, c1, rfl, S1, hb⟩
      have hK : Below w.heap.size w w1 := bu hb (by go_grown)
      replace hw := bt hw hK
      have zzw1 := hK.size
      clear hb hK
      go_wp2_with fail
      refine (toIntS_c A' ys c' _ hn' (hr'.below (by go_grown)).low).mono ?_
      rintro e w2 ⟨A2, c2, rfl, S2, hb⟩
      have hK : Below w1.heap.size w1 w2 := bu hb (by go_grown)
      replace S1 := S1.below hK
      replace hw := bt hw hK
      have zzw2 := hK.size
      clear hb hK
      go_wp2_with fail
      refine (specLeader_c _ _ _ _ _ _ _ hn hn' S1.rd S2.rd).mono ?_
      rintro e w2a ⟨rfl, hb⟩
      have hK : Below w2.heap.size w2 w2a := bu hb (by go_grown)
      replace hw := bt hw hK
      have zzw2a := hK.size
      clear hb hK
      go_wp2_with fail
      refine (toIntS_c A xs c _ hn (hr.below (by go_grown)).low).mono ?_
      rintro e w3 ⟨A3, c3, rfl, S3, hb⟩
      have hK : Below w2a.heap.size w2a w3 := bu hb (by go_grown)
      replace hw := bt hw hK
      have zzw3 := hK.size
      clear hb hK
      go_wp2_with fail
      refine (toIntS_c A' ys c' _ hn' (hr'.below (by go_grown)).low).mono ?_
      rintro e w4 ⟨A4, c4, rfl, S4, hb⟩
      have hK : Below w3.heap.size w3 w4 := bu hb (by go_grown)
      replace S3 := S3.below hK
      replace hw := bt hw hK
      have zzw4 := hK.size
      clear hb hK
      go_wp2_with fail
      refine (implLeader_c _ _ _ _ _ _ _ hn hn' S3.rd S4.rd).mono ?_
      rintro e w4a ⟨rfl, hb⟩
      have hK : Below w4.heap.size w4 w4a := bu hb (by go_grown)
      replace S3 := S3.below hK
      replace S4 := S4.below hK
      replace hw := bt hw hK
      have zzw4a := hK.size
      clear hb hK
      go_wp2_with fail
      refine (toIntS_c A xs c _ hn (hr.below (by go_grown)).low).mono ?_
      rintro e w5 ⟨A5, c5, rfl, S5, hb⟩
      have hK : Below w4a.heap.size w4a w5 := bu hb (by go_grown)
      replace S3 := S3.below hK
      replace S4 := S4.below hK
      replace hw := bt hw hK
      have zzw5 := hK.size
      clear hb hK
      go_wp2_with fail
      refine (eqIntS_c _ _ xs _ _ _ hm S3.rd S5.rd).mono ?_
      rintro e w6 ⟨rfl, hb⟩
      have hK : Below w5.heap.size w5 w6 := bu hb (by go_grown)
      replace S4 := S4.below hK
      replace hw := bt hw hK
      have zzw6 := hK.size
      clear hb hK
      go_wp2_with fail
      refine (toIntS_c A' ys c' _ hn' (hr'.below (by go_grown)).low).mono ?_
      rintro e w7 ⟨A7, c7, rfl, S7, hb⟩
      have hK : Below w6.heap.size w6 w7 := bu hb (by go_grown)
      replace S4 := S4.below hK
      replace hw := bt hw hK
      have zzw7 := hK.size
      clear hb hK
      go_wp2_with fail
      refine (eqIntS_c _ _ ys _ _ _ hm' S4.rd S7.rd).mono ?_
      rintro e w8 ⟨rfl, hb⟩
      have hK : Below w7.heap.size w7 w8 := bu hb (by go_grown)
      replace hw := bt hw hK
      have zzw8 := hK.size
      clear hb hK
      go_wp2_with fail
      go_ret
      exact ⟨rfl, hw⟩
    · have hn2 : (1048576 : Int) < ys.length := by omega
      go_enter Try.func4, Try.ntmps4
      go_wp2
      go_ret
      exact ⟨rfl, by go_grown⟩
  · have hn' : (1048576 : Int) < xs.length := by omega
    go_enter Try.func4, Try.ntmps4
    go_wp2
    go_ret
    exact ⟨rfl, by go_grown⟩
end Go.Proofs.Ytagecpdfopofdaa
