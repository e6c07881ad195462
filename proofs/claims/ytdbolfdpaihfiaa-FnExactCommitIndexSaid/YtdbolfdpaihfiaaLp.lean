/- The law FnExactCommitIndex: its call hands back true, whatever the argument. -/
import Derived.Test.YtdbolfdpaihfiaaNe
namespace Go.Proofs.Ytdbolfdpaihfiaa
set_option linter.unusedVariables false
open Go.RowKit

set_option maxHeartbeats 1000000 in
theorem xCI_walk (A : Option Addr) (xs : List Int) (c : Nat) (w : World) (hm : (xs.length : Int) ≤ 9223372036854775807) (hr : Rd w w.heap.size A (xs.map (Value.int .i64))) :
    Calls Try.prog 6 #[.slice A xs.length c] w fun e w' => e = .returned (.bool true) ∧ Below w.heap.size w w' := by
  by_cases hn : xs.length ≤ 1048576
  · have hw := Below.refl w.heap.size w
    go_enter Try.func6, Try.ntmps6
    go_wp2_with fail
    refine (toIntS_c A xs c _ hn (hr.below (by go_grown)).low).mono ?_
    rintro e w1 ⟨A1, c1, rfl, S1, hb⟩
    have hK : Below w.heap.size w w1 := bu hb (by go_grown)
    replace hw := bt hw hK
    have zzw1 := hK.size
    clear hb hK
    go_wp2_with ((go_at_call 12; refine (specCI_c _ _ _ _ hm S1.rd).mono ?_; rintro e w' ⟨rfl, rfl⟩))
    refine (toIntS_c A xs c _ hn (hr.below (by go_grown)).low).mono ?_
    rintro e w2 ⟨A2, c2, rfl, S2, hb⟩
    have hK : Below w1.heap.size w1 w2 := bu hb (by go_grown)
    replace hw := bt hw hK
    have zzw2 := hK.size
    clear hb hK
    go_wp2_with fail
    refine (implCI_c _ _ _ _ hm S2.rd).mono ?_
    rintro e w2a ⟨rfl, hb⟩
    have hK : Below w2.heap.size w2 w2a := bu hb (by go_grown)
    replace S2 := S2.below hK
    replace hw := bt hw hK
    have zzw2a := hK.size
    clear hb hK
    go_wp2_with fail
    refine (toIntS_c A xs c _ hn (hr.below (by go_grown)).low).mono ?_
    rintro e w3 ⟨A3, c3, rfl, S3, hb⟩
    have hK : Below w2a.heap.size w2a w3 := bu hb (by go_grown)
    replace S2 := S2.below hK
    replace hw := bt hw hK
    have zzw3 := hK.size
    clear hb hK
    go_wp2_with fail
    refine (eqIntS_c _ _ xs _ _ _ hm S2.rd S3.rd).mono ?_
    rintro e w4 ⟨rfl, hb⟩
    have hK : Below w3.heap.size w3 w4 := bu hb (by go_grown)
    replace hw := bt hw hK
    have zzw4 := hK.size
    clear hb hK
    go_wp2_with fail
    go_ret
    exact ⟨rfl, hw⟩
  · have hn' : (1048576 : Int) < xs.length := by omega
    go_enter Try.func6, Try.ntmps6
    go_wp2
    go_ret
    exact ⟨rfl, by go_grown⟩
end Go.Proofs.Ytdbolfdpaihfiaa
