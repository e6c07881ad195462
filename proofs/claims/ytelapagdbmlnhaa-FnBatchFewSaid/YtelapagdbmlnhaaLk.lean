/- The law FnBatchFew: its call hands back true, whatever the code. -/
import Derived.Test.YtelapagdbmlnhaaDt
import Derived.Test.YtelapagdbmlnhaaIc
import Derived.Test.YtelapagdbmlnhaaIe
namespace Go.Proofs.Ytelapagdbmlnhaa
set_option linter.unusedVariables false
open Go.RowKit

set_option maxHeartbeats 4000000 in
theorem bFew_walk (A : Option Addr) (bs : List Int) (c : Nat) (w : World) (hm : (bs.length : Int) ≤ 9223372036854775807) (hlc : bs.length ≤ c) (hcm : (c : Int) ≤ 9223372036854775807) (hr : Rd w w.heap.size A (bs.map (Value.int .u8))) (hf : ∀ x ∈ bs, FitB x) :
    Calls Try.prog 10 #[.slice A bs.length c] w fun e w' => e = .returned (.bool true) ∧ Below w.heap.size w w' := by
  by_cases hn : (1048576 : Int) < bs.length
  · go_enter Try.func10, Try.ntmps10
    go_wp2
    go_ret
    exact ⟨rfl, by go_grown⟩
  · have hn' : (bs.length : Int) ≤ 1048576 := by omega
    have hw := Below.refl w.heap.size w
    go_enter Try.func10, Try.ntmps10
    go_wp2_with fail
    refine (drawBF_c A bs c _ hm hlc hcm hr hf).mono ?_
    rintro e w1 ⟨L, b, m, A1, c1, O, A2, c2, rfl, h1, h2, h3, h4, h5, h6, h7, S1, S2, hb⟩
    have hK : Below w.heap.size w w1 := bu hb (by go_grown)
    replace hw := hK
    clear hb hK h2
    have hL : (L.length : Int) ≤ 9223372036854775807 := by omega
    have hO : (O.length : Int) ≤ 9223372036854775807 := by omega
    have k0 := S1.cap.1
    have k1 : (c1 : Int) ≤ 9223372036854775807 := by have := S1.cap.2; unfold maxLen at this; omega
    rcases hv : fitB' L b m O with _ | _
    · go_wp2_with (first | (go_at_call 17; refine (implFits_c _ _ _ _ _ _ _ _ _ hL hO k0 k1 S1.rd S2.rd).mono ?_; rintro e w' ⟨rfl, rfl⟩) | (go_at_call 19; refine (specFits_c _ _ _ _ _ _ _ _ _ hL hO S1.rd S2.rd).mono ?_; rintro e w' ⟨rfl, rfl⟩))
      go_ret
      exact ⟨rfl, hw⟩
    · have hle := cutB_least hv
      have hle' : ((cutB L b m).length : Int) ≤ (O.length : Int) := by omega
      clear hle
      go_wp2_with (first | (go_at_call 17; refine (implFits_c _ _ _ _ _ _ _ _ _ hL hO k0 k1 S1.rd S2.rd).mono ?_; rintro e w' ⟨rfl, rfl⟩) | (go_at_call 19; refine (specFits_c _ _ _ _ _ _ _ _ _ hL hO S1.rd S2.rd).mono ?_; rintro e w' ⟨rfl, rfl⟩))
      refine (implCut_c _ L _ b m _ hL S1.rd).mono ?_
      rintro e w2 ⟨A3, c3, rfl, S3, hb⟩
      have hK : Below w1.heap.size w1 w2 := bu hb (by go_grown)
      replace hw := bt hw hK
      clear hb hK
      go_wp2_with fail
      go_ret
      exact ⟨rfl, hw⟩
end Go.Proofs.Ytelapagdbmlnhaa
