/- The law FnFinalOrder: its call hands back true, whatever the code. -/
import Derived.Test.YtiecjkacbpbghaaEp
import Derived.Test.YtiecjkacbpbghaaEv
import Derived.Test.YtiecjkacbpbghaaEx
namespace Go.Proofs.Ytiecjkacbpbghaa
set_option linter.unusedVariables false
open Go.RowKit

theorem finalC : FinalC := fun id ck m t g A1 A2 c1 c2 P D w h1 h2 h3 h4 h5 h6 h7 h8 h9 h10 h11 h12 => l11Final_c id ck m t g A1 A2 c1 c2 P D w h1 h2 h3 h4 h5 h6 h7 h8 h9 h10 h11 h12

set_option maxHeartbeats 4000000 in
theorem drawGV_c (A : Option Addr) (bs : List Int) (c : Nat) (w : World) (hm : (bs.length : Int) ≤ 9223372036854775807) (hlc : bs.length ≤ c) (hcm : (c : Int) ≤ 9223372036854775807) (hr : Rd w w.heap.size A (bs.map (Value.int .u8))) (hf : ∀ x ∈ bs, FitB x) :
    Calls Try.prog 22 #[.slice A bs.length c] w (DrewG w) := by
  obtain ⟨wx, hwx⟩ : ∃ x, w.alloc (.cells #[.int .i64 0, .int .i64 0, .slice none 0 0, .slice none 0 0] 26) = x := ⟨_, rfl⟩
  have Br : Box wx w.heap.size 26 #[.int .i64 0, .int .i64 0, .slice none 0 0, .slice none 0 0] := by rw [← hwx]; exact Box.new w _ _
  have hw : Below w.heap.size w wx := by rw [← hwx]; go_grown
  have hs : wx.heap.size = w.heap.size + 1 := by rw [← hwx]; simp
  have hr' : Rd wx wx.heap.size A (bs.map (Value.int .u8)) := (Rd.below hr hw).low
  have HO := hidI (l6Open_c A bs c wx hm hlc hcm hr' hf)
  have HX := hidI hwx
  have HBr := hidI Br
  have HW := hidI hw
  clear hwx Br hw hr hr' hf
  go_enter Try.func22, Try.ntmps22
  go_wp2_with fail
  rw [HX.out]
  clear HX
  refine Calls.mono HO.out ?_
  rintro e w1 ⟨rfl, hR, hb⟩
  have HBr1 := hidI (HBr.out.below hb)
  have HR := hidI (show Rdr w1 (w.heap.size + 1) 0 by rw [← hs]; exact hR)
  have HW1 := hidI (bu hb HW.out)
  have s1 := hb.size
  clear HO HBr HW hb hR
  go_wp2_with fail
  refine Calls.mono (l91Group_c finalC (w.heap.size + 1) 0 w1 HR.out (by omega)) ?_
  rintro e w2 ⟨id, ck, b1, c1, b2, c2, P, D, rfl, l1, l2, E1, E2, hg⟩
  have B2 := HBr1.out.grown hg (by intro h; injection h; omega)
  have HW2 := hidI (below_only HW1.out hg (by omega) HW1.out.size)
  have HE1 := hidI E1
  have HE2 := hidI E2
  obtain ⟨q0, q1, q2, q3⟩ := B2.four
  have f0 := B2.frozen 0
  have f1 := B2.frozen 1
  have f2 := B2.frozen 2
  have f3 := B2.frozen 3
  have lq := B2.lt
  have x1 := E1.blk
  have x2 := E2.blk
  clear HR HBr1 HW1 hg E1 E2 B2
  go_wp2_with fail
  refine bodyPost_ret (v := .agg #[.int .i64 id, .int .i64 ck, .slice (some ⟨b1, 0, none⟩) P.length c1, .slice (some ⟨b2, 0, none⟩) D.length c2]) (by simp (maxDischargeDepth := 8) [results, Try.results22, go_sem, *]) rfl ⟨id, ck, b1, c1, b2, c2, P, D, rfl, by omega, by omega, HE1.out.cap.1, HE2.out.cap.1, ?_, ?_, ?_⟩
  · exact (EV.far4 HE1.out (by omega) _ _ _ _).rd
  · exact (EV.far4 HE2.out (by omega) _ _ _ _).rd
  · have hw := HW2.out
    go_grown

theorem fOrd_walk (A : Option Addr) (bs : List Int) (c : Nat) (w : World) (hm : (bs.length : Int) ≤ 9223372036854775807) (hlc : bs.length ≤ c) (hcm : (c : Int) ≤ 9223372036854775807) (hr : Rd w w.heap.size A (bs.map (Value.int .u8))) (hf : ∀ x ∈ bs, FitB x) :
    Calls Try.prog 7 #[.slice A bs.length c] w fun e w' => e = .returned (.bool true) ∧ Below w.heap.size w w' :=
  fOrd_walk' A bs c w hm hlc hcm hr hf drawGV_c
end Go.Proofs.Ytiecjkacbpbghaa
