/- The laws FnCommitGrow, FnCommitOrder, FnCommitNeeded: their calls hand back true, whatever the codes. -/
import Derived.Test.YtdbolfdpaihfiaaDu
import Derived.Test.YtdbolfdpaihfiaaAp
import Derived.Test.YtdbolfdpaihfiaaNe
import Derived.Test.YtdbolfdpaihfiaaPlainF
import Derived.BigRegion
namespace Go.Proofs.Ytdbolfdpaihfiaa
set_option linter.unusedVariables false
open Go.RowKit


set_option maxHeartbeats 4000000 in
theorem cGrow_walk (A : Option Addr) (bs : List Int) (c : Nat) (A' : Option Addr) (ms : List Int) (c' : Nat) (w : World) (hm : (bs.length : Int) ≤ 9223372036854775807) (hlc : bs.length ≤ c) (hcm : (c : Int) ≤ 9223372036854775807) (hr : Rd w w.heap.size A (bs.map (Value.int .u8))) (hf : ∀ x ∈ bs, FitB x) (hm' : (ms.length : Int) ≤ 9223372036854775807) :
    Calls Try.prog 7 #[.slice A bs.length c, .slice A' ms.length c'] w fun e w' => e = .returned (.bool true) ∧ Below w.heap.size w w' := by
  by_cases hn : (1048576 : Int) < bs.length
  · go_enter Try.func7, Try.ntmps7
    go_wp2
    go_ret
    exact ⟨rfl, by go_grown⟩
  · have hn' : (bs.length : Int) ≤ 1048576 := by omega
    by_cases hn2 : (1048576 : Int) < ms.length
    · go_enter Try.func7, Try.ntmps7
      go_wp2
      go_ret
      exact ⟨rfl, by go_grown⟩
    have hn2' : (ms.length : Int) ≤ 1048576 := by omega
    have hd1 : decide ((1048576 : Int) < bs.length) = false := by simpa using hn'
    have hw := Below.refl w.heap.size w
    go_enter Try.func7, Try.ntmps7
    go_wp2_with fail
    refine (drawCI_c A bs c _ hm hlc hcm hr hf).mono ?_
    rintro e w1 ⟨L, A1, c1, rfl, h1, h2, S1, hb⟩
    have hK : Below w.heap.size w w1 := bu hb (by go_grown)
    replace hw := hK
    clear hb hK h2
    have hL : (L.length : Int) ≤ 9223372036854775807 := by omega
    obtain ⟨ci, HC⟩ : ∃ ci, Hid (ciB L = ci) := ⟨_, rfl⟩
    have CI := fun w h => implCI_c A1 L c1 w hL h
    have CS := fun w h => specCI_c A1 L c1 w hL h
    rw [HC.out] at CI CS
    go_wp2_with fail
    refine (CI _ S1.rd).mono ?_
    rintro e w2 ⟨rfl, hb⟩
    have hK : Below w1.heap.size w1 w2 := bu hb (by go_grown)
    replace S1 := S1.below hK
    replace hw := bt hw hK
    have zzw2 := hK.size
    clear hb hK
    by_cases hneg : ci < 0
    · have hd : decide (ci < 0) = true := decide_eq_true hneg
      go_wp2_with ((go_at_call 12; refine (CS _ S1.rd).mono ?_; rintro e w' ⟨rfl, rfl⟩))
      go_ret
      exact ⟨rfl, hw⟩
    have hd : decide (ci < 0) = false := decide_eq_false hneg
    have hv := ci_yes (xs := L) (by rw [HC.out]; exact hneg)
    have hp := (lvB_iff.1 hv).2.1
    obtain ⟨k, hk⟩ : ∃ k, k = ms.length % L.length := ⟨_, rfl⟩
    have hkl : k < L.length := by have := Nat.mod_lt ms.length (show 0 < L.length by omega); omega
    have e1 : (ms.length : Int) % (L.length : Int) = (k : Int) := by
      rw [hk, Int.natCast_emod]
    have hz : ¬ (L.length : Int) = 0 := by omega
    clear hk
    obtain ⟨a, ha⟩ : ∃ a, L[k]? = some a := ⟨_, List.getElem?_eq_getElem hkl⟩
    obtain ⟨ha0, ha1⟩ := (lvB_iff.1 hv).1 a (mem_at ha)
    have hci0 : (0 : Int) ≤ ci := by omega
    have hci1 := (ci_is hv).hi
    rw [HC.out] at hci1
    obtain ⟨g1, rfl, _, l1, hc1⟩ := S1.at_ (by omega)
    have d1 := hc1 k a ha
    have i1 : (0 : Int) ≤ (k : Int) := by omega
    have i2 : (k : Int) < (L.length : Int) := by omega
    by_cases h99 : a = 99
    · subst h99
      clear hc1 ha hv
      go_wp2_with ((go_at_call 12; refine (CS _ S1.rd).mono ?_; rintro e w' ⟨rfl, rfl⟩))
      go_ret
      exact ⟨rfl, hw⟩
    · have hd9 : (a == 99) = false := by simp; exact h99
      obtain ⟨p0, p1, p2⟩ := ci_up hv ha h99
      have hX : (L.set k (a + 1)).length = L.length := by simp
      obtain ⟨X, HX⟩ : ∃ X, Hid (L.set k (a + 1) = X) := ⟨_, rfl⟩
      rw [HX.out] at p1 p2 hX
      rw [HC.out] at p1 p2
      obtain ⟨cx, hcx⟩ : ∃ cx, ciB X = cx := ⟨_, rfl⟩
      rw [hcx] at p1 p2
      have HCX : Hid _ := hcx
      have HA : Hid _ := ha
      have P1 : Hid _ := p1
      have P2 : Hid _ := p2
      have V : IV (w2.alloc (.cells #[] 3)) w.heap.size (.slice (some ⟨w2.heap.size, 0, none⟩) 0 0) 0 [] := (IS.full (xs := []) (Box.new w2 _ _) hw.size (Nat.zero_le _)).iv
      clear hc1 hv ha p0 p1 p2 hcx CI
      go_wp2_with (first
        | (go_at_call 12; refine (CS _ S1.rd).mono ?_; rintro e w' ⟨rfl, rfl⟩)
        | (at_builtin; refine wpList_append_IVs L rfl _ _ rfl rfl V rfl rfl (S1.rd.below (by go_grown)) (by omega) (by simp; omega) ?_; intro v4 w4 V4 hb4 hg4; obtain ⟨A3, c3, rfl, S3⟩ := V4.open_; simp only [Nat.zero_add, List.nil_append] at S3 ⊢; obtain ⟨g3, rfl, _, l3, hc3⟩ := S3.at_ (by omega); have d3 := hc3 k a HA.out; have f3 := S3.frozen k; clear hc3))
      have hw4 : Below w.heap.size w w4 := (Below.trans (by go_grown) hb4)
      have HS : Hid (IS (w4.setCell ⟨g3, k, none⟩ (.int .i64 (a + 1))) w.heap.size (some ⟨g3, 0, none⟩) L.length c3 X) := by
        unfold Hid
        rw [← HX.out]
        exact S3.set (a + 1)
      have HB : Hid (Below w.heap.size w w4) := hw4
      have HXL : Hid _ := hX
      clear S3 hw4 CS e1 hz hd9 h99 hX hneg hd hd1 hn2' hn2 hp l1 V V4 hb4 hg4 hw S1 d1
      have hw := HB.out
      have hS : IS (w4.setCell ⟨g3, k, none⟩ (.int .i64 (a + 1))) w.heap.size (some ⟨g3, 0, none⟩) L.length c3 X := HS.out
      have hB := (hS.lt _ rfl).1
      have hw5 : Below w.heap.size w (w4.setCell ⟨g3, k, none⟩ (.int .i64 (a + 1))) := by go_grown
      have CX := implCI_c (some ⟨g3, 0, none⟩) X c3 _ (by have := HXL.out; omega) hS.rd
      rw [HCX.out, HXL.out] at CX
      refine CX.mono ?_
      rintro e w6 ⟨rfl, hb⟩
      have hw6 := bt hw5 hb
      have t1 : decide (ci ≤ cx) = true := decide_eq_true P1.out
      have t2 : decide (cx ≤ ci + 1) = true := decide_eq_true P2.out
      have t3 := P1.out
      have t4 := P2.out
      clear CX hw hb HS hS d3 f3
      go_wp2
      go_ret
      exact ⟨rfl, hw6⟩
end Go.Proofs.Ytdbolfdpaihfiaa
