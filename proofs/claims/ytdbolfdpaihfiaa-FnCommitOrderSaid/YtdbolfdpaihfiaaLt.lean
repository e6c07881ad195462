/- The laws FnCommitGrow, FnCommitOrder, FnCommitNeeded: their calls hand back true, whatever the codes. -/
import Derived.Test.YtdbolfdpaihfiaaDu
import Derived.Test.YtdbolfdpaihfiaaAp
import Derived.Test.YtdbolfdpaihfiaaNe
import Derived.Test.YtdbolfdpaihfiaaPlainF
import Derived.BigRegion
namespace Go.Proofs.Ytdbolfdpaihfiaa
set_option linter.unusedVariables false
open Go.RowKit


set_option maxHeartbeats 4000000 in
theorem cOrder_walk (A : Option Addr) (bs : List Int) (c : Nat) (A' : Option Addr) (ms : List Int) (c' : Nat) (w : World) (hm : (bs.length : Int) ≤ 9223372036854775807) (hlc : bs.length ≤ c) (hcm : (c : Int) ≤ 9223372036854775807) (hr : Rd w w.heap.size A (bs.map (Value.int .u8))) (hf : ∀ x ∈ bs, FitB x) (hm' : (ms.length : Int) ≤ 9223372036854775807) :
    Calls Try.prog 3 #[.slice A bs.length c, .slice A' ms.length c'] w fun e w' => e = .returned (.bool true) ∧ Below w.heap.size w w' := by
  by_cases hn : (1048576 : Int) < bs.length
  · go_enter Try.func3, Try.ntmps3
    go_wp2
    go_ret
    exact ⟨rfl, by go_grown⟩
  · have hn' : (bs.length : Int) ≤ 1048576 := by omega
    by_cases hn2 : (1048576 : Int) < ms.length
    · go_enter Try.func3, Try.ntmps3
      go_wp2
      go_ret
      exact ⟨rfl, by go_grown⟩
    have hn2' : (ms.length : Int) ≤ 1048576 := by omega
    have hd1 : decide ((1048576 : Int) < bs.length) = false := by simpa using hn'
    have hw := Below.refl w.heap.size w
    go_enter Try.func3, Try.ntmps3
    go_wp2_with fail
    refine (drawCI_c A bs c _ hm hlc hcm hr hf).mono ?_
    rintro e w1 ⟨L, A1, c1, rfl, h1, h2, S1, hb⟩
    have hK : Below w.heap.size w w1 := bu hb (by go_grown)
    replace hw := hK
    clear hb hK h2
    have hL : (L.length : Int) ≤ 9223372036854775807 := by omega
    obtain ⟨ci, HC⟩ : ∃ ci, Hid (ciB L = ci) := ⟨_, rfl⟩
    have CI := fun w h => implCI_c A1 L c1 w hL h
    have CS := fun w h => specCI_c A1 L c1 w hL h
    rw [HC.out] at CI CS
    go_wp2_with fail
    refine (CI _ S1.rd).mono ?_
    rintro e w2 ⟨rfl, hb⟩
    have hK : Below w1.heap.size w1 w2 := bu hb (by go_grown)
    replace S1 := S1.below hK
    replace hw := bt hw hK
    have zzw2 := hK.size
    clear hb hK
    by_cases hneg : ci < 0
    · have hd : decide (ci < 0) = true := decide_eq_true hneg
      go_wp2_with ((go_at_call 12; refine (CS _ S1.rd).mono ?_; rintro e w' ⟨rfl, rfl⟩))
      go_ret
      exact ⟨rfl, hw⟩
    have hd : decide (ci < 0) = false := decide_eq_false hneg
    have hv := ci_yes (xs := L) (by rw [HC.out]; exact hneg)
    have hp := (lvB_iff.1 hv).2.1
    have HR := ci_rev hv
    rw [HC.out] at HR
    have HV : Hid _ := hv
    have HR' : Hid _ := HR
    obtain ⟨g1, rfl, _, l1, _⟩ := S1.at_ (by omega)
    have V : IV (w2.alloc (.cells #[] 3)) w2.heap.size (.slice (some ⟨w2.heap.size, 0, none⟩) 0 0) 0 [] := (IS.full (xs := []) (Box.new w2 _ _) (Nat.le_refl _) (Nat.zero_le _)).iv
    have hz2 := hw.size
    clear hv HR CI
    go_wp2_with ((go_at_call 12; refine (CS _ S1.rd).mono ?_; rintro e w' ⟨rfl, rfl⟩))
    clear CS
    go_loopw [8, 9] (fun o i wr => ∃ (k : Nat) (v : Value), k ≤ L.length ∧ i = .int .i64 ((k : Int) - 1) ∧ o = v ∧ IV wr w2.heap.size v (L.length - k) (L.drop k).reverse ∧ IS wr w.heap.size (some ⟨g1, 0, none⟩) L.length c1 L ∧ Below w.heap.size w wr ∧ w2.heap.size ≤ wr.heap.size)
      (fun _ i _ => (intOf i + 1).toNat)
    case atStart => exact ⟨L.length, _, Nat.le_refl _, rfl, rfl, by simpa using V, S1.alloc _, by go_grown, by simp⟩
    case round =>
      clear V S1 hw
      obtain ⟨k, v, hk, rfl, rfl, V, S1, hw, hz3⟩ := hrel
      rcases k with _ | k
      · simp only [Nat.sub_zero, List.drop_zero] at V
        obtain ⟨A3, c3, rfl, S3⟩ := V.open_
        have CB := fun w h => implCI_c A3 L.reverse c3 w (by simpa using hL) h
        have CN := fun n w h => implNeeded_c A3 L.reverse c3 n w (by simpa using hL) h
        have CM := fun n w h => implNeeded_c (some ⟨g1, 0, none⟩) L c1 n w hL h
        rw [List.length_reverse, HR'.out] at CB
        simp only [List.length_reverse, cn_rev HV.out] at CN
        have e0 : ((0 : Nat) : Int) - 1 = -1 := rfl
        rw [e0]
        go_wp2_with fail
        refine (CB wr S3.rd).mono ?_
        rintro e w5 ⟨rfl, hb⟩
        have hK : Below wr.heap.size wr w5 := bu hb (by go_grown)
        replace S1 := S1.below hK
        replace S3 := S3.below hK
        replace hw := bt hw hK
        have zzw5 := hK.size
        clear hb hK
        have S3r := S3.rd
        have S1r := S1.rd
        clear CB S3 S1 V h1
        go_wp2_with fail
        refine (CN _ _ S3r).mono ?_
        rintro e w6 ⟨rfl, rfl⟩
        go_wp2_with fail
        refine (CM _ _ S1r).mono ?_
        rintro e w7 ⟨rfl, rfl⟩
        clear CN CM
        go_wp2_with fail
        go_ret
        exact ⟨rfl, hw⟩
      · obtain ⟨g9, e9, _, l9, hc9⟩ := S1.at_ (by omega)
        cases e9
        obtain ⟨a, ha⟩ : ∃ a, L[k]? = some a := ⟨_, List.getElem?_eq_getElem (show k < L.length by omega)⟩
        have d1 := hc9 k a ha
        have e1 : (((k + 1 : Nat) : Int) - 1) = (k : Int) := by omega
        have i1 : (0 : Int) ≤ (k : Int) := by omega
        have i2 : (k : Int) < (L.length : Int) := by omega
        have hsn : Hid ((L.drop (k + 1)).reverse ++ [a] = (L.drop k).reverse) := by
          unfold Hid
          have hk2 : k < L.length := by omega
          rw [List.drop_eq_getElem_cons hk2, List.reverse_cons]
          rw [List.getElem?_eq_getElem hk2] at ha
          rw [Option.some.inj ha]
        have hnum : Hid (L.length - (k + 1) + 1 = L.length - k) := by unfold Hid; omega
        rw [e1]
        clear hc9 ha e1
        go_wp2_with (at_builtin; refine wpList_append_IV a rfl _ _ rfl rfl (V.alloc _) rfl (by simp) (by omega) (by simp; omega) ?_; intro v6 w6 V6 hb6 hg6)
        rw [hsn.out, hnum.out] at V6
        have S6 := (S1.alloc _).below_of (fun a e => by cases e; exact l1) hb6
        have hw6 : Below w.heap.size w w6 := (Below.trans (by go_grown) (hb6.mono hz2))
        have hz6 : w2.heap.size ≤ w6.heap.size := by have := hb6.size; simp at this; omega
        go_roundw
        case rel => exact ⟨k, _, by omega, by go_num, rfl, V6, S6, hw6, hz6⟩
        case measure => simp [intOf] <;> omega
end Go.Proofs.Ytdbolfdpaihfiaa
