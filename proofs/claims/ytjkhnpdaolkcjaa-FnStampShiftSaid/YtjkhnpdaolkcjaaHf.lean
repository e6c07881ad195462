/- The law FnStampShift: its call hands back true, whatever the codes. -/
import Derived.Test.YtjkhnpdaolkcjaaHc
import Derived.Test.YtjkhnpdaolkcjaaDraw4
import Derived.Test.YtjkhnpdaolkcjaaCa
namespace Go.Proofs.Ytjkhnpdaolkcjaa
set_option linter.unusedVariables false
open Go.RowKit

theorem hidI {p : Prop} (h : p) : Hid p := h
theorem sl_shift {x y x' y' : Int} (h1 : svB x y = true) (h2 : svB x' y' = true) : ∀ d : Nat, x + (d : Int) ≤ 999 → x' + (d : Int) ≤ 999 → slB (x + d) y (x' + d) y' = slB x y x' y' := fun d k1 k2 => by
  have a := svB_iff.1 h1
  have b := svB_iff.1 h2
  have e1 : svB (x + d) y = true := svB_iff.2 (by omega)
  have e2 : svB (x' + d) y' = true := svB_iff.2 (by omega)
  unfold slB
  simp only [h1, h2, e1, e2, Bool.true_and]
  rw [Bool.eq_iff_iff, ltB_iff, ltB_iff]
  omega

set_option maxHeartbeats 4000000 in
theorem pSShift_walk (A : Option Addr) (bs : List Int) (c : Nat) (A2 : Option Addr) (ys : List Int) (c2 : Nat) (w : World) (hm : (bs.length : Int) ≤ 9223372036854775807) (hlc : bs.length ≤ c) (hcm : (c : Int) ≤ 9223372036854775807) (hr : Rd w w.heap.size A (bs.map (Value.int .u8))) (hf : ∀ x ∈ bs, FitB x) (hm2 : (ys.length : Int) ≤ 9223372036854775807) :
    Calls Try.prog 5 #[.slice A bs.length c, .slice A2 ys.length c2] w fun e w' => e = .returned (.bool true) ∧ Below w.heap.size w w' := by
  by_cases hn : (1048576 : Int) < bs.length
  · go_enter Try.func5, Try.ntmps5
    go_wp2
    go_ret
    exact ⟨rfl, by go_grown⟩
  · have hn' : (bs.length : Int) ≤ 1048576 := by omega
    by_cases hn2 : (1048576 : Int) < ys.length
    · go_enter Try.func5, Try.ntmps5
      go_wp2
      go_ret
      exact ⟨rfl, by go_grown⟩
    have hn2' : (ys.length : Int) ≤ 1048576 := by omega
    go_enter Try.func5, Try.ntmps5
    go_wp2_with fail
    refine (drawSL_c A bs c _ hm hlc hcm hr hf).mono ?_
    rintro e wd ⟨x, y, x', y', rfl, a1, a2, b1, b2, a3, a4, b3, b4, hw⟩
    have hs := hw.size
    have CI := implSL_c x y x' y'
    clear hr hf
    have CJ := implSL_c x' y' x y
    have CS := specSL_c x y x' y'
    have V1 := specSV_c x y
    have V2 := specSV_c x' y'
    go_wp2_with fail
    refine (CI _).mono ?_
    rintro e w1 ⟨rfl, hb⟩
    have Bx := ((Box.new wd 31 #[.int .i64 x, .int .i64 y]).alloc (.cells #[.int .i64 x', .int .i64 y'] 31)).below hb
    have By : Box w1 (wd.heap.size + 1) 31 #[.int .i64 x', .int .i64 y'] := by simpa using (Box.new (wd.alloc (.cells #[.int .i64 x, .int .i64 y] 31)) 31 #[.int .i64 x', .int .i64 y']).below hb
    replace hw : Below w.heap.size w w1 := bu hb (by go_grown)
    have hz1 := hw.size
    clear hb CI
    have c0 := Bx.cell 0
    have c1 := Bx.cell 1
    have d0 := By.cell 0
    have d1 := By.cell 1
    have lx := Bx.lt
    have ly := By.lt
    simp only [List.getElem?_toArray, List.getElem?_cons_zero, List.getElem?_cons_succ] at c0 c1 d0 d1
    go_wp2_with fail
    clear c0 c1 d0 d1 lx ly
    refine (CS _).mono ?_
    rintro e w2 ⟨rfl, hb⟩
    have hK : Below w1.heap.size w1 w2 := bu hb (by go_grown)
    replace Bx := Bx.below hK
    replace By := By.below hK
    replace hw := bt hw hK
    have zzw2 := hK.size
    clear hb hK
    have c0 := Bx.cell 0
    have c1 := Bx.cell 1
    have d0 := By.cell 0
    have d1 := By.cell 1
    have lx := Bx.lt
    have ly := By.lt
    simp only [List.getElem?_toArray, List.getElem?_cons_zero, List.getElem?_cons_succ] at c0 c1 d0 d1
    rcases h1 : svB x y with _ | _
    · simp only [h1] at V1
      clear CJ V2
      go_wp2_with fail
      clear c0 c1 d0 d1 lx ly
      refine (V1 _).mono ?_
      rintro e w3 ⟨rfl, hb⟩
      have hK : Below w2.heap.size w2 w3 := bu hb (by go_grown)
      replace Bx := Bx.below hK
      replace By := By.below hK
      replace hw := bt hw hK
      have zzw3 := hK.size
      clear hb hK
      have c0 := Bx.cell 0
      have c1 := Bx.cell 1
      have d0 := By.cell 0
      have d1 := By.cell 1
      have lx := Bx.lt
      have ly := By.lt
      simp only [List.getElem?_toArray, List.getElem?_cons_zero, List.getElem?_cons_succ] at c0 c1 d0 d1
      go_wp2_with fail
      go_ret
      exact ⟨rfl, hw⟩
    · simp only [h1] at V1
      go_wp2_with fail
      clear c0 c1 d0 d1 lx ly
      refine (V1 _).mono ?_
      rintro e w3 ⟨rfl, hb⟩
      have hK : Below w2.heap.size w2 w3 := bu hb (by go_grown)
      replace Bx := Bx.below hK
      replace By := By.below hK
      replace hw := bt hw hK
      have zzw3 := hK.size
      clear hb hK
      have c0 := Bx.cell 0
      have c1 := Bx.cell 1
      have d0 := By.cell 0
      have d1 := By.cell 1
      have lx := Bx.lt
      have ly := By.lt
      simp only [List.getElem?_toArray, List.getElem?_cons_zero, List.getElem?_cons_succ] at c0 c1 d0 d1
      rcases h2 : svB x' y' with _ | _
      · simp only [h2] at V2
        clear CJ V1
        go_wp2_with fail
        clear c0 c1 d0 d1 lx ly
        refine (V2 _).mono ?_
        rintro e w4 ⟨rfl, hb⟩
        have hK : Below w3.heap.size w3 w4 := bu hb (by go_grown)
        replace Bx := Bx.below hK
        replace By := By.below hK
        replace hw := bt hw hK
        have zzw4 := hK.size
        clear hb hK
        have c0 := Bx.cell 0
        have c1 := Bx.cell 1
        have d0 := By.cell 0
        have d1 := By.cell 1
        have lx := Bx.lt
        have ly := By.lt
        simp only [List.getElem?_toArray, List.getElem?_cons_zero, List.getElem?_cons_succ] at c0 c1 d0 d1
        go_wp2_with fail
        go_ret
        exact ⟨rfl, hw⟩
      · simp only [h2] at V2
        go_wp2_with fail
        clear c0 c1 d0 d1 lx ly
        refine (V2 _).mono ?_
        rintro e w4 ⟨rfl, hb⟩
        have hK : Below w3.heap.size w3 w4 := bu hb (by go_grown)
        replace Bx := Bx.below hK
        replace By := By.below hK
        replace hw := bt hw hK
        have zzw4 := hK.size
        clear hb hK
        have c0 := Bx.cell 0
        have c1 := Bx.cell 1
        have d0 := By.cell 0
        have d1 := By.cell 1
        have lx := Bx.lt
        have ly := By.lt
        simp only [List.getElem?_toArray, List.getElem?_cons_zero, List.getElem?_cons_succ] at c0 c1 d0 d1
        clear V1 V2 CS
        clear CJ
        have SH := sl_shift (x := x) (y := y) (x' := x') (y' := y') h1 h2
        clear h1 h2
        obtain ⟨d, hd⟩ : ∃ d, d = ys.length % 50 := ⟨_, rfl⟩
        have hd0 : d < 50 := by omega
        have e1 : (ys.length : Int) % 50 = (d : Int) := by omega
        clear hd
        by_cases h1 : 999 < x + (d : Int)
        · go_wp2_with fail
          go_ret
          exact ⟨rfl, by go_grown⟩
        · by_cases h2 : 999 < x' + (d : Int)
          · go_wp2_with fail
            go_ret
            exact ⟨rfl, by go_grown⟩
          · have t1 : decide (999 < x + (d : Int)) = false := decide_eq_false h1
            have t2 : decide (999 < x' + (d : Int)) = false := decide_eq_false h2
            have CX := implSL_c (x + d) y (x' + d) y'
            have HE := SH d (by omega) (by omega)
            rw [HE] at CX
            have HX := hidI CX
            clear CX SH HE
            go_wp2_with fail
            refine (HX.out _).mono ?_
            rintro e w5 ⟨rfl, hb⟩
            have hw5 : Below w.heap.size w w5 := bu hb (by go_grown)
            clear hb HX
            go_wp2_with fail
            go_ret
            exact ⟨by simp, hw5⟩
end Go.Proofs.Ytjkhnpdaolkcjaa
