/- The law FnStampThree: its call hands back true, whatever the codes. -/
import Derived.Test.YtjkhnpdaolkcjaaHc
import Derived.Test.YtjkhnpdaolkcjaaDraw4
import Derived.Test.YtjkhnpdaolkcjaaCa
namespace Go.Proofs.Ytjkhnpdaolkcjaa
set_option linter.unusedVariables false
open Go.RowKit

theorem hidJ {p : Prop} (h : p) : Hid p := h
theorem sl_trans {x y x' y' z z' : Int} (h1 : slB x y x' y' = true) (h2 : slB x' y' z z' = true) : slB x y z z' = true := by
  unfold slB at *
  simp only [Bool.and_eq_true] at *
  obtain ⟨⟨a, b⟩, c⟩ := h1
  obtain ⟨⟨d, e⟩, f⟩ := h2
  refine ⟨⟨a, e⟩, ?_⟩
  rw [ltB_iff] at *
  omega

set_option maxHeartbeats 4000000 in
theorem pSThree_walk (A : Option Addr) (bs : List Int) (c : Nat) (A2 : Option Addr) (ys : List Int) (c2 : Nat) (w : World) (hm : (bs.length : Int) ≤ 9223372036854775807) (hlc : bs.length ≤ c) (hcm : (c : Int) ≤ 9223372036854775807) (hr : Rd w w.heap.size A (bs.map (Value.int .u8))) (hf : ∀ x ∈ bs, FitB x)
    (hm2 : (ys.length : Int) ≤ 9223372036854775807) (hlc2 : ys.length ≤ c2) (hcm2 : (c2 : Int) ≤ 9223372036854775807) (hr2 : Rd w w.heap.size A2 (ys.map (Value.int .u8))) (hf2 : ∀ x ∈ ys, FitB x) :
    Calls Try.prog 6 #[.slice A bs.length c, .slice A2 ys.length c2] w fun e w' => e = .returned (.bool true) ∧ Below w.heap.size w w' := by
  have HR2 := hidJ hr2
  have HF2 := hidJ hf2
  clear hr2 hf2
  by_cases hn : (1048576 : Int) < bs.length
  · clear hr hf
    go_enter Try.func6, Try.ntmps6
    go_wp2
    go_ret
    exact ⟨rfl, by go_grown⟩
  · have hn' : (bs.length : Int) ≤ 1048576 := by omega
    by_cases hn2 : (1048576 : Int) < ys.length
    · clear hr hf
      go_enter Try.func6, Try.ntmps6
      go_wp2
      go_ret
      exact ⟨rfl, by go_grown⟩
    have hn2' : (ys.length : Int) ≤ 1048576 := by omega
    go_enter Try.func6, Try.ntmps6
    go_wp2_with fail
    refine (drawSL_c A bs c _ hm hlc hcm hr hf).mono ?_
    rintro e wd ⟨x, y, x', y', rfl, a1, a2, b1, b2, a3, a4, b3, b4, hw⟩
    clear hr hf
    have hs := hw.size
    have CI := implSL_c x y x' y'
    have CS := specSL_c x y x' y'
    go_wp2_with fail
    refine (CI _).mono ?_
    rintro e w1 ⟨rfl, hb⟩
    have Bx := ((Box.new wd 31 #[.int .i64 x, .int .i64 y]).alloc (.cells #[.int .i64 x', .int .i64 y'] 31)).below hb
    have By : Box w1 (wd.heap.size + 1) 31 #[.int .i64 x', .int .i64 y'] := by simpa using (Box.new (wd.alloc (.cells #[.int .i64 x, .int .i64 y] 31)) 31 #[.int .i64 x', .int .i64 y']).below hb
    replace hw : Below w.heap.size w w1 := bu hb (by go_grown)
    have hz1 := hw.size
    clear hb CI
    have c0 := Bx.cell 0
    have c1 := Bx.cell 1
    have d0 := By.cell 0
    have d1 := By.cell 1
    have lx := Bx.lt
    have ly := By.lt
    simp only [List.getElem?_toArray, List.getElem?_cons_zero, List.getElem?_cons_succ] at c0 c1 d0 d1
    go_wp2_with fail
    clear c0 c1 d0 d1 lx ly
    refine (CS _).mono ?_
    rintro e w2 ⟨rfl, hb⟩
    have hK : Below w1.heap.size w1 w2 := bu hb (by go_grown)
    replace Bx := Bx.below hK
    replace By := By.below hK
    replace hw := bt hw hK
    have zzw2 := hK.size
    clear hb hK
    have c0 := Bx.cell 0
    have c1 := Bx.cell 1
    have d0 := By.cell 0
    have d1 := By.cell 1
    have lx := Bx.lt
    have ly := By.lt
    simp only [List.getElem?_toArray, List.getElem?_cons_zero, List.getElem?_cons_succ] at c0 c1 d0 d1
    rcases h1 : slB x y x' y' with _ | _
    · clear CS
      go_wp2_with fail
      go_ret
      exact ⟨rfl, hw⟩
    · have H1 := hidJ h1
      clear CS h1
      go_wp2_with fail
      clear c0 c1 d0 d1 lx ly
      refine (drawSL_c A2 ys c2 _ hm2 hlc2 hcm2 (HR2.out.below hw).low HF2.out).mono ?_
      rintro e w3 ⟨z, z', t, t', rfl, k1, k2, k3, k4, k5, k6, k7, k8, hb⟩
      have hK : Below w2.heap.size w2 w3 := bu hb (by go_grown)
      replace Bx := Bx.below hK
      replace By := By.below hK
      replace hw := bt hw hK
      have zzw3 := hK.size
      clear hb hK HR2 HF2
      have c0 := Bx.cell 0
      have c1 := Bx.cell 1
      have d0 := By.cell 0
      have d1 := By.cell 1
      have lx := Bx.lt
      have ly := By.lt
      simp only [List.getElem?_toArray, List.getElem?_cons_zero, List.getElem?_cons_succ] at c0 c1 d0 d1
      have C1 := implSL_c x' y' z z'
      have C2 := implSL_c x y z z'
      rcases h2 : slB x' y' z z' with _ | _
      · rw [h2] at C1
        have HC1 := hidJ C1
        clear C1 C2 h2
        go_wp2_with fail
        refine (HC1.out _).mono ?_
        rintro e w4 ⟨rfl, hb⟩
        have hw4 : Below w.heap.size w w4 := bu hb (by go_grown)
        clear hb HC1
        go_wp2_with fail
        go_ret
        exact ⟨rfl, hw4⟩
      · have h3 := sl_trans H1.out h2
        rw [h2] at C1
        rw [h3] at C2
        have HC1 := hidJ C1
        have HC2 := hidJ C2
        clear C1 C2 h2 h3
        have Bz := (Box.new w3 31 #[.int .i64 z, .int .i64 z']).alloc (.cells #[.int .i64 t, .int .i64 t'] 31)
        have Bx3 := (Bx.alloc (.cells #[.int .i64 z, .int .i64 z'] 31)).alloc (.cells #[.int .i64 t, .int .i64 t'] 31)
        have HBz := hidJ Bz
        have HBx := hidJ Bx3
        clear Bz Bx3
        go_wp2_with fail
        refine (HC1.out _).mono ?_
        rintro e w4 ⟨rfl, hb⟩
        have hw4 : Below w.heap.size w w4 := bu hb (by go_grown)
        clear c0 c1 d0 d1 lx ly
        have Bz := HBz.out.below hb
        have Bx := HBx.out.below hb
        have c0 := Bx.cell 0
        have c1 := Bx.cell 1
        have d0 := Bz.cell 0
        have d1 := Bz.cell 1
        have lx := Bx.lt
        have lz := Bz.lt
        simp only [List.getElem?_toArray, List.getElem?_cons_zero, List.getElem?_cons_succ] at c0 c1 d0 d1
        clear hb HC1 Bx Bz
        go_wp2_with fail
        refine (HC2.out _).mono ?_
        rintro e w5 ⟨rfl, hb⟩
        have hw5 : Below w.heap.size w w5 := bu hb (by go_grown)
        clear hb HC2
        go_wp2_with fail
        go_ret
        exact ⟨rfl, hw5⟩
end Go.Proofs.Ytjkhnpdaolkcjaa
