/- The laws FnExactGroupsValid, FnExactGroupsCommon, FnExactGroupsUnion: their calls hand back true, whatever the arguments. -/
import Derived.Test.YtjchndookaahiaaGc
namespace Go.Proofs.Ytjchndookaahiaa
set_option linter.unusedVariables false
open Go.RowKit

set_option maxHeartbeats 2000000 in
theorem xGV_walk (A : Option Addr) (xs : List Int) (c : Nat) (w : World) (hm : (xs.length : Int) ≤ 9223372036854775807) (hr : Rd w w.heap.size A (xs.map (Value.int .i64))) :
    Calls Try.prog 3 #[.slice A xs.length c] w fun e w' => e = .returned (.bool true) ∧ Below w.heap.size w w' := by
  by_cases hn : xs.length ≤ 1048576
  · have hw := Below.refl w.heap.size w
    have CS := fun A c w h => specGV_c A xs c w hn h
    have CI := fun A c w h => implGV_c A xs c w hn h
    generalize gvB xs = ok at CS CI
    go_enter Try.func3, Try.ntmps3
    go_wp2_with fail
    refine (toIntS_c A xs c _ hn (hr.below (by go_grown)).low).mono ?_
    rintro e w1 ⟨A1, c1, rfl, S1, hb⟩
    have hK : Below w.heap.size w w1 := bu hb (by go_grown)
    replace hw := bt hw hK
    have zzw1 := hK.size
    clear hb hK
    go_wp2_with fail
    refine (CS _ _ _ S1.rd).mono ?_
    rintro e w2 ⟨rfl, hb⟩
    have hK : Below w1.heap.size w1 w2 := bu hb (by go_grown)
    replace hw := bt hw hK
    have zzw2 := hK.size
    clear hb hK
    clear S1
    go_wp2_with fail
    refine (toIntS_c A xs c _ hn (hr.below (by go_grown)).low).mono ?_
    rintro e w3 ⟨A3, c3, rfl, S3, hb⟩
    have hK : Below w2.heap.size w2 w3 := bu hb (by go_grown)
    replace hw := bt hw hK
    have zzw3 := hK.size
    clear hb hK
    go_wp2_with fail
    refine (CI _ _ _ S3.rd).mono ?_
    rintro e w4 ⟨rfl, hb⟩
    have hK : Below w3.heap.size w3 w4 := bu hb (by go_grown)
    replace S3 := S3.below hK
    replace hw := bt hw hK
    have zzw4 := hK.size
    clear hb hK
    go_wp2_with fail
    refine (toIntS_c A xs c _ hn (hr.below (by go_grown)).low).mono ?_
    rintro e w5 ⟨A5, c5, rfl, S5, hb⟩
    have hK : Below w4.heap.size w4 w5 := bu hb (by go_grown)
    replace S3 := S3.below hK
    replace hw := bt hw hK
    have zzw5 := hK.size
    clear hb hK
    go_wp2_with fail
    refine (eqIntS_c _ _ xs _ _ _ hm S3.rd S5.rd).mono ?_
    rintro e w6 ⟨rfl, hb⟩
    have hK : Below w5.heap.size w5 w6 := bu hb (by go_grown)
    replace hw := bt hw hK
    have zzw6 := hK.size
    clear hb hK
    go_wp2_with fail
    go_ret
    exact ⟨rfl, hw⟩
  · have hn' : (1048576 : Int) < xs.length := by omega
    go_enter Try.func3, Try.ntmps3
    go_wp2
    go_ret
    exact ⟨rfl, by go_grown⟩

theorem comL_le (xs ys : List Int) : (comL xs ys).length ≤ 5 := by
  unfold comL
  split
  · exact pickL_le _
  · simp

set_option maxHeartbeats 4000000 in
theorem xCom_walk (A : Option Addr) (xs : List Int) (c : Nat) (A' : Option Addr) (ys : List Int) (c' : Nat) (w : World) (hm : (xs.length : Int) ≤ 9223372036854775807) (hm' : (ys.length : Int) ≤ 9223372036854775807)
    (hr : Rd w w.heap.size A (xs.map (Value.int .i64))) (hr' : Rd w w.heap.size A' (ys.map (Value.int .i64))) :
    Calls Try.prog 5 #[.slice A xs.length c, .slice A' ys.length c'] w fun e w' => e = .returned (.bool true) ∧ Below w.heap.size w w' := by
  by_cases hn : xs.length ≤ 1048576
  · by_cases hn' : ys.length ≤ 1048576
    · have hw := Below.refl w.heap.size w
      have hR0 := comL_le xs ys
      have CS := fun A c A' c' w h h' => specCom_c A xs c A' ys c' w hn hn' h h'
      have CI := fun A c A' c' w h h' => implCom_c A xs c A' ys c' w hn hn' h h'
      unfold NewI at CS CI
      generalize comL xs ys = R at hR0 CS CI
      have hR : R.length ≤ 1048576 := by omega
      have hRm : (R.length : Int) ≤ 9223372036854775807 := by omega
      clear hR0
      go_enter Try.func5, Try.ntmps5
      go_wp2_with fail
      refine (toIntS_c A xs c _ hn (hr.below (by go_grown)).low).mono ?_
      rintro e w1 ⟨A1, c1, rfl, S1, hb⟩
      have hK : Below w.heap.size w w1 := bu hb (by go_grown)
      replace hw := bt hw hK
      have zzw1 := hK.size
      clear hb hK
      go_wp2_with fail
      refine (toIntS_c A' ys c' _ hn' (hr'.below (by go_grown)).low).mono ?_
      rintro e w2 ⟨A2, c2, rfl, S2, hb⟩
      have hK : Below w1.heap.size w1 w2 := bu hb (by go_grown)
      replace S1 := S1.below hK
      replace hw := bt hw hK
      have zzw2 := hK.size
      clear hb hK
      go_wp2_with fail
      refine (CS _ _ _ _ _ S1.rd S2.rd).mono ?_
      rintro e w3 ⟨A3, c3, rfl, S3, hb⟩
      have hK : Below w2.heap.size w2 w3 := bu hb (by go_grown)
      replace hw := bt hw hK
      have zzw3 := hK.size
      clear hb hK
      clear S1 S2
      have l3 := S3.lt
      go_wp2_with fail
      refine (toIntS_c A xs c _ hn (hr.below (by go_grown)).low).mono ?_
      rintro e w4 ⟨A4, c4, rfl, S4, hb⟩
      have hK : Below w3.heap.size w3 w4 := bu hb (by go_grown)
      replace S3 := S3.below hK
      replace hw := bt hw hK
      have zzw4 := hK.size
      clear hb hK
      have l4 := S4.lt
      go_wp2_with fail
      refine (toIntS_c A' ys c' _ hn' (hr'.below (by go_grown)).low).mono ?_
      rintro e w5 ⟨A5, c5, rfl, S5, hb⟩
      have hK : Below w4.heap.size w4 w5 := bu hb (by go_grown)
      replace S3 := S3.below hK
      replace S4 := S4.below hK
      replace hw := bt hw hK
      have zzw5 := hK.size
      clear hb hK
      have l5 := S5.lt
      go_wp2_with fail
      refine (CI _ _ _ _ _ S4.rd S5.rd).mono ?_
      rintro e w6 ⟨A6, c6, rfl, S6, hb⟩
      have hK : Below w5.heap.size w5 w6 := bu hb (by go_grown)
      replace S3 := S3.below hK
      replace S4 := S4.below hK
      replace S5 := S5.below hK
      replace hw := bt hw hK
      have zzw6 := hK.size
      clear hb hK
      have l6 := S6.lt
      go_wp2_with fail
      refine (eqIntS_c _ _ R _ _ _ hRm S6.rd S3.rd).mono ?_
      rintro e w7 ⟨rfl, hb⟩
      have hK : Below w6.heap.size w6 w7 := bu hb (by go_grown)
      replace S3 := S3.below hK
      replace S4 := S4.below hK
      replace S5 := S5.below hK
      replace S6 := S6.below hK
      replace hw := bt hw hK
      have zzw7 := hK.size
      clear hb hK
      go_wp2_with fail
      refine (toIntS_c A xs c _ hn (hr.below (by go_grown)).low).mono ?_
      rintro e w8 ⟨A8, c8, rfl, S8, hb⟩
      have hK : Below w7.heap.size w7 w8 := bu hb (by go_grown)
      replace S3 := S3.below hK
      replace S4 := S4.below hK
      replace S5 := S5.below hK
      replace S6 := S6.below hK
      replace hw := bt hw hK
      have zzw8 := hK.size
      clear hb hK
      go_wp2_with fail
      refine (eqIntS_c _ _ xs _ _ _ hm S4.rd S8.rd).mono ?_
      rintro e w9 ⟨rfl, hb⟩
      have hK : Below w8.heap.size w8 w9 := bu hb (by go_grown)
      replace S3 := S3.below hK
      replace S4 := S4.below hK
      replace S5 := S5.below hK
      replace S6 := S6.below hK
      replace hw := bt hw hK
      have zzw9 := hK.size
      clear hb hK
      clear S8
      go_wp2_with fail
      refine (toIntS_c A' ys c' _ hn' (hr'.below (by go_grown)).low).mono ?_
      rintro e w10 ⟨A10, c10, rfl, S10, hb⟩
      have hK : Below w9.heap.size w9 w10 := bu hb (by go_grown)
      replace S3 := S3.below hK
      replace S4 := S4.below hK
      replace S5 := S5.below hK
      replace S6 := S6.below hK
      replace hw := bt hw hK
      have zzw10 := hK.size
      clear hb hK
      go_wp2_with fail
      refine (eqIntS_c _ _ ys _ _ _ hm' S5.rd S10.rd).mono ?_
      rintro e w11 ⟨rfl, hb⟩
      have hK : Below w10.heap.size w10 w11 := bu hb (by go_grown)
      replace S3 := S3.below hK
      replace S4 := S4.below hK
      replace S5 := S5.below hK
      replace S6 := S6.below hK
      replace hw := bt hw hK
      have zzw11 := hK.size
      clear hb hK
      clear S10
      go_wp2_with fail
      refine (markIntS_c _ _ _ _ 1 _ _ hn (by omega) (by omega) S4).mono ?_
      rintro e w12 ⟨rfl, T4, hg⟩
      replace S3 := S3.apart hg (fun a a' e1 e2 => by have z1 := l3 a e1; have z2 := l4 a' e2; omega)
      replace S5 := S5.apart hg (fun a a' e1 e2 => by have z1 := l5 a e1; have z2 := l4 a' e2; omega)
      replace S6 := S6.apart hg (fun a a' e1 e2 => by have z1 := l6 a e1; have z2 := l4 a' e2; omega)
      replace hw := below_grown hw hg (fun g e1 => by obtain ⟨a, e2, e3⟩ := Option.map_eq_some_iff.1 e1; have z1 := l4 a e2; omega) hw.size
      have zzw12 := hg.size
      clear hg
      clear S4 T4
      go_wp2_with fail
      refine (markIntS_c _ _ _ _ (1 + (xs.length : Int)) _ _ hn' (by omega) (by omega) S5).mono ?_
      rintro e w13 ⟨rfl, T5, hg⟩
      replace S3 := S3.apart hg (fun a a' e1 e2 => by have z1 := l3 a e1; have z2 := l5 a' e2; omega)
      replace S6 := S6.apart hg (fun a a' e1 e2 => by have z1 := l6 a e1; have z2 := l5 a' e2; omega)
      replace hw := below_grown hw hg (fun g e1 => by obtain ⟨a, e2, e3⟩ := Option.map_eq_some_iff.1 e1; have z1 := l5 a e2; omega) hw.size
      have zzw13 := hg.size
      clear hg
      clear S5 T5
      have hk0 : decide (1 + (xs.length : Int) + (ys.length : Int) < 0) = false := decide_eq_false (by omega)
      go_wp2_with fail
      refine (eqIntS_c _ _ R _ _ _ hRm S6.rd S3.rd).mono ?_
      rintro e w14 ⟨rfl, hb⟩
      have hK : Below w13.heap.size w13 w14 := bu hb (by go_grown)
      replace S3 := S3.below hK
      replace S6 := S6.below hK
      replace hw := bt hw hK
      have zzw14 := hK.size
      clear hb hK
      go_wp2_with fail
      refine (markIntS_c _ _ _ _ 1 _ _ hR (by omega) (by omega) S6).mono ?_
      rintro e w15 ⟨rfl, T6, hg⟩
      replace S3 := S3.apart hg (fun a a' e1 e2 => by have z1 := l3 a e1; have z2 := l6 a' e2; omega)
      replace hw := below_grown hw hg (fun g e1 => by obtain ⟨a, e2, e3⟩ := Option.map_eq_some_iff.1 e1; have z1 := l6 a e2; omega) hw.size
      have zzw15 := hg.size
      clear hg
      clear S6
      go_wp2_with ((go_at_call 18; refine (heldIntS_c _ _ _ 1 _ _ hR (by omega) (by omega) T6).mono ?_; rintro e w' ⟨rfl, rfl⟩))
      refine (toIntS_c A xs c _ hn (hr.below (by go_grown)).low).mono ?_
      rintro e w16 ⟨A16, c16, rfl, S16, hb⟩
      have hK : Below w15.heap.size w15 w16 := bu hb (by go_grown)
      replace S3 := S3.below hK
      replace T6 := T6.below hK
      replace hw := bt hw hK
      have zzw16 := hK.size
      clear hb hK
      go_wp2_with fail
      refine (toIntS_c A' ys c' _ hn' (hr'.below (by go_grown)).low).mono ?_
      rintro e w17 ⟨A17, c17, rfl, S17, hb⟩
      have hK : Below w16.heap.size w16 w17 := bu hb (by go_grown)
      replace S3 := S3.below hK
      replace T6 := T6.below hK
      replace S16 := S16.below hK
      replace hw := bt hw hK
      have zzw17 := hK.size
      clear hb hK
      go_wp2_with fail
      refine (CI _ _ _ _ _ S16.rd S17.rd).mono ?_
      rintro e w18 ⟨A18, c18, rfl, S18, hb⟩
      have hK : Below w17.heap.size w17 w18 := bu hb (by go_grown)
      replace S3 := S3.below hK
      replace T6 := T6.below hK
      replace hw := bt hw hK
      have zzw18 := hK.size
      clear hb hK
      clear S16 S17
      go_wp2_with fail
      refine (eqIntS_c _ _ R _ _ _ hRm S18.rd S3.rd).mono ?_
      rintro e w19 ⟨rfl, hb⟩
      have hK : Below w18.heap.size w18 w19 := bu hb (by go_grown)
      replace T6 := T6.below hK
      replace hw := bt hw hK
      have zzw19 := hK.size
      clear hb hK
      go_wp2_with ((go_at_call 18; refine (heldIntS_c _ _ _ 1 _ _ hR (by omega) (by omega) T6).mono ?_; rintro e w' ⟨rfl, rfl⟩))
      go_ret
      exact ⟨rfl, hw⟩
    · have hn2 : (1048576 : Int) < ys.length := by omega
      go_enter Try.func5, Try.ntmps5
      go_wp2
      go_ret
      exact ⟨rfl, by go_grown⟩
  · have hn' : (1048576 : Int) < xs.length := by omega
    go_enter Try.func5, Try.ntmps5
    go_wp2
    go_ret
    exact ⟨rfl, by go_grown⟩

theorem uniL_le (xs ys : List Int) : (uniL xs ys).length ≤ 5 := by
  unfold uniL
  split
  · exact pickL_le _
  · simp

set_option maxHeartbeats 4000000 in
theorem xUni_walk (A : Option Addr) (xs : List Int) (c : Nat) (A' : Option Addr) (ys : List Int) (c' : Nat) (w : World) (hm : (xs.length : Int) ≤ 9223372036854775807) (hm' : (ys.length : Int) ≤ 9223372036854775807)
    (hr : Rd w w.heap.size A (xs.map (Value.int .i64))) (hr' : Rd w w.heap.size A' (ys.map (Value.int .i64))) :
    Calls Try.prog 6 #[.slice A xs.length c, .slice A' ys.length c'] w fun e w' => e = .returned (.bool true) ∧ Below w.heap.size w w' := by
  by_cases hn : xs.length ≤ 1048576
  · by_cases hn' : ys.length ≤ 1048576
    · have hw := Below.refl w.heap.size w
      have hR0 := uniL_le xs ys
      have CS := fun A c A' c' w h h' => specUni_c A xs c A' ys c' w hn hn' h h'
      have CI := fun A c A' c' w h h' => implUni_c A xs c A' ys c' w hn hn' h h'
      unfold NewI at CS CI
      generalize uniL xs ys = R at hR0 CS CI
      have hR : R.length ≤ 1048576 := by omega
      have hRm : (R.length : Int) ≤ 9223372036854775807 := by omega
      clear hR0
      go_enter Try.func6, Try.ntmps6
      go_wp2_with fail
      refine (toIntS_c A xs c _ hn (hr.below (by go_grown)).low).mono ?_
      rintro e w1 ⟨A1, c1, rfl, S1, hb⟩
      have hK : Below w.heap.size w w1 := bu hb (by go_grown)
      replace hw := bt hw hK
      have zzw1 := hK.size
      clear hb hK
      go_wp2_with fail
      refine (toIntS_c A' ys c' _ hn' (hr'.below (by go_grown)).low).mono ?_
      rintro e w2 ⟨A2, c2, rfl, S2, hb⟩
      have hK : Below w1.heap.size w1 w2 := bu hb (by go_grown)
      replace S1 := S1.below hK
      replace hw := bt hw hK
      have zzw2 := hK.size
      clear hb hK
      go_wp2_with fail
      refine (CS _ _ _ _ _ S1.rd S2.rd).mono ?_
      rintro e w3 ⟨A3, c3, rfl, S3, hb⟩
      have hK : Below w2.heap.size w2 w3 := bu hb (by go_grown)
      replace hw := bt hw hK
      have zzw3 := hK.size
      clear hb hK
      clear S1 S2
      have l3 := S3.lt
      go_wp2_with fail
      refine (toIntS_c A xs c _ hn (hr.below (by go_grown)).low).mono ?_
      rintro e w4 ⟨A4, c4, rfl, S4, hb⟩
      have hK : Below w3.heap.size w3 w4 := bu hb (by go_grown)
      replace S3 := S3.below hK
      replace hw := bt hw hK
      have zzw4 := hK.size
      clear hb hK
      have l4 := S4.lt
      go_wp2_with fail
      refine (toIntS_c A' ys c' _ hn' (hr'.below (by go_grown)).low).mono ?_
      rintro e w5 ⟨A5, c5, rfl, S5, hb⟩
      have hK : Below w4.heap.size w4 w5 := bu hb (by go_grown)
      replace S3 := S3.below hK
      replace S4 := S4.below hK
      replace hw := bt hw hK
      have zzw5 := hK.size
      clear hb hK
      have l5 := S5.lt
      go_wp2_with fail
      refine (CI _ _ _ _ _ S4.rd S5.rd).mono ?_
      rintro e w6 ⟨A6, c6, rfl, S6, hb⟩
      have hK : Below w5.heap.size w5 w6 := bu hb (by go_grown)
      replace S3 := S3.below hK
      replace S4 := S4.below hK
      replace S5 := S5.below hK
      replace hw := bt hw hK
      have zzw6 := hK.size
      clear hb hK
      have l6 := S6.lt
      go_wp2_with fail
      refine (eqIntS_c _ _ R _ _ _ hRm S6.rd S3.rd).mono ?_
      rintro e w7 ⟨rfl, hb⟩
      have hK : Below w6.heap.size w6 w7 := bu hb (by go_grown)
      replace S3 := S3.below hK
      replace S4 := S4.below hK
      replace S5 := S5.below hK
      replace S6 := S6.below hK
      replace hw := bt hw hK
      have zzw7 := hK.size
      clear hb hK
      go_wp2_with fail
      refine (toIntS_c A xs c _ hn (hr.below (by go_grown)).low).mono ?_
      rintro e w8 ⟨A8, c8, rfl, S8, hb⟩
      have hK : Below w7.heap.size w7 w8 := bu hb (by go_grown)
      replace S3 := S3.below hK
      replace S4 := S4.below hK
      replace S5 := S5.below hK
      replace S6 := S6.below hK
      replace hw := bt hw hK
      have zzw8 := hK.size
      clear hb hK
      go_wp2_with fail
      refine (eqIntS_c _ _ xs _ _ _ hm S4.rd S8.rd).mono ?_
      rintro e w9 ⟨rfl, hb⟩
      have hK : Below w8.heap.size w8 w9 := bu hb (by go_grown)
      replace S3 := S3.below hK
      replace S4 := S4.below hK
      replace S5 := S5.below hK
      replace S6 := S6.below hK
      replace hw := bt hw hK
      have zzw9 := hK.size
      clear hb hK
      clear S8
      go_wp2_with fail
      refine (toIntS_c A' ys c' _ hn' (hr'.below (by go_grown)).low).mono ?_
      rintro e w10 ⟨A10, c10, rfl, S10, hb⟩
      have hK : Below w9.heap.size w9 w10 := bu hb (by go_grown)
      replace S3 := S3.below hK
      replace S4 := S4.below hK
      replace S5 := S5.below hK
      replace S6 := S6.below hK
      replace hw := bt hw hK
      have zzw10 := hK.size
      clear hb hK
      go_wp2_with fail
      refine (eqIntS_c _ _ ys _ _ _ hm' S5.rd S10.rd).mono ?_
      rintro e w11 ⟨rfl, hb⟩
      have hK : Below w10.heap.size w10 w11 := bu hb (by go_grown)
      replace S3 := S3.below hK
      replace S4 := S4.below hK
      replace S5 := S5.below hK
      replace S6 := S6.below hK
      replace hw := bt hw hK
      have zzw11 := hK.size
      clear hb hK
      clear S10
      go_wp2_with fail
      refine (markIntS_c _ _ _ _ 1 _ _ hn (by omega) (by omega) S4).mono ?_
      rintro e w12 ⟨rfl, T4, hg⟩
      replace S3 := S3.apart hg (fun a a' e1 e2 => by have z1 := l3 a e1; have z2 := l4 a' e2; omega)
      replace S5 := S5.apart hg (fun a a' e1 e2 => by have z1 := l5 a e1; have z2 := l4 a' e2; omega)
      replace S6 := S6.apart hg (fun a a' e1 e2 => by have z1 := l6 a e1; have z2 := l4 a' e2; omega)
      replace hw := below_grown hw hg (fun g e1 => by obtain ⟨a, e2, e3⟩ := Option.map_eq_some_iff.1 e1; have z1 := l4 a e2; omega) hw.size
      have zzw12 := hg.size
      clear hg
      clear S4 T4
      go_wp2_with fail
      refine (markIntS_c _ _ _ _ (1 + (xs.length : Int)) _ _ hn' (by omega) (by omega) S5).mono ?_
      rintro e w13 ⟨rfl, T5, hg⟩
      replace S3 := S3.apart hg (fun a a' e1 e2 => by have z1 := l3 a e1; have z2 := l5 a' e2; omega)
      replace S6 := S6.apart hg (fun a a' e1 e2 => by have z1 := l6 a e1; have z2 := l5 a' e2; omega)
      replace hw := below_grown hw hg (fun g e1 => by obtain ⟨a, e2, e3⟩ := Option.map_eq_some_iff.1 e1; have z1 := l5 a e2; omega) hw.size
      have zzw13 := hg.size
      clear hg
      clear S5 T5
      have hk0 : decide (1 + (xs.length : Int) + (ys.length : Int) < 0) = false := decide_eq_false (by omega)
      go_wp2_with fail
      refine (eqIntS_c _ _ R _ _ _ hRm S6.rd S3.rd).mono ?_
      rintro e w14 ⟨rfl, hb⟩
      have hK : Below w13.heap.size w13 w14 := bu hb (by go_grown)
      replace S3 := S3.below hK
      replace S6 := S6.below hK
      replace hw := bt hw hK
      have zzw14 := hK.size
      clear hb hK
      go_wp2_with fail
      refine (markIntS_c _ _ _ _ 1 _ _ hR (by omega) (by omega) S6).mono ?_
      rintro e w15 ⟨rfl, T6, hg⟩
      replace S3 := S3.apart hg (fun a a' e1 e2 => by have z1 := l3 a e1; have z2 := l6 a' e2; omega)
      replace hw := below_grown hw hg (fun g e1 => by obtain ⟨a, e2, e3⟩ := Option.map_eq_some_iff.1 e1; have z1 := l6 a e2; omega) hw.size
      have zzw15 := hg.size
      clear hg
      clear S6
      go_wp2_with ((go_at_call 18; refine (heldIntS_c _ _ _ 1 _ _ hR (by omega) (by omega) T6).mono ?_; rintro e w' ⟨rfl, rfl⟩))
      refine (toIntS_c A xs c _ hn (hr.below (by go_grown)).low).mono ?_
      rintro e w16 ⟨A16, c16, rfl, S16, hb⟩
      have hK : Below w15.heap.size w15 w16 := bu hb (by go_grown)
      replace S3 := S3.below hK
      replace T6 := T6.below hK
      replace hw := bt hw hK
      have zzw16 := hK.size
      clear hb hK
      go_wp2_with fail
      refine (toIntS_c A' ys c' _ hn' (hr'.below (by go_grown)).low).mono ?_
      rintro e w17 ⟨A17, c17, rfl, S17, hb⟩
      have hK : Below w16.heap.size w16 w17 := bu hb (by go_grown)
      replace S3 := S3.below hK
      replace T6 := T6.below hK
      replace S16 := S16.below hK
      replace hw := bt hw hK
      have zzw17 := hK.size
      clear hb hK
      go_wp2_with fail
      refine (CI _ _ _ _ _ S16.rd S17.rd).mono ?_
      rintro e w18 ⟨A18, c18, rfl, S18, hb⟩
      have hK : Below w17.heap.size w17 w18 := bu hb (by go_grown)
      replace S3 := S3.below hK
      replace T6 := T6.below hK
      replace hw := bt hw hK
      have zzw18 := hK.size
      clear hb hK
      clear S16 S17
      go_wp2_with fail
      refine (eqIntS_c _ _ R _ _ _ hRm S18.rd S3.rd).mono ?_
      rintro e w19 ⟨rfl, hb⟩
      have hK : Below w18.heap.size w18 w19 := bu hb (by go_grown)
      replace T6 := T6.below hK
      replace hw := bt hw hK
      have zzw19 := hK.size
      clear hb hK
      go_wp2_with ((go_at_call 18; refine (heldIntS_c _ _ _ 1 _ _ hR (by omega) (by omega) T6).mono ?_; rintro e w' ⟨rfl, rfl⟩))
      go_ret
      exact ⟨rfl, hw⟩
    · have hn2 : (1048576 : Int) < ys.length := by omega
      go_enter Try.func6, Try.ntmps6
      go_wp2
      go_ret
      exact ⟨rfl, by go_grown⟩
  · have hn' : (1048576 : Int) < xs.length := by omega
    go_enter Try.func6, Try.ntmps6
    go_wp2
    go_ret
    exact ⟨rfl, by go_grown⟩

end Go.Proofs.Ytjchndookaahiaa
