/- The laws FnExactGroupsNamed, FnExactGroupsLinked: their calls hand back true, whatever the arguments. -/
import Derived.Test.YtbdboekjcgefhaaRd
namespace Go.Proofs.Ytbdboekjcgefhaa
set_option linter.unusedVariables false
open Go.RowKit

theorem sumLen_rows (hs : List Hnd) : sumLen hs = ((rowsOf hs).map List.length).sum := by
  unfold sumLen rowsOf
  rw [List.map_map]
  rfl
theorem rows_len {hs ts : List Hnd} (h : rowsOf ts = rowsOf hs) : ts.length = hs.length := by
  have := congrArg List.length h
  simpa [rowsOf] using this
theorem rows_sum {hs ts : List Hnd} (h : rowsOf ts = rowsOf hs) : sumLen ts = sumLen hs := by rw [sumLen_rows, sumLen_rows, h]
theorem rows_each {hs : List Hnd} {n : Nat} (h : sumLen hs ≤ n) : ∀ k ∈ hs, k.xs.length ≤ n := fun k m => Nat.le_trans (sumLen_le m) h
theorem RI.hi {w : World} {g : Nat} {hs : List Hnd} (h : RI w g hs) : ∀ k ∈ hs, ∀ a, k.A = some a → a.block < w.heap.size := fun k m a e => ((h.row k m).lt a e).2

set_option maxHeartbeats 8000000 in
theorem xNam_walk (A : Option Addr) (hs : List Hnd) (c : Nat) (g : Int) (w : World) (hm : (hs.length : Int) ≤ 9223372036854775807) (hl : ∀ h ∈ hs, (h.xs.length : Int) ≤ 9223372036854775807) (hr : RR w A hs) :
    Calls Try.prog 3 #[.slice A hs.length c, .int .i64 g] w fun e w' => e = .returned (.bool true) ∧ Below w.heap.size w w' := by
  have CZ := szIntSS_c A hs c 1048576 w (Nat.le_refl _) hm (hidI hl) (hidI hr)
  have HR := hidI hr
  clear hr hl
  by_cases ht : hs.length + sumLen hs ≤ 1048576
  · rw [szV_yes ht] at CZ
    have HZ := hidI CZ
    have hn : hs.length ≤ 1048576 := by omega
    have hsl : sumLen hs ≤ 1048576 := by omega
    have hR0 := nam_le (rowsOf hs) g
    have CT := hidI (fun (W : World) (hb : Below w.heap.size w W) => toIntSS_c A hs c W hn (hidI (rows_each hsl)) (hidI (HR.out.below hb)))
    have CS : Hid (∀ (g1 : Nat) (ts : List Hnd) (W : World), rowsOf ts = rowsOf hs → RI W g1 ts → Calls Try.prog 12 #[.slice (some ⟨g1, 0, none⟩) ts.length ts.length, .int .i64 g] W (NewI (namL (rowsOf hs) g) W)) := fun g1 ts W he X => by
      have := specNam_c (some ⟨g1, 0, none⟩) ts ts.length g W (by rw [rows_len he]; exact hn) (hidI (rows_each (by rw [rows_sum he]; exact hsl))) (hidI X.rr)
      rwa [he] at this
    have CI : Hid (∀ (g1 : Nat) (ts : List Hnd) (W : World), rowsOf ts = rowsOf hs → RI W g1 ts → Calls Try.prog 14 #[.slice (some ⟨g1, 0, none⟩) ts.length ts.length, .int .i64 g] W (NewI (namL (rowsOf hs) g) W)) := fun g1 ts W he X => by
      have := implNam_c (some ⟨g1, 0, none⟩) ts ts.length g W (by rw [rows_len he]; exact hn) (hidI (rows_each (by rw [rows_sum he]; exact hsl))) (hidI X.rr)
      rwa [he] at this
    have CE : Hid (∀ (g1 g2 : Nat) (ts us : List Hnd) (W : World), rowsOf ts = rowsOf hs → rowsOf us = rowsOf hs → RI W g1 ts → RI W g2 us → Calls Try.prog 16 #[.slice (some ⟨g1, 0, none⟩) ts.length ts.length, .slice (some ⟨g2, 0, none⟩) us.length us.length] W fun e w' => e = .returned (.bool true) ∧ Below W.heap.size W w') := fun g1 g2 ts us W he he' X Y =>
      eqIntSS_c _ _ ts us _ _ W (by rw [rows_len he]; exact hn) (hidI (rows_each (by rw [rows_sum he]; exact hsl))) (hidI (by rw [he, he'])) (hidI X.rr) (hidI Y.rr)
    generalize namL (rowsOf hs) g = R at *
    unfold MadeR at CT
    unfold NewI at CS CI
    have hRl : R.length ≤ 1048576 := by omega
    have hRm : (R.length : Int) ≤ 9223372036854775807 := by omega
    have hw := Below.refl w.heap.size w
    have hz0 : decide ((1048576 : Int) - ((hs.length + sumLen hs : Nat) : Int) < 0) = false := decide_eq_false (by omega)
    clear CZ hR0
    go_enter Try.func3, Try.ntmps3
    go_wp2_with fail
    refine Calls.mono HZ.out ?_
    rintro e w' ⟨rfl, rfl⟩
    clear HZ
    have h0w := hidI hw
    go_wp2_with fail
    refine Calls.mono (CT.out _ hw) ?_
    rintro e w1 ⟨g1, hs1, rfl, he1, X1, hg1, hb⟩
    have hw1 := bt hw hb
    have E1 := hidI he1
    have HX1 := hidI X1
    have HW1 := hidI hw1
    clear hb he1 X1 hw hw1
    go_wp2_with fail
    refine Calls.mono (CS.out g1 hs1 w1 E1.out HX1.out) ?_
    rintro e w2 ⟨A2, c2, rfl, S2, hb⟩
    have HW2 := hidI (bt HW1.out hb)
    have l2 := S2.lt
    have L2 := hidI (fun a e => (S2.lt a e).2)
    have q2 := HW2.out.size
    have HS2 := hidI S2
    clear hb S2 HX1 HW1 l2
    go_wp2_with fail
    refine Calls.mono (CT.out _ HW2.out) ?_
    rintro e w3 ⟨g3, hs3, rfl, he3, X3, hg3, hb⟩
    have E3 := hidI he3
    have HX3 := hidI X3
    have HW3 := hidI (bt HW2.out hb)
    have HS2b := hidI (HS2.out.below hb)
    have q3 := hb.size
    have H3 := hidI X3.hi
    clear hb he3 X3 HS2 HW2 E1
    go_wp2_with fail
    refine Calls.mono (CI.out g3 hs3 w3 E3.out HX3.out) ?_
    rintro e w4 ⟨A4, c4, rfl, S4, hb⟩
    have HS4 := hidI S4
    have L4 := hidI (fun a e => (S4.lt a e).1)
    have HX4 := hidI (HX3.out.below hb)
    have HW4 := hidI (bt HW3.out hb)
    have HS2c := hidI (HS2b.out.below hb)
    have q4 := hb.size
    clear hb S4 HX3 HW3 HS2b
    go_wp2_with fail
    refine (eqIntS_c _ _ R _ _ _ hRm HS4.out.rd HS2c.out.rd).mono ?_
    rintro e w5 ⟨rfl, hb⟩
    have HS5 := hidI (HS4.out.below hb)
    have HX5 := hidI (HX4.out.below hb)
    have HW5 := hidI (bt HW4.out hb)
    have HS2d := hidI (HS2c.out.below hb)
    have q5 := hb.size
    clear hb HS4 HX4 HW4 HS2c
    go_wp2_with fail
    refine Calls.mono (CT.out _ HW5.out) ?_
    rintro e w6 ⟨g6, hs6, rfl, he6, X6, hg6, hb⟩
    have E6 := hidI he6
    have HX6 := hidI X6
    have HY6 := hidI (HX5.out.below hb)
    have HW6 := hidI (bt HW5.out hb)
    have HS2e := hidI (HS2d.out.below hb)
    have HS6 := hidI (HS5.out.below hb)
    have q6 := hb.size
    clear hb he6 X6 HS5 HX5 HW5 HS2d
    go_wp2_with fail
    refine Calls.mono (CE.out g3 g6 hs3 hs6 w6 E3.out E6.out HY6.out HX6.out) ?_
    rintro e w7 ⟨rfl, hb⟩
    have HY7 := hidI (HY6.out.below hb)
    have HW7 := hidI (bt HW6.out hb)
    have HS2f := hidI (HS2e.out.below hb)
    have HS7 := hidI (HS6.out.below hb)
    have q7 := hb.size
    have CM := markIntSS_c g3 w3.heap.size hs3 hs3.length 1 w7 (by rw [rows_len E3.out]; exact hn) (by rw [rows_sum E3.out]; exact hsl) (by omega) (by omega) H3 HY7
    rw [rows_sum E3.out] at CM
    have HCM := hidI CM
    clear hb HY6 HX6 HW6 HS2e HS6 E6 CE CS CM
    go_wp2_with fail
    refine Calls.mono HCM.out ?_
    rintro e w8 ⟨rfl, M8⟩
    have HW8 := hidI (HW7.out.trans ((M8.below (by have := HY7.out.lt; omega)).mono (by omega)))
    have HS2g := hidI (HS2f.out.mid M8 (fun a e => .inl (by have := L2.out a e; omega)))
    have HS8 := hidI (HS7.out.mid M8 (fun a e => .inr (L4.out a e)))
    have q8 := M8.size
    clear M8 HY7 HW7 HS2f HS7 HCM H3
    have hk0 : decide ((1 : Int) + (sumLen hs : Int) < 0) = false := decide_eq_false (by omega)
    go_wp2_with fail
    refine (eqIntS_c _ _ R _ _ _ hRm HS8.out.rd HS2g.out.rd).mono ?_
    rintro e w9 ⟨rfl, hb⟩
    have HS9 := hidI (HS8.out.below hb)
    have HW9 := hidI (bt HW8.out hb)
    have HS2h := hidI (HS2g.out.below hb)
    have q9 := hb.size
    clear hb HS8 HW8 HS2g
    go_wp2_with fail
    refine (markIntS_c _ _ _ _ 1 _ _ hRl (by omega) (by omega) HS9.out).mono ?_
    rintro e w10 ⟨rfl, T10, hg⟩
    have HT10 := hidI T10
    have HS2i := hidI (HS2h.out.apart hg (fun a a' e1 e2 => by have z1 := L2.out a e1; have z2 := L4.out a' e2; omega))
    have HW10 := hidI (below_grown HW9.out hg (fun g' e1 => by obtain ⟨a, e2, e3⟩ := Option.map_eq_some_iff.1 e1; have e3 : a.block = g' := e3; have z1 := L4.out a e2; omega) HW9.out.size)
    have q10 := hg.size
    clear hg T10 HS9 HW9 HS2h
    go_wp2_with fail
    refine (heldIntS_c _ _ _ 1 _ _ hRl (by omega) (by omega) HT10.out).mono ?_
    rintro e w' ⟨rfl, rfl⟩
    go_wp2_with fail
    refine Calls.mono (CT.out _ HW10.out) ?_
    rintro e w11 ⟨g11, hs11, rfl, he11, X11, hg11, hb⟩
    have E11 := hidI he11
    have HX11 := hidI X11
    have HW11 := hidI (bt HW10.out hb)
    have HS2j := hidI (HS2i.out.below hb)
    have HT11 := hidI (HT10.out.below hb)
    clear hb he11 X11 HT10 HW10 HS2i
    go_wp2_with fail
    refine Calls.mono (CI.out g11 hs11 w11 E11.out HX11.out) ?_
    rintro e w12 ⟨A12, c12, rfl, S12, hb⟩
    have HS12 := hidI S12
    have HW12 := hidI (bt HW11.out hb)
    have HS2k := hidI (HS2j.out.below hb)
    have HT12 := hidI (HT11.out.below hb)
    clear hb S12 HX11 HW11 HS2j HT11
    go_wp2_with fail
    refine (eqIntS_c _ _ R _ _ _ hRm HS12.out.rd HS2k.out.rd).mono ?_
    rintro e w13 ⟨rfl, hb⟩
    have HW13 := hidI (bt HW12.out hb)
    have HT13 := hidI (HT12.out.below hb)
    clear hb HS12 HW12 HS2k HT12
    go_wp2_with fail
    refine (heldIntS_c _ _ _ 1 _ _ hRl (by omega) (by omega) HT13.out).mono ?_
    rintro e w' ⟨rfl, rfl⟩
    go_wp2_with fail
    go_ret
    exact ⟨rfl, HW13.out⟩
  · rw [szV_no (by omega)] at CZ
    have HZ := hidI CZ
    clear CZ
    go_enter Try.func3, Try.ntmps3
    go_wp2_with fail
    refine Calls.mono HZ.out ?_
    rintro e w' ⟨rfl, rfl⟩
    go_wp2_with fail
    go_ret
    exact ⟨rfl, by go_grown⟩

set_option maxHeartbeats 8000000 in
theorem xLink_walk (A : Option Addr) (hs : List Hnd) (c : Nat) (g : Int) (w : World) (hm : (hs.length : Int) ≤ 9223372036854775807) (hl : ∀ h ∈ hs, (h.xs.length : Int) ≤ 9223372036854775807) (hr : RR w A hs) :
    Calls Try.prog 7 #[.slice A hs.length c, .int .i64 g] w fun e w' => e = .returned (.bool true) ∧ Below w.heap.size w w' := by
  have CZ := szIntSS_c A hs c 1048576 w (Nat.le_refl _) hm (hidI hl) (hidI hr)
  have HR := hidI hr
  clear hr hl
  by_cases ht : hs.length + sumLen hs ≤ 1048576
  · rw [szV_yes ht] at CZ
    have HZ := hidI CZ
    have hn : hs.length ≤ 1048576 := by omega
    have hsl : sumLen hs ≤ 1048576 := by omega
    have hR0 := link_le (rowsOf hs) g
    have CT := hidI (fun (W : World) (hb : Below w.heap.size w W) => toIntSS_c A hs c W hn (hidI (rows_each hsl)) (hidI (HR.out.below hb)))
    have CS : Hid (∀ (g1 : Nat) (ts : List Hnd) (W : World), rowsOf ts = rowsOf hs → RI W g1 ts → Calls Try.prog 25 #[.slice (some ⟨g1, 0, none⟩) ts.length ts.length, .int .i64 g] W (NewI (linkB (rowsOf hs) g) W)) := fun g1 ts W he X => by
      have := specLink_c (some ⟨g1, 0, none⟩) ts ts.length g W (by rw [rows_len he]; exact hn) (hidI (rows_each (by rw [rows_sum he]; exact hsl))) (hidI X.rr)
      rwa [he] at this
    have CI : Hid (∀ (g1 : Nat) (ts : List Hnd) (W : World), rowsOf ts = rowsOf hs → RI W g1 ts → Calls Try.prog 24 #[.slice (some ⟨g1, 0, none⟩) ts.length ts.length, .int .i64 g] W (NewI (linkB (rowsOf hs) g) W)) := fun g1 ts W he X => by
      have := implLink_c (some ⟨g1, 0, none⟩) ts ts.length g W (by rw [rows_len he]; exact hn) (hidI (rows_each (by rw [rows_sum he]; exact hsl))) (hidI X.rr)
      rwa [he] at this
    have CE : Hid (∀ (g1 g2 : Nat) (ts us : List Hnd) (W : World), rowsOf ts = rowsOf hs → rowsOf us = rowsOf hs → RI W g1 ts → RI W g2 us → Calls Try.prog 16 #[.slice (some ⟨g1, 0, none⟩) ts.length ts.length, .slice (some ⟨g2, 0, none⟩) us.length us.length] W fun e w' => e = .returned (.bool true) ∧ Below W.heap.size W w') := fun g1 g2 ts us W he he' X Y =>
      eqIntSS_c _ _ ts us _ _ W (by rw [rows_len he]; exact hn) (hidI (rows_each (by rw [rows_sum he]; exact hsl))) (hidI (by rw [he, he'])) (hidI X.rr) (hidI Y.rr)
    generalize linkB (rowsOf hs) g = R at *
    unfold MadeR at CT
    unfold NewI at CS CI
    have hRl : R.length ≤ 1048576 := by omega
    have hRm : (R.length : Int) ≤ 9223372036854775807 := by omega
    have hw := Below.refl w.heap.size w
    have hz0 : decide ((1048576 : Int) - ((hs.length + sumLen hs : Nat) : Int) < 0) = false := decide_eq_false (by omega)
    clear CZ hR0
    go_enter Try.func7, Try.ntmps7
    go_wp2_with fail
    refine Calls.mono HZ.out ?_
    rintro e w' ⟨rfl, rfl⟩
    clear HZ
    have h0w := hidI hw
    go_wp2_with fail
    refine Calls.mono (CT.out _ hw) ?_
    rintro e w1 ⟨g1, hs1, rfl, he1, X1, hg1, hb⟩
    have hw1 := bt hw hb
    have E1 := hidI he1
    have HX1 := hidI X1
    have HW1 := hidI hw1
    clear hb he1 X1 hw hw1
    go_wp2_with fail
    refine Calls.mono (CS.out g1 hs1 w1 E1.out HX1.out) ?_
    rintro e w2 ⟨A2, c2, rfl, S2, hb⟩
    have HW2 := hidI (bt HW1.out hb)
    have l2 := S2.lt
    have L2 := hidI (fun a e => (S2.lt a e).2)
    have q2 := HW2.out.size
    have HS2 := hidI S2
    clear hb S2 HX1 HW1 l2
    go_wp2_with fail
    refine Calls.mono (CT.out _ HW2.out) ?_
    rintro e w3 ⟨g3, hs3, rfl, he3, X3, hg3, hb⟩
    have E3 := hidI he3
    have HX3 := hidI X3
    have HW3 := hidI (bt HW2.out hb)
    have HS2b := hidI (HS2.out.below hb)
    have q3 := hb.size
    have H3 := hidI X3.hi
    clear hb he3 X3 HS2 HW2 E1
    go_wp2_with fail
    refine Calls.mono (CI.out g3 hs3 w3 E3.out HX3.out) ?_
    rintro e w4 ⟨A4, c4, rfl, S4, hb⟩
    have HS4 := hidI S4
    have L4 := hidI (fun a e => (S4.lt a e).1)
    have HX4 := hidI (HX3.out.below hb)
    have HW4 := hidI (bt HW3.out hb)
    have HS2c := hidI (HS2b.out.below hb)
    have q4 := hb.size
    clear hb S4 HX3 HW3 HS2b
    go_wp2_with fail
    refine (eqIntS_c _ _ R _ _ _ hRm HS4.out.rd HS2c.out.rd).mono ?_
    rintro e w5 ⟨rfl, hb⟩
    have HS5 := hidI (HS4.out.below hb)
    have HX5 := hidI (HX4.out.below hb)
    have HW5 := hidI (bt HW4.out hb)
    have HS2d := hidI (HS2c.out.below hb)
    have q5 := hb.size
    clear hb HS4 HX4 HW4 HS2c
    go_wp2_with fail
    refine Calls.mono (CT.out _ HW5.out) ?_
    rintro e w6 ⟨g6, hs6, rfl, he6, X6, hg6, hb⟩
    have E6 := hidI he6
    have HX6 := hidI X6
    have HY6 := hidI (HX5.out.below hb)
    have HW6 := hidI (bt HW5.out hb)
    have HS2e := hidI (HS2d.out.below hb)
    have HS6 := hidI (HS5.out.below hb)
    have q6 := hb.size
    clear hb he6 X6 HS5 HX5 HW5 HS2d
    go_wp2_with fail
    refine Calls.mono (CE.out g3 g6 hs3 hs6 w6 E3.out E6.out HY6.out HX6.out) ?_
    rintro e w7 ⟨rfl, hb⟩
    have HY7 := hidI (HY6.out.below hb)
    have HW7 := hidI (bt HW6.out hb)
    have HS2f := hidI (HS2e.out.below hb)
    have HS7 := hidI (HS6.out.below hb)
    have q7 := hb.size
    have CM := markIntSS_c g3 w3.heap.size hs3 hs3.length 1 w7 (by rw [rows_len E3.out]; exact hn) (by rw [rows_sum E3.out]; exact hsl) (by omega) (by omega) H3 HY7
    rw [rows_sum E3.out] at CM
    have HCM := hidI CM
    clear hb HY6 HX6 HW6 HS2e HS6 E6 CE CS CM
    go_wp2_with fail
    refine Calls.mono HCM.out ?_
    rintro e w8 ⟨rfl, M8⟩
    have HW8 := hidI (HW7.out.trans ((M8.below (by have := HY7.out.lt; omega)).mono (by omega)))
    have HS2g := hidI (HS2f.out.mid M8 (fun a e => .inl (by have := L2.out a e; omega)))
    have HS8 := hidI (HS7.out.mid M8 (fun a e => .inr (L4.out a e)))
    have q8 := M8.size
    clear M8 HY7 HW7 HS2f HS7 HCM H3
    have hk0 : decide ((1 : Int) + (sumLen hs : Int) < 0) = false := decide_eq_false (by omega)
    go_wp2_with fail
    refine (eqIntS_c _ _ R _ _ _ hRm HS8.out.rd HS2g.out.rd).mono ?_
    rintro e w9 ⟨rfl, hb⟩
    have HS9 := hidI (HS8.out.below hb)
    have HW9 := hidI (bt HW8.out hb)
    have HS2h := hidI (HS2g.out.below hb)
    have q9 := hb.size
    clear hb HS8 HW8 HS2g
    go_wp2_with fail
    refine (markIntS_c _ _ _ _ 1 _ _ hRl (by omega) (by omega) HS9.out).mono ?_
    rintro e w10 ⟨rfl, T10, hg⟩
    have HT10 := hidI T10
    have HS2i := hidI (HS2h.out.apart hg (fun a a' e1 e2 => by have z1 := L2.out a e1; have z2 := L4.out a' e2; omega))
    have HW10 := hidI (below_grown HW9.out hg (fun g' e1 => by obtain ⟨a, e2, e3⟩ := Option.map_eq_some_iff.1 e1; have e3 : a.block = g' := e3; have z1 := L4.out a e2; omega) HW9.out.size)
    have q10 := hg.size
    clear hg T10 HS9 HW9 HS2h
    go_wp2_with fail
    refine (heldIntS_c _ _ _ 1 _ _ hRl (by omega) (by omega) HT10.out).mono ?_
    rintro e w' ⟨rfl, rfl⟩
    go_wp2_with fail
    refine Calls.mono (CT.out _ HW10.out) ?_
    rintro e w11 ⟨g11, hs11, rfl, he11, X11, hg11, hb⟩
    have E11 := hidI he11
    have HX11 := hidI X11
    have HW11 := hidI (bt HW10.out hb)
    have HS2j := hidI (HS2i.out.below hb)
    have HT11 := hidI (HT10.out.below hb)
    clear hb he11 X11 HT10 HW10 HS2i
    go_wp2_with fail
    refine Calls.mono (CI.out g11 hs11 w11 E11.out HX11.out) ?_
    rintro e w12 ⟨A12, c12, rfl, S12, hb⟩
    have HS12 := hidI S12
    have HW12 := hidI (bt HW11.out hb)
    have HS2k := hidI (HS2j.out.below hb)
    have HT12 := hidI (HT11.out.below hb)
    clear hb S12 HX11 HW11 HS2j HT11
    go_wp2_with fail
    refine (eqIntS_c _ _ R _ _ _ hRm HS12.out.rd HS2k.out.rd).mono ?_
    rintro e w13 ⟨rfl, hb⟩
    have HW13 := hidI (bt HW12.out hb)
    have HT13 := hidI (HT12.out.below hb)
    clear hb HS12 HW12 HS2k HT12
    go_wp2_with fail
    refine (heldIntS_c _ _ _ 1 _ _ hRl (by omega) (by omega) HT13.out).mono ?_
    rintro e w' ⟨rfl, rfl⟩
    go_wp2_with fail
    go_ret
    exact ⟨rfl, HW13.out⟩
  · rw [szV_no (by omega)] at CZ
    have HZ := hidI CZ
    clear CZ
    go_enter Try.func7, Try.ntmps7
    go_wp2_with fail
    refine Calls.mono HZ.out ?_
    rintro e w' ⟨rfl, rfl⟩
    go_wp2_with fail
    go_ret
    exact ⟨rfl, by go_grown⟩

end Go.Proofs.Ytbdboekjcgefhaa
