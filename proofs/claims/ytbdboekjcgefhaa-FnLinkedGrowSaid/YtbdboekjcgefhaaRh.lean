/- Contracts: the draws of sets of groups and a group. -/
import Derived.Test.YtbdboekjcgefhaaRg
namespace Go.Proofs.Ytbdboekjcgefhaa
set_option linter.unusedVariables false
open Go.RowKit

/-- Sets and a group drawn out of a code. -/
def DrewRN (w : World) (e : Ending) (w' : World) : Prop :=
  ∃ (hs : List Hnd) (A : Option Addr) (c : Nat) (n : Int), e = .returned (.tuple #[.slice A hs.length c, .int .i64 n]) ∧ hs.length ≤ 13 ∧ (∀ h ∈ hs, h.xs.length ≤ 6) ∧ -20 ≤ n ∧ n ≤ 20 ∧ RV w' w.heap.size (.slice A hs.length c) hs.length hs ∧ Below w.heap.size w w'

set_option maxHeartbeats 2000000 in
theorem drawRN_c (A : Option Addr) (bs : List Int) (c : Nat) (w0 : World) (hm : (bs.length : Int) ≤ 9223372036854775807) (hlc : bs.length ≤ c) (hcm : (c : Int) ≤ 9223372036854775807) (hr : Rd w0 w0.heap.size A (bs.map (Value.int .u8))) (hf : ∀ x ∈ bs, FitB x) :
    Calls Try.prog 20 #[.slice A bs.length c] w0 (DrewRN w0) := by
  go_enter Try.func20, Try.ntmps20
  go_wp2_with fail
  refine (l6Open_c A bs c _ hm hlc hcm hr hf).mono ?_
  rintro e w ⟨rfl, hR, hb0⟩
  clear hr hf
  have q1 := hb0.size
  have fin : ∀ (hs : List Hnd) (A : Option Addr) (c : Nat) (n : Int) (M : Nat) (w' : World), hs.length ≤ 13 → (∀ h ∈ hs, h.xs.length ≤ 6) → -20 ≤ n → n ≤ 20 → RV w' w.heap.size (.slice A hs.length c) hs.length hs → Dr w w0.heap.size M w' → DrewRN w0 (.returned (.tuple #[.slice A hs.length c, .int .i64 n])) w' :=
    fun hs A c n M w' h1 h2 h3 h4 S D => ⟨hs, A, c, n, rfl, h1, h2, h3, h4, S.mono q1, below_grown hb0 D.2.1 (fun g e => by cases e; exact Nat.le_refl _) q1⟩
  have FIN := hidI fin
  clear hb0 fin q1
  generalize w0.heap.size = g at hR FIN ⊢
  go_wp2_with fail
  refine (l91Sets_c g 0 _ hR (by omega)).mono ?_
  rintro e w2 ⟨hs, A2, c2, rfl, h1, h2, R, D⟩
  have lg := D.lt
  have H2 := hidI h2
  clear h2
  go_wp2_with fail
  refine (pick_d (w := w) (g := g) (M := 0 + 160) (n := 5) (by repeat (first | exact D | refine Dr.alloc ?_ _ | refine Dr.drew ?_ | (refine Dr.set ?_ ?_ _; rotate_left 1; (focus (first | omega | (dsimp only; omega) | (simp; done) | (simp; omega)))))) (by omega) (by omega) (by omega)).mono ?_
  rintro e w3 ⟨k3, rfl, k3a, k3b, D2, hgk3⟩
  replace D := D2
  clear D2
  replace R := RV.pkb R (by go_grown) hgk3 (by omega)
  go_wp2_with fail
  refine (pick_d (w := w) (g := g) (M := 0 + 160 + 1) (n := 20) (by repeat (first | exact D | refine Dr.alloc ?_ _ | refine Dr.drew ?_ | (refine Dr.set ?_ ?_ _; rotate_left 1; (focus (first | omega | (dsimp only; omega) | (simp; done) | (simp; omega)))))) (by omega) (by omega) (by omega)).mono ?_
  rintro e w4 ⟨k4, rfl, k4a, k4b, D2, hgk4⟩
  replace D := D2
  clear D2
  replace R := RV.pkb R (by go_grown) hgk4 (by omega)
  go_wp2_with fail
  refine (pick_d (w := w) (g := g) (M := 0 + 160 + 1 + 1) (n := 3) (by repeat (first | exact D | refine Dr.alloc ?_ _ | refine Dr.drew ?_ | (refine Dr.set ?_ ?_ _; rotate_left 1; (focus (first | omega | (dsimp only; omega) | (simp; done) | (simp; omega)))))) (by omega) (by omega) (by omega)).mono ?_
  rintro e w5 ⟨k5, rfl, k5a, k5b, D2, hgk5⟩
  replace D := D2
  clear D2
  replace R := RV.pkb R (by go_grown) hgk5 (by omega)
  rcases (show k4 / 19 = 0 ∨ k4 / 19 = 1 by omega) with h7 | h7
  · go_wp2_with fail
    go_ret2
    exact FIN.out hs A2 c2 k3 _ _ h1 H2.out (by omega) (by omega) R D
  · go_wp2_with fail
    go_ret2
    exact FIN.out hs A2 c2 (k3 + (k5 - 1) * 5) _ _ h1 H2.out (by omega) (by omega) R D

set_option maxHeartbeats 1000000 in
theorem drawRL_c (A : Option Addr) (bs : List Int) (c : Nat) (w : World) (hm : (bs.length : Int) ≤ 9223372036854775807) (hlc : bs.length ≤ c) (hcm : (c : Int) ≤ 9223372036854775807) (hr : Rd w w.heap.size A (bs.map (Value.int .u8))) (hf : ∀ x ∈ bs, FitB x) :
    Calls Try.prog 23 #[.slice A bs.length c] w (DrewRN w) := by
  go_enter Try.func23, Try.ntmps23
  go_wp2_with fail
  refine (drawRN_c A bs c _ hm hlc hcm hr hf).mono ?_
  rintro e w1 ⟨hs, A2, c2, n, rfl, h⟩
  have H := hidI h
  clear h hr hf
  go_wp2_with fail
  go_ret2
  exact ⟨hs, A2, c2, n, rfl, H.out⟩
end Go.Proofs.Ytbdboekjcgefhaa
