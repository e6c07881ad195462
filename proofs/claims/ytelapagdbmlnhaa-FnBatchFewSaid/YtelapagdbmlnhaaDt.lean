/- Contracts: the draws of sizes, limits and batches. -/
import Derived.Test.YtelapagdbmlnhaaDs
import Derived.Test.YtelapagdbmlnhaaId
import Derived.Deep.RegionWith
namespace Go.Proofs.Ytelapagdbmlnhaa
set_option linter.unusedVariables false
open Go.RowKit

/-- Sizes, limits and batches drawn out of a code. -/
def DrewBF (w : World) (e : Ending) (w' : World) : Prop :=
  ∃ (L : List Int) (b m : Int) (A : Option Addr) (c : Nat) (O : List Int) (A' : Option Addr) (c' : Nat), e = .returned (.tuple #[.slice A L.length c, .int .i64 b, .int .i64 m, .slice A' O.length c']) ∧ L.length ≤ 21 ∧ (∀ x ∈ L, 0 ≤ x ∧ x ≤ 30) ∧ 0 ≤ b ∧ b ≤ 100 ∧ 0 ≤ m ∧ m ≤ 21 ∧ O.length ≤ 21 ∧
    IS w' w.heap.size A L.length c L ∧ IS w' w.heap.size A' O.length c' O ∧ Below w.heap.size w w'

theorem cutB_in (xs : List Int) (b m : Int) : ∀ n ∈ cutB xs b m, 1 ≤ n ∧ n ≤ 20 := by
  rcases hv : bvB xs b m with _ | _
  · simp [cutB, hv]
  · exact (cutB_sum hv).2.1

set_option maxHeartbeats 8000000 in
theorem drawBF_c (A : Option Addr) (bs : List Int) (c : Nat) (w0 : World) (hm : (bs.length : Int) ≤ 9223372036854775807) (hlc : bs.length ≤ c) (hcm : (c : Int) ≤ 9223372036854775807) (hr : Rd w0 w0.heap.size A (bs.map (Value.int .u8))) (hf : ∀ x ∈ bs, FitB x) :
    Calls Try.prog 18 #[.slice A bs.length c] w0 (DrewBF w0) := by
  go_enter Try.func18, Try.ntmps18
  go_wp2_with fail
  refine (l6Open_c A bs c _ hm hlc hcm hr hf).mono ?_
  rintro e w ⟨rfl, hR, hb0⟩
  have q1 := hb0.size
  have fin : ∀ (O : List Int) (L : List Int) (b m : Int) (A : Option Addr) (c : Nat) (A' : Option Addr) (c' : Nat) (M : Nat) (w' : World), L.length ≤ 21 → (∀ x ∈ L, 0 ≤ x ∧ x ≤ 30) → 0 ≤ b → b ≤ 100 → 0 ≤ m → m ≤ 21 → O.length ≤ 21 →
      IS w' w.heap.size A L.length c L → IS w' w.heap.size A' O.length c' O → Dr w w0.heap.size M w' → DrewBF w0 (.returned (.tuple #[.slice A L.length c, .int .i64 b, .int .i64 m, .slice A' O.length c'])) w' := fun O L b m A c A' c' M w' h1 h2 h3 h4 h5 h6 h7 S S' D =>
    ⟨L, b, m, A, c, O, A', c', rfl, h1, h2, h3, h4, h5, h6, h7, S.mono q1, S'.mono q1, below_grown hb0 D.2.1 (fun g e => by cases e; exact Nat.le_refl _) q1⟩
  have FIN : Hid _ := fin
  clear hb0 fin q1
  generalize w0.heap.size = g at hR FIN ⊢
  go_wp2_with fail
  refine (l91Sizes_c g 0 _ hR (by omega)).mono ?_
  rintro e w2 ⟨L, b, m, A2, c2, rfl, h1, h2, h3, h4, h5, h6, S, D⟩
  have q2 := D.size
  have lg := D.lt
  have hL : (L.length : Int) ≤ 9223372036854775807 := by omega
  have hO0 := cutB_len L b m
  have hO1 := cutB_in L b m
  obtain ⟨O, HO⟩ : ∃ O, Hid (cutB L b m = O) := ⟨_, rfl⟩
  rw [HO.out] at hO0 hO1
  have H1 : Hid _ := hO1
  have H2 : Hid _ := h2
  clear hO1 h2
  go_wp2_with fail
  refine (specCut_c _ L _ b m _ hL S.rd).mono ?_
  rw [HO.out]
  rintro e w3 ⟨A3, c3, rfl, S3, hb⟩
  replace D := D.below hb q2 (Nat.le_refl _)
  have lS := fun a e => (S.lt a e).2
  replace S := S.below hb
  clear hb HO
  go_wp2_with fail
  refine (pick_d (w := w) (g := g) (M := 0 + 40) (n := 6) (by repeat (first | exact D | refine Dr.alloc ?_ _ | refine Dr.drew ?_ | (refine Dr.set ?_ ?_ _; rotate_left 1; (focus (first | omega | (dsimp only; omega) | (simp; done) | (simp; omega)))))) (by omega) (by omega) (by omega)).mono ?_
  rintro e w4 ⟨k4, rfl, k4a, k4b, D2, hgk4⟩
  replace D := D2
  clear D2
  replace S := IS.pkb S (by go_grown) hgk4 (by omega)
  replace S3 := IS.pkb S3 (by go_grown) hgk4 (by omega)
  by_cases h0 : k4 = 0
  · subst h0
    by_cases hp : 0 < O.length
    · have hp' : (0 : Int) < O.length := by omega
      go_wp2_with fail
      refine (pick_d (w := w) (g := g) (M := 0 + 40 + 1) (n := O.length) (by repeat (first | exact D | refine Dr.alloc ?_ _ | refine Dr.drew ?_ | (refine Dr.set ?_ ?_ _; rotate_left 1; (focus (first | omega | (dsimp only; omega) | (simp; done) | (simp; omega)))))) (by omega) (by omega) (by omega)).mono ?_
      rintro e w5 ⟨k5, rfl, k5a, k5b, D2, hgk5⟩
      replace D := D2
      clear D2
      replace S := IS.pkb S (by go_grown) hgk5 (by omega)
      replace S3 := IS.pkb S3 (by go_grown) hgk5 (by omega)
      obtain ⟨j, rfl⟩ := Int.eq_ofNat_of_zero_le k5a
      have hj : j < O.length := by omega
      obtain ⟨g3, rfl, hB3, hl3, hcell⟩ := S3.at_ hp
      obtain ⟨z, hz⟩ : ∃ z, O[j]? = some z := ⟨_, List.getElem?_eq_getElem hj⟩
      have hcj := hcell j z hz
      have hfj := S3.frozen j
      obtain ⟨z0, z1⟩ := H1.out z (mem_at hz)
      clear hcell hz
      have j0 : (0 : Int) ≤ (j : Int) := by omega
      have j1 : (j : Int) < (O.length : Int) := by omega
      go_wp2_with fail
      go_region_with ((go_at_call 25; refine (pick_d (w := w) (g := g) (M := 0 + 40 + 1 + 1) (n := 3) (by repeat (first | exact D | refine Dr.drew ?_)) (by omega) (by omega) (by omega)).mono ?_; rintro e w6 ⟨k6, rfl, k6a, k6b, D6, hg6⟩; have SL6 := S.grown (w' := w6) (row := some g) ⟨hg6.os, hg6.tape, hg6.output, hg6.size, hg6.block⟩ (fun k e => by cases e; exact S.off_below lg); have S6 := S3.grown (w' := w6) (row := some g) ⟨hg6.os, hg6.tape, hg6.output, hg6.size, hg6.block⟩ (fun k e => by cases e; exact S3.off_below (by omega)); have hcj6 : w6.cell? ⟨g3, j, none⟩ = some (.int .i64 z) := dr_cell (wx := w5) (w := w) (g := g) ⟨hg6.os, hg6.tape, hg6.output, hg6.size, hg6.block⟩ hcj (by omega); have hfj6 := S6.frozen j; have e1 : IntKind.i64.wrap (z + k6) = z + k6 := IntWalk.i64_in _ (by omega); have e2 : IntKind.i64.wrap (z + k6 - 1) = z + k6 - 1 := IntWalk.i64_in _ (by omega)))
      all_goals
        go_wp2_with fail
        refine bodyPost_ret (v := .tuple #[.slice A2 L.length c2, .int .i64 b, .int .i64 m, .slice (some ⟨g3, 0, none⟩) O.length c3]) (by simp (maxDischargeDepth := 6) [results, Try.results18, go_sem, *]) rfl ?_
        have := FIN.out (O.set j (z + k6 - 1)) L b m A2 c2 (some ⟨g3, 0, none⟩) c3 (0 + 40 + 1 + 1 + 1) _ h1 H2.out h3 h4 h5 h6 (by rw [List.length_set]; omega) (SL6.far (p := ⟨g3, j, none⟩) (fun a e => by have := lS a e; show a.block ≠ g3; omega) _) (by rw [List.length_set]; exact (S6.set _).mono q2) (D6.set (by show w.heap.size ≤ g3; omega) _)
        rw [List.length_set] at this
        exact this
    · have hp' : ¬ (0 : Int) < O.length := by omega
      go_wp2_with fail
      refine bodyPost_ret (v := .tuple #[.slice A2 L.length c2, .int .i64 b, .int .i64 m, .slice A3 O.length c3]) (by simp (maxDischargeDepth := 6) [results, Try.results18, go_sem, *]) rfl ?_
      exact FIN.out O L b m A2 c2 A3 c3 _ _ h1 H2.out h3 h4 h5 h6 (by omega) S (S3.mono q2) D
  · have h0' : (k4 == 0) = false := by simpa using h0
    by_cases hk1 : k4 = 1
    · subst hk1
      have q4 := D.size
      have q5 := hgk4.size
      have V : IV (w4.alloc (.cells #[] 3)) w4.heap.size (.slice (some ⟨w4.heap.size, 0, none⟩) 0 0) 0 [] := (IS.full (xs := []) (Box.new w4 _ _) (by omega) (Nat.zero_le _)).iv
      have lS4 : ∀ a, A2 = some a → a.block < w4.heap.size := fun a e => (S.lt a e).2
      go_wp2_with fail
      go_loopw [10, 12] (fun o i wr => ∃ (k : Nat) (v : Value) (Q : List Int), k ≤ L.length ∧ i = .int .i64 k ∧ o = v ∧ IV wr w4.heap.size v k Q ∧ IS wr w.heap.size A2 L.length c2 L ∧ Dr w g (0 + 40 + 1) wr ∧ w4.heap.size ≤ wr.heap.size)
        (fun _ i _ => L.length - (intOf i).toNat)
      case atStart => exact ⟨0, _, [], Nat.zero_le _, rfl, rfl, V, S.alloc _, D.alloc _, by simp⟩
      case round =>
        clear V S D
        obtain ⟨k, v, Q, hk, rfl, rfl, V, S, D, q6⟩ := hrel
        by_cases hlt : k < L.length
        · go_wp2_with (at_builtin; refine wpList_append_IV 1 rfl _ _ rfl rfl (V.alloc _) rfl (by simp) (by omega) (by simp; omega) ?_; intro v6 w6 V6 hb6 hg6)
          have D6 := (D.alloc _).below hb6 q4 (by simp; omega)
          have S6 := (S.alloc _).below_of lS4 hb6
          have q7 := hb6.size
          simp only [World.size_alloc] at q7
          go_roundw
          case rel => exact ⟨k + 1, _, Q ++ [1], by omega, by go_num, rfl, V6, S6, D6, by omega⟩
          case measure => simp [intOf]; omega
        · obtain rfl : k = L.length := by omega
          have hlen := V.len
          obtain ⟨A5, c5, rfl, S5⟩ := V.open_
          go_wp2_with fail
          refine bodyPost_ret (v := .tuple #[.slice A2 L.length c2, .int .i64 b, .int .i64 m, .slice A5 L.length c5]) (by simp (maxDischargeDepth := 6) [results, Try.results18, go_sem, *]) rfl ?_
          have := FIN.out Q L b m A2 c2 A5 c5 _ _ h1 H2.out h3 h4 h5 h6 (by omega) S (by rw [hlen]; exact S5.mono q4) D
          rw [hlen] at this
          exact this
    · have hk1' : (k4 == 1) = false := by simpa using hk1
      by_cases hk2 : k4 = 2
      · subst hk2
        by_cases hp : 1 < O.length
        · have hp' : (1 : Int) < O.length := by omega
          obtain ⟨g3, rfl, hB3, hl3, hcell⟩ := S3.at_ (by omega)
          obtain ⟨z, hz⟩ : ∃ z, O[0]? = some z := ⟨_, List.getElem?_eq_getElem (by omega)⟩
          obtain ⟨y, hy⟩ : ∃ y, O[1]? = some y := ⟨_, List.getElem?_eq_getElem (by omega)⟩
          have hcz := hcell 0 z hz
          have hcy := hcell 1 y hy
          have hfz := S3.frozen 0
          have hfy := S3.frozen 1
          obtain ⟨z0, z1⟩ := H1.out z (mem_at hz)
          obtain ⟨y0, y1⟩ := H1.out y (mem_at hy)
          clear hcell hz hy
          by_cases hz1 : 1 < z
          · go_wp2_with fail
            refine bodyPost_ret (v := .tuple #[.slice A2 L.length c2, .int .i64 b, .int .i64 m, .slice (some ⟨g3, 0, none⟩) O.length c3]) (by simp (maxDischargeDepth := 6) [results, Try.results18, go_sem, *]) rfl ?_
            have := FIN.out ((O.set 0 (z - 1)).set 1 (y + 1)) L b m A2 c2 (some ⟨g3, 0, none⟩) c3 (0 + 40 + 1) _ h1 H2.out h3 h4 h5 h6 (by rw [List.length_set, List.length_set]; omega) ((S.far (p := ⟨g3, 0, none⟩) (fun a e => by have := lS a e; show a.block ≠ g3; omega) _).far (p := ⟨g3, 1, none⟩) (fun a e => by have := lS a e; show a.block ≠ g3; omega) _) (by rw [List.length_set, List.length_set]; exact ((S3.set _).set _).mono q2) ((D.set (by show w.heap.size ≤ g3; omega) _).set (by show w.heap.size ≤ g3; omega) _)
            rw [List.length_set, List.length_set] at this
            exact this
          · go_wp2_with fail
            refine bodyPost_ret (v := .tuple #[.slice A2 L.length c2, .int .i64 b, .int .i64 m, .slice (some ⟨g3, 0, none⟩) O.length c3]) (by simp (maxDischargeDepth := 6) [results, Try.results18, go_sem, *]) rfl ?_
            exact FIN.out O L b m A2 c2 (some ⟨g3, 0, none⟩) c3 _ _ h1 H2.out h3 h4 h5 h6 (by omega) S (S3.mono q2) D
        · have hp' : decide ((1 : Int) < O.length) = false := by simp; omega
          go_wp2_with fail
          refine bodyPost_ret (v := .tuple #[.slice A2 L.length c2, .int .i64 b, .int .i64 m, .slice A3 O.length c3]) (by simp (maxDischargeDepth := 6) [results, Try.results18, go_sem, *]) rfl ?_
          exact FIN.out O L b m A2 c2 A3 c3 _ _ h1 H2.out h3 h4 h5 h6 (by omega) S (S3.mono q2) D
      · have hk2' : (k4 == 2) = false := by simpa using hk2
        go_wp2_with fail
        refine bodyPost_ret (v := .tuple #[.slice A2 L.length c2, .int .i64 b, .int .i64 m, .slice A3 O.length c3]) (by simp (maxDischargeDepth := 6) [results, Try.results18, go_sem, *]) rfl ?_
        exact FIN.out O L b m A2 c2 A3 c3 _ _ h1 H2.out h3 h4 h5 h6 (by omega) S (S3.mono q2) D
end Go.Proofs.Ytelapagdbmlnhaa
