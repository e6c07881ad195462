/- Contracts: the draw of sets of groups. -/
import Derived.Test.YtbdboekjcgefhaaRf
namespace Go.Proofs.Ytbdboekjcgefhaa
set_option linter.unusedVariables false
open Go.RowKit

set_option maxHeartbeats 8000000 in
theorem l91Sets_c (g m : Nat) (w : World) (hr : Rdr w g m) (hm : m ≤ 800000) : Calls Try.prog 35 #[.pointer (some ⟨g, 0, none⟩)] w (DrewRs w g (m + 160)) := by
  have D0 := Dr.start hr
  have lg := D0.lt
  have R := RV.start w
  have D := D0.alloc (.cells #[] 24)
  clear D0 hr
  go_enter Try.func35, Try.ntmps35
  go_wp2_with fail
  refine (pick_d (w := w) (g := g) (M := m) (n := 6) (by repeat (first | exact D | refine Dr.alloc ?_ _ | refine Dr.drew ?_ | (refine Dr.set ?_ ?_ _; rotate_left 1; (focus (first | omega | (dsimp only; omega) | (simp; done) | (simp; omega)))))) (by omega) (by omega) (by omega)).mono ?_
  rintro e w1 ⟨k1, rfl, k1a, k1b, D2, hgk1⟩
  replace D := D2
  clear D2
  replace R := RV.pkb R (by go_grown) hgk1 (by omega)
  go_wp2_with fail
  refine (pick_d (w := w) (g := g) (M := m + 1) (n := 16) (by repeat (first | exact D | refine Dr.alloc ?_ _ | refine Dr.drew ?_ | (refine Dr.set ?_ ?_ _; rotate_left 1; (focus (first | omega | (dsimp only; omega) | (simp; done) | (simp; omega)))))) (by omega) (by omega) (by omega)).mono ?_
  rintro e w2 ⟨k2, rfl, k2a, k2b, D2, hgk2⟩
  replace D := D2
  clear D2
  replace R := RV.pkb R (by go_grown) hgk2 (by omega)
  by_cases h2 : k2 = 0
  · subst h2
    go_wp2_with fail
    refine (pick_d (w := w) (g := g) (M := m + 1 + 1) (n := 3) (by repeat (first | exact D | refine Dr.alloc ?_ _ | refine Dr.drew ?_ | (refine Dr.set ?_ ?_ _; rotate_left 1; (focus (first | omega | (dsimp only; omega) | (simp; done) | (simp; omega)))))) (by omega) (by omega) (by omega)).mono ?_
    rintro e w9 ⟨k9, rfl, k9a, k9b, D2, hgk9⟩
    replace D := D2
    clear D2
    replace R := RV.pkb R (by go_grown) hgk9 (by omega)
    obtain ⟨N9, rfl⟩ := Int.eq_ofNat_of_zero_le k9a
    obtain ⟨N, hN⟩ : ∃ N, N = 11 + N9 := ⟨_, rfl⟩
    have hN13 : N ≤ 13 := by omega
    have eN : (11 : Int) + (N9 : Int) = (N : Int) := by omega
    clear hN
    go_wp2_with fail
    go_loopw [3, 5] (fun o i wr => ∃ (k : Nat) (v : Value) (hs : List Hnd), k ≤ N ∧ i = .int .i64 k ∧ o = v ∧ RV wr w.heap.size v k hs ∧ Hid (∀ h ∈ hs, h.xs.length ≤ 6) ∧ Dr w g (m + 3 + 12 * k) wr)
      (fun _ i _ => N - (intOf i).toNat)
    case atStart => exact ⟨0, _, [], Nat.zero_le _, rfl, rfl, R, by simp [Hid], D.more (by omega)⟩
    case round =>
      clear R D
      obtain ⟨k, v, hs, hk, rfl, rfl, R, HB, D⟩ := hrel
      by_cases hlt : k < N
      · go_wp2_with fail
        refine (pick_d (w := w) (g := g) (M := m + 3 + 12 * k) (n := 5) (by repeat (first | exact D | refine Dr.alloc ?_ _ | refine Dr.drew ?_ | (refine Dr.set ?_ ?_ _; rotate_left 1; (focus (first | omega | (dsimp only; omega) | (simp; done) | (simp; omega)))))) (by omega) (by omega) (by omega)).mono ?_
        rintro e w3 ⟨k3, rfl, k3a, k3b, D2, hgk3⟩
        replace D := D2
        clear D2
        replace R := RV.pkb R (by go_grown) hgk3 (by omega)
        have q3 := D.size
        have RL := hidI R.bound
        have S : IS (w3.alloc (.cells #[.int .i64 k3] 3)) w.heap.size (some ⟨w3.heap.size, 0, none⟩) 1 1 [k3] := IS.full (xs := [k3]) (Box.new w3 _ _) q3 (by simp [maxLen])
        replace D := D.alloc (.cells #[.int .i64 k3] 3)
        replace R := R.alloc (.cells #[.int .i64 k3] 3)
        by_cases h3 : k3 < 4
        · have h3d : decide (k3 < 4) = true := decide_eq_true h3
          go_wp2_with fail
          refine (pick_d (w := w) (g := g) (M := m + 3 + 12 * k + 1) (n := 2) (by repeat (first | exact D | refine Dr.alloc ?_ _ | refine Dr.drew ?_ | (refine Dr.set ?_ ?_ _; rotate_left 1; (focus (first | omega | (dsimp only; omega) | (simp; done) | (simp; omega)))))) (by omega) (by omega) (by omega)).mono ?_
          rintro e w4 ⟨k4, rfl, k4a, k4b, D2, hgk4⟩
          replace D := D2
          clear D2
          replace S := IS.pkb S (by go_grown) hgk4 (by omega)
          replace R := RV.pkb R (by go_grown) hgk4 (by omega)
          by_cases h4 : k4 = 0
          · subst h4
            go_wp2_with fail
            refine (pick_d (w := w) (g := g) (M := m + 3 + 12 * k + 1 + 1) (n := (4 - k3)) (by repeat (first | exact D | refine Dr.alloc ?_ _ | refine Dr.drew ?_ | (refine Dr.set ?_ ?_ _; rotate_left 1; (focus (first | omega | (dsimp only; omega) | (simp; done) | (simp; omega)))))) (by omega) (by omega) (by omega)).mono ?_
            rintro e w5 ⟨k5, rfl, k5a, k5b, D2, hgk5⟩
            replace D := D2
            clear D2
            replace S := IS.pkb S (by go_grown) hgk5 (by omega)
            replace R := RV.pkb R (by go_grown) hgk5 (by omega)
            have q5 := D.size
            have S1 := S.iv
            go_wp2_with (at_builtin; refine wpList_append_IV (k3 + 1 + k5) rfl _ _ rfl rfl (S1.alloc _) rfl (by simp) (by omega) (by simp; omega) ?_; intro v8 w8 V8 hb8 hg8)
            have D8 := (D.alloc _).below hb8 (Nat.le_refl _) (by simp; omega)
            replace R := (R.alloc (.cells #[.int .i64 (k3 + 1 + k5)] 3)).past RL.out hg8 (fun j e => by
              have e1 : some w3.heap.size = some j := e
              injection e1 with e1
              omega)
            obtain ⟨A8, c8, rfl, S⟩ := V8.open_
            replace D := D8
            clear hb8 hg8 V8 S1 D8 q5
            go_wp2_with fail
            refine (pick_d (w := w) (g := g) (M := m + 3 + 12 * k + 1 + 1 + 1) (n := 20) (by repeat (first | exact D | refine Dr.alloc ?_ _ | refine Dr.drew ?_ | (refine Dr.set ?_ ?_ _; rotate_left 1; (focus (first | omega | (dsimp only; omega) | (simp; done) | (simp; omega)))))) (by omega) (by omega) (by omega)).mono ?_
            rintro e w6 ⟨k6, rfl, k6a, k6b, D2, hgk6⟩
            replace D := D2
            clear D2
            replace S := IS.pkb S (by go_grown) hgk6 (by omega)
            replace R := RV.pkb R (by go_grown) hgk6 (by omega)
            by_cases h6 : k6 = 0
            · subst h6
              clear S
              go_wp2_with fail
              have q6 := D.size
              refine (l91Set_c g (m + 3 + 12 * k + 1 + 1 + 1 + 1) _ D.1 (by omega)).mono ?_
              rintro e w7 ⟨L7, A7, c7, rfl, h71, h72, S7, D7⟩
              have R7 := R.grown D7.2.1 (fun j e => by cases e; exact lg)
              have D8 := D.trans D7
              have S8 := S7.mono (B' := w.heap.size) q6
              have q7 := D8.size
              clear R D h72 S7 D7
              go_wp2_with (at_builtin; refine wpList_append_RV A7 L7.length c7 L7 rfl _ _ rfl rfl (R7.alloc _) (S8.alloc _) rfl (by simp) (by omega) (by simp; omega) ?_; intro v9 w9 V9 hb9 hg9)
              have D9 := (D8.alloc _).below hb9 (Nat.le_refl _) (by simp; omega)
              go_roundw
              case rel => exact ⟨k + 1, _, _, by omega, by go_num, rfl, V9, rs_snoc HB.out h71, D9.more (by omega)⟩
              case measure => simp [intOf]; omega
            · have h6' : (k6 == 0) = false := by simpa using h6
              have q6 := D.size
              go_wp2_with (at_builtin; refine wpList_append_RV A8 2 c8 ([k3] ++ [k3 + 1 + k5]) rfl _ _ rfl rfl (R.alloc _) (S.alloc _) rfl (by simp) (by omega) (by simp; omega) ?_; intro v9 w9 V9 hb9 hg9)
              have D9 := (D.alloc _).below hb9 (Nat.le_refl _) (by simp; omega)
              go_roundw
              case rel => exact ⟨k + 1, _, _, by omega, by go_num, rfl, V9, rs_snoc HB.out (by simp), D9.more (by omega)⟩
              case measure => simp [intOf]; omega
          · have h4' : (k4 == 0) = false := by simpa using h4
            go_wp2_with fail
            refine (pick_d (w := w) (g := g) (M := m + 3 + 12 * k + 1 + 1) (n := 20) (by repeat (first | exact D | refine Dr.alloc ?_ _ | refine Dr.drew ?_ | (refine Dr.set ?_ ?_ _; rotate_left 1; (focus (first | omega | (dsimp only; omega) | (simp; done) | (simp; omega)))))) (by omega) (by omega) (by omega)).mono ?_
            rintro e w6 ⟨k6, rfl, k6a, k6b, D2, hgk6⟩
            replace D := D2
            clear D2
            replace S := IS.pkb S (by go_grown) hgk6 (by omega)
            replace R := RV.pkb R (by go_grown) hgk6 (by omega)
            by_cases h6 : k6 = 0
            · subst h6
              clear S
              go_wp2_with fail
              have q6 := D.size
              refine (l91Set_c g (m + 3 + 12 * k + 1 + 1 + 1) _ D.1 (by omega)).mono ?_
              rintro e w7 ⟨L7, A7, c7, rfl, h71, h72, S7, D7⟩
              have R7 := R.grown D7.2.1 (fun j e => by cases e; exact lg)
              have D8 := D.trans D7
              have S8 := S7.mono (B' := w.heap.size) q6
              have q7 := D8.size
              clear R D h72 S7 D7
              go_wp2_with (at_builtin; refine wpList_append_RV A7 L7.length c7 L7 rfl _ _ rfl rfl (R7.alloc _) (S8.alloc _) rfl (by simp) (by omega) (by simp; omega) ?_; intro v9 w9 V9 hb9 hg9)
              have D9 := (D8.alloc _).below hb9 (Nat.le_refl _) (by simp; omega)
              go_roundw
              case rel => exact ⟨k + 1, _, _, by omega, by go_num, rfl, V9, rs_snoc HB.out h71, D9.more (by omega)⟩
              case measure => simp [intOf]; omega
            · have h6' : (k6 == 0) = false := by simpa using h6
              have q6 := D.size
              go_wp2_with (at_builtin; refine wpList_append_RV (some ⟨w3.heap.size, 0, none⟩) 1 1 [k3] rfl _ _ rfl rfl (R.alloc _) (S.alloc _) rfl (by simp) (by omega) (by simp; omega) ?_; intro v9 w9 V9 hb9 hg9)
              have D9 := (D.alloc _).below hb9 (Nat.le_refl _) (by simp; omega)
              go_roundw
              case rel => exact ⟨k + 1, _, _, by omega, by go_num, rfl, V9, rs_snoc HB.out (by simp), D9.more (by omega)⟩
              case measure => simp [intOf]; omega
        · have h3d : decide (k3 < 4) = false := decide_eq_false h3
          go_wp2_with fail
          refine (pick_d (w := w) (g := g) (M := m + 3 + 12 * k + 1) (n := 20) (by repeat (first | exact D | refine Dr.alloc ?_ _ | refine Dr.drew ?_ | (refine Dr.set ?_ ?_ _; rotate_left 1; (focus (first | omega | (dsimp only; omega) | (simp; done) | (simp; omega)))))) (by omega) (by omega) (by omega)).mono ?_
          rintro e w6 ⟨k6, rfl, k6a, k6b, D2, hgk6⟩
          replace D := D2
          clear D2
          replace S := IS.pkb S (by go_grown) hgk6 (by omega)
          replace R := RV.pkb R (by go_grown) hgk6 (by omega)
          by_cases h6 : k6 = 0
          · subst h6
            clear S
            go_wp2_with fail
            have q6 := D.size
            refine (l91Set_c g (m + 3 + 12 * k + 1 + 1) _ D.1 (by omega)).mono ?_
            rintro e w7 ⟨L7, A7, c7, rfl, h71, h72, S7, D7⟩
            have R7 := R.grown D7.2.1 (fun j e => by cases e; exact lg)
            have D8 := D.trans D7
            have S8 := S7.mono (B' := w.heap.size) q6
            have q7 := D8.size
            clear R D h72 S7 D7
            go_wp2_with (at_builtin; refine wpList_append_RV A7 L7.length c7 L7 rfl _ _ rfl rfl (R7.alloc _) (S8.alloc _) rfl (by simp) (by omega) (by simp; omega) ?_; intro v9 w9 V9 hb9 hg9)
            have D9 := (D8.alloc _).below hb9 (Nat.le_refl _) (by simp; omega)
            go_roundw
            case rel => exact ⟨k + 1, _, _, by omega, by go_num, rfl, V9, rs_snoc HB.out h71, D9.more (by omega)⟩
            case measure => simp [intOf]; omega
          · have h6' : (k6 == 0) = false := by simpa using h6
            have q6 := D.size
            go_wp2_with (at_builtin; refine wpList_append_RV (some ⟨w3.heap.size, 0, none⟩) 1 1 [k3] rfl _ _ rfl rfl (R.alloc _) (S.alloc _) rfl (by simp) (by omega) (by simp; omega) ?_; intro v9 w9 V9 hb9 hg9)
            have D9 := (D.alloc _).below hb9 (Nat.le_refl _) (by simp; omega)
            go_roundw
            case rel => exact ⟨k + 1, _, _, by omega, by go_num, rfl, V9, rs_snoc HB.out (by simp), D9.more (by omega)⟩
            case measure => simp [intOf]; omega
      · obtain rfl : k = N := by omega
        have hl := R.len
        obtain ⟨A8, c8, rfl⟩ := R.open_
        go_wp2_with fail
        go_ret
        exact ⟨hs, A8, c8, by rw [hl]; rfl, by omega, HB.out, by rw [hl]; exact R, D.more (by omega)⟩
  · have h2' : (k2 == 0) = false := by simpa using h2
    obtain ⟨N, rfl⟩ := Int.eq_ofNat_of_zero_le k1a
    have hN13 : N ≤ 13 := by omega
    go_wp2_with fail
    go_loopw [3, 5] (fun o i wr => ∃ (k : Nat) (v : Value) (hs : List Hnd), k ≤ N ∧ i = .int .i64 k ∧ o = v ∧ RV wr w.heap.size v k hs ∧ Hid (∀ h ∈ hs, h.xs.length ≤ 6) ∧ Dr w g (m + 3 + 12 * k) wr)
      (fun _ i _ => N - (intOf i).toNat)
    case atStart => exact ⟨0, _, [], Nat.zero_le _, rfl, rfl, R, by simp [Hid], D.more (by omega)⟩
    case round =>
      clear R D
      obtain ⟨k, v, hs, hk, rfl, rfl, R, HB, D⟩ := hrel
      by_cases hlt : k < N
      · go_wp2_with fail
        refine (pick_d (w := w) (g := g) (M := m + 3 + 12 * k) (n := 5) (by repeat (first | exact D | refine Dr.alloc ?_ _ | refine Dr.drew ?_ | (refine Dr.set ?_ ?_ _; rotate_left 1; (focus (first | omega | (dsimp only; omega) | (simp; done) | (simp; omega)))))) (by omega) (by omega) (by omega)).mono ?_
        rintro e w3 ⟨k3, rfl, k3a, k3b, D2, hgk3⟩
        replace D := D2
        clear D2
        replace R := RV.pkb R (by go_grown) hgk3 (by omega)
        have q3 := D.size
        have RL := hidI R.bound
        have S : IS (w3.alloc (.cells #[.int .i64 k3] 3)) w.heap.size (some ⟨w3.heap.size, 0, none⟩) 1 1 [k3] := IS.full (xs := [k3]) (Box.new w3 _ _) q3 (by simp [maxLen])
        replace D := D.alloc (.cells #[.int .i64 k3] 3)
        replace R := R.alloc (.cells #[.int .i64 k3] 3)
        by_cases h3 : k3 < 4
        · have h3d : decide (k3 < 4) = true := decide_eq_true h3
          go_wp2_with fail
          refine (pick_d (w := w) (g := g) (M := m + 3 + 12 * k + 1) (n := 2) (by repeat (first | exact D | refine Dr.alloc ?_ _ | refine Dr.drew ?_ | (refine Dr.set ?_ ?_ _; rotate_left 1; (focus (first | omega | (dsimp only; omega) | (simp; done) | (simp; omega)))))) (by omega) (by omega) (by omega)).mono ?_
          rintro e w4 ⟨k4, rfl, k4a, k4b, D2, hgk4⟩
          replace D := D2
          clear D2
          replace S := IS.pkb S (by go_grown) hgk4 (by omega)
          replace R := RV.pkb R (by go_grown) hgk4 (by omega)
          by_cases h4 : k4 = 0
          · subst h4
            go_wp2_with fail
            refine (pick_d (w := w) (g := g) (M := m + 3 + 12 * k + 1 + 1) (n := (4 - k3)) (by repeat (first | exact D | refine Dr.alloc ?_ _ | refine Dr.drew ?_ | (refine Dr.set ?_ ?_ _; rotate_left 1; (focus (first | omega | (dsimp only; omega) | (simp; done) | (simp; omega)))))) (by omega) (by omega) (by omega)).mono ?_
            rintro e w5 ⟨k5, rfl, k5a, k5b, D2, hgk5⟩
            replace D := D2
            clear D2
            replace S := IS.pkb S (by go_grown) hgk5 (by omega)
            replace R := RV.pkb R (by go_grown) hgk5 (by omega)
            have q5 := D.size
            have S1 := S.iv
            go_wp2_with (at_builtin; refine wpList_append_IV (k3 + 1 + k5) rfl _ _ rfl rfl (S1.alloc _) rfl (by simp) (by omega) (by simp; omega) ?_; intro v8 w8 V8 hb8 hg8)
            have D8 := (D.alloc _).below hb8 (Nat.le_refl _) (by simp; omega)
            replace R := (R.alloc (.cells #[.int .i64 (k3 + 1 + k5)] 3)).past RL.out hg8 (fun j e => by
              have e1 : some w3.heap.size = some j := e
              injection e1 with e1
              omega)
            obtain ⟨A8, c8, rfl, S⟩ := V8.open_
            replace D := D8
            clear hb8 hg8 V8 S1 D8 q5
            go_wp2_with fail
            refine (pick_d (w := w) (g := g) (M := m + 3 + 12 * k + 1 + 1 + 1) (n := 20) (by repeat (first | exact D | refine Dr.alloc ?_ _ | refine Dr.drew ?_ | (refine Dr.set ?_ ?_ _; rotate_left 1; (focus (first | omega | (dsimp only; omega) | (simp; done) | (simp; omega)))))) (by omega) (by omega) (by omega)).mono ?_
            rintro e w6 ⟨k6, rfl, k6a, k6b, D2, hgk6⟩
            replace D := D2
            clear D2
            replace S := IS.pkb S (by go_grown) hgk6 (by omega)
            replace R := RV.pkb R (by go_grown) hgk6 (by omega)
            by_cases h6 : k6 = 0
            · subst h6
              clear S
              go_wp2_with fail
              have q6 := D.size
              refine (l91Set_c g (m + 3 + 12 * k + 1 + 1 + 1 + 1) _ D.1 (by omega)).mono ?_
              rintro e w7 ⟨L7, A7, c7, rfl, h71, h72, S7, D7⟩
              have R7 := R.grown D7.2.1 (fun j e => by cases e; exact lg)
              have D8 := D.trans D7
              have S8 := S7.mono (B' := w.heap.size) q6
              have q7 := D8.size
              clear R D h72 S7 D7
              go_wp2_with (at_builtin; refine wpList_append_RV A7 L7.length c7 L7 rfl _ _ rfl rfl (R7.alloc _) (S8.alloc _) rfl (by simp) (by omega) (by simp; omega) ?_; intro v9 w9 V9 hb9 hg9)
              have D9 := (D8.alloc _).below hb9 (Nat.le_refl _) (by simp; omega)
              go_roundw
              case rel => exact ⟨k + 1, _, _, by omega, by go_num, rfl, V9, rs_snoc HB.out h71, D9.more (by omega)⟩
              case measure => simp [intOf]; omega
            · have h6' : (k6 == 0) = false := by simpa using h6
              have q6 := D.size
              go_wp2_with (at_builtin; refine wpList_append_RV A8 2 c8 ([k3] ++ [k3 + 1 + k5]) rfl _ _ rfl rfl (R.alloc _) (S.alloc _) rfl (by simp) (by omega) (by simp; omega) ?_; intro v9 w9 V9 hb9 hg9)
              have D9 := (D.alloc _).below hb9 (Nat.le_refl _) (by simp; omega)
              go_roundw
              case rel => exact ⟨k + 1, _, _, by omega, by go_num, rfl, V9, rs_snoc HB.out (by simp), D9.more (by omega)⟩
              case measure => simp [intOf]; omega
          · have h4' : (k4 == 0) = false := by simpa using h4
            go_wp2_with fail
            refine (pick_d (w := w) (g := g) (M := m + 3 + 12 * k + 1 + 1) (n := 20) (by repeat (first | exact D | refine Dr.alloc ?_ _ | refine Dr.drew ?_ | (refine Dr.set ?_ ?_ _; rotate_left 1; (focus (first | omega | (dsimp only; omega) | (simp; done) | (simp; omega)))))) (by omega) (by omega) (by omega)).mono ?_
            rintro e w6 ⟨k6, rfl, k6a, k6b, D2, hgk6⟩
            replace D := D2
            clear D2
            replace S := IS.pkb S (by go_grown) hgk6 (by omega)
            replace R := RV.pkb R (by go_grown) hgk6 (by omega)
            by_cases h6 : k6 = 0
            · subst h6
              clear S
              go_wp2_with fail
              have q6 := D.size
              refine (l91Set_c g (m + 3 + 12 * k + 1 + 1 + 1) _ D.1 (by omega)).mono ?_
              rintro e w7 ⟨L7, A7, c7, rfl, h71, h72, S7, D7⟩
              have R7 := R.grown D7.2.1 (fun j e => by cases e; exact lg)
              have D8 := D.trans D7
              have S8 := S7.mono (B' := w.heap.size) q6
              have q7 := D8.size
              clear R D h72 S7 D7
              go_wp2_with (at_builtin; refine wpList_append_RV A7 L7.length c7 L7 rfl _ _ rfl rfl (R7.alloc _) (S8.alloc _) rfl (by simp) (by omega) (by simp; omega) ?_; intro v9 w9 V9 hb9 hg9)
              have D9 := (D8.alloc _).below hb9 (Nat.le_refl _) (by simp; omega)
              go_roundw
              case rel => exact ⟨k + 1, _, _, by omega, by go_num, rfl, V9, rs_snoc HB.out h71, D9.more (by omega)⟩
              case measure => simp [intOf]; omega
            · have h6' : (k6 == 0) = false := by simpa using h6
              have q6 := D.size
              go_wp2_with (at_builtin; refine wpList_append_RV (some ⟨w3.heap.size, 0, none⟩) 1 1 [k3] rfl _ _ rfl rfl (R.alloc _) (S.alloc _) rfl (by simp) (by omega) (by simp; omega) ?_; intro v9 w9 V9 hb9 hg9)
              have D9 := (D.alloc _).below hb9 (Nat.le_refl _) (by simp; omega)
              go_roundw
              case rel => exact ⟨k + 1, _, _, by omega, by go_num, rfl, V9, rs_snoc HB.out (by simp), D9.more (by omega)⟩
              case measure => simp [intOf]; omega
        · have h3d : decide (k3 < 4) = false := decide_eq_false h3
          go_wp2_with fail
          refine (pick_d (w := w) (g := g) (M := m + 3 + 12 * k + 1) (n := 20) (by repeat (first | exact D | refine Dr.alloc ?_ _ | refine Dr.drew ?_ | (refine Dr.set ?_ ?_ _; rotate_left 1; (focus (first | omega | (dsimp only; omega) | (simp; done) | (simp; omega)))))) (by omega) (by omega) (by omega)).mono ?_
          rintro e w6 ⟨k6, rfl, k6a, k6b, D2, hgk6⟩
          replace D := D2
          clear D2
          replace S := IS.pkb S (by go_grown) hgk6 (by omega)
          replace R := RV.pkb R (by go_grown) hgk6 (by omega)
          by_cases h6 : k6 = 0
          · subst h6
            clear S
            go_wp2_with fail
            have q6 := D.size
            refine (l91Set_c g (m + 3 + 12 * k + 1 + 1) _ D.1 (by omega)).mono ?_
            rintro e w7 ⟨L7, A7, c7, rfl, h71, h72, S7, D7⟩
            have R7 := R.grown D7.2.1 (fun j e => by cases e; exact lg)
            have D8 := D.trans D7
            have S8 := S7.mono (B' := w.heap.size) q6
            have q7 := D8.size
            clear R D h72 S7 D7
            go_wp2_with (at_builtin; refine wpList_append_RV A7 L7.length c7 L7 rfl _ _ rfl rfl (R7.alloc _) (S8.alloc _) rfl (by simp) (by omega) (by simp; omega) ?_; intro v9 w9 V9 hb9 hg9)
            have D9 := (D8.alloc _).below hb9 (Nat.le_refl _) (by simp; omega)
            go_roundw
            case rel => exact ⟨k + 1, _, _, by omega, by go_num, rfl, V9, rs_snoc HB.out h71, D9.more (by omega)⟩
            case measure => simp [intOf]; omega
          · have h6' : (k6 == 0) = false := by simpa using h6
            have q6 := D.size
            go_wp2_with (at_builtin; refine wpList_append_RV (some ⟨w3.heap.size, 0, none⟩) 1 1 [k3] rfl _ _ rfl rfl (R.alloc _) (S.alloc _) rfl (by simp) (by omega) (by simp; omega) ?_; intro v9 w9 V9 hb9 hg9)
            have D9 := (D.alloc _).below hb9 (Nat.le_refl _) (by simp; omega)
            go_roundw
            case rel => exact ⟨k + 1, _, _, by omega, by go_num, rfl, V9, rs_snoc HB.out (by simp), D9.more (by omega)⟩
            case measure => simp [intOf]; omega
      · obtain rfl : k = N := by omega
        have hl := R.len
        obtain ⟨A8, c8, rfl⟩ := R.open_
        go_wp2_with fail
        go_ret
        exact ⟨hs, A8, c8, by rw [hl]; rfl, by omega, HB.out, by rw [hl]; exact R, D.more (by omega)⟩
end Go.Proofs.Ytbdboekjcgefhaa
