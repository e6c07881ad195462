/- Contracts: the draws of sets of groups. -/
import Derived.Test.YtbdboekjcgefhaaDu
import Derived.Test.YtbdboekjcgefhaaGb
namespace Go.Proofs.Ytbdboekjcgefhaa
set_option linter.unusedVariables false
open Go.RowKit

theorem IS.cut {w : World} {B n c m : Nat} {A : Option Addr} {xs : List Int} (h : IS w B A n c xs) (hm : m ≤ n) : IS w B A m c (xs.take m) := by
  have hl := h.len
  refine ⟨by simp; omega, ?_⟩
  rcases h.2 with ⟨hv, h0⟩ | ⟨g, cap, cur, hv, hb, hg, h1, h2, h3, h4⟩
  · left
    injection hv with e1 e2 e3
    subst e1 e3
    exact ⟨by rw [show m = 0 by omega], by omega⟩
  · right
    injection hv with e1 e2 e3
    subst e1 e3
    refine ⟨g, c, cur, rfl, hb, hg, by omega, h2, h3, ?_⟩
    rw [List.map_take, ← h4, List.take_take]
    congr 1
    omega

set_option maxHeartbeats 8000000 in
theorem l91Set_c (g m : Nat) (w : World) (hr : Rdr w g m) (hm : m ≤ 900000) : Calls Try.prog 45 #[.pointer (some ⟨g, 0, none⟩)] w (DrewIs w g (m + 8) 6 (-1) 5) := by
  have D := Dr.start hr
  have lg := D.lt
  have V : IV (w.alloc (.cells #[] 3)) w.heap.size (.slice (some ⟨w.heap.size, 0, none⟩) 0 0) 0 [] := (IS.full (xs := []) (Box.new w _ _) (by omega) (Nat.zero_le _)).iv
  go_enter Try.func45, Try.ntmps45
  go_wp2
  go_loopw [3, 4] (fun o i wr => ∃ (k l : Nat) (v : Value) (L : List Int), k ≤ 5 ∧ i = .int .i64 k ∧ o = v ∧ l ≤ k ∧ IV wr w.heap.size v l L ∧ Hid (∀ x ∈ L, -1 ≤ x ∧ x ≤ 5) ∧ Dr w g (m + k) wr)
    (fun _ i _ => 5 - (intOf i).toNat)
  case atStart => exact ⟨0, 0, _, [], by omega, rfl, rfl, Nat.le_refl _, V, by simp [Hid], D.alloc _⟩
  case round =>
    clear V D
    obtain ⟨k, l, v, L, hk, rfl, rfl, hl, V, HB, D⟩ := hrel
    by_cases hlt : k < 5
    · go_wp2_with fail
      refine (pick_d (w := w) (g := g) (M := m + k) (n := 5) (by repeat (first | exact D | refine Dr.alloc ?_ _ | refine Dr.drew ?_ | (refine Dr.set ?_ ?_ _; rotate_left 1; (focus (first | omega | (dsimp only; omega) | (simp; done) | (simp; omega)))))) (by omega) (by omega) (by omega)).mono ?_
      rintro e w1 ⟨k1, rfl, k1a, k1b, D2, hgk1⟩
      replace D := D2
      clear D2
      replace V := IV.pkb V (by go_grown) hgk1 (by omega)
      have q1 := D.size
      by_cases h0 : 1 < k1
      · go_wp2_with (at_builtin; refine wpList_append_IV (k : Int) rfl _ _ rfl rfl (V.alloc _) rfl (by simp) (by omega) (by simp; omega) ?_; intro v6 w6 V6 hb6 hg6)
        have D6 := (D.alloc _).below hb6 (Nat.le_refl _) (by simp; omega)
        go_roundw
        case rel => exact ⟨k + 1, l + 1, _, _, by omega, by go_num, rfl, by omega, V6, szs_snoc HB.out (by omega) (by omega), D6.more (by omega)⟩
        case measure => simp [intOf]; omega
      · have h0' : ¬ 1 < k1 := h0
        go_wp2_with fail
        go_roundw
        case rel => exact ⟨k + 1, l, _, L, by omega, by go_num, rfl, by omega, V, HB, D.more (by omega)⟩
        case measure => simp [intOf]; omega
    · obtain rfl : k = 5 := by omega
      obtain ⟨A, c, rfl, S⟩ := V.open_
      by_cases hl0 : l = 0
      · subst hl0
        clear V
        go_wp2_with fail
        refine (pick_d (w := w) (g := g) (M := m + 5) (n := 5) (by repeat (first | exact D | refine Dr.alloc ?_ _ | refine Dr.drew ?_ | (refine Dr.set ?_ ?_ _; rotate_left 1; (focus (first | omega | (dsimp only; omega) | (simp; done) | (simp; omega)))))) (by omega) (by omega) (by omega)).mono ?_
        rintro e w1 ⟨k1, rfl, k1a, k1b, D2, hgk1⟩
        replace D := D2
        clear D2
        replace S := IS.pkb S (by go_grown) hgk1 (by omega)
        have q1 := D.size
        have S1 : IS (w1.alloc (.cells #[.int .i64 k1] 3)) w.heap.size (some ⟨w1.heap.size, 0, none⟩) 1 1 [k1] := IS.full (xs := [k1]) (Box.new w1 _ _) q1 (by simp [maxLen])
        have H1 : Hid (∀ x ∈ [k1], -1 ≤ x ∧ x ≤ 5) := by
          intro x hx
          obtain rfl : x = k1 := by simpa using hx
          omega
        replace D := D.alloc (.cells #[.int .i64 k1] 3)
        clear S HB
        go_wp2_with fail
        refine (pick_d (w := w) (g := g) (M := m + 5 + 1) (n := 24) (by repeat (first | exact D | refine Dr.alloc ?_ _ | refine Dr.drew ?_ | (refine Dr.set ?_ ?_ _; rotate_left 1; (focus (first | omega | (dsimp only; omega) | (simp; done) | (simp; omega)))))) (by omega) (by omega) (by omega)).mono ?_
        rintro e w2 ⟨k2, rfl, k2a, k2b, D2, hgk2⟩
        replace D := D2
        clear D2
        replace S1 := IS.pkb S1 (by go_grown) hgk2 (by omega)
        have q2 := D.size
        by_cases h0 : k2 = 0
        · subst h0
          go_wp2_with fail
          refine (pick_d (w := w) (g := g) (M := m + 5 + 1 + 1) (n := 7) (by repeat (first | exact D | refine Dr.alloc ?_ _ | refine Dr.drew ?_ | (refine Dr.set ?_ ?_ _; rotate_left 1; (focus (first | omega | (dsimp only; omega) | (simp; done) | (simp; omega)))))) (by omega) (by omega) (by omega)).mono ?_
          rintro e w3 ⟨k3, rfl, k3a, k3b, D2, hgk3⟩
          replace D := D2
          clear D2
          replace S1 := IS.pkb S1 (by go_grown) hgk3 (by omega)
          have q3 := D.size
          have V1 := S1.iv
          go_wp2_with (at_builtin; refine wpList_append_IV (k3 - 1) rfl _ _ rfl rfl (V1.alloc _) rfl (by simp) (by omega) (by simp; omega) ?_; intro v6 w6 V6 hb6 hg6)
          have D6 := (D.alloc _).below hb6 (Nat.le_refl _) (by simp; omega)
          obtain ⟨A6, c6, rfl, S6⟩ := V6.open_
          go_wp2_with fail
          go_ret
          exact ⟨[k1] ++ [k3 - 1], A6, c6, rfl, by simp, szs_snoc H1.out (by omega) (by omega), S6, D6.more (by omega)⟩
        · have h0' : (k2 == 0) = false := by simpa using h0
          by_cases h1 : k2 = 1
          · subst h1
            go_wp2_with fail
            go_ret
            exact ⟨[], _, _, rfl, by simp, by simp, S1.cut (m := 0) (by omega), D.more (by omega)⟩
          · have h1' : (k2 == 1) = false := by simpa using h1
            go_wp2_with fail
            go_ret
            exact ⟨[k1], _, _, rfl, by simp, H1.out, S1, D.more (by omega)⟩
      · have hlen := S.len
        clear V
        have hl0' : 0 < l := by omega
        have hl1 : (((l : Int)) == 0) = false := by simp; omega
        go_wp2_with fail
        refine (pick_d (w := w) (g := g) (M := m + 5) (n := 24) (by repeat (first | exact D | refine Dr.alloc ?_ _ | refine Dr.drew ?_ | (refine Dr.set ?_ ?_ _; rotate_left 1; (focus (first | omega | (dsimp only; omega) | (simp; done) | (simp; omega)))))) (by omega) (by omega) (by omega)).mono ?_
        rintro e w2 ⟨k2, rfl, k2a, k2b, D2, hgk2⟩
        replace D := D2
        clear D2
        replace S := IS.pkb S (by go_grown) hgk2 (by omega)
        have q2 := D.size
        by_cases h0 : k2 = 0
        · subst h0
          go_wp2_with fail
          refine (pick_d (w := w) (g := g) (M := m + 5 + 1) (n := 7) (by repeat (first | exact D | refine Dr.alloc ?_ _ | refine Dr.drew ?_ | (refine Dr.set ?_ ?_ _; rotate_left 1; (focus (first | omega | (dsimp only; omega) | (simp; done) | (simp; omega)))))) (by omega) (by omega) (by omega)).mono ?_
          rintro e w3 ⟨k3, rfl, k3a, k3b, D2, hgk3⟩
          replace D := D2
          clear D2
          replace S := IS.pkb S (by go_grown) hgk3 (by omega)
          have q3 := D.size
          have V1 := S.iv
          go_wp2_with (at_builtin; refine wpList_append_IV (k3 - 1) rfl _ _ rfl rfl (V1.alloc _) rfl (by simp) (by omega) (by simp; omega) ?_; intro v6 w6 V6 hb6 hg6)
          have D6 := (D.alloc _).below hb6 (Nat.le_refl _) (by simp; omega)
          have e1 : (L ++ [k3 - 1]).length = l + 1 := by simp [hlen]
          obtain ⟨A6, c6, rfl, S6⟩ := V6.open_
          go_wp2_with fail
          go_ret
          exact ⟨L ++ [k3 - 1], A6, c6, by rw [e1]; rfl, by omega, szs_snoc HB.out (by omega) (by omega), by rw [e1]; exact S6, D6.more (by omega)⟩
        · have h0' : (k2 == 0) = false := by simpa using h0
          by_cases h1 : k2 = 1
          · subst h1
            go_wp2_with fail
            go_ret
            exact ⟨[], _, _, rfl, by simp, by simp, S.cut (m := 0) (by omega), D.more (by omega)⟩
          · have h1' : (k2 == 1) = false := by simpa using h1
            go_wp2_with fail
            go_ret
            exact ⟨L, A, c, by rw [hlen]; rfl, by omega, HB.out, by rw [hlen]; exact S, D.more (by omega)⟩

/-- A set drawn out of a code. -/
def DrewS (w : World) (e : Ending) (w' : World) : Prop :=
  ∃ (L : List Int) (A : Option Addr) (c : Nat), e = .returned (.slice A L.length c) ∧ L.length ≤ 6 ∧ (∀ x ∈ L, -1 ≤ x ∧ x ≤ 5) ∧ IS w' w.heap.size A L.length c L ∧ Below w.heap.size w w'
/-- Two sets drawn out of a code. -/
def DrewSS (w : World) (e : Ending) (w' : World) : Prop :=
  ∃ (L : List Int) (A : Option Addr) (c : Nat) (Y : List Int) (A' : Option Addr) (c' : Nat), e = .returned (.tuple #[.slice A L.length c, .slice A' Y.length c']) ∧ L.length ≤ 6 ∧ (∀ x ∈ L, -1 ≤ x ∧ x ≤ 5) ∧ Y.length ≤ 6 ∧ (∀ x ∈ Y, -1 ≤ x ∧ x ≤ 5) ∧
    IS w' w.heap.size A L.length c L ∧ IS w' w.heap.size A' Y.length c' Y ∧ Below w.heap.size w w'

end Go.Proofs.Ytbdboekjcgefhaa
