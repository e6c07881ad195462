/- Contracts: the draws of sizes and limits. -/
import Derived.Test.YtelapagdbmlnhaaDr
import Derived.Test.YtelapagdbmlnhaaPlainB
import Derived.Deep.DeepCutAuto
namespace Go.Proofs.Ytelapagdbmlnhaa
set_option linter.unusedVariables false
open Go.RowKit

theorem box_pick {w : World} {b : Nat} {t : TypeId} {xs : List Int} (h : Box w b t (xs.map (Value.int .i64)).toArray) {k : Int} (h0 : 0 ≤ k) (h1 : k < xs.length) : ∃ x, x ∈ xs ∧ w.cell? ⟨b, k.toNat, none⟩ = some (.int .i64 x) := by
  have hk : k.toNat < xs.length := by omega
  refine ⟨xs[k.toNat], List.getElem_mem hk, ?_⟩
  rw [h.cell]
  simp [hk]

theorem szs_snoc {L : List Int} {x lo hi : Int} (h : ∀ y ∈ L, lo ≤ y ∧ y ≤ hi) (h0 : lo ≤ x) (h1 : x ≤ hi) : ∀ y ∈ L ++ [x], lo ≤ y ∧ y ≤ hi := by
  intro y hy
  rcases List.mem_append.1 hy with hy | hy
  · exact h y hy
  · obtain rfl : y = x := by simpa using hy
    exact ⟨h0, h1⟩
theorem szs_set {L : List Int} {x lo hi : Int} {j : Nat} (h : ∀ y ∈ L, lo ≤ y ∧ y ≤ hi) (h0 : lo ≤ x) (h1 : x ≤ hi) : ∀ y ∈ L.set j x, lo ≤ y ∧ y ≤ hi := by
  intro y hy
  rcases List.mem_or_eq_of_mem_set hy with hy | rfl
  · exact h y hy
  · exact ⟨h0, h1⟩

/-- Drawn sizes and limits. -/
def DrewSZ (w : World) (g M : Nat) (e : Ending) (w' : World) : Prop :=
  ∃ (L : List Int) (b m : Int) (A : Option Addr) (c : Nat), e = .returned (.tuple #[.slice A L.length c, .int .i64 b, .int .i64 m]) ∧ L.length ≤ 21 ∧ (∀ x ∈ L, 0 ≤ x ∧ x ≤ 30) ∧ 0 ≤ b ∧ b ≤ 100 ∧ 0 ≤ m ∧ m ≤ 21 ∧
    IS w' w.heap.size A L.length c L ∧ Dr w g M w'

set_option maxHeartbeats 8000000 in
theorem l91Sizes_c (g m : Nat) (w : World) (hr : Rdr w g m) (hm : m ≤ 900000) : Calls Try.prog 20 #[.pointer (some ⟨g, 0, none⟩)] w (DrewSZ w g (m + 40)) := by
  have D := Dr.start hr
  have lg := D.lt
  go_enter Try.func20, Try.ntmps20
  go_wp2_with fail
  refine (pick_d (w := w) (g := g) (M := m) (n := 20) (by repeat (first | exact D | refine Dr.alloc ?_ _ | refine Dr.drew ?_ | (refine Dr.set ?_ ?_ _; rotate_left 1; (focus (first | omega | (dsimp only; omega) | (simp; done) | (simp; omega)))))) (by omega) (by omega) (by omega)).mono ?_
  rintro e w1 ⟨k1, rfl, k1a, k1b, D2, hgk1⟩
  replace D := D2
  clear D2
  have q1 := D.size
  have V : IV (w1.alloc (.cells #[] 3)) w.heap.size (.slice (some ⟨w1.heap.size, 0, none⟩) 0 0) 0 [] := (IS.full (xs := []) (Box.new w1 _ _) (by omega) (Nat.zero_le _)).iv
  go_wp2_with fail
  refine (pick_d (w := w) (g := g) (M := m + 1) (n := 12) (by repeat (first | exact D | refine Dr.alloc ?_ _ | refine Dr.drew ?_ | (refine Dr.set ?_ ?_ _; rotate_left 1; (focus (first | omega | (dsimp only; omega) | (simp; done) | (simp; omega)))))) (by omega) (by omega) (by omega)).mono ?_
  rintro e w2 ⟨k2, rfl, k2a, k2b, D2, hgk2⟩
  replace D := D2
  clear D2
  replace V := IV.pkb V (by go_grown) hgk2 (by omega)
  go_wp2_with fail
  refine (pick_d (w := w) (g := g) (M := m + 2) (n := 16) (by repeat (first | exact D | refine Dr.alloc ?_ _ | refine Dr.drew ?_ | (refine Dr.set ?_ ?_ _; rotate_left 1; (focus (first | omega | (dsimp only; omega) | (simp; done) | (simp; omega)))))) (by omega) (by omega) (by omega)).mono ?_
  rintro e w3 ⟨k3, rfl, k3a, k3b, D2, hgk3⟩
  replace D := D2
  clear D2
  replace V := IV.pkb V (by go_grown) hgk3 (by omega)
  generalize (Value.slice (some ⟨w1.heap.size, 0, none⟩) 0 0) = v0 at V ⊢
  clear q1 hgk1 hgk2 hgk3
  go_upto_if 18 with fail
  go_cut [7] (fun s7 wx => ∃ n : Nat, s7 = .int .i64 n ∧ n ≤ 21 ∧ Dr w g (m + 4) wx ∧ IV wx w.heap.size v0 0 [])
  case first =>
    by_cases h0 : k3 = 0
    · subst h0
      go_wp2_with fail
      refine (pick_d (w := w) (g := g) (M := m + 1 + 1 + 1) (n := 3) (by repeat (first | exact D | refine Dr.alloc ?_ _ | refine Dr.drew ?_ | (refine Dr.set ?_ ?_ _; rotate_left 1; (focus (first | omega | (dsimp only; omega) | (simp; done) | (simp; omega)))))) (by omega) (by omega) (by omega)).mono ?_
      rintro e w4 ⟨k4, rfl, k4a, k4b, D2, hgk4⟩
      replace D := D2
      clear D2
      replace V := IV.pkb V (by go_grown) hgk4 (by omega)
      obtain ⟨j, rfl⟩ := Int.eq_ofNat_of_zero_le k4a
      go_wp2_with fail
      go_meet
      exact ⟨19 + j, by go_num, by omega, D, V⟩
    · have h0' : (k3 == 0) = false := by simpa using h0
      obtain ⟨j, rfl⟩ := Int.eq_ofNat_of_zero_le k2a
      go_wp2_with fail
      go_meet
      exact ⟨j, rfl, by omega, D.more (by omega), V⟩
  case rest =>
    obtain ⟨n, rfl, hn, D, V⟩ := hcut
    go_wp2_with fail
    go_loopw [6, 8] (fun o i wr => ∃ (k : Nat) (v : Value) (L : List Int), k ≤ n ∧ i = .int .i64 k ∧ o = v ∧ IV wr w.heap.size v k L ∧ Hid (∀ x ∈ L, 0 ≤ x ∧ x ≤ 30) ∧ Dr w g (m + 4 + k) wr)
      (fun _ i _ => n - (intOf i).toNat)
    case atStart => exact ⟨0, _, [], Nat.zero_le _, rfl, rfl, V, by simp [Hid], D⟩
    case round =>
      obtain ⟨k, v, L, hk, rfl, rfl, V, HB, D⟩ := hrel
      by_cases hlt : k < n
      · by_cases h9 : 9 < 5 + k1
        · go_wp2_with fail
          refine (pick_d (w := w) (g := g) (M := m + 4 + k) (n := 9) (by repeat (first | exact D | refine Dr.alloc ?_ _ | refine Dr.drew ?_ | (refine Dr.set ?_ ?_ _; rotate_left 1; (focus (first | omega | (dsimp only; omega) | (simp; done) | (simp; omega)))))) (by omega) (by omega) (by omega)).mono ?_
          rintro e w5 ⟨k5, rfl, k5a, k5b, D2, hgk5⟩
          replace D := D2
          clear D2
          replace V := IV.pkb V (by go_grown) hgk5 (by omega)
          have q5 := D.size
          go_wp2_with (at_builtin; refine wpList_append_IV (1 + k5) rfl _ _ rfl rfl (V.alloc _) rfl (by simp) (by omega) (by simp; omega) ?_; intro v6 w6 V6 hb6 hg6)
          have D6 := (D.alloc _).below hb6 (Nat.le_refl _) (by simp; omega)
          go_roundw
          case rel => exact ⟨k + 1, _, L ++ [1 + k5], by omega, by go_num, rfl, V6, szs_snoc HB.out (by omega) (by omega), D6.more (by omega)⟩
          case measure => simp [intOf]; omega
        · go_wp2_with fail
          refine (pick_d (w := w) (g := g) (M := m + 4 + k) (n := (5 + k1)) (by repeat (first | exact D | refine Dr.alloc ?_ _ | refine Dr.drew ?_ | (refine Dr.set ?_ ?_ _; rotate_left 1; (focus (first | omega | (dsimp only; omega) | (simp; done) | (simp; omega)))))) (by omega) (by omega) (by omega)).mono ?_
          rintro e w5 ⟨k5, rfl, k5a, k5b, D2, hgk5⟩
          replace D := D2
          clear D2
          replace V := IV.pkb V (by go_grown) hgk5 (by omega)
          have q5 := D.size
          go_wp2_with (at_builtin; refine wpList_append_IV (1 + k5) rfl _ _ rfl rfl (V.alloc _) rfl (by simp) (by omega) (by simp; omega) ?_; intro v6 w6 V6 hb6 hg6)
          have D6 := (D.alloc _).below hb6 (Nat.le_refl _) (by simp; omega)
          go_roundw
          case rel => exact ⟨k + 1, _, L ++ [1 + k5], by omega, by go_num, rfl, V6, szs_snoc HB.out (by omega) (by omega), D6.more (by omega)⟩
          case measure => simp [intOf]; omega
      · obtain rfl : k = n := by omega
        have hlen := V.len
        have q7 := D.size
        obtain ⟨A, c, rfl, S⟩ := V.open_
        go_wp2_with fail
        refine (pick_d (w := w) (g := g) (M := m + 4 + k) (n := 5) (by repeat (first | exact D | refine Dr.alloc ?_ _ | refine Dr.drew ?_ | (refine Dr.set ?_ ?_ _; rotate_left 1; (focus (first | omega | (dsimp only; omega) | (simp; done) | (simp; omega)))))) (by omega) (by omega) (by omega)).mono ?_
        rintro e w8 ⟨k8, rfl, k8a, k8b, D2, hgk8⟩
        replace D := D2
        clear D2
        replace S := IS.pkb S (by go_grown) hgk8 (by omega)
        go_wp2_with fail
        refine (pick_d (w := w) (g := g) (M := m + 4 + k + 1) (n := 24) (by repeat (first | exact D | refine Dr.alloc ?_ _ | refine Dr.drew ?_ | (refine Dr.set ?_ ?_ _; rotate_left 1; (focus (first | omega | (dsimp only; omega) | (simp; done) | (simp; omega)))))) (by omega) (by omega) (by omega)).mono ?_
        rintro e w9 ⟨k9, rfl, k9a, k9b, D2, hgk9⟩
        replace D := D2
        clear D2
        replace S := IS.pkb S (by go_grown) hgk9 (by omega)
        have hln : k = L.length := hlen.symm
        clear hlen
        subst hln
        by_cases h0 : k9 = 0
        · subst h0
          have X : Box (w9.alloc (.cells #[.int .i64 0, .int .i64 1, .int .i64 99, .int .i64 100] 3)) w9.heap.size 3 (([0, 1, 99, 100] : List Int).map (Value.int .i64)).toArray := Box.new w9 _ _
          have q9 := D.size
          go_wp2_with fail
          refine (pick_d (w := w) (g := g) (M := m + 4 + L.length + 1 + 1) (n := 4) (by repeat (first | exact D | refine Dr.alloc ?_ _ | refine Dr.drew ?_ | (refine Dr.set ?_ ?_ _; rotate_left 1; (focus (first | omega | (dsimp only; omega) | (simp; done) | (simp; omega)))))) (by omega) (by omega) (by omega)).mono ?_
          rintro e w10 ⟨k10, rfl, k10a, k10b, D2, hgk10⟩
          replace D := D2
          clear D2
          replace S := IS.pkb S (by go_grown) hgk10 (by omega)
          replace X := Box.pkb X (by go_grown) hgk10 (by omega)
          obtain ⟨x, hx, hcell⟩ := box_pick X k10a (by simpa using k10b)
          simp at hx
          go_wp2_with fail
          go_ret3
          exact ⟨L, x, 1 + k8, A, c, rfl, by omega, HB.out, by omega, by omega, by omega, by omega, S, D.more (by omega)⟩
        · have h0' : (k9 == 0) = false := by simpa using h0
          by_cases h1 : k9 = 1
          · subst h1
            have X : Box (w9.alloc (.cells #[.int .i64 0, .int .i64 20, .int .i64 21] 3)) w9.heap.size 3 (([0, 20, 21] : List Int).map (Value.int .i64)).toArray := Box.new w9 _ _
            have q9 := D.size
            go_wp2_with fail
            refine (pick_d (w := w) (g := g) (M := m + 4 + L.length + 1 + 1) (n := 3) (by repeat (first | exact D | refine Dr.alloc ?_ _ | refine Dr.drew ?_ | (refine Dr.set ?_ ?_ _; rotate_left 1; (focus (first | omega | (dsimp only; omega) | (simp; done) | (simp; omega)))))) (by omega) (by omega) (by omega)).mono ?_
            rintro e w10 ⟨k10, rfl, k10a, k10b, D2, hgk10⟩
            replace D := D2
            clear D2
            replace S := IS.pkb S (by go_grown) hgk10 (by omega)
            replace X := Box.pkb X (by go_grown) hgk10 (by omega)
            obtain ⟨x, hx, hcell⟩ := box_pick X k10a (by simpa using k10b)
            simp at hx
            go_wp2_with fail
            go_ret3
            exact ⟨L, 5 + k1, x, A, c, rfl, by omega, HB.out, by omega, by omega, by omega, by omega, S, D.more (by omega)⟩
          · have h1' : (k9 == 1) = false := by simpa using h1
            by_cases h2 : k9 = 2 ∧ 0 < L.length
            · obtain ⟨rfl, hp⟩ := h2
              obtain ⟨g1, rfl, hB1, _, _⟩ := S.at_ hp
              go_wp2_with fail
              refine (pick_d (w := w) (g := g) (M := m + 4 + L.length + 1 + 1) (n := L.length) (by repeat (first | exact D | refine Dr.alloc ?_ _ | refine Dr.drew ?_ | (refine Dr.set ?_ ?_ _; rotate_left 1; (focus (first | omega | (dsimp only; omega) | (simp; done) | (simp; omega)))))) (by omega) (by omega) (by omega)).mono ?_
              rintro e w10 ⟨k10, rfl, k10a, k10b, D2, hgk10⟩
              replace D := D2
              clear D2
              replace S := IS.pkb S (by go_grown) hgk10 (by omega)
              obtain ⟨j, rfl⟩ := Int.eq_ofNat_of_zero_le k10a
              go_wp2_with fail
              refine (pick_d (w := w) (g := g) (M := m + 4 + L.length + 1 + 1 + 1) (n := 2) (by repeat (first | exact D | refine Dr.alloc ?_ _ | refine Dr.drew ?_ | (refine Dr.set ?_ ?_ _; rotate_left 1; (focus (first | omega | (dsimp only; omega) | (simp; done) | (simp; omega)))))) (by omega) (by omega) (by omega)).mono ?_
              rintro e w11 ⟨k11, rfl, k11a, k11b, D2, hgk11⟩
              replace D := D2
              clear D2
              replace S := IS.pkb S (by go_grown) hgk11 (by omega)
              have hj : j < L.length := by omega
              obtain ⟨_, e1, _, _, hcell⟩ := S.at_ hp
              simp only [Option.some.injEq, Addr.mk.injEq, and_true] at e1
              subst e1
              have hcj := hcell j _ (List.getElem?_eq_getElem hj)
              have hfj := S.frozen j
              clear hcell
              rcases (show k11 = 0 ∨ k11 = 1 by omega) with rfl | rfl
              · go_wp2_with fail
                go_ret3
                refine ⟨L.set j 0, 5 + k1, 1 + k8, _, c, by simp; rfl, by simp; omega, szs_set HB.out (by omega) (by omega), by omega, by omega, by omega, by omega, ?_, (D.set hB1 _).more (by omega)⟩
                rw [List.length_set]
                exact S.set 0
              · go_wp2_with fail
                go_ret3
                refine ⟨L.set j (5 + k1 + 1), 5 + k1, 1 + k8, _, c, by simp; rfl, by simp; omega, szs_set HB.out (by omega) (by omega), by omega, by omega, by omega, by omega, ?_, (D.set hB1 _).more (by omega)⟩
                rw [List.length_set]
                exact S.set _
            · by_cases h3 : k9 = 2
              · subst h3
                have hp : ¬ (0 : Int) < (L.length : Int) := by omega
                go_wp2_with fail
                go_ret3
                exact ⟨L, 5 + k1, 1 + k8, A, c, rfl, by omega, HB.out, by omega, by omega, by omega, by omega, S, D.more (by omega)⟩
              · have h3' : (k9 == 2) = false := by simpa using h3
                go_wp2_with fail
                go_ret3
                exact ⟨L, 5 + k1, 1 + k8, A, c, rfl, by omega, HB.out, by omega, by omega, by omega, by omega, S, D.more (by omega)⟩

/-- Sizes and limits drawn out of a code. -/
def DrewBC (w : World) (e : Ending) (w' : World) : Prop :=
  ∃ (L : List Int) (b m : Int) (A : Option Addr) (c : Nat), e = .returned (.tuple #[.slice A L.length c, .int .i64 b, .int .i64 m]) ∧ L.length ≤ 21 ∧ (∀ x ∈ L, 0 ≤ x ∧ x ≤ 30) ∧ 0 ≤ b ∧ b ≤ 100 ∧ 0 ≤ m ∧ m ≤ 21 ∧
    IS w' w.heap.size A L.length c L ∧ Below w.heap.size w w'

set_option maxHeartbeats 1000000 in
theorem drawBC_c (A : Option Addr) (bs : List Int) (c : Nat) (w : World) (hm : (bs.length : Int) ≤ 9223372036854775807) (hlc : bs.length ≤ c) (hcm : (c : Int) ≤ 9223372036854775807) (hr : Rd w w.heap.size A (bs.map (Value.int .u8))) (hf : ∀ x ∈ bs, FitB x) :
    Calls Try.prog 11 #[.slice A bs.length c] w (DrewBC w) := by
  go_enter Try.func11, Try.ntmps11
  go_wp2_with fail
  refine (l6Open_c A bs c _ hm hlc hcm hr hf).mono ?_
  rintro e w1 ⟨rfl, hR, hb⟩
  go_wp2_with fail
  refine (l91Sizes_c w.heap.size 0 _ hR (by omega)).mono ?_
  rintro e w2 ⟨L, b, m, A2, c2, rfl, h1, h2, h3, h4, h5, h6, S, D⟩
  have hs := hb.size
  go_wp2_with fail
  go_ret3
  exact ⟨L, b, m, A2, c2, rfl, h1, h2, h3, h4, h5, h6, S.mono hs, below_grown hb D.2.1 (fun g e => by cases e; exact Nat.le_refl _) hs⟩
end Go.Proofs.Ytelapagdbmlnhaa
