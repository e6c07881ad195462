/- Contracts: the draws of lengths and live copies. -/
import Derived.Test.YtdbolfdpaihfiaaDr
import Derived.Deep.DeepCutAuto
import Derived.Deep.RegionWith
namespace Go.Proofs.Ytdbolfdpaihfiaa
set_option linter.unusedVariables false
open Go.RowKit

theorem box_pick {w : World} {b : Nat} {t : TypeId} {xs : List Int} (h : Box w b t (xs.map (Value.int .i64)).toArray) {k : Int} (h0 : 0 ≤ k) (h1 : k < xs.length) : ∃ x, x ∈ xs ∧ w.cell? ⟨b, k.toNat, none⟩ = some (.int .i64 x) := by
  have hk : k.toNat < xs.length := by omega
  refine ⟨xs[k.toNat], List.getElem_mem hk, ?_⟩
  rw [h.cell]
  simp [hk]
theorem szs_snoc {L : List Int} {x lo hi : Int} (h : ∀ y ∈ L, lo ≤ y ∧ y ≤ hi) (h0 : lo ≤ x) (h1 : x ≤ hi) : ∀ y ∈ L ++ [x], lo ≤ y ∧ y ≤ hi := by
  intro y hy
  rcases List.mem_append.1 hy with hy | hy
  · exact h y hy
  · obtain rfl : y = x := by simpa using hy
    exact ⟨h0, h1⟩

/-- Drawn ints. -/
def DrewIs (w : World) (g M n : Nat) (lo hi : Int) (e : Ending) (w' : World) : Prop :=
  ∃ (L : List Int) (A : Option Addr) (c : Nat), e = .returned (.slice A L.length c) ∧ L.length ≤ n ∧ (∀ x ∈ L, lo ≤ x ∧ x ≤ hi) ∧ IS w' w.heap.size A L.length c L ∧ Dr w g M w'

set_option maxHeartbeats 8000000 in
theorem l91Lengths_c (g m : Nat) (w : World) (hr : Rdr w g m) (hm : m ≤ 900000) : Calls Try.prog 26 #[.pointer (some ⟨g, 0, none⟩)] w (DrewIs w g (m + 40) 14 (-1) 100) := by
  have D := Dr.start hr
  have lg := D.lt
  have V : IV (w.alloc (.cells #[] 3)) w.heap.size (.slice (some ⟨w.heap.size, 0, none⟩) 0 0) 0 [] := (IS.full (xs := []) (Box.new w _ _) (by omega) (Nat.zero_le _)).iv
  go_enter Try.func26, Try.ntmps26
  go_wp2
  go_loopw [3, 4] (fun o i wr => ∃ (k : Nat) (v : Value) (L : List Int), k ≤ 7 ∧ i = .int .i64 k ∧ o = v ∧ IV wr w.heap.size v k L ∧ Hid (∀ x ∈ L, -1 ≤ x ∧ x ≤ 100) ∧ Dr w g (m + 3 * k) wr)
    (fun _ i _ => 8 - (intOf i).toNat)
  case atStart => exact ⟨0, _, [], by omega, rfl, rfl, V, by simp [Hid], D.alloc _⟩
  case round =>
    clear V D
    obtain ⟨k, v, L, hk, rfl, rfl, V, HB, D⟩ := hrel
    go_wp2_with fail
    refine (pick_d (w := w) (g := g) (M := m + 3 * k) (n := 7) (by repeat (first | exact D | refine Dr.alloc ?_ _ | refine Dr.drew ?_ | (refine Dr.set ?_ ?_ _; rotate_left 1; (focus (first | omega | (dsimp only; omega) | (simp; done) | (simp; omega)))))) (by omega) (by omega) (by omega)).mono ?_
    rintro e w1 ⟨k1, rfl, k1a, k1b, D2, hgk1⟩
    replace D := D2
    clear D2
    replace V := IV.pkb V (by go_grown) hgk1 (by omega)
    by_cases hlt : (k : Int) < 1 + k1
    · go_wp2_with fail
      refine (pick_d (w := w) (g := g) (M := m + 3 * k + 1) (n := 9) (by repeat (first | exact D | refine Dr.alloc ?_ _ | refine Dr.drew ?_ | (refine Dr.set ?_ ?_ _; rotate_left 1; (focus (first | omega | (dsimp only; omega) | (simp; done) | (simp; omega)))))) (by omega) (by omega) (by omega)).mono ?_
      rintro e w2 ⟨k2, rfl, k2a, k2b, D2, hgk2⟩
      replace D := D2
      clear D2
      replace V := IV.pkb V (by go_grown) hgk2 (by omega)
      go_wp2_with fail
      refine (pick_d (w := w) (g := g) (M := m + 3 * k + 1 + 1) (n := 8) (by repeat (first | exact D | refine Dr.alloc ?_ _ | refine Dr.drew ?_ | (refine Dr.set ?_ ?_ _; rotate_left 1; (focus (first | omega | (dsimp only; omega) | (simp; done) | (simp; omega)))))) (by omega) (by omega) (by omega)).mono ?_
      rintro e w3 ⟨k3, rfl, k3a, k3b, D2, hgk3⟩
      replace D := D2
      clear D2
      replace V := IV.pkb V (by go_grown) hgk3 (by omega)
      have q3 := D.size
      rcases (show k3 / 7 = 0 ∨ k3 / 7 = 1 by omega) with h7 | h7
      · go_wp2_with (at_builtin; refine wpList_append_IV k2 rfl _ _ rfl rfl (V.alloc _) rfl (by simp) (by omega) (by simp; omega) ?_; intro v6 w6 V6 hb6 hg6)
        have D6 := (D.alloc _).below hb6 (Nat.le_refl _) (by simp; omega)
        go_roundw
        case rel => exact ⟨k + 1, _, _, by omega, by go_num, rfl, V6, szs_snoc HB.out (by omega) (by omega), D6.more (by omega)⟩
        case measure => simp [intOf]; omega
      · go_wp2_with (at_builtin; refine wpList_append_IV (k2 + 90) rfl _ _ rfl rfl (V.alloc _) rfl (by simp) (by omega) (by simp; omega) ?_; intro v6 w6 V6 hb6 hg6)
        have D6 := (D.alloc _).below hb6 (Nat.le_refl _) (by simp; omega)
        go_roundw
        case rel => exact ⟨k + 1, _, _, by omega, by go_num, rfl, V6, szs_snoc HB.out (by omega) (by omega), D6.more (by omega)⟩
        case measure => simp [intOf]; omega
    · have hlen := V.len
      have hk1 : 1 ≤ k := by omega
      obtain ⟨A, c, rfl, S⟩ := V.open_
      go_wp2_with fail
      refine (pick_d (w := w) (g := g) (M := m + 3 * k + 1) (n := 20) (by repeat (first | exact D | refine Dr.alloc ?_ _ | refine Dr.drew ?_ | (refine Dr.set ?_ ?_ _; rotate_left 1; (focus (first | omega | (dsimp only; omega) | (simp; done) | (simp; omega)))))) (by omega) (by omega) (by omega)).mono ?_
      rintro e w8 ⟨k8, rfl, k8a, k8b, D2, hgk8⟩
      replace D := D2
      clear D2
      replace S := IS.pkb S (by go_grown) hgk8 (by omega)
      have hln : k = L.length := hlen.symm
      clear hlen
      subst hln
      by_cases h0 : k8 = 0
      · subst h0
        go_wp2_with fail
        refine (pick_d (w := w) (g := g) (M := m + 3 * L.length + 1 + 1) (n := L.length) (by repeat (first | exact D | refine Dr.alloc ?_ _ | refine Dr.drew ?_ | (refine Dr.set ?_ ?_ _; rotate_left 1; (focus (first | omega | (dsimp only; omega) | (simp; done) | (simp; omega)))))) (by omega) (by omega) (by omega)).mono ?_
        rintro e w9 ⟨k9, rfl, k9a, k9b, D2, hgk9⟩
        replace D := D2
        clear D2
        replace S := IS.pkb S (by go_grown) hgk9 (by omega)
        obtain ⟨j, rfl⟩ := Int.eq_ofNat_of_zero_le k9a
        have hj : j < L.length := by omega
        have X : Box (w9.alloc (.cells #[.int .i64 (-1), .int .i64 99, .int .i64 100] 3)) w9.heap.size 3 (([-1, 99, 100] : List Int).map (Value.int .i64)).toArray := Box.new w9 _ _
        have q9 := D.size
        go_wp2_with fail
        refine (pick_d (w := w) (g := g) (M := m + 3 * L.length + 1 + 1 + 1) (n := 3) (by repeat (first | exact D | refine Dr.alloc ?_ _ | refine Dr.drew ?_ | (refine Dr.set ?_ ?_ _; rotate_left 1; (focus (first | omega | (dsimp only; omega) | (simp; done) | (simp; omega)))))) (by omega) (by omega) (by omega)).mono ?_
        rintro e w10 ⟨k10, rfl, k10a, k10b, D2, hgk10⟩
        replace D := D2
        clear D2
        replace S := IS.pkb S (by go_grown) hgk10 (by omega)
        replace X := Box.pkb X (by go_grown) hgk10 (by omega)
        obtain ⟨x, hx, hcell⟩ := box_pick X k10a (by simpa using k10b)
        simp at hx
        obtain ⟨g1, rfl, hB1, _, hc1⟩ := S.at_ (by omega)
        have hcj := hc1 j _ (List.getElem?_eq_getElem hj)
        have hfj := S.frozen j
        clear hc1
        go_wp2_with fail
        go_ret
        refine ⟨L.set j x, _, c, by simp; rfl, by rw [List.length_set]; omega, ?_, ?_, (D.set hB1 _).more (by omega)⟩
        · intro y hy
          rcases List.mem_or_eq_of_mem_set hy with hy | rfl
          · exact HB.out y hy
          · omega
        · rw [List.length_set]
          exact S.set x
      · have h0' : (k8 == 0) = false := by simpa using h0
        by_cases h1 : k8 = 1
        · subst h1
          have q8 := D.size
          obtain ⟨g1, rfl, hB1, _, _⟩ := S.at_ (by omega)
          have RS := S.rd
          have V := S.iv
          go_wp2_with (at_builtin; refine wpList_append_IVs L rfl _ _ rfl rfl V rfl rfl RS (by omega) (by omega) ?_; intro v6 w6 V6 hb6 hg6)
          have D6 := D.below hb6 (Nat.le_refl _) (by omega)
          obtain ⟨A, c6, rfl, S6⟩ := V6.open_
          go_wp2_with fail
          go_ret
          have e1 : (L ++ L).length = L.length + L.length := by simp
          refine ⟨L ++ L, A, c6, by rw [e1]; rfl, by omega, ?_, by rw [e1]; exact S6, D6.more (by omega)⟩
          intro y hy
          rcases List.mem_append.1 hy with hy | hy <;> exact HB.out y hy
        · have h1' : (k8 == 1) = false := by simpa using h1
          go_wp2_with fail
          go_ret
          exact ⟨L, A, c, rfl, by omega, HB.out, S, D.more (by omega)⟩

set_option maxHeartbeats 8000000 in
theorem l91Live_c (g m n : Nat) (w : World) (hr : Rdr w g m) (hm : m ≤ 900000) (hn : n ≤ 100) : Calls Try.prog 32 #[.pointer (some ⟨g, 0, none⟩), .int .i64 n] w (DrewIs w g (m + n + 2) (n + 1) (-1) 100) := by
  have D := Dr.start hr
  have lg := D.lt
  have V : IV (w.alloc (.cells #[] 3)) w.heap.size (.slice (some ⟨w.heap.size, 0, none⟩) 0 0) 0 [] := (IS.full (xs := []) (Box.new w _ _) (by omega) (Nat.zero_le _)).iv
  go_enter Try.func32, Try.ntmps32
  go_wp2
  go_loopw [5, 6] (fun o i wr => ∃ (k l : Nat) (v : Value) (L : List Int), k ≤ n ∧ i = .int .i64 k ∧ o = v ∧ l ≤ k ∧ IV wr w.heap.size v l L ∧ Hid (∀ x ∈ L, -1 ≤ x ∧ x ≤ 100) ∧ Dr w g (m + k) wr)
    (fun _ i _ => n - (intOf i).toNat)
  case atStart => exact ⟨0, 0, _, [], by omega, rfl, rfl, Nat.le_refl _, V, by simp [Hid], D.alloc _⟩
  case round =>
    clear V D
    obtain ⟨k, l, v, L, hk, rfl, rfl, hl, V, HB, D⟩ := hrel
    by_cases hlt : k < n
    · go_wp2_with fail
      refine (pick_d (w := w) (g := g) (M := m + k) (n := 4) (by repeat (first | exact D | refine Dr.alloc ?_ _ | refine Dr.drew ?_ | (refine Dr.set ?_ ?_ _; rotate_left 1; (focus (first | omega | (dsimp only; omega) | (simp; done) | (simp; omega)))))) (by omega) (by omega) (by omega)).mono ?_
      rintro e w1 ⟨k1, rfl, k1a, k1b, D2, hgk1⟩
      replace D := D2
      clear D2
      replace V := IV.pkb V (by go_grown) hgk1 (by omega)
      have q1 := D.size
      by_cases h0 : 0 < k1
      · go_wp2_with (at_builtin; refine wpList_append_IV (k : Int) rfl _ _ rfl rfl (V.alloc _) rfl (by simp) (by omega) (by simp; omega) ?_; intro v6 w6 V6 hb6 hg6)
        have D6 := (D.alloc _).below hb6 (Nat.le_refl _) (by simp; omega)
        go_roundw
        case rel => exact ⟨k + 1, l + 1, _, _, by omega, by go_num, rfl, by omega, V6, szs_snoc HB.out (by omega) (by omega), D6.more (by omega)⟩
        case measure => simp [intOf]; omega
      · have h0' : ¬ 0 < k1 := h0
        go_wp2_with fail
        go_roundw
        case rel => exact ⟨k + 1, l, _, L, by omega, by go_num, rfl, by omega, V, HB, D.more (by omega)⟩
        case measure => simp [intOf]; omega
    · obtain rfl : k = n := by omega
      go_wp2_with fail
      refine (pick_d (w := w) (g := g) (M := m + k) (n := 20) (by repeat (first | exact D | refine Dr.alloc ?_ _ | refine Dr.drew ?_ | (refine Dr.set ?_ ?_ _; rotate_left 1; (focus (first | omega | (dsimp only; omega) | (simp; done) | (simp; omega)))))) (by omega) (by omega) (by omega)).mono ?_
      rintro e w1 ⟨k1, rfl, k1a, k1b, D2, hgk1⟩
      replace D := D2
      clear D2
      replace V := IV.pkb V (by go_grown) hgk1 (by omega)
      have hlen := V.len
      by_cases h0 : k1 = 0
      · subst h0
        go_wp2_with fail
        refine (pick_d (w := w) (g := g) (M := m + k + 1) (n := 9) (by repeat (first | exact D | refine Dr.alloc ?_ _ | refine Dr.drew ?_ | (refine Dr.set ?_ ?_ _; rotate_left 1; (focus (first | omega | (dsimp only; omega) | (simp; done) | (simp; omega)))))) (by omega) (by omega) (by omega)).mono ?_
        rintro e w2 ⟨k2, rfl, k2a, k2b, D2, hgk2⟩
        replace D := D2
        clear D2
        replace V := IV.pkb V (by go_grown) hgk2 (by omega)
        have q2 := D.size
        go_wp2_with (at_builtin; refine wpList_append_IV (k2 - 1) rfl _ _ rfl rfl (V.alloc _) rfl (by simp) (by omega) (by simp; omega) ?_; intro v6 w6 V6 hb6 hg6)
        have D6 := (D.alloc _).below hb6 (Nat.le_refl _) (by simp; omega)
        have e1 : (L ++ [k2 - 1]).length = l + 1 := by simp [hlen]
        obtain ⟨A, c6, rfl, S6⟩ := V6.open_
        go_wp2_with fail
        go_ret
        exact ⟨L ++ [k2 - 1], A, c6, by rw [e1]; rfl, by omega, szs_snoc HB.out (by omega) (by omega), by rw [e1]; exact S6, D6.more (by omega)⟩
      · have h0' : (k1 == 0) = false := by simpa using h0
        obtain ⟨A, c6, rfl, S6⟩ := V.open_
        go_wp2_with fail
        go_ret
        exact ⟨L, A, c6, by rw [hlen]; rfl, by omega, HB.out, by rw [hlen]; exact S6, D.more (by omega)⟩

/-- Lengths drawn out of a code. -/
def DrewCI (w : World) (e : Ending) (w' : World) : Prop :=
  ∃ (L : List Int) (A : Option Addr) (c : Nat), e = .returned (.slice A L.length c) ∧ L.length ≤ 14 ∧ (∀ x ∈ L, -1 ≤ x ∧ x ≤ 100) ∧ IS w' w.heap.size A L.length c L ∧ Below w.heap.size w w'
/-- Lengths and live copies drawn out of a code. -/
def DrewCL (w : World) (e : Ending) (w' : World) : Prop :=
  ∃ (L : List Int) (A : Option Addr) (c : Nat) (Y : List Int) (A' : Option Addr) (c' : Nat), e = .returned (.tuple #[.slice A L.length c, .slice A' Y.length c']) ∧ L.length ≤ 14 ∧ (∀ x ∈ L, -1 ≤ x ∧ x ≤ 100) ∧ Y.length ≤ 20 ∧ (∀ x ∈ Y, -1 ≤ x ∧ x ≤ 100) ∧
    IS w' w.heap.size A L.length c L ∧ IS w' w.heap.size A' Y.length c' Y ∧ Below w.heap.size w w'
/-- Lengths and a length drawn out of a code. -/
def DrewCN (w : World) (e : Ending) (w' : World) : Prop :=
  ∃ (L : List Int) (A : Option Addr) (c : Nat) (n : Int), e = .returned (.tuple #[.slice A L.length c, .int .i64 n]) ∧ L.length ≤ 14 ∧ (∀ x ∈ L, -1 ≤ x ∧ x ≤ 100) ∧ -1 ≤ n ∧ n ≤ 100 ∧ IS w' w.heap.size A L.length c L ∧ Below w.heap.size w w'

set_option maxHeartbeats 1000000 in
theorem drawCI_c (A : Option Addr) (bs : List Int) (c : Nat) (w : World) (hm : (bs.length : Int) ≤ 9223372036854775807) (hlc : bs.length ≤ c) (hcm : (c : Int) ≤ 9223372036854775807) (hr : Rd w w.heap.size A (bs.map (Value.int .u8))) (hf : ∀ x ∈ bs, FitB x) :
    Calls Try.prog 10 #[.slice A bs.length c] w (DrewCI w) := by
  go_enter Try.func10, Try.ntmps10
  go_wp2_with fail
  refine (l6Open_c A bs c _ hm hlc hcm hr hf).mono ?_
  rintro e w1 ⟨rfl, hR, hb⟩
  go_wp2_with fail
  refine (l91Lengths_c w.heap.size 0 _ hR (by omega)).mono ?_
  rintro e w2 ⟨L, A2, c2, rfl, h1, h2, S, D⟩
  have hs := hb.size
  have H2 : Hid _ := h2
  clear h2
  go_wp2_with fail
  go_ret
  exact ⟨L, A2, c2, rfl, h1, H2.out, S.mono hs, below_grown hb D.2.1 (fun g e => by cases e; exact Nat.le_refl _) hs⟩

set_option maxHeartbeats 1000000 in
theorem drawCL_c (A : Option Addr) (bs : List Int) (c : Nat) (w : World) (hm : (bs.length : Int) ≤ 9223372036854775807) (hlc : bs.length ≤ c) (hcm : (c : Int) ≤ 9223372036854775807) (hr : Rd w w.heap.size A (bs.map (Value.int .u8))) (hf : ∀ x ∈ bs, FitB x) :
    Calls Try.prog 14 #[.slice A bs.length c] w (DrewCL w) := by
  go_enter Try.func14, Try.ntmps14
  go_wp2_with fail
  refine (l6Open_c A bs c _ hm hlc hcm hr hf).mono ?_
  rintro e w1 ⟨rfl, hR, hb⟩
  go_wp2_with fail
  refine (l91Lengths_c w.heap.size 0 _ hR (by omega)).mono ?_
  rintro e w2 ⟨L, A2, c2, rfl, h1, h2, S, D⟩
  have hs := hb.size
  have lg := D.lt
  have q2 := D.size
  have H2 : Hid _ := h2
  clear h2
  go_wp2_with fail
  refine (l91Live_c w.heap.size 40 L.length _ (D.1.more (by omega)) (by omega) (by omega)).mono ?_
  rintro e w3 ⟨Y, A3, c3, rfl, h3, h4, S3, D3⟩
  have D4 := D.trans D3
  replace S := S.pk D3.2.1 lg
  have H4 : Hid _ := h4
  clear h4
  go_wp2_with fail
  go_ret2
  exact ⟨L, A2, c2, Y, A3, c3, rfl, h1, H2.out, by omega, H4.out, S.mono hs, S3.mono (by omega), below_grown hb D4.2.1 (fun g e => by cases e; exact Nat.le_refl _) hs⟩

set_option maxHeartbeats 1000000 in
theorem drawCR_c (A : Option Addr) (bs : List Int) (c : Nat) (w : World) (hm : (bs.length : Int) ≤ 9223372036854775807) (hlc : bs.length ≤ c) (hcm : (c : Int) ≤ 9223372036854775807) (hr : Rd w w.heap.size A (bs.map (Value.int .u8))) (hf : ∀ x ∈ bs, FitB x) :
    Calls Try.prog 18 #[.slice A bs.length c] w (DrewCL w) := by
  go_enter Try.func18, Try.ntmps18
  go_wp2_with fail
  refine (drawCL_c A bs c _ hm hlc hcm hr hf).mono ?_
  rintro e w1 ⟨L, A2, c2, Y, A3, c3, rfl, h⟩
  have H : Hid _ := h
  clear h
  go_wp2_with fail
  go_ret2
  exact ⟨L, A2, c2, Y, A3, c3, rfl, H.out⟩

set_option maxHeartbeats 1000000 in
theorem drawCN_c (A : Option Addr) (bs : List Int) (c : Nat) (w0 : World) (hm : (bs.length : Int) ≤ 9223372036854775807) (hlc : bs.length ≤ c) (hcm : (c : Int) ≤ 9223372036854775807) (hr : Rd w0 w0.heap.size A (bs.map (Value.int .u8))) (hf : ∀ x ∈ bs, FitB x) :
    Calls Try.prog 24 #[.slice A bs.length c] w0 (DrewCN w0) := by
  go_enter Try.func24, Try.ntmps24
  go_wp2_with fail
  refine (l6Open_c A bs c _ hm hlc hcm hr hf).mono ?_
  rintro e w ⟨rfl, hR, hb0⟩
  have q1 := hb0.size
  have fin : ∀ (L : List Int) (A : Option Addr) (c : Nat) (n : Int) (M : Nat) (w' : World), L.length ≤ 14 → (∀ x ∈ L, -1 ≤ x ∧ x ≤ 100) → -1 ≤ n → n ≤ 100 → IS w' w.heap.size A L.length c L → Dr w w0.heap.size M w' → DrewCN w0 (.returned (.tuple #[.slice A L.length c, .int .i64 n])) w' :=
    fun L A c n M w' h1 h2 h3 h4 S D => ⟨L, A, c, n, rfl, h1, h2, h3, h4, S.mono q1, below_grown hb0 D.2.1 (fun g e => by cases e; exact Nat.le_refl _) q1⟩
  have FIN : Hid _ := fin
  clear hb0 fin q1
  generalize w0.heap.size = g at hR FIN ⊢
  go_wp2_with fail
  refine (l91Lengths_c g 0 _ hR (by omega)).mono ?_
  rintro e w2 ⟨L, A2, c2, rfl, h1, h2, S, D⟩
  have lg := D.lt
  have H2 : Hid _ := h2
  clear h2
  go_wp2_with fail
  refine (pick_d (w := w) (g := g) (M := 0 + 40) (n := 11) (by repeat (first | exact D | refine Dr.alloc ?_ _ | refine Dr.drew ?_ | (refine Dr.set ?_ ?_ _; rotate_left 1; (focus (first | omega | (dsimp only; omega) | (simp; done) | (simp; omega)))))) (by omega) (by omega) (by omega)).mono ?_
  rintro e w3 ⟨k3, rfl, k3a, k3b, D2, hgk3⟩
  replace D := D2
  clear D2
  replace S := IS.pkb S (by go_grown) hgk3 (by omega)
  go_wp2_with fail
  refine (pick_d (w := w) (g := g) (M := 0 + 40 + 1) (n := 20) (by repeat (first | exact D | refine Dr.alloc ?_ _ | refine Dr.drew ?_ | (refine Dr.set ?_ ?_ _; rotate_left 1; (focus (first | omega | (dsimp only; omega) | (simp; done) | (simp; omega)))))) (by omega) (by omega) (by omega)).mono ?_
  rintro e w4 ⟨k4, rfl, k4a, k4b, D2, hgk4⟩
  replace D := D2
  clear D2
  replace S := IS.pkb S (by go_grown) hgk4 (by omega)
  rcases (show k4 / 19 = 0 ∨ k4 / 19 = 1 by omega) with h7 | h7
  · go_wp2_with fail
    go_ret2
    exact FIN.out L A2 c2 (k3 - 1) _ _ h1 H2.out (by omega) (by omega) S D
  · go_wp2_with fail
    go_ret2
    exact FIN.out L A2 c2 (k3 - 1 + 90) _ _ h1 H2.out (by omega) (by omega) S D
end Go.Proofs.Ytdbolfdpaihfiaa
