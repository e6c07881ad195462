/- Contracts: slices of ints are copied, compared, marked, looked up. -/
import Derived.Test.YtbdboekjcgefhaaIs
import Derived.Test.YtbdboekjcgefhaaPlainG
import Derived.WalkSpells
import Derived.WalkLawsBesides
import Derived.BigGuardPart
import Derived.Handy
namespace Go.Proofs.Ytbdboekjcgefhaa
set_option linter.unusedVariables false
open Go.RowKit

theorem infoInt : (Try.prog.info? 3).map (fun i => (i.zero, i.size, i.bytes)) = some (some (.int .i64 0), 1, 8) := by kernel_rfl

theorem mkInts (xs : List Int) (hn : xs.length ≤ 1048576) (W : World) :
    (Instr.makeSlice 24 (.int .i64 (xs.length : Int)) (.int .i64 (xs.length : Int))).run Try.prog W = .ok (.slice (some ⟨W.heap.size, 0, none⟩) xs.length xs.length) (W.alloc (.cells (fillI xs 0).toArray 3)) := by
  obtain ⟨i0, hi, hz0, hz1, hz2⟩ := info_parts infoInt
  have h := run_make (P := Try.prog) W 24 3 i0 _ Try.underlying24 hi hz0 .i64 .i64 xs.length xs.length (by omega) (by omega) (by rw [hz2]; omega) (by omega)
  rw [hz1] at h
  rw [fillI_zero, ← made_ints]
  simpa [Value.cells] using h

/-- A new slice of ints. -/
def NewI (xs : List Int) (w : World) (e : Ending) (w' : World) : Prop :=
  ∃ A c, e = .returned (.slice A xs.length c) ∧ IS w' w.heap.size A xs.length c xs ∧ Below w.heap.size w w'

set_option maxHeartbeats 1000000 in
theorem toIntS_c (A : Option Addr) (xs : List Int) (c : Nat) (w : World) (hn : xs.length ≤ 1048576) (hr : Rd w w.heap.size A (xs.map (Value.int .i64))) :
    Calls Try.prog 31 #[.slice A xs.length c] w (NewI xs w) := by
  have hmk := mkInts xs hn
  go_enter Try.func31, Try.ntmps31
  go_wp2
  go_loopw [4] (fun i wr => ∃ k : Nat, k ≤ xs.length ∧ i = .int .i64 k ∧ Box wr w.heap.size 3 (fillI xs k).toArray ∧ Below w.heap.size w wr)
    (fun i _ => xs.length - (intOf i).toNat)
  case atStart => exact ⟨0, Nat.zero_le _, rfl, Box.new _ _ _, by go_grown⟩
  case round =>
    obtain ⟨k, hk, rfl, B0, hw⟩ := hrel
    have l0 := B0.lt
    by_cases hlt : k < xs.length
    · obtain ⟨b, o, x, rfl, hb, hx, d0⟩ := (hr.below hw).int' hlt
      have hl := fillI_length xs k hk
      have q0 : ∃ u, wr.cell? ⟨w.heap.size, k, none⟩ = some u := ⟨_, (B0.cell _).trans (by simp only [List.getElem?_toArray]; exact List.getElem?_eq_getElem (by omega))⟩
      obtain ⟨u0, q0⟩ := q0
      have z0 := B0.frozen k
      have hbw : b < wr.heap.size := by have := hw.size; omega
      have HW : Hid _ := hw
      have HL : Hid _ := hl
      clear hw hl
      go_wp2_with fail
      go_roundw
      case rel =>
        refine ⟨k + 1, by omega, by go_num, ?_, ?_⟩
        · have := B0.list_set k (.int .i64 x)
          rw [fillI_step hx.out] at this
          exact this
        · have hw := HW.out
          go_grown
      case measure => simp [intOf]; omega
    · obtain rfl : k = xs.length := by omega
      rw [fillI_full] at B0
      go_wp2
      go_ret
      exact ⟨_, _, rfl, IS.full B0 (Nat.le_refl _) (by unfold maxLen; omega), hw⟩

set_option maxHeartbeats 1000000 in
theorem eqIntS_c (A A' : Option Addr) (xs : List Int) (c c' : Nat) (w : World) (hn : (xs.length : Int) ≤ 9223372036854775807) (hr : Rd w w.heap.size A (xs.map (Value.int .i64))) (hr' : Rd w w.heap.size A' (xs.map (Value.int .i64))) :
    Calls Try.prog 15 #[.slice A xs.length c, .slice A' xs.length c'] w fun e w' => e = .returned (.bool true) ∧ Below w.heap.size w w' := by
  go_enter Try.func15, Try.ntmps15
  go_wp2
  go_loopw [5] (fun i wr => ∃ k : Nat, k ≤ xs.length ∧ i = .int .i64 k ∧ Below w.heap.size w wr)
    (fun i _ => xs.length - (intOf i).toNat)
  case atStart => exact ⟨0, Nat.zero_le _, rfl, by go_grown⟩
  case round =>
    obtain ⟨k, hk, rfl, hw⟩ := hrel
    by_cases hlt : k < xs.length
    · obtain ⟨b, o, x, rfl, hb, hx, d0⟩ := (hr.below hw).int' hlt
      obtain ⟨b', o', x', rfl, hb', hx', e0⟩ := (hr'.below hw).int' hlt
      obtain rfl : x = x' := by
        have := hx.out.symm.trans hx'.out
        simpa using this
      clear hx hx'
      have hbw : b < wr.heap.size := by have := hw.size; omega
      have hbw' : b' < wr.heap.size := by have := hw.size; omega
      have i1 : (0 : Int) ≤ (k : Int) := by omega
      have i2 : (k : Int) < (xs.length : Int) := by omega
      have HW : Hid _ := hw
      clear hw
      go_wp2_with fail
      refine wp_region_ext (by first | with_reducible assumption | exact Below.refl _ _) (by kernel_rfl) (by kernel_rfl) ?_
      intro hx hx2
      repeat (go_big_quiet_step (fail))
      refine wpQuiet_nil ?_
      clear hx hx2
      rintro _ ⟨⟨w1, hb⟩, rfl⟩
      have hK := bt (by first | with_reducible assumption | exact Below.refl _ _) hb
      have hc := bcell hK
      have hf := bfrozen hK
      have hs := bsize hK
      clear hb
      (try (refine bw (w := w) hK ?_ ?_; (focus (first | exact HW.out | (have hq := HW.out; go_grown; done) | (go_grown; done))); intro hw hwz; have hK := hK))
      (try (refine bz hK (w.heap.size) ?_ ?_; (focus (first | omega | (simp; done) | (simp; omega))); intro hz0 hd0 hg0))
      (try (refine bz hK (w.heap.size + 1) ?_ ?_; (focus (first | omega | (simp; done) | (simp; omega))); intro hz1 hd1 hg1))
      (try (refine bz hK (w.heap.size + 2) ?_ ?_; (focus (first | omega | (simp; done) | (simp; omega))); intro hz2 hd2 hg2))
      (try (refine bz hK (w.heap.size + 3) ?_ ?_; (focus (first | omega | (simp; done) | (simp; omega))); intro hz3 hd3 hg3))
      (try (refine bz hK g ?_ ?_; (focus (first | omega | (simp; done) | (simp; omega))); intro hzg hdg hgg))
      (try (refine bz hK g1 ?_ ?_; (focus (first | omega | (simp; done) | (simp; omega))); intro hzg hdg hgg))
      (try (refine bz hK g2 ?_ ?_; (focus (first | omega | (simp; done) | (simp; omega))); intro hzg hdg hgg))
      go_wp2
      go_roundw
      case rel => exact ⟨k + 1, by omega, by go_num, bt HW.out hK⟩
      case measure => simp [intOf]; omega
    · obtain rfl : k = xs.length := by omega
      go_wp2
      go_ret
      exact ⟨rfl, hw⟩

set_option maxHeartbeats 1000000 in
theorem sameInts_c (A A' : Option Addr) (xs : List Int) (c c' : Nat) (w : World) (hn : (xs.length : Int) ≤ 9223372036854775807) (hr : Rd w w.heap.size A (xs.map (Value.int .i64))) (hr' : Rd w w.heap.size A' (xs.map (Value.int .i64))) :
    Calls Try.prog 21 #[.slice A xs.length c, .slice A' xs.length c'] w fun e w' => e = .returned (.bool true) ∧ Below w.heap.size w w' := by
  go_enter Try.func21, Try.ntmps21
  go_wp2
  go_loopw [5] (fun i wr => ∃ k : Nat, k ≤ xs.length ∧ i = .int .i64 k ∧ Below w.heap.size w wr)
    (fun i _ => xs.length - (intOf i).toNat)
  case atStart => exact ⟨0, Nat.zero_le _, rfl, by go_grown⟩
  case round =>
    obtain ⟨k, hk, rfl, hw⟩ := hrel
    by_cases hlt : k < xs.length
    · obtain ⟨b, o, x, rfl, hb, hx, d0⟩ := (hr.below hw).int' hlt
      obtain ⟨b', o', x', rfl, hb', hx', e0⟩ := (hr'.below hw).int' hlt
      obtain rfl : x = x' := by
        have := hx.out.symm.trans hx'.out
        simpa using this
      clear hx hx'
      have hbw : b < wr.heap.size := by have := hw.size; omega
      have hbw' : b' < wr.heap.size := by have := hw.size; omega
      have i1 : (0 : Int) ≤ (k : Int) := by omega
      have i2 : (k : Int) < (xs.length : Int) := by omega
      have HW : Hid _ := hw
      clear hw
      go_wp2_with fail
      refine wp_region_ext (by first | with_reducible assumption | exact Below.refl _ _) (by kernel_rfl) (by kernel_rfl) ?_
      intro hx hx2
      repeat (go_big_quiet_step (fail))
      refine wpQuiet_nil ?_
      clear hx hx2
      rintro _ ⟨⟨w1, hb⟩, rfl⟩
      have hK := bt (by first | with_reducible assumption | exact Below.refl _ _) hb
      have hc := bcell hK
      have hf := bfrozen hK
      have hs := bsize hK
      clear hb
      (try (refine bw (w := w) hK ?_ ?_; (focus (first | exact HW.out | (have hq := HW.out; go_grown; done) | (go_grown; done))); intro hw hwz; have hK := hK))
      (try (refine bz hK (w.heap.size) ?_ ?_; (focus (first | omega | (simp; done) | (simp; omega))); intro hz0 hd0 hg0))
      (try (refine bz hK (w.heap.size + 1) ?_ ?_; (focus (first | omega | (simp; done) | (simp; omega))); intro hz1 hd1 hg1))
      (try (refine bz hK (w.heap.size + 2) ?_ ?_; (focus (first | omega | (simp; done) | (simp; omega))); intro hz2 hd2 hg2))
      (try (refine bz hK (w.heap.size + 3) ?_ ?_; (focus (first | omega | (simp; done) | (simp; omega))); intro hz3 hd3 hg3))
      (try (refine bz hK g ?_ ?_; (focus (first | omega | (simp; done) | (simp; omega))); intro hzg hdg hgg))
      (try (refine bz hK g1 ?_ ?_; (focus (first | omega | (simp; done) | (simp; omega))); intro hzg hdg hgg))
      (try (refine bz hK g2 ?_ ?_; (focus (first | omega | (simp; done) | (simp; omega))); intro hzg hdg hgg))
      go_wp2
      go_roundw
      case rel => exact ⟨k + 1, by omega, by go_num, bt HW.out hK⟩
      case measure => simp [intOf]; omega
    · obtain rfl : k = xs.length := by omega
      go_wp2
      go_ret
      exact ⟨rfl, hw⟩

/-- Marked: k, k + 1, .. -/
def marks (n : Nat) (k : Int) : List Int := (List.range n).map fun i : Nat => k + (i : Int)
theorem marks_length (n : Nat) (k : Int) : (marks n k).length = n := by simp [marks]
theorem marks_at {n i : Nat} (k : Int) (h : i < n) : (marks n k)[i]? = some (k + (i : Int)) := by simp [marks, h]
/-- The first i are marked. -/
def markI (xs : List Int) (k : Int) (i : Nat) : List Int := marks i k ++ xs.drop i
theorem markI_zero (xs : List Int) (k : Int) : markI xs k 0 = xs := by simp [markI, marks]
theorem markI_full (xs : List Int) (k : Int) : markI xs k xs.length = marks xs.length k := by simp [markI]
theorem markI_step {xs : List Int} {i : Nat} (k : Int) (h : i < xs.length) : (markI xs k i).set i (k + (i : Int)) = markI xs k (i + 1) := by
  unfold markI
  rw [List.drop_eq_getElem_cons h, List.set_append_right _ _ (by rw [marks_length]; exact Nat.le_refl _), marks_length]
  simp [marks, List.range_succ]
  rw [List.drop_eq_getElem_cons h]
  rfl
theorem markI_at {xs : List Int} {i : Nat} (k : Int) (h : i < xs.length) : ∃ x, (markI xs k i)[i]? = some x := by
  unfold markI
  rw [List.getElem?_append_right (by rw [marks_length]; exact Nat.le_refl _), marks_length, Nat.sub_self]
  exact ⟨xs[i], by simp [h]⟩

theorem World.grownBy.refl (w : World) (r : Option Nat) : w.grownBy w r := ⟨rfl, rfl, rfl, Nat.le_refl _, fun _ _ _ => rfl⟩
theorem grown_trans {a b c : World} {row : Option Nat} (h : a.grownBy b row) (k : b.grownBy c row) : a.grownBy c row :=
  ⟨k.os.trans h.os, k.tape.trans h.tape, k.output.trans h.output, Nat.le_trans h.size k.size, fun i hi hne => (k.block i (Nat.lt_of_lt_of_le hi h.size) hne).trans (h.block i hi hne)⟩
theorem grown_set {a w : World} {g : Nat} (h : a.grownBy w (some g)) (b o : Nat) (u : Value) (hb : b = g := by rfl) : a.grownBy (w.setCell ⟨b, o, none⟩ u) (some g) := by
  subst hb
  exact ⟨h.os, h.tape, h.output, by simpa [World.setCell] using h.size, fun i hi hne => (Below.heap_setCell w _ _ i (fun e => hne (by rw [e]))).trans (h.block i hi hne)⟩
theorem below_grown {B : Nat} {a b c : World} {row : Option Nat} (h : Below B a b) (k : b.grownBy c row) (hB : ∀ g, row = some g → B ≤ g) (hs : B ≤ b.heap.size) : Below B a c :=
  h.grown k hs hB
theorem IS.row {w : World} {B n c : Nat} {A : Option Addr} {xs : List Int} (h : IS w B A n c xs) : ∀ g, A.map (·.block) = some g → B ≤ g ∧ g < w.heap.size := fun g e => by
  cases A with
  | none => cases e
  | some a =>
    obtain rfl : a.block = g := by simpa using e
    exact h.lt a rfl
/-- Another slice, whose block lies below this one's, does not turn it. -/
theorem IS.apart {w w' : World} {B n c : Nat} {A A' : Option Addr} {xs : List Int} (h : IS w B A n c xs) (hg : w.grownBy w' (A'.map (·.block))) (hne : ∀ a a', A = some a → A' = some a' → a.block ≠ a'.block) : IS w' B A n c xs :=
  h.grown hg fun k e a ea => by
    cases A' with
    | none => cases e
    | some a' =>
      obtain rfl : a'.block = k := by simpa using e
      exact hne a a' ea rfl

set_option maxHeartbeats 1000000 in
theorem markIntS_c (A : Option Addr) (xs : List Int) (n c : Nat) (m : Int) (B : Nat) (w : World) (hn : n ≤ 1048576) (h0 : 0 ≤ m) (hm : m ≤ 1000000000) (h : IS w B A n c xs) :
    Calls Try.prog 18 #[.slice A n c, .int .i64 m] w fun e w' => e = .returned (.int .i64 (m + n)) ∧ IS w' B A n c (marks n m) ∧ w.grownBy w' (A.map (·.block)) := by
  have hlen := h.len
  subst hlen
  go_enter Try.func18, Try.ntmps18
  go_wp2
  go_loopw [1, 5] (fun q i wr => ∃ k : Nat, k ≤ xs.length ∧ i = .int .i64 k ∧ q = .int .i64 (m + k) ∧ IS wr B A xs.length c (markI xs m k) ∧ w.grownBy wr (A.map (·.block)))
    (fun _ i _ => xs.length - (intOf i).toNat)
  case atStart => exact ⟨0, Nat.zero_le _, rfl, by simp, by rw [markI_zero]; exact h, World.grownBy.refl _ _⟩
  case round =>
    obtain ⟨k, hk, rfl, rfl, S, hg⟩ := hrel
    by_cases hlt : k < xs.length
    · obtain ⟨g, rfl, hB, hgw, hcell⟩ := S.at_ (by omega)
      obtain ⟨x, hx⟩ := markI_at m hlt
      have d0 := hcell k x hx
      have z0 := S.frozen k
      clear hcell hx
      go_wp2_with fail
      go_roundw
      case rel =>
        refine ⟨k + 1, by omega, by go_num, by go_num, ?_, ?_⟩
        · rw [← markI_step m hlt]
          simpa using S.set (j := k) (m + k)
        · exact grown_set hg g k _
      case measure => simp [intOf]; omega
    · obtain rfl : k = xs.length := by omega
      rw [markI_full] at S
      go_wp2
      go_ret
      exact ⟨rfl, S, hg⟩

set_option maxHeartbeats 1000000 in
theorem heldIntS_c (A : Option Addr) (n c : Nat) (m : Int) (B : Nat) (w : World) (hn : n ≤ 1048576) (h0 : 0 ≤ m) (hm : m ≤ 1000000000) (h : IS w B A n c (marks n m)) :
    Calls Try.prog 19 #[.slice A n c, .int .i64 m] w fun e w' => e = .returned (.int .i64 (m + n)) ∧ w = w' := by
  go_enter Try.func19, Try.ntmps19
  go_wp2
  go_loop [1, 5] (fun q i => ∃ k : Nat, k ≤ n ∧ i = .int .i64 k ∧ q = .int .i64 (m + k))
    (fun _ i => n - (intOf i).toNat)
  case atStart => exact ⟨0, Nat.zero_le _, rfl, by simp⟩
  case round =>
    obtain ⟨k, hk, rfl, rfl⟩ := hrel
    by_cases hlt : k < n
    · obtain ⟨g, rfl, hB, hgw, hcell⟩ := h.at_ (by omega)
      have d0 := hcell k _ (marks_at m hlt)
      clear hcell
      go_wp2_with fail
      go_round
      case rel => exact ⟨k + 1, by omega, by go_num, by go_num⟩
      case measure => simp [intOf]; omega
    · obtain rfl : k = n := by omega
      go_wp2
      go_ret
      exact ⟨rfl, rfl⟩

set_option maxHeartbeats 1000000 in
theorem hasInt_c (A : Option Addr) (xs : List Int) (c : Nat) (g : Int) (w : World) (hn : (xs.length : Int) ≤ 9223372036854775807) (hr : Rd w w.heap.size A (xs.map (Value.int .i64))) :
    Calls Try.prog 22 #[.slice A xs.length c, .int .i64 g] w fun e w' => e = .returned (.bool (hasB xs g)) ∧ w = w' := by
  go_enter Try.func22, Try.ntmps22
  go_wp2
  go_loop [5] (fun i => ∃ k : Nat, k ≤ xs.length ∧ i = .int .i64 k ∧ Hid (¬ g ∈ xs.take k))
    (fun i => xs.length - (intOf i).toNat)
  case atStart => exact ⟨0, Nat.zero_le _, rfl, by simp [Hid]⟩
  case round =>
    obtain ⟨k, hk, rfl, HN⟩ := hrel
    by_cases hlt : k < xs.length
    · obtain ⟨b, o, x, rfl, hb, hx, d0⟩ := hr.int' hlt
      by_cases e : x = g
      · subst e
        go_wp2_with fail
        go_ret
        exact ⟨ret_bool (hasB_iff.2 (mem_at hx.out)).symm, rfl⟩
      · go_wp2_with fail
        go_round
        case rel =>
          refine ⟨k + 1, by omega, by go_num, ?_⟩
          unfold Hid
          rw [take_at hx.out, List.mem_append]
          rintro (h | h)
          · exact HN.out h
          · simp at h
            exact e h.symm
        case measure => simp [intOf]; omega
    · obtain rfl : k = xs.length := by omega
      go_wp2
      go_ret
      have := HN.out
      rw [List.take_length] at this
      exact ⟨ret_bool (hasB_no.2 this).symm, rfl⟩

set_option maxHeartbeats 1000000 in
theorem inRange_c (A : Option Addr) (xs : List Int) (c : Nat) (lo hi : Int) (w : World) (hn : (xs.length : Int) ≤ 9223372036854775807) (hr : Rd w w.heap.size A (xs.map (Value.int .i64))) :
    Calls Try.prog 49 #[.slice A xs.length c, .int .i64 lo, .int .i64 hi] w fun e w' => e = .returned (.bool (rgB xs lo hi)) ∧ w = w' := by
  go_enter Try.func49, Try.ntmps49
  go_wp2
  go_loop [11] (fun i => ∃ k : Nat, k ≤ xs.length ∧ i = .int .i64 k ∧ Hid (rgB (xs.take k) lo hi = true))
    (fun i => xs.length - (intOf i).toNat)
  case atStart => exact ⟨0, Nat.zero_le _, rfl, by simp [Hid, rgB]⟩
  case round =>
    obtain ⟨k, hk, rfl, HR⟩ := hrel
    by_cases hlt : k < xs.length
    · obtain ⟨b, o, x, rfl, hb, hx, d0⟩ := hr.int' hlt
      by_cases h1 : x < lo
      · go_wp2_with fail
        go_ret
        exact ⟨ret_bool (rgB_bad hx.out (inB_no (by omega))).symm, rfl⟩
      · by_cases h2 : hi < x
        · go_wp2_with fail
          go_ret
          exact ⟨ret_bool (rgB_bad hx.out (inB_no (by omega))).symm, rfl⟩
        · go_wp2_with fail
          go_round
          case rel => exact ⟨k + 1, by omega, by go_num, rgB_take HR.out hx.out (inB_mk (by omega) (by omega))⟩
          case measure => simp [intOf]; omega
    · obtain rfl : k = xs.length := by omega
      have := HR.out
      rw [List.take_length] at this
      go_wp2
      go_ret
      exact ⟨rfl, rfl⟩
end Go.Proofs.Ytbdboekjcgefhaa
