/- Contracts: slices of stamps are copied and compared; the greatest stamp by the reference and by the program. -/
import Derived.Test.YtjnloiilabbhbaaCd
import Derived.Test.YtjnloiilabbhbaaMem3
namespace Go.Proofs.Ytjnloiilabbhbaa
set_option linter.unusedVariables false
open Go.RowKit

theorem infoStamp : (Try.prog.info? 32).map (fun i => (i.zero, i.size, i.bytes)) = some (some (.agg #[.int .i64 0, .int .i64 0]), 2, 16) := by kernel_rfl

theorem mkStamps (ss : List (Int × Int)) (hn : ss.length ≤ 1048576) (W : World) :
    (Instr.makeSlice 48 (.int .i64 (ss.length : Int)) (.int .i64 (ss.length : Int))).run Try.prog W = .ok (.slice (some ⟨W.heap.size, 0, none⟩) ss.length ss.length) (W.alloc (.cells (fillP ss 0).toArray 32)) := by
  obtain ⟨i0, hi, hz0, hz1, hz2⟩ := info_parts infoStamp
  have h := run_make (P := Try.prog) W 48 32 i0 _ Try.underlying48 hi hz0 .i64 .i64 ss.length ss.length (by omega) (by omega) (by rw [hz2]; omega) (by omega)
  rw [hz1] at h
  rw [fillP_zero, ← made_pairs]
  simpa [Value.cells] using h

/-- A new slice of stamps. -/
def MadeP (T : TypeId) (ss : List (Int × Int)) (w : World) (e : Ending) (w' : World) : Prop :=
  ∃ g, e = .returned (.slice (some ⟨g, 0, none⟩) ss.length ss.length) ∧ Box w' g T (ss.flatMap pc).toArray ∧ w.heap.size ≤ g ∧ Below w.heap.size w w'

set_option maxHeartbeats 1000000 in
theorem toStampS_c (A : Option Addr) (ss : List (Int × Int)) (c : Nat) (w : World) (hn : ss.length ≤ 1048576) (hr : Rd w w.heap.size A (ss.flatMap pc)) :
    Calls Try.prog 28 #[.slice A ss.length c] w (MadeP 32 ss w) := by
  have hmk := mkStamps ss hn
  go_enter Try.func28, Try.ntmps28
  go_wp2
  go_loopw [4] (fun i wr => ∃ k : Nat, k ≤ ss.length ∧ i = .int .i64 k ∧ Box wr w.heap.size 32 (fillP ss k).toArray ∧ Below w.heap.size w wr)
    (fun i _ => ss.length - (intOf i).toNat)
  case atStart => exact ⟨0, Nat.zero_le _, rfl, Box.new _ _ _, by go_grown⟩
  case round =>
    obtain ⟨k, hk, rfl, B0, hw⟩ := hrel
    have l0 := B0.lt
    by_cases hlt : k < ss.length
    · obtain ⟨b, o, x, y, rfl, hb, hx, d0, d1⟩ := (hr.below hw).pair' hlt
      have hl := fillP_length ss k hk
      have q0 : ∃ u, wr.cell? ⟨w.heap.size, k * 2, none⟩ = some u := ⟨_, (B0.cell _).trans (by simp only [List.getElem?_toArray]; exact List.getElem?_eq_getElem (by omega))⟩
      have q1 : ∃ u, wr.cell? ⟨w.heap.size, k * 2 + 1, none⟩ = some u := ⟨_, (B0.cell _).trans (by simp only [List.getElem?_toArray]; exact List.getElem?_eq_getElem (by omega))⟩
      obtain ⟨u0, q0⟩ := q0
      obtain ⟨u1, q1⟩ := q1
      have z0 := B0.frozen (k * 2)
      have z1 := B0.frozen (k * 2 + 1)
      have hbw : b < wr.heap.size := by have := hw.size; omega
      have HW : Hid _ := hw
      have HL : Hid _ := hl
      clear hw hl
      go_wp2_with (first | (go_at_call 15; refine (toStamp_c _ _ _).mono ?_; rintro e w1 ⟨rfl, hb⟩; have hK := bt (by first | with_reducible assumption | exact Below.refl _ _) hb; have hc := bcell hK; have hf := bfrozen hK; have hs := bsize hK; clear hb; (try simp only [World.size_drew, World.cell?_drew, World.frozen?_drew] at hc hf hs); (try (refine bw (w := w) hK ?_ ?_; (focus (first | exact HW.out | (have hq := HW.out; go_grown; done) | (go_grown; done))); intro hw hwz; have hK := hK)); (try (refine bz hK (w.heap.size) ?_ ?_; (focus (first | omega | (simp; done) | (simp; omega))); intro hz0 hd0 hg0)); (try (refine bz hK (w.heap.size + 1) ?_ ?_; (focus (first | omega | (simp; done) | (simp; omega))); intro hz1 hd1 hg1)); (try (refine bz hK (w.heap.size + 2) ?_ ?_; (focus (first | omega | (simp; done) | (simp; omega))); intro hz2 hd2 hg2)); (try (refine bz hK (w.heap.size + 3) ?_ ?_; (focus (first | omega | (simp; done) | (simp; omega))); intro hz3 hd3 hg3)); (try (refine bz hK g ?_ ?_; (focus (first | omega | (simp; done) | (simp; omega))); intro hzg hdg hgg)); (try (refine bz hK g1 ?_ ?_; (focus (first | omega | (simp; done) | (simp; omega))); intro hzg hdg hgg)); (try (refine bz hK g2 ?_ ?_; (focus (first | omega | (simp; done) | (simp; omega))); intro hzg hdg hgg))))
      go_roundw
      case rel =>
        refine ⟨k + 1, by omega, by go_num, ?_, ?_⟩
        · have := ((B0.below hK).list_set (k * 2) (.int .i64 x)).list_set (k * 2 + 1) (.int .i64 y)
          rw [fillP_step hx.out] at this
          exact this
        · have hw := bt HW.out hK
          go_grown
      case measure => simp [intOf]; omega
    · obtain rfl : k = ss.length := by omega
      rw [fillP_full] at B0
      go_wp2
      go_ret
      exact ⟨w.heap.size, rfl, B0, Nat.le_refl _, hw⟩

set_option maxHeartbeats 400000 in
theorem eqStamp_c (a b c d : Int) (w : World) : Calls Try.prog 30 #[.agg #[.int .i64 a, .int .i64 b], .agg #[.int .i64 c, .int .i64 d]] w fun e w' => e = .returned (.bool (eqB a b c d)) ∧ Below w.heap.size w w' := by
  by_cases h1 : a = c <;> by_cases h2 : b = d
  all_goals
    go_enter Try.func30, Try.ntmps30
    go_wp2
    go_ret
    exact ⟨ret_bool (by unfold eqB; simp [h1, h2]), by go_grown⟩

set_option maxHeartbeats 1000000 in
theorem eqStampS_c (A A' : Option Addr) (ss : List (Int × Int)) (c c' : Nat) (w : World) (hn : ss.length ≤ 1048576) (hr : Rd w w.heap.size A (ss.flatMap pc)) (hr' : Rd w w.heap.size A' (ss.flatMap pc)) :
    Calls Try.prog 31 #[.slice A ss.length c, .slice A' ss.length c'] w fun e w' => e = .returned (.bool true) ∧ Below w.heap.size w w' := by
  go_enter Try.func31, Try.ntmps31
  go_wp2
  go_loopw [5] (fun i wr => ∃ k : Nat, k ≤ ss.length ∧ i = .int .i64 k ∧ Below w.heap.size w wr)
    (fun i _ => ss.length - (intOf i).toNat)
  case atStart => exact ⟨0, Nat.zero_le _, rfl, by go_grown⟩
  case round =>
    obtain ⟨k, hk, rfl, hw⟩ := hrel
    by_cases hlt : k < ss.length
    · obtain ⟨b, o, x, y, rfl, hb, hx, d0, d1⟩ := (hr.below hw).pair' hlt
      obtain ⟨b', o', x', y', rfl, hb', hx', e0, e1⟩ := (hr'.below hw).pair' hlt
      obtain ⟨rfl, rfl⟩ : x = x' ∧ y = y' := by
        have := hx.out.symm.trans hx'.out
        simpa using this
      clear hx hx'
      have hbw : b < wr.heap.size := by have := hw.size; omega
      have hbw' : b' < wr.heap.size := by have := hw.size; omega
      have i1 : (0 : Int) ≤ (k : Int) := by omega
      have i2 : (k : Int) < (ss.length : Int) := by omega
      have eq := eqB_refl x y
      have HW : Hid _ := hw
      clear hw
      go_wp2_with fail
      refine wp_region_ext (by first | with_reducible assumption | exact Below.refl _ _) (by kernel_rfl) (by kernel_rfl) ?_
      intro hx hx2
      repeat (go_big_quiet_step ((first | (go_at_call 30; exact ext_call (eqStamp_c _ _ _ _ _)))))
      refine wpQuiet_nil ?_
      clear hx hx2
      rintro _ ⟨⟨w1, hb⟩, rfl⟩
      have hK := bt (by first | with_reducible assumption | exact Below.refl _ _) hb
      have hc := bcell hK
      have hf := bfrozen hK
      have hs := bsize hK
      clear hb
      (try (refine bw (w := w) hK ?_ ?_; (focus (first | exact HW.out | (have hq := HW.out; go_grown; done) | (go_grown; done))); intro hw hwz; have hK := hK))
      (try (refine bz hK (w.heap.size) ?_ ?_; (focus (first | omega | (simp; done) | (simp; omega))); intro hz0 hd0 hg0))
      (try (refine bz hK (w.heap.size + 1) ?_ ?_; (focus (first | omega | (simp; done) | (simp; omega))); intro hz1 hd1 hg1))
      (try (refine bz hK (w.heap.size + 2) ?_ ?_; (focus (first | omega | (simp; done) | (simp; omega))); intro hz2 hd2 hg2))
      (try (refine bz hK (w.heap.size + 3) ?_ ?_; (focus (first | omega | (simp; done) | (simp; omega))); intro hz3 hd3 hg3))
      (try (refine bz hK g ?_ ?_; (focus (first | omega | (simp; done) | (simp; omega))); intro hzg hdg hgg))
      (try (refine bz hK g1 ?_ ?_; (focus (first | omega | (simp; done) | (simp; omega))); intro hzg hdg hgg))
      (try (refine bz hK g2 ?_ ?_; (focus (first | omega | (simp; done) | (simp; omega))); intro hzg hdg hgg))
      go_wp2
      go_roundw
      case rel => exact ⟨k + 1, by omega, by go_num, bt HW.out hK⟩
      case measure => simp [intOf]; omega
    · obtain rfl : k = ss.length := by omega
      go_wp2
      go_ret
      exact ⟨rfl, hw⟩
end Go.Proofs.Ytjnloiilabbhbaa
