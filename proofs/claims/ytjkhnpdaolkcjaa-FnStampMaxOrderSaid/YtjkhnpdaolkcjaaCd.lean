/- Contracts: the greatest of some stamps. -/
import Derived.Test.YtjkhnpdaolkcjaaCa
import Derived.Test.YtjkhnpdaolkcjaaExt
import Derived.Test.YtjkhnpdaolkcjaaMem2
namespace Go.Proofs.Ytjkhnpdaolkcjaa
set_option linter.unusedVariables false
open Go.RowKit

set_option maxHeartbeats 1000000 in
theorem l2Max_c (A : Option Addr) (x y : Int) (ss : List (Int × Int)) (c : Nat) (w : World) (hn : ss.length ≤ 4611686018427387904) (hr : Rd w w.heap.size A (((x, y) :: ss).flatMap pc)) :
    Calls Try.prog 32 #[.slice A (ss.length + 1) c] w fun e w' => e = .returned (.agg #[.int .i64 (stMax (x, y) ss).1, .int .i64 (stMax (x, y) ss).2]) ∧ Below w.heap.size w w' := by
  obtain ⟨b, o, x0, y0, rfl, hb0, hx0, hc0, hc1⟩ := hr.pair' (k := 0) (by simp)
  obtain ⟨rfl, rfl⟩ : x = x0 ∧ y = y0 := by simpa using hx0.out
  clear hx0
  simp at hc0 hc1
  go_enter Try.func32, Try.ntmps32
  go_wp2
  go_loopw [4] (fun i wr => ∃ (k : Nat) (bx by_ : Int), k ≤ ss.length ∧ i = .int .i64 ((k : Int) + 1) ∧ Hid (stMax (x, y) ss = stMax (bx, by_) (ss.drop k)) ∧
      Box wr w.heap.size 31 #[.int .i64 0, .int .i64 0] ∧ Box wr (w.heap.size + 1) 31 #[.int .i64 bx, .int .i64 by_] ∧ Below w.heap.size w wr)
    (fun i _ => ss.length + 1 - (intOf i).toNat)
  case atStart => exact ⟨0, x, y, Nat.zero_le _, by simp, by rw [List.drop_zero]; rfl, (Box.new _ _ _).alloc _, by simpa using Box.new (w.alloc _) _ _, by go_grown⟩
  case round =>
    obtain ⟨k, bx, by_, hk, rfl, HR, B0, B1, hw⟩ := hrel
    have l0 := B0.lt
    have l1 := B1.lt
    have c0 := B1.cell 0
    have c1 := B1.cell 1
    have f0 := B1.frozen 0
    have f1 := B1.frozen 1
    have g0 := B0.cell 0
    have g1 := B0.cell 1
    have z0 := B0.frozen 0
    have z1 := B0.frozen 1
    simp at c0 c1 g0 g1
    by_cases hlt : k < ss.length
    · obtain ⟨b', o', x1, y1, e, _, hx1, d0, d1⟩ := (hr.below hw).pair' (k := k + 1) (by simp; omega)
      simp only [Option.some.injEq, Addr.mk.injEq, and_true] at e
      obtain ⟨rfl, rfl⟩ := e
      have hx2 : Hid (ss.drop k = (x1, y1) :: ss.drop (k + 1)) := drop_at (by simpa using hx1.out)
      clear hx1
      have hbw : b < wr.heap.size := by have := hw.size; omega
      have HW : Hid _ := hw
      clear hw
      have i1 : (0 : Int) ≤ (k : Int) + 1 := by omega
      have i2 : (k : Int) + 1 < (ss.length : Int) + 1 := by omega
      have i3 : ((k : Int) + 1).toNat = k + 1 := by omega
      go_wp2_with fail
      refine wp_region_ext (by first | with_reducible assumption | exact Below.refl _ _) (by kernel_rfl) (by kernel_rfl) ?_
      intro hx hx2
      repeat (go_big_quiet_step ((first | (go_at_call 29; exact ext_call (specSLess_c _ _ _ _ _)))))
      refine wpQuiet_nil ?_
      clear hx hx2
      rintro _ ⟨⟨w1, hb⟩, rfl⟩
      have hK := bt (by first | with_reducible assumption | exact Below.refl _ _) hb
      have hc := bcell hK
      have hf := bfrozen hK
      have hs := bsize hK
      clear hb
      (try (refine bw (w := w) hK ?_ ?_; (focus (first | exact HW.out | (have hq := HW.out; go_grown; done) | (go_grown; done))); intro hw hwz; have hK := hK))
      (try (refine bz hK (w.heap.size) ?_ ?_; (focus (first | omega | (simp; done) | (simp; omega))); intro hz0 hd0 hg0))
      (try (refine bz hK (w.heap.size + 1) ?_ ?_; (focus (first | omega | (simp; done) | (simp; omega))); intro hz1 hd1 hg1))
      (try (refine bz hK (w.heap.size + 2) ?_ ?_; (focus (first | omega | (simp; done) | (simp; omega))); intro hz2 hd2 hg2))
      (try (refine bz hK (w.heap.size + 3) ?_ ?_; (focus (first | omega | (simp; done) | (simp; omega))); intro hz3 hd3 hg3))
      (try (refine bz hK g ?_ ?_; (focus (first | omega | (simp; done) | (simp; omega))); intro hzg hdg hgg))
      (try (refine bz hK g1 ?_ ?_; (focus (first | omega | (simp; done) | (simp; omega))); intro hzg hdg hgg))
      (try (refine bz hK g2 ?_ ?_; (focus (first | omega | (simp; done) | (simp; omega))); intro hzg hdg hgg))
      rcases hl : ltB bx by_ x1 y1 with _ | _
      · go_wp2
        go_roundw
        case rel =>
          refine ⟨k + 1, bx, by_, by omega, by go_num, ?_, B0.below hK, B1.below hK, bt HW.out hK⟩
          have e1 := HR.out
          rw [hx2.out] at e1
          exact e1.trans (by simp [stMax, hl])
        case measure => simp [intOf]; omega
      · go_wp2
        go_roundw
        case rel =>
          refine ⟨k + 1, x1, y1, by omega, by go_num, ?_, ((B0.below hK).far (by simp) _).far (by simp) _, ?_, ?_⟩
          · have e1 := HR.out
            rw [hx2.out] at e1
            exact e1.trans (by simp [stMax, hl])
          · simpa using ((B1.below hK).set 0 (.int .i64 x1)).set 1 (.int .i64 y1)
          · have hw := bt HW.out hK
            go_grown
        case measure => simp [intOf]; omega
    · obtain rfl : k = ss.length := by omega
      go_wp2
      refine bodyPost_ret (v := .agg #[.int .i64 bx, .int .i64 by_]) (by simp (maxDischargeDepth := 6) [results, Try.results32, go_sem, *]) rfl ⟨by have e1 := HR.out; simp [stMax] at e1; rw [e1], ?_⟩
      go_grown
end Go.Proofs.Ytjkhnpdaolkcjaa
