/- Contracts: the greatest stamp, by the reference and by the program. -/
import Derived.Test.YtjkhnpdaolkcjaaCe
import Derived.Test.YtjkhnpdaolkcjaaCb
import Derived.Test.YtjkhnpdaolkcjaaPlainA2
namespace Go.Proofs.Ytjkhnpdaolkcjaa
set_option linter.unusedVariables false
open Go.RowKit

set_option maxHeartbeats 1000000 in
theorem specSM_c (A : Option Addr) (ss : List (Int × Int)) (c : Nat) (w : World) (hn : ss.length ≤ 1048576) (hr : Rd w w.heap.size A (ss.flatMap pc)) :
    Calls Try.prog 19 #[.slice A ss.length c] w fun e w' => e = .returned (pv (smOk ss) (smV ss).1 (smV ss).2) ∧ Below w.heap.size w w' := by
  go_enter Try.func19, Try.ntmps19
  go_wp2
  go_loopw [4] (fun i wr => ∃ k : Nat, k ≤ ss.length ∧ i = .int .i64 k ∧ Hid ((ss.take k).all okS = true) ∧ Box wr w.heap.size 31 #[.int .i64 0, .int .i64 0] ∧ Below w.heap.size w wr)
    (fun i _ => ss.length - (intOf i).toNat)
  case atStart => exact ⟨0, Nat.zero_le _, rfl, by simp [Hid], Box.new _ _ _, by go_grown⟩
  case round =>
    obtain ⟨k, hk, rfl, HA, B0, hw⟩ := hrel
    have l0 := B0.lt
    have c0 := B0.cell 0
    have c1 := B0.cell 1
    have z0 := B0.frozen 0
    have z1 := B0.frozen 1
    simp at c0 c1
    by_cases hlt : k < ss.length
    · obtain ⟨b, o, x, y, rfl, hb, hx, d0, d1⟩ := (hr.below hw).pair' hlt
      have hbw : b < wr.heap.size := by have := hw.size; omega
      have HW : Hid _ := hw
      clear hw
      rcases hv : svB x y with _ | _
      · have e0 : Hid _ := smOk_bad (all_no (p := okS) hx.out hv)
        go_wp2_with (first | (go_at_call 16; refine (specSV_c _ _ _).mono ?_; rintro e w1 ⟨rfl, hb⟩; have hK := bt (by first | with_reducible assumption | exact Below.refl _ _) hb; have hc := bcell hK; have hf := bfrozen hK; have hs := bsize hK; clear hb; (try simp only [World.size_drew, World.cell?_drew, World.frozen?_drew] at hc hf hs); (try (refine bw (w := w) hK ?_ ?_; (focus (first | exact HW.out | (have hq := HW.out; go_grown; done) | (go_grown; done))); intro hw hwz; have hK := hK)); (try (refine bz hK (w.heap.size) ?_ ?_; (focus (first | omega | (simp; done) | (simp; omega))); intro hz0 hd0 hg0)); (try (refine bz hK (w.heap.size + 1) ?_ ?_; (focus (first | omega | (simp; done) | (simp; omega))); intro hz1 hd1 hg1)); (try (refine bz hK (w.heap.size + 2) ?_ ?_; (focus (first | omega | (simp; done) | (simp; omega))); intro hz2 hd2 hg2)); (try (refine bz hK (w.heap.size + 3) ?_ ?_; (focus (first | omega | (simp; done) | (simp; omega))); intro hz3 hd3 hg3)); (try (refine bz hK g ?_ ?_; (focus (first | omega | (simp; done) | (simp; omega))); intro hzg hdg hgg)); (try (refine bz hK g1 ?_ ?_; (focus (first | omega | (simp; done) | (simp; omega))); intro hzg hdg hgg)); (try (refine bz hK g2 ?_ ?_; (focus (first | omega | (simp; done) | (simp; omega))); intro hzg hdg hgg))))
        refine bodyPost_ret (v := .tuple #[.agg #[.int .i64 0, .int .i64 0], .bool false]) (by simp (maxDischargeDepth := 6) [results, Try.results19, go_sem, *]) rfl ⟨by rw [pv_false e0.out], ?_⟩
        have hw := bt HW.out hK
        go_grown
      · go_wp2_with (first | (go_at_call 16; refine (specSV_c _ _ _).mono ?_; rintro e w1 ⟨rfl, hb⟩; have hK := bt (by first | with_reducible assumption | exact Below.refl _ _) hb; have hc := bcell hK; have hf := bfrozen hK; have hs := bsize hK; clear hb; (try simp only [World.size_drew, World.cell?_drew, World.frozen?_drew] at hc hf hs); (try (refine bw (w := w) hK ?_ ?_; (focus (first | exact HW.out | (have hq := HW.out; go_grown; done) | (go_grown; done))); intro hw hwz; have hK := hK)); (try (refine bz hK (w.heap.size) ?_ ?_; (focus (first | omega | (simp; done) | (simp; omega))); intro hz0 hd0 hg0)); (try (refine bz hK (w.heap.size + 1) ?_ ?_; (focus (first | omega | (simp; done) | (simp; omega))); intro hz1 hd1 hg1)); (try (refine bz hK (w.heap.size + 2) ?_ ?_; (focus (first | omega | (simp; done) | (simp; omega))); intro hz2 hd2 hg2)); (try (refine bz hK (w.heap.size + 3) ?_ ?_; (focus (first | omega | (simp; done) | (simp; omega))); intro hz3 hd3 hg3)); (try (refine bz hK g ?_ ?_; (focus (first | omega | (simp; done) | (simp; omega))); intro hzg hdg hgg)); (try (refine bz hK g1 ?_ ?_; (focus (first | omega | (simp; done) | (simp; omega))); intro hzg hdg hgg)); (try (refine bz hK g2 ?_ ?_; (focus (first | omega | (simp; done) | (simp; omega))); intro hzg hdg hgg))))
        go_roundw
        case rel => exact ⟨k + 1, by omega, by go_num, all_take hx.out HA.out hv, B0.below hK, bt HW.out hK⟩
        case measure => simp [intOf]; omega
    · obtain rfl : k = ss.length := by omega
      have ha : ss.all okS = true := by have := HA.out; rwa [List.take_length] at this
      have e0 : Hid (smOk ss = inB ss.length 1 12) := by simp [Hid, smOk, ha]
      clear ha HA
      rcases hv : inB ss.length 1 12 with _ | _
      · go_wp2_with (first | (go_at_call 25; refine (l6In_c _ _ _ _).mono ?_; rintro e w' ⟨rfl, rfl⟩))
        refine bodyPost_ret (v := .tuple #[.agg #[.int .i64 0, .int .i64 0], .bool false]) (by simp (maxDischargeDepth := 6) [results, Try.results19, go_sem, *]) rfl ⟨by rw [pv_false (e0.out.trans hv)], ?_⟩
        go_grown
      · obtain ⟨n1, n2⟩ := inB_true hv
        cases ss with
        | nil => simp at n1
        | cons s r =>
          obtain ⟨x, y⟩ := s
          have HW : Hid _ := hw
          have hr2 := (hr.below hw).low
          clear hw
          have hv2 : inB ((r.length : Int) + 1) 1 12 = true := by simpa using hv
          simp only [List.length_cons]
          go_wp2_with (first | (go_at_call 25; refine (l6In_c _ _ _ _).mono ?_; rintro e w' ⟨rfl, rfl⟩) | (go_at_call 32; refine (l2Max_c _ _ _ _ _ _ (by simp at hn; omega) hr2).mono ?_; rintro e w1 ⟨rfl, hb⟩; have hK := bt (by first | with_reducible assumption | exact Below.refl _ _) hb; have hc := bcell hK; have hf := bfrozen hK; have hs := bsize hK; clear hb; (try simp only [World.size_drew, World.cell?_drew, World.frozen?_drew] at hc hf hs); (try (refine bw (w := w) hK ?_ ?_; (focus (first | exact HW.out | (have hq := HW.out; go_grown; done) | (go_grown; done))); intro hw hwz; have hK := hK)); (try (refine bz hK (w.heap.size) ?_ ?_; (focus (first | omega | (simp; done) | (simp; omega))); intro hz0 hd0 hg0)); (try (refine bz hK (w.heap.size + 1) ?_ ?_; (focus (first | omega | (simp; done) | (simp; omega))); intro hz1 hd1 hg1)); (try (refine bz hK (w.heap.size + 2) ?_ ?_; (focus (first | omega | (simp; done) | (simp; omega))); intro hz2 hd2 hg2)); (try (refine bz hK (w.heap.size + 3) ?_ ?_; (focus (first | omega | (simp; done) | (simp; omega))); intro hz3 hd3 hg3)); (try (refine bz hK g ?_ ?_; (focus (first | omega | (simp; done) | (simp; omega))); intro hzg hdg hgg)); (try (refine bz hK g1 ?_ ?_; (focus (first | omega | (simp; done) | (simp; omega))); intro hzg hdg hgg)); (try (refine bz hK g2 ?_ ?_; (focus (first | omega | (simp; done) | (simp; omega))); intro hzg hdg hgg))))
          refine bodyPost_ret (v := .tuple #[.agg #[.int .i64 (stMax (x, y) r).1, .int .i64 (stMax (x, y) r).2], .bool true]) (by simp (maxDischargeDepth := 6) [results, Try.results19, go_sem, *]) rfl ⟨by rw [pv_true (e0.out.trans hv)]; rfl, ?_⟩
          go_grown

set_option maxHeartbeats 2000000 in
theorem implSM_c (A : Option Addr) (ss : List (Int × Int)) (c : Nat) (w : World) (hn : ss.length ≤ 1048576) (hr : Rd w w.heap.size A (ss.flatMap pc)) :
    Calls Try.prog 18 #[.slice A ss.length c] w fun e w' => e = .returned (pv (smOk ss) (smV ss).1 (smV ss).2) ∧ Below w.heap.size w w' := by
  have hmf : ∀ (fn : Fn) (first cap : Array Value) (w : World), (Instr.makeFunc fn first cap).run Try.prog w = .ok (.func fn first cap) w := fun _ _ _ _ => rfl
  by_cases hlen : 1 ≤ ss.length ∧ ss.length ≤ 12
  · obtain ⟨n1, n2⟩ := hlen
    obtain ⟨b, o, x, y, rfl, hb, hx, d0, d1⟩ := hr.pair' (k := 0) (by omega)
    have HB : Hid (BestIs ss 0 x y) := best_zero hx.out
    clear hx
    simp at d0 d1
    go_enter Try.func18, Try.ntmps18
    go_wp2
    go_loopw [22] (fun i wr => ∃ (k : Nat) (bx by_ : Int), k ≤ ss.length ∧ i = .int .i64 k ∧ Hid ((ss.take k).all okS = true) ∧ Hid (BestIs ss k bx by_) ∧
        Box wr w.heap.size 31 #[.int .i64 0, .int .i64 0] ∧ Box wr (w.heap.size + 1) 31 #[.int .i64 bx, .int .i64 by_] ∧ Below w.heap.size w wr)
      (fun i _ => ss.length - (intOf i).toNat)
    case atStart => exact ⟨0, x, y, Nat.zero_le _, rfl, by simp [Hid], HB, (Box.new _ _ _).alloc _, by simpa using Box.new (w.alloc _) _ _, by go_grown⟩
    case round =>
      obtain ⟨k, bx, by_, hk, rfl, HA, HB', B0, B1, hw⟩ := hrel
      have l0 := B0.lt
      have l1 := B1.lt
      have c0 := B0.cell 0
      have c1 := B0.cell 1
      have z0 := B0.frozen 0
      have z1 := B0.frozen 1
      have e0 := B1.cell 0
      have e1 := B1.cell 1
      have y0 := B1.frozen 0
      have y1 := B1.frozen 1
      simp at c0 c1 e0 e1
      by_cases hlt : k < ss.length
      · obtain ⟨b', o', x1, x2, e, _, hx, f0, f1⟩ := (hr.below hw).pair' hlt
        simp only [Option.some.injEq, Addr.mk.injEq, and_true] at e
        obtain ⟨rfl, rfl⟩ := e
        have hbw : b < wr.heap.size := by have := hw.size; omega
        have HW : Hid _ := hw
        clear hw
        rcases hv : svB x1 x2 with _ | _
        · go_wp2_with (first | (go_at_call 27; refine (implSV_c _ _ _).mono ?_; rintro e w1 ⟨rfl, hb⟩; have hK := bt (by first | with_reducible assumption | exact Below.refl _ _) hb; have hc := bcell hK; have hf := bfrozen hK; have hs := bsize hK; clear hb; (try simp only [World.size_drew, World.cell?_drew, World.frozen?_drew] at hc hf hs); (try (refine bw (w := w) hK ?_ ?_; (focus (first | exact HW.out | (have hq := HW.out; go_grown; done) | (go_grown; done))); intro hw hwz; have hK := hK)); (try (refine bz hK (w.heap.size) ?_ ?_; (focus (first | omega | (simp; done) | (simp; omega))); intro hz0 hd0 hg0)); (try (refine bz hK (w.heap.size + 1) ?_ ?_; (focus (first | omega | (simp; done) | (simp; omega))); intro hz1 hd1 hg1)); (try (refine bz hK (w.heap.size + 2) ?_ ?_; (focus (first | omega | (simp; done) | (simp; omega))); intro hz2 hd2 hg2)); (try (refine bz hK (w.heap.size + 3) ?_ ?_; (focus (first | omega | (simp; done) | (simp; omega))); intro hz3 hd3 hg3)); (try (refine bz hK g ?_ ?_; (focus (first | omega | (simp; done) | (simp; omega))); intro hzg hdg hgg)); (try (refine bz hK g1 ?_ ?_; (focus (first | omega | (simp; done) | (simp; omega))); intro hzg hdg hgg)); (try (refine bz hK g2 ?_ ?_; (focus (first | omega | (simp; done) | (simp; omega))); intro hzg hdg hgg))))
          refine bodyPost_ret (v := .tuple #[.agg #[.int .i64 0, .int .i64 0], .bool false]) (by simp (maxDischargeDepth := 8) [results, Try.results18, go_sem, *]) rfl ⟨by rw [pv_false (smOk_bad (all_no (p := okS) hx.out hv))], ?_⟩
          go_grown
        · go_wp2_with (first | (go_at_call 27; refine (implSV_c _ _ _).mono ?_; rintro e w1 ⟨rfl, hb⟩; have hK := bt (by first | with_reducible assumption | exact Below.refl _ _) hb; have hc := bcell hK; have hf := bfrozen hK; have hs := bsize hK; clear hb; (try simp only [World.size_drew, World.cell?_drew, World.frozen?_drew] at hc hf hs); (try (refine bw (w := w) hK ?_ ?_; (focus (first | exact HW.out | (have hq := HW.out; go_grown; done) | (go_grown; done))); intro hw hwz; have hK := hK)); (try (refine bz hK (w.heap.size) ?_ ?_; (focus (first | omega | (simp; done) | (simp; omega))); intro hz0 hd0 hg0)); (try (refine bz hK (w.heap.size + 1) ?_ ?_; (focus (first | omega | (simp; done) | (simp; omega))); intro hz1 hd1 hg1)); (try (refine bz hK (w.heap.size + 2) ?_ ?_; (focus (first | omega | (simp; done) | (simp; omega))); intro hz2 hd2 hg2)); (try (refine bz hK (w.heap.size + 3) ?_ ?_; (focus (first | omega | (simp; done) | (simp; omega))); intro hz3 hd3 hg3)); (try (refine bz hK g ?_ ?_; (focus (first | omega | (simp; done) | (simp; omega))); intro hzg hdg hgg)); (try (refine bz hK g1 ?_ ?_; (focus (first | omega | (simp; done) | (simp; omega))); intro hzg hdg hgg)); (try (refine bz hK g2 ?_ ?_; (focus (first | omega | (simp; done) | (simp; omega))); intro hzg hdg hgg))) | (go_at_call 28; refine (implSLess_c _ _ _ _ _).mono ?_; rintro e w1 ⟨rfl, hb⟩; have hK := bt (by first | with_reducible assumption | exact Below.refl _ _) hb; have hc := bcell hK; have hf := bfrozen hK; have hs := bsize hK; clear hb; (try simp only [World.size_drew, World.cell?_drew, World.frozen?_drew] at hc hf hs); (try (refine bw (w := w) hK ?_ ?_; (focus (first | exact HW.out | (have hq := HW.out; go_grown; done) | (go_grown; done))); intro hw hwz; have hK := hK)); (try (refine bz hK (w.heap.size) ?_ ?_; (focus (first | omega | (simp; done) | (simp; omega))); intro hz0 hd0 hg0)); (try (refine bz hK (w.heap.size + 1) ?_ ?_; (focus (first | omega | (simp; done) | (simp; omega))); intro hz1 hd1 hg1)); (try (refine bz hK (w.heap.size + 2) ?_ ?_; (focus (first | omega | (simp; done) | (simp; omega))); intro hz2 hd2 hg2)); (try (refine bz hK (w.heap.size + 3) ?_ ?_; (focus (first | omega | (simp; done) | (simp; omega))); intro hz3 hd3 hg3)); (try (refine bz hK g ?_ ?_; (focus (first | omega | (simp; done) | (simp; omega))); intro hzg hdg hgg)); (try (refine bz hK g1 ?_ ?_; (focus (first | omega | (simp; done) | (simp; omega))); intro hzg hdg hgg)); (try (refine bz hK g2 ?_ ?_; (focus (first | omega | (simp; done) | (simp; omega))); intro hzg hdg hgg))))
          · go_roundw
            case rel =>
              have hl : ltB x1 x2 bx by_ = false := by
                have h : (!ltB x1 x2 bx by_) = true := by assumption
                simpa using h
              refine ⟨k + 1, x1, x2, by omega, by go_num, all_take hx.out HA.out hv, best_take HB'.out hx.out hl, (((B0.alloc _).below hK).far (by simp) _).far (by simp) _, ?_, by go_grown⟩
              simpa using (((B1.alloc _).below hK).set 0 (.int .i64 x1)).set 1 (.int .i64 x2)
            case measure => simp [intOf]; omega
          · go_roundw
            case rel =>
              have hl : ltB x1 x2 bx by_ = true := by
                have h : (!ltB x1 x2 bx by_) = false := by assumption
                simpa using h
              exact ⟨k + 1, bx, by_, by omega, by go_num, all_take hx.out HA.out hv, best_keep HB'.out hx.out hl, (B0.alloc _).below hK, (B1.alloc _).below hK, by go_grown⟩
            case measure => simp [intOf]; omega
      · obtain rfl : k = ss.length := by omega
        have ha : Hid (ss.all okS = true) := by have := HA.out; rwa [List.take_length] at this
        go_wp2
        refine bodyPost_ret (v := .tuple #[.agg #[.int .i64 bx, .int .i64 by_], .bool true]) (by simp (maxDischargeDepth := 8) [results, Try.results18, go_sem, *]) rfl ⟨by rw [pv_true (smOk_yes n1 n2 ha.out), best_end HB'.out n1], ?_⟩
        go_grown
  · have e0 : Hid (smOk ss = false) := smOk_len hlen
    rcases (show (ss.length : Int) < 1 ∨ ((1 : Int) ≤ ss.length ∧ (12 : Int) < ss.length) by omega) with h | ⟨h', h⟩
    all_goals
      go_enter Try.func18, Try.ntmps18
      go_wp2
      refine bodyPost_ret (v := .tuple #[.agg #[.int .i64 0, .int .i64 0], .bool false]) (by simp (maxDischargeDepth := 8) [results, Try.results18, go_sem]) rfl ⟨by rw [pv_false e0.out], ?_⟩
      go_grown

end Go.Proofs.Ytjkhnpdaolkcjaa
