/- The law FnStampMax: its call hands back true, whatever the code. -/
import Derived.Test.YtjkhnpdaolkcjaaSp
import Derived.Test.YtjkhnpdaolkcjaaSs
import Derived.Test.YtjkhnpdaolkcjaaCf
namespace Go.Proofs.Ytjkhnpdaolkcjaa
set_option linter.unusedVariables false
open Go.RowKit

set_option maxHeartbeats 8000000 in
theorem sMax_walk (A : Option Addr) (bs : List Int) (c : Nat) (w : World) (hm : (bs.length : Int) ≤ 9223372036854775807) (hlc : bs.length ≤ c) (hcm : (c : Int) ≤ 9223372036854775807) (hr : Rd w w.heap.size A (bs.map (Value.int .u8))) (hf : ∀ x ∈ bs, FitB x) :
    Calls Try.prog 8 #[.slice A bs.length c] w fun e w' => e = .returned (.bool true) ∧ Below w.heap.size w w' := by
  by_cases hn : (1048576 : Int) < bs.length
  · go_enter Try.func8, Try.ntmps8
    go_wp2
    go_ret
    exact ⟨rfl, by go_grown⟩
  · have hn' : (bs.length : Int) ≤ 1048576 := by omega
    have hw := Below.refl w.heap.size w
    go_enter Try.func8, Try.ntmps8
    go_wp2_with fail
    refine (drawSM_c A bs c _ hm hlc hcm hr hf).mono ?_
    rintro e w1 ⟨ss, A1, c1, rfl, h1, h2, S1, hb⟩
    have hK : Below w.heap.size w w1 := bu hb (by go_grown)
    replace hw := hK
    have H2 := hidS h2
    clear hb hK h2 hr hf
    have hs := hw.size
    have CI := fun A c w h => implSM_c A ss c w (by omega) h
    have CS := fun A c w h => specSM_c A ss c w (by omega) h
    have SA := @smV_all ss
    have SI := @smOk_iff ss
    have SR := @sm_rev ss
    have CR := fun A c w h => implSM_c A ss.reverse c w (by simp; omega) h
    obtain ⟨ok, hok⟩ : ∃ ok, smOk ss = ok := ⟨_, rfl⟩
    obtain ⟨X, hX⟩ : ∃ X, (smV ss).1 = X := ⟨_, rfl⟩
    obtain ⟨Y, hY⟩ : ∃ Y, (smV ss).2 = Y := ⟨_, rfl⟩
    have hXY : smV ss = (X, Y) := by rw [← hX, ← hY]
    rw [hok] at SI SR
    rw [hok, hX, hY] at CI CS
    rw [hXY] at SA SR
    have HCR := hidS CR
    have HSA := hidS SA
    have HSI := hidS SI
    have HSR := hidS SR
    clear hok hX hY hXY SA SI SR CR
    unfold pv at CI CS
    have HCI := hidS CI
    have HCS := hidS CS
    clear CI CS
    go_wp2_with fail
    refine (HCI.out _ _ _ S1.rd).mono ?_
    rintro e w2 ⟨rfl, hb⟩
    have hK : Below w1.heap.size w1 w2 := bu hb (by go_grown)
    replace S1 := S1.below hK
    replace hw := bt hw hK
    have q2 := hw.size
    clear hb hK HCI
    have Bo0 := Box.new w2 31 #[.int .i64 (pw ok X), .int .i64 (pw ok Y)]
    have S10 := S1.alloc (.cells #[.int .i64 (pw ok X), .int .i64 (pw ok Y)] 31)
    go_wp2_with fail
    refine (HCS.out _ _ _ S10.rd).mono ?_
    rintro e w3 ⟨rfl, hb⟩
    have Bo := Bo0.below hb
    have S3 := S10.below hb
    have hw3 : Below w.heap.size w w3 := bu hb (by go_grown)
    clear hb HCS S10 Bo0 S1 hw
    have c0 := Bo.cell 0
    have c1' := Bo.cell 1
    have lo := Bo.lt
    simp only [List.getElem?_toArray, List.getElem?_cons_zero, List.getElem?_cons_succ] at c0 c1'
    have q3 := hw3.size
    rcases ok with _ | _
    · simp only [pw, Bool.false_eq_true, if_false] at c0 c1' Bo ⊢
      clear HSA HSI HSR HCR
      go_wp2_with fail
      go_ret
      exact ⟨rfl, by go_grown⟩
    · simp only [pw, if_true] at c0 c1' Bo ⊢
      have I := HSI.out.1 rfl
      have hp : 1 ≤ ss.length := I.2.1
      have M := HSA.out hp
      have HM1 := hidS M.1
      have HM2 := hidS M.2
      have Bw := Box.new w3 31 #[.int .i64 X, .int .i64 Y]
      have Bo4 := Bo.alloc (.cells #[.int .i64 X, .int .i64 Y] 31)
      have S4 := S3.alloc (.cells #[.int .i64 X, .int .i64 Y] 31)
      have hw4 : Below w.heap.size w (w3.alloc (.cells #[.int .i64 X, .int .i64 Y] 31)) := by go_grown
      clear I M HSA HSI Bo S3 Bw HSR HCR
      have hw4s := hw4.size
      go_wp2_with fail
      go_loopw [8, 9] (fun f i wr => ∃ k : Nat, k ≤ ss.length ∧ i = .int .i64 k ∧ f = .bool (seenB ss k (X, Y)) ∧ Box wr w2.heap.size 31 #[.int .i64 X, .int .i64 Y] ∧ PV wr w.heap.size (.slice A1 ss.length c1) ss.length ss ∧ Below w.heap.size w wr) (fun _ i _ => ss.length - (intOf i).toNat)
      case atStart => exact ⟨0, Nat.zero_le _, rfl, by rw [seen_zero], Bo4, S4, hw4⟩
      case round =>
        clear S4 Bo4 hw4 hw4s c0 c1' lo hw3
        obtain ⟨k, hk, rfl, rfl, B, S, hw⟩ := hrel
        have c0 := B.cell 0
        have c1' := B.cell 1
        have lo := B.lt
        simp only [List.getElem?_toArray, List.getElem?_cons_zero, List.getElem?_cons_succ] at c0 c1'
        by_cases hlt : k < ss.length
        · obtain ⟨b, o, x, y, rfl, hb, hx, d0, d1⟩ := S.rd.pair' hlt
          have HL := hidS (sl_no (HM2.out (x, y) (mem_at hx.out)))
          have CL := implSL_c X Y x y
          have CLh := fun w => (HL.out ▸ CL w)
          have HCL : Hid (∀ w : World, Calls Try.prog 14 #[.agg #[.int .i64 X, .int .i64 Y], .agg #[.int .i64 x, .int .i64 y]] w fun e w' => e = .returned (.bool false) ∧ Below w.heap.size w w') := by
            intro w
            have := CL w
            rwa [HL.out] at this
          clear CL CLh HL
          have i1 : (0 : Int) ≤ (k : Int) := by omega
          have i2 : (k : Int) < (ss.length : Int) := by omega
          have HW := hidS hw
          have hws := hw.size
          clear hw
          rcases hsn : seenB ss k (X, Y) with _ | _
          · rcases Decidable.em ((X, Y) = (x, y)) with he | he
            · have HE := hidS (show seenB ss (k + 1) (X, Y) = true by rw [he]; exact seen_hit hx.out)
              obtain ⟨rfl, rfl⟩ : X = x ∧ Y = y := by simpa using he
              clear he hsn
              go_wp2_with fail
              refine wp_region_ext (by first | with_reducible assumption | exact Below.refl _ _) (by kernel_rfl) (by kernel_rfl) ?_
              intro hx hx2
              repeat (go_big_quiet_step (fail))
              refine wpQuiet_nil ?_
              clear hx hx2
              rintro _ ⟨⟨w1, hb⟩, rfl⟩
              have hK := bt (by first | with_reducible assumption | exact Below.refl _ _) hb
              have hc := bcell hK
              have hf := bfrozen hK
              have hs := bsize hK
              clear hb
              (try (refine bw (w := w) hK ?_ ?_; (focus (first | exact HW.out | (have hq := HW.out; go_grown; done) | (go_grown; done))); intro hw hwz; have hK := hK))
              (try (refine bz hK (w.heap.size) ?_ ?_; (focus (first | omega | (simp; done) | (simp; omega))); intro hz0 hd0 hg0))
              (try (refine bz hK (w.heap.size + 1) ?_ ?_; (focus (first | omega | (simp; done) | (simp; omega))); intro hz1 hd1 hg1))
              (try (refine bz hK (w.heap.size + 2) ?_ ?_; (focus (first | omega | (simp; done) | (simp; omega))); intro hz2 hd2 hg2))
              (try (refine bz hK (w.heap.size + 3) ?_ ?_; (focus (first | omega | (simp; done) | (simp; omega))); intro hz3 hd3 hg3))
              (try (refine bz hK g ?_ ?_; (focus (first | omega | (simp; done) | (simp; omega))); intro hzg hdg hgg))
              (try (refine bz hK g1 ?_ ?_; (focus (first | omega | (simp; done) | (simp; omega))); intro hzg hdg hgg))
              (try (refine bz hK g2 ?_ ?_; (focus (first | omega | (simp; done) | (simp; omega))); intro hzg hdg hgg))
              go_wp2_with fail
              refine wp_region_ext (by first | with_reducible assumption | exact Below.refl _ _) (by kernel_rfl) (by kernel_rfl) ?_
              intro hx hx2
              repeat (go_big_quiet_step ((first | (go_at_call 14; exact ext_call (HCL.out _)))))
              refine wpQuiet_nil ?_
              clear hx hx2
              rintro _ ⟨⟨w1, hb⟩, rfl⟩
              have hK := bt (by first | with_reducible assumption | exact Below.refl _ _) hb
              have hc := bcell hK
              have hf := bfrozen hK
              have hs := bsize hK
              clear hb
              (try (refine bw (w := w) hK ?_ ?_; (focus (first | exact HW.out | (have hq := HW.out; go_grown; done) | (go_grown; done))); intro hw hwz; have hK := hK))
              (try (refine bz hK (w.heap.size) ?_ ?_; (focus (first | omega | (simp; done) | (simp; omega))); intro hz0 hd0 hg0))
              (try (refine bz hK (w.heap.size + 1) ?_ ?_; (focus (first | omega | (simp; done) | (simp; omega))); intro hz1 hd1 hg1))
              (try (refine bz hK (w.heap.size + 2) ?_ ?_; (focus (first | omega | (simp; done) | (simp; omega))); intro hz2 hd2 hg2))
              (try (refine bz hK (w.heap.size + 3) ?_ ?_; (focus (first | omega | (simp; done) | (simp; omega))); intro hz3 hd3 hg3))
              (try (refine bz hK g ?_ ?_; (focus (first | omega | (simp; done) | (simp; omega))); intro hzg hdg hgg))
              (try (refine bz hK g1 ?_ ?_; (focus (first | omega | (simp; done) | (simp; omega))); intro hzg hdg hgg))
              (try (refine bz hK g2 ?_ ?_; (focus (first | omega | (simp; done) | (simp; omega))); intro hzg hdg hgg))
              go_wp2
              go_roundw
              case rel => exact ⟨k + 1, by omega, by go_num, by rw [HE.out], B.below hK, S.below hK, bt HW.out hK⟩
              case measure => simp [intOf]; omega
            · have HE := hidS (seen_miss hx.out hsn he)
              rcases Decidable.em (x = X) with rfl | hxX
              · have hyY : ¬ y = Y := fun e => he (by rw [e])
                have hyb : (y == Y) = false := by simpa using hyY
                clear he hsn
                go_wp2_with fail
                refine wp_region_ext (by first | with_reducible assumption | exact Below.refl _ _) (by kernel_rfl) (by kernel_rfl) ?_
                intro hx hx2
                repeat (go_big_quiet_step (fail))
                refine wpQuiet_nil ?_
                clear hx hx2
                rintro _ ⟨⟨w1, hb⟩, rfl⟩
                have hK := bt (by first | with_reducible assumption | exact Below.refl _ _) hb
                have hc := bcell hK
                have hf := bfrozen hK
                have hs := bsize hK
                clear hb
                (try (refine bw (w := w) hK ?_ ?_; (focus (first | exact HW.out | (have hq := HW.out; go_grown; done) | (go_grown; done))); intro hw hwz; have hK := hK))
                (try (refine bz hK (w.heap.size) ?_ ?_; (focus (first | omega | (simp; done) | (simp; omega))); intro hz0 hd0 hg0))
                (try (refine bz hK (w.heap.size + 1) ?_ ?_; (focus (first | omega | (simp; done) | (simp; omega))); intro hz1 hd1 hg1))
                (try (refine bz hK (w.heap.size + 2) ?_ ?_; (focus (first | omega | (simp; done) | (simp; omega))); intro hz2 hd2 hg2))
                (try (refine bz hK (w.heap.size + 3) ?_ ?_; (focus (first | omega | (simp; done) | (simp; omega))); intro hz3 hd3 hg3))
                (try (refine bz hK g ?_ ?_; (focus (first | omega | (simp; done) | (simp; omega))); intro hzg hdg hgg))
                (try (refine bz hK g1 ?_ ?_; (focus (first | omega | (simp; done) | (simp; omega))); intro hzg hdg hgg))
                (try (refine bz hK g2 ?_ ?_; (focus (first | omega | (simp; done) | (simp; omega))); intro hzg hdg hgg))
                go_wp2_with fail
                refine wp_region_ext (by first | with_reducible assumption | exact Below.refl _ _) (by kernel_rfl) (by kernel_rfl) ?_
                intro hx hx2
                repeat (go_big_quiet_step ((first | (go_at_call 14; exact ext_call (HCL.out _)))))
                refine wpQuiet_nil ?_
                clear hx hx2
                rintro _ ⟨⟨w1, hb⟩, rfl⟩
                have hK := bt (by first | with_reducible assumption | exact Below.refl _ _) hb
                have hc := bcell hK
                have hf := bfrozen hK
                have hs := bsize hK
                clear hb
                (try (refine bw (w := w) hK ?_ ?_; (focus (first | exact HW.out | (have hq := HW.out; go_grown; done) | (go_grown; done))); intro hw hwz; have hK := hK))
                (try (refine bz hK (w.heap.size) ?_ ?_; (focus (first | omega | (simp; done) | (simp; omega))); intro hz0 hd0 hg0))
                (try (refine bz hK (w.heap.size + 1) ?_ ?_; (focus (first | omega | (simp; done) | (simp; omega))); intro hz1 hd1 hg1))
                (try (refine bz hK (w.heap.size + 2) ?_ ?_; (focus (first | omega | (simp; done) | (simp; omega))); intro hz2 hd2 hg2))
                (try (refine bz hK (w.heap.size + 3) ?_ ?_; (focus (first | omega | (simp; done) | (simp; omega))); intro hz3 hd3 hg3))
                (try (refine bz hK g ?_ ?_; (focus (first | omega | (simp; done) | (simp; omega))); intro hzg hdg hgg))
                (try (refine bz hK g1 ?_ ?_; (focus (first | omega | (simp; done) | (simp; omega))); intro hzg hdg hgg))
                (try (refine bz hK g2 ?_ ?_; (focus (first | omega | (simp; done) | (simp; omega))); intro hzg hdg hgg))
                go_wp2
                go_roundw
                case rel => exact ⟨k + 1, by omega, by go_num, by rw [HE.out], B.below hK, S.below hK, bt HW.out hK⟩
                case measure => simp [intOf]; omega
              · have hxb : (x == X) = false := by simpa using hxX
                clear he hsn
                go_wp2_with fail
                refine wp_region_ext (by first | with_reducible assumption | exact Below.refl _ _) (by kernel_rfl) (by kernel_rfl) ?_
                intro hx hx2
                repeat (go_big_quiet_step (fail))
                refine wpQuiet_nil ?_
                clear hx hx2
                rintro _ ⟨⟨w1, hb⟩, rfl⟩
                have hK := bt (by first | with_reducible assumption | exact Below.refl _ _) hb
                have hc := bcell hK
                have hf := bfrozen hK
                have hs := bsize hK
                clear hb
                (try (refine bw (w := w) hK ?_ ?_; (focus (first | exact HW.out | (have hq := HW.out; go_grown; done) | (go_grown; done))); intro hw hwz; have hK := hK))
                (try (refine bz hK (w.heap.size) ?_ ?_; (focus (first | omega | (simp; done) | (simp; omega))); intro hz0 hd0 hg0))
                (try (refine bz hK (w.heap.size + 1) ?_ ?_; (focus (first | omega | (simp; done) | (simp; omega))); intro hz1 hd1 hg1))
                (try (refine bz hK (w.heap.size + 2) ?_ ?_; (focus (first | omega | (simp; done) | (simp; omega))); intro hz2 hd2 hg2))
                (try (refine bz hK (w.heap.size + 3) ?_ ?_; (focus (first | omega | (simp; done) | (simp; omega))); intro hz3 hd3 hg3))
                (try (refine bz hK g ?_ ?_; (focus (first | omega | (simp; done) | (simp; omega))); intro hzg hdg hgg))
                (try (refine bz hK g1 ?_ ?_; (focus (first | omega | (simp; done) | (simp; omega))); intro hzg hdg hgg))
                (try (refine bz hK g2 ?_ ?_; (focus (first | omega | (simp; done) | (simp; omega))); intro hzg hdg hgg))
                go_wp2_with fail
                refine wp_region_ext (by first | with_reducible assumption | exact Below.refl _ _) (by kernel_rfl) (by kernel_rfl) ?_
                intro hx hx2
                repeat (go_big_quiet_step ((first | (go_at_call 14; exact ext_call (HCL.out _)))))
                refine wpQuiet_nil ?_
                clear hx hx2
                rintro _ ⟨⟨w1, hb⟩, rfl⟩
                have hK := bt (by first | with_reducible assumption | exact Below.refl _ _) hb
                have hc := bcell hK
                have hf := bfrozen hK
                have hs := bsize hK
                clear hb
                (try (refine bw (w := w) hK ?_ ?_; (focus (first | exact HW.out | (have hq := HW.out; go_grown; done) | (go_grown; done))); intro hw hwz; have hK := hK))
                (try (refine bz hK (w.heap.size) ?_ ?_; (focus (first | omega | (simp; done) | (simp; omega))); intro hz0 hd0 hg0))
                (try (refine bz hK (w.heap.size + 1) ?_ ?_; (focus (first | omega | (simp; done) | (simp; omega))); intro hz1 hd1 hg1))
                (try (refine bz hK (w.heap.size + 2) ?_ ?_; (focus (first | omega | (simp; done) | (simp; omega))); intro hz2 hd2 hg2))
                (try (refine bz hK (w.heap.size + 3) ?_ ?_; (focus (first | omega | (simp; done) | (simp; omega))); intro hz3 hd3 hg3))
                (try (refine bz hK g ?_ ?_; (focus (first | omega | (simp; done) | (simp; omega))); intro hzg hdg hgg))
                (try (refine bz hK g1 ?_ ?_; (focus (first | omega | (simp; done) | (simp; omega))); intro hzg hdg hgg))
                (try (refine bz hK g2 ?_ ?_; (focus (first | omega | (simp; done) | (simp; omega))); intro hzg hdg hgg))
                go_wp2
                go_roundw
                case rel => exact ⟨k + 1, by omega, by go_num, by rw [HE.out], B.below hK, S.below hK, bt HW.out hK⟩
                case measure => simp [intOf]; omega
          · have HE := hidS (seen_keep hsn)
            clear hsn
            go_wp2_with fail
            refine wp_region_ext (by first | with_reducible assumption | exact Below.refl _ _) (by kernel_rfl) (by kernel_rfl) ?_
            intro hx hx2
            repeat (go_big_quiet_step (fail))
            refine wpQuiet_nil ?_
            clear hx hx2
            rintro _ ⟨⟨w1, hb⟩, rfl⟩
            have hK := bt (by first | with_reducible assumption | exact Below.refl _ _) hb
            have hc := bcell hK
            have hf := bfrozen hK
            have hs := bsize hK
            clear hb
            (try (refine bw (w := w) hK ?_ ?_; (focus (first | exact HW.out | (have hq := HW.out; go_grown; done) | (go_grown; done))); intro hw hwz; have hK := hK))
            (try (refine bz hK (w.heap.size) ?_ ?_; (focus (first | omega | (simp; done) | (simp; omega))); intro hz0 hd0 hg0))
            (try (refine bz hK (w.heap.size + 1) ?_ ?_; (focus (first | omega | (simp; done) | (simp; omega))); intro hz1 hd1 hg1))
            (try (refine bz hK (w.heap.size + 2) ?_ ?_; (focus (first | omega | (simp; done) | (simp; omega))); intro hz2 hd2 hg2))
            (try (refine bz hK (w.heap.size + 3) ?_ ?_; (focus (first | omega | (simp; done) | (simp; omega))); intro hz3 hd3 hg3))
            (try (refine bz hK g ?_ ?_; (focus (first | omega | (simp; done) | (simp; omega))); intro hzg hdg hgg))
            (try (refine bz hK g1 ?_ ?_; (focus (first | omega | (simp; done) | (simp; omega))); intro hzg hdg hgg))
            (try (refine bz hK g2 ?_ ?_; (focus (first | omega | (simp; done) | (simp; omega))); intro hzg hdg hgg))
            go_wp2_with fail
            refine wp_region_ext (by first | with_reducible assumption | exact Below.refl _ _) (by kernel_rfl) (by kernel_rfl) ?_
            intro hx hx2
            repeat (go_big_quiet_step ((first | (go_at_call 14; exact ext_call (HCL.out _)))))
            refine wpQuiet_nil ?_
            clear hx hx2
            rintro _ ⟨⟨w1, hb⟩, rfl⟩
            have hK := bt (by first | with_reducible assumption | exact Below.refl _ _) hb
            have hc := bcell hK
            have hf := bfrozen hK
            have hs := bsize hK
            clear hb
            (try (refine bw (w := w) hK ?_ ?_; (focus (first | exact HW.out | (have hq := HW.out; go_grown; done) | (go_grown; done))); intro hw hwz; have hK := hK))
            (try (refine bz hK (w.heap.size) ?_ ?_; (focus (first | omega | (simp; done) | (simp; omega))); intro hz0 hd0 hg0))
            (try (refine bz hK (w.heap.size + 1) ?_ ?_; (focus (first | omega | (simp; done) | (simp; omega))); intro hz1 hd1 hg1))
            (try (refine bz hK (w.heap.size + 2) ?_ ?_; (focus (first | omega | (simp; done) | (simp; omega))); intro hz2 hd2 hg2))
            (try (refine bz hK (w.heap.size + 3) ?_ ?_; (focus (first | omega | (simp; done) | (simp; omega))); intro hz3 hd3 hg3))
            (try (refine bz hK g ?_ ?_; (focus (first | omega | (simp; done) | (simp; omega))); intro hzg hdg hgg))
            (try (refine bz hK g1 ?_ ?_; (focus (first | omega | (simp; done) | (simp; omega))); intro hzg hdg hgg))
            (try (refine bz hK g2 ?_ ?_; (focus (first | omega | (simp; done) | (simp; omega))); intro hzg hdg hgg))
            go_wp2
            go_roundw
            case rel => exact ⟨k + 1, by omega, by go_num, by rw [HE.out], B.below hK, S.below hK, bt HW.out hK⟩
            case measure => simp [intOf]; omega
        · obtain rfl : k = ss.length := by omega
          have HE := hidS (seen_full HM1.out)
          rw [HE.out]
          go_wp2_with fail
          go_ret
          exact ⟨rfl, hw⟩
end Go.Proofs.Ytjkhnpdaolkcjaa
