/- Contracts: a list of entries is checked by the program; entries are copied. -/
import Derived.Test.YtiecjkacbpbghaaEb
namespace Go.Proofs.Ytiecjkacbpbghaa
set_option linter.unusedVariables false
open Go.RowKit

set_option maxHeartbeats 4000000 in
theorem areEntries_c (id ck : Int) (A1 A2 : Option Addr) (n1 c1 n2 c2 : Nat) (A : Option Addr) (es : List Ent) (c : Nat) (w : World) (hn : es.length ≤ 1048576) (hlc : es.length ≤ c) (hr : RE w A es) :
    Calls Try.prog 30 #[.agg #[.int .i64 id, .int .i64 ck, .slice A1 n1 c1, .slice A2 n2 c2], .slice A es.length c] w fun e w' => e = .returned (.bool (areB id ck es)) ∧ Below w.heap.size w w' := by
  go_enter Try.func30, Try.ntmps30
  go_wp2
  go_loopw [9] (fun i wr => ∃ k : Nat, k ≤ es.length ∧ i = .int .i64 k ∧ Hid (upA id ck es k) ∧ Box wr w.heap.size 26 #[.int .i64 id, .int .i64 ck, .slice A1 n1 c1, .slice A2 n2 c2] ∧ Below w.heap.size w wr)
    (fun i _ => es.length - (intOf i).toNat)
  case atStart => exact ⟨0, Nat.zero_le _, rfl, upA_zero _ _ _, Box.new _ _ _, by go_grown⟩
  case round =>
    obtain ⟨k, hk, rfl, HU, B0, hw⟩ := hrel
    have l0 := B0.lt
    have c0 := B0.cell 0
    have c1 := B0.cell 1
    simp only [List.getElem?_toArray, List.getElem?_cons_zero, List.getElem?_cons_succ] at c0 c1
    by_cases hlt : k < es.length
    · obtain ⟨b, o, m, t, g, f, rfl, hb, hx, d0, d1, d2, d3⟩ := (hr.below hw).ent hlt
      have hbw : b < wr.heap.size := by have := hw.size; omega
      have i1 : (0 : Int) ≤ (k : Int) := by omega
      have i2 : (k : Int) < (es.length : Int) := by omega
      have HW : Hid _ := hw
      have HR := hidI (hr.below hw)
      have HB := hidI B0
      clear hw B0 hr
      --AREROUND
      rcases h1 : inB m 0 11 with _ | _
      · have e0 : Hid (areB id ck es = false) := no_are (bad_m hx.out h1)
        go_wp2_with (first | (go_at_call 44; refine (isMessage_c _ _).mono ?_; rintro e w' ⟨rfl, rfl⟩) | (go_at_call 43; refine (implSV_c _ _ _).mono ?_; rintro e w1 ⟨rfl, hb⟩; have hK := bt (by first | with_reducible assumption | exact Below.refl _ _) hb; have hc := bcell hK; have hf := bfrozen hK; have hs := bsize hK; clear hb; (try simp only [World.size_drew, World.cell?_drew, World.frozen?_drew] at hc hf hs); (try (refine bw (w := w) hK ?_ ?_; (focus (first | exact HW.out | (have hq := HW.out; go_grown; done) | (go_grown; done))); intro hw hwz; have hK := hK)); (try (refine bz hK (w.heap.size) ?_ ?_; (focus (first | omega | (simp; done) | (simp; omega))); intro hz0 hd0 hg0)); (try (refine bz hK (w.heap.size + 1) ?_ ?_; (focus (first | omega | (simp; done) | (simp; omega))); intro hz1 hd1 hg1)); (try (refine bz hK (w.heap.size + 2) ?_ ?_; (focus (first | omega | (simp; done) | (simp; omega))); intro hz2 hd2 hg2)); (try (refine bz hK (w.heap.size + 3) ?_ ?_; (focus (first | omega | (simp; done) | (simp; omega))); intro hz3 hd3 hg3)); (try (refine bz hK g ?_ ?_; (focus (first | omega | (simp; done) | (simp; omega))); intro hzg hdg hgg)); (try (refine bz hK g1 ?_ ?_; (focus (first | omega | (simp; done) | (simp; omega))); intro hzg hdg hgg)); (try (refine bz hK g2 ?_ ?_; (focus (first | omega | (simp; done) | (simp; omega))); intro hzg hdg hgg))))
        go_ret
        exact ⟨ret_bool e0.out.symm, by have hw := HW.out; go_grown⟩
      rcases h2 : svB t g with _ | _
      · have e0 : Hid (areB id ck es = false) := no_are (bad_s hx.out h2)
        go_wp2_with (first | (go_at_call 44; refine (isMessage_c _ _).mono ?_; rintro e w' ⟨rfl, rfl⟩) | (go_at_call 43; refine (implSV_c _ _ _).mono ?_; rintro e w1 ⟨rfl, hb⟩; have hK := bt (by first | with_reducible assumption | exact Below.refl _ _) hb; have hc := bcell hK; have hf := bfrozen hK; have hs := bsize hK; clear hb; (try simp only [World.size_drew, World.cell?_drew, World.frozen?_drew] at hc hf hs); (try (refine bw (w := w) hK ?_ ?_; (focus (first | exact HW.out | (have hq := HW.out; go_grown; done) | (go_grown; done))); intro hw hwz; have hK := hK)); (try (refine bz hK (w.heap.size) ?_ ?_; (focus (first | omega | (simp; done) | (simp; omega))); intro hz0 hd0 hg0)); (try (refine bz hK (w.heap.size + 1) ?_ ?_; (focus (first | omega | (simp; done) | (simp; omega))); intro hz1 hd1 hg1)); (try (refine bz hK (w.heap.size + 2) ?_ ?_; (focus (first | omega | (simp; done) | (simp; omega))); intro hz2 hd2 hg2)); (try (refine bz hK (w.heap.size + 3) ?_ ?_; (focus (first | omega | (simp; done) | (simp; omega))); intro hz3 hd3 hg3)); (try (refine bz hK g ?_ ?_; (focus (first | omega | (simp; done) | (simp; omega))); intro hzg hdg hgg)); (try (refine bz hK g1 ?_ ?_; (focus (first | omega | (simp; done) | (simp; omega))); intro hzg hdg hgg)); (try (refine bz hK g2 ?_ ?_; (focus (first | omega | (simp; done) | (simp; omega))); intro hzg hdg hgg))))
        go_ret
        exact ⟨ret_bool e0.out.symm, by have hw := HW.out; go_grown⟩
      by_cases h3 : t ≤ ck
      rotate_left 1
      · have h3' : decide (ck < t) = true := decide_eq_true (by omega)
        have e0 : Hid (areB id ck es = false) := no_are (bad_c hx.out h3)
        go_wp2_with (first | (go_at_call 44; refine (isMessage_c _ _).mono ?_; rintro e w' ⟨rfl, rfl⟩) | (go_at_call 43; refine (implSV_c _ _ _).mono ?_; rintro e w1 ⟨rfl, hb⟩; have hK := bt (by first | with_reducible assumption | exact Below.refl _ _) hb; have hc := bcell hK; have hf := bfrozen hK; have hs := bsize hK; clear hb; (try simp only [World.size_drew, World.cell?_drew, World.frozen?_drew] at hc hf hs); (try (refine bw (w := w) hK ?_ ?_; (focus (first | exact HW.out | (have hq := HW.out; go_grown; done) | (go_grown; done))); intro hw hwz; have hK := hK)); (try (refine bz hK (w.heap.size) ?_ ?_; (focus (first | omega | (simp; done) | (simp; omega))); intro hz0 hd0 hg0)); (try (refine bz hK (w.heap.size + 1) ?_ ?_; (focus (first | omega | (simp; done) | (simp; omega))); intro hz1 hd1 hg1)); (try (refine bz hK (w.heap.size + 2) ?_ ?_; (focus (first | omega | (simp; done) | (simp; omega))); intro hz2 hd2 hg2)); (try (refine bz hK (w.heap.size + 3) ?_ ?_; (focus (first | omega | (simp; done) | (simp; omega))); intro hz3 hd3 hg3)); (try (refine bz hK g ?_ ?_; (focus (first | omega | (simp; done) | (simp; omega))); intro hzg hdg hgg)); (try (refine bz hK g1 ?_ ?_; (focus (first | omega | (simp; done) | (simp; omega))); intro hzg hdg hgg)); (try (refine bz hK g2 ?_ ?_; (focus (first | omega | (simp; done) | (simp; omega))); intro hzg hdg hgg))))
        go_ret
        exact ⟨ret_bool e0.out.symm, by have hw := HW.out; go_grown⟩
      have h3' : decide (ck < t) = false := decide_eq_false (by omega)
      rcases f with _ | _
      · by_cases h6 : g = id
        · obtain rfl : id = g := h6.symm
          by_cases hk0 : k = 0
          · subst hk0
            have hd : decide ((0 : Int) < 0) = false := rfl
            have i3 : (0 : Int) < (es.length : Int) := by omega
            simp only [Nat.zero_mul, Nat.add_zero] at d0 d1 d2 d3
            have hup := hidI (upA_step HU.out (okA_mk0 hx.out h1 h2 h3 (.inr rfl)))
            go_wp2_with (first | (go_at_call 44; refine (isMessage_c _ _).mono ?_; rintro e w' ⟨rfl, rfl⟩) | (go_at_call 43; refine (implSV_c _ _ _).mono ?_; rintro e w1 ⟨rfl, hb⟩; have hK := bt (by first | with_reducible assumption | exact Below.refl _ _) hb; have hc := bcell hK; have hf := bfrozen hK; have hs := bsize hK; clear hb; (try simp only [World.size_drew, World.cell?_drew, World.frozen?_drew] at hc hf hs); (try (refine bw (w := w) hK ?_ ?_; (focus (first | exact HW.out | (have hq := HW.out; go_grown; done) | (go_grown; done))); intro hw hwz; have hK := hK)); (try (refine bz hK (w.heap.size) ?_ ?_; (focus (first | omega | (simp; done) | (simp; omega))); intro hz0 hd0 hg0)); (try (refine bz hK (w.heap.size + 1) ?_ ?_; (focus (first | omega | (simp; done) | (simp; omega))); intro hz1 hd1 hg1)); (try (refine bz hK (w.heap.size + 2) ?_ ?_; (focus (first | omega | (simp; done) | (simp; omega))); intro hz2 hd2 hg2)); (try (refine bz hK (w.heap.size + 3) ?_ ?_; (focus (first | omega | (simp; done) | (simp; omega))); intro hz3 hd3 hg3)); (try (refine bz hK g ?_ ?_; (focus (first | omega | (simp; done) | (simp; omega))); intro hzg hdg hgg)); (try (refine bz hK g1 ?_ ?_; (focus (first | omega | (simp; done) | (simp; omega))); intro hzg hdg hgg)); (try (refine bz hK g2 ?_ ?_; (focus (first | omega | (simp; done) | (simp; omega))); intro hzg hdg hgg))))
            refine wp_region_ext (by first | with_reducible assumption | exact Below.refl _ _) (by kernel_rfl) (by kernel_rfl) ?_
            intro hx hx2
            repeat (go_big_quiet_step ((first | (go_at_call 32; exact ext_call (implSLess_c _ _ _ _ _)))))
            refine wpQuiet_nil ?_
            clear hx hx2
            rintro _ ⟨⟨w1, hb⟩, rfl⟩
            have hK := bt (by first | with_reducible assumption | exact Below.refl _ _) hb
            have hc := bcell hK
            have hf := bfrozen hK
            have hs := bsize hK
            clear hb
            (try (refine bw (w := w) hK ?_ ?_; (focus (first | exact HW.out | (have hq := HW.out; go_grown; done) | (go_grown; done))); intro hw hwz; have hK := hK))
            (try (refine bz hK (w.heap.size) ?_ ?_; (focus (first | omega | (simp; done) | (simp; omega))); intro hz0 hd0 hg0))
            (try (refine bz hK (w.heap.size + 1) ?_ ?_; (focus (first | omega | (simp; done) | (simp; omega))); intro hz1 hd1 hg1))
            (try (refine bz hK (w.heap.size + 2) ?_ ?_; (focus (first | omega | (simp; done) | (simp; omega))); intro hz2 hd2 hg2))
            (try (refine bz hK (w.heap.size + 3) ?_ ?_; (focus (first | omega | (simp; done) | (simp; omega))); intro hz3 hd3 hg3))
            (try (refine bz hK g ?_ ?_; (focus (first | omega | (simp; done) | (simp; omega))); intro hzg hdg hgg))
            (try (refine bz hK g1 ?_ ?_; (focus (first | omega | (simp; done) | (simp; omega))); intro hzg hdg hgg))
            (try (refine bz hK g2 ?_ ?_; (focus (first | omega | (simp; done) | (simp; omega))); intro hzg hdg hgg))
            go_wp2
            go_roundw
            case rel => exact ⟨1, by omega, by go_num, hup.out, HB.out.below (bu hK (by go_grown)), bu hK (by have hw := HW.out; go_grown)⟩
            case measure => simp [intOf]; omega
          · obtain ⟨k, rfl⟩ : ∃ k', k = k' + 1 := ⟨k - 1, by omega⟩
            obtain ⟨b', o', m', t', g', f', e, _, hx', q0, q1, q2, q3⟩ := HR.out.ent (k := k) (by omega)
            simp only [Option.some.injEq, Addr.mk.injEq, and_true] at e
            obtain ⟨rfl, rfl⟩ := e
            clear q0 q3
            have hd : decide ((0 : Int) < (k : Int) + 1) = true := decide_eq_true (by omega)
            have i3 : ((k : Int) + 1).toNat = k + 1 := by omega
            have i5 : (k : Int) < (es.length : Int) := by omega
            have i7 : IntKind.i64.wrap ((k : Int) + 1 - 1) = k := by rw [IntWalk.i64_in _ (by omega)] <;> omega
            have i8 : (k : Int) + 1 - 1 = k := by omega
            have i9 : (0 : Int) ≤ (k : Int) := by omega
            simp only [Int.natCast_add, Int.cast_ofNat_Int] at i1 i2
            rcases h4 : ltB t' g' t id with _ | _
            · have e0 : Hid (areB id ck es = false) := no_are (bad_l hx.out hx'.out h4)
              go_wp2_with (first | (go_at_call 44; refine (isMessage_c _ _).mono ?_; rintro e w' ⟨rfl, rfl⟩) | (go_at_call 43; refine (implSV_c _ _ _).mono ?_; rintro e w1 ⟨rfl, hb⟩; have hK := bt (by first | with_reducible assumption | exact Below.refl _ _) hb; have hc := bcell hK; have hf := bfrozen hK; have hs := bsize hK; clear hb; (try simp only [World.size_drew, World.cell?_drew, World.frozen?_drew] at hc hf hs); (try (refine bw (w := w) hK ?_ ?_; (focus (first | exact HW.out | (have hq := HW.out; go_grown; done) | (go_grown; done))); intro hw hwz; have hK := hK)); (try (refine bz hK (w.heap.size) ?_ ?_; (focus (first | omega | (simp; done) | (simp; omega))); intro hz0 hd0 hg0)); (try (refine bz hK (w.heap.size + 1) ?_ ?_; (focus (first | omega | (simp; done) | (simp; omega))); intro hz1 hd1 hg1)); (try (refine bz hK (w.heap.size + 2) ?_ ?_; (focus (first | omega | (simp; done) | (simp; omega))); intro hz2 hd2 hg2)); (try (refine bz hK (w.heap.size + 3) ?_ ?_; (focus (first | omega | (simp; done) | (simp; omega))); intro hz3 hd3 hg3)); (try (refine bz hK g ?_ ?_; (focus (first | omega | (simp; done) | (simp; omega))); intro hzg hdg hgg)); (try (refine bz hK g1 ?_ ?_; (focus (first | omega | (simp; done) | (simp; omega))); intro hzg hdg hgg)); (try (refine bz hK g2 ?_ ?_; (focus (first | omega | (simp; done) | (simp; omega))); intro hzg hdg hgg))))
              refine wp_region_ext (by first | with_reducible assumption | exact Below.refl _ _) (by kernel_rfl) (by kernel_rfl) ?_
              intro hx hx2
              repeat (go_big_quiet_step ((first | (go_at_call 32; exact ext_call (implSLess_c _ _ _ _ _)))))
              refine wpQuiet_nil ?_
              clear hx hx2
              rintro _ ⟨⟨w1, hb⟩, rfl⟩
              have hK := bt (by first | with_reducible assumption | exact Below.refl _ _) hb
              have hc := bcell hK
              have hf := bfrozen hK
              have hs := bsize hK
              clear hb
              (try (refine bw (w := w) hK ?_ ?_; (focus (first | exact HW.out | (have hq := HW.out; go_grown; done) | (go_grown; done))); intro hw hwz; have hK := hK))
              (try (refine bz hK (w.heap.size) ?_ ?_; (focus (first | omega | (simp; done) | (simp; omega))); intro hz0 hd0 hg0))
              (try (refine bz hK (w.heap.size + 1) ?_ ?_; (focus (first | omega | (simp; done) | (simp; omega))); intro hz1 hd1 hg1))
              (try (refine bz hK (w.heap.size + 2) ?_ ?_; (focus (first | omega | (simp; done) | (simp; omega))); intro hz2 hd2 hg2))
              (try (refine bz hK (w.heap.size + 3) ?_ ?_; (focus (first | omega | (simp; done) | (simp; omega))); intro hz3 hd3 hg3))
              (try (refine bz hK g ?_ ?_; (focus (first | omega | (simp; done) | (simp; omega))); intro hzg hdg hgg))
              (try (refine bz hK g1 ?_ ?_; (focus (first | omega | (simp; done) | (simp; omega))); intro hzg hdg hgg))
              (try (refine bz hK g2 ?_ ?_; (focus (first | omega | (simp; done) | (simp; omega))); intro hzg hdg hgg))
              go_wp2
              go_ret
              exact ⟨ret_bool e0.out.symm, bu hK (by have hw := HW.out; go_grown)⟩
            · have hup := hidI (upA_step HU.out (okA_mk1 hx.out hx'.out h1 h2 h3 (.inr rfl) h4))
              go_wp2_with (first | (go_at_call 44; refine (isMessage_c _ _).mono ?_; rintro e w' ⟨rfl, rfl⟩) | (go_at_call 43; refine (implSV_c _ _ _).mono ?_; rintro e w1 ⟨rfl, hb⟩; have hK := bt (by first | with_reducible assumption | exact Below.refl _ _) hb; have hc := bcell hK; have hf := bfrozen hK; have hs := bsize hK; clear hb; (try simp only [World.size_drew, World.cell?_drew, World.frozen?_drew] at hc hf hs); (try (refine bw (w := w) hK ?_ ?_; (focus (first | exact HW.out | (have hq := HW.out; go_grown; done) | (go_grown; done))); intro hw hwz; have hK := hK)); (try (refine bz hK (w.heap.size) ?_ ?_; (focus (first | omega | (simp; done) | (simp; omega))); intro hz0 hd0 hg0)); (try (refine bz hK (w.heap.size + 1) ?_ ?_; (focus (first | omega | (simp; done) | (simp; omega))); intro hz1 hd1 hg1)); (try (refine bz hK (w.heap.size + 2) ?_ ?_; (focus (first | omega | (simp; done) | (simp; omega))); intro hz2 hd2 hg2)); (try (refine bz hK (w.heap.size + 3) ?_ ?_; (focus (first | omega | (simp; done) | (simp; omega))); intro hz3 hd3 hg3)); (try (refine bz hK g ?_ ?_; (focus (first | omega | (simp; done) | (simp; omega))); intro hzg hdg hgg)); (try (refine bz hK g1 ?_ ?_; (focus (first | omega | (simp; done) | (simp; omega))); intro hzg hdg hgg)); (try (refine bz hK g2 ?_ ?_; (focus (first | omega | (simp; done) | (simp; omega))); intro hzg hdg hgg))))
              refine wp_region_ext (by first | with_reducible assumption | exact Below.refl _ _) (by kernel_rfl) (by kernel_rfl) ?_
              intro hx hx2
              repeat (go_big_quiet_step ((first | (go_at_call 32; exact ext_call (implSLess_c _ _ _ _ _)))))
              refine wpQuiet_nil ?_
              clear hx hx2
              rintro _ ⟨⟨w1, hb⟩, rfl⟩
              have hK := bt (by first | with_reducible assumption | exact Below.refl _ _) hb
              have hc := bcell hK
              have hf := bfrozen hK
              have hs := bsize hK
              clear hb
              (try (refine bw (w := w) hK ?_ ?_; (focus (first | exact HW.out | (have hq := HW.out; go_grown; done) | (go_grown; done))); intro hw hwz; have hK := hK))
              (try (refine bz hK (w.heap.size) ?_ ?_; (focus (first | omega | (simp; done) | (simp; omega))); intro hz0 hd0 hg0))
              (try (refine bz hK (w.heap.size + 1) ?_ ?_; (focus (first | omega | (simp; done) | (simp; omega))); intro hz1 hd1 hg1))
              (try (refine bz hK (w.heap.size + 2) ?_ ?_; (focus (first | omega | (simp; done) | (simp; omega))); intro hz2 hd2 hg2))
              (try (refine bz hK (w.heap.size + 3) ?_ ?_; (focus (first | omega | (simp; done) | (simp; omega))); intro hz3 hd3 hg3))
              (try (refine bz hK g ?_ ?_; (focus (first | omega | (simp; done) | (simp; omega))); intro hzg hdg hgg))
              (try (refine bz hK g1 ?_ ?_; (focus (first | omega | (simp; done) | (simp; omega))); intro hzg hdg hgg))
              (try (refine bz hK g2 ?_ ?_; (focus (first | omega | (simp; done) | (simp; omega))); intro hzg hdg hgg))
              go_wp2
              go_roundw
              case rel => exact ⟨k + 1 + 1, by omega, by go_num, hup.out, HB.out.below (bu hK (by go_grown)), bu hK (by have hw := HW.out; go_grown)⟩
              case measure => simp [intOf]; omega
        · have e0 : Hid (areB id ck es = false) := no_are (bad_f hx.out rfl h6)
          go_wp2_with (first | (go_at_call 44; refine (isMessage_c _ _).mono ?_; rintro e w' ⟨rfl, rfl⟩) | (go_at_call 43; refine (implSV_c _ _ _).mono ?_; rintro e w1 ⟨rfl, hb⟩; have hK := bt (by first | with_reducible assumption | exact Below.refl _ _) hb; have hc := bcell hK; have hf := bfrozen hK; have hs := bsize hK; clear hb; (try simp only [World.size_drew, World.cell?_drew, World.frozen?_drew] at hc hf hs); (try (refine bw (w := w) hK ?_ ?_; (focus (first | exact HW.out | (have hq := HW.out; go_grown; done) | (go_grown; done))); intro hw hwz; have hK := hK)); (try (refine bz hK (w.heap.size) ?_ ?_; (focus (first | omega | (simp; done) | (simp; omega))); intro hz0 hd0 hg0)); (try (refine bz hK (w.heap.size + 1) ?_ ?_; (focus (first | omega | (simp; done) | (simp; omega))); intro hz1 hd1 hg1)); (try (refine bz hK (w.heap.size + 2) ?_ ?_; (focus (first | omega | (simp; done) | (simp; omega))); intro hz2 hd2 hg2)); (try (refine bz hK (w.heap.size + 3) ?_ ?_; (focus (first | omega | (simp; done) | (simp; omega))); intro hz3 hd3 hg3)); (try (refine bz hK g ?_ ?_; (focus (first | omega | (simp; done) | (simp; omega))); intro hzg hdg hgg)); (try (refine bz hK g1 ?_ ?_; (focus (first | omega | (simp; done) | (simp; omega))); intro hzg hdg hgg)); (try (refine bz hK g2 ?_ ?_; (focus (first | omega | (simp; done) | (simp; omega))); intro hzg hdg hgg))))
          go_ret
          exact ⟨ret_bool e0.out.symm, by have hw := HW.out; go_grown⟩
      · by_cases hk0 : k = 0
        · subst hk0
          have hd : decide ((0 : Int) < 0) = false := rfl
          have i3 : (0 : Int) < (es.length : Int) := by omega
          simp only [Nat.zero_mul, Nat.add_zero] at d0 d1 d2 d3
          have hup := hidI (upA_step HU.out (okA_mk0 hx.out h1 h2 h3 (.inl rfl)))
          go_wp2_with (first | (go_at_call 44; refine (isMessage_c _ _).mono ?_; rintro e w' ⟨rfl, rfl⟩) | (go_at_call 43; refine (implSV_c _ _ _).mono ?_; rintro e w1 ⟨rfl, hb⟩; have hK := bt (by first | with_reducible assumption | exact Below.refl _ _) hb; have hc := bcell hK; have hf := bfrozen hK; have hs := bsize hK; clear hb; (try simp only [World.size_drew, World.cell?_drew, World.frozen?_drew] at hc hf hs); (try (refine bw (w := w) hK ?_ ?_; (focus (first | exact HW.out | (have hq := HW.out; go_grown; done) | (go_grown; done))); intro hw hwz; have hK := hK)); (try (refine bz hK (w.heap.size) ?_ ?_; (focus (first | omega | (simp; done) | (simp; omega))); intro hz0 hd0 hg0)); (try (refine bz hK (w.heap.size + 1) ?_ ?_; (focus (first | omega | (simp; done) | (simp; omega))); intro hz1 hd1 hg1)); (try (refine bz hK (w.heap.size + 2) ?_ ?_; (focus (first | omega | (simp; done) | (simp; omega))); intro hz2 hd2 hg2)); (try (refine bz hK (w.heap.size + 3) ?_ ?_; (focus (first | omega | (simp; done) | (simp; omega))); intro hz3 hd3 hg3)); (try (refine bz hK g ?_ ?_; (focus (first | omega | (simp; done) | (simp; omega))); intro hzg hdg hgg)); (try (refine bz hK g1 ?_ ?_; (focus (first | omega | (simp; done) | (simp; omega))); intro hzg hdg hgg)); (try (refine bz hK g2 ?_ ?_; (focus (first | omega | (simp; done) | (simp; omega))); intro hzg hdg hgg))))
          refine wp_region_ext (by first | with_reducible assumption | exact Below.refl _ _) (by kernel_rfl) (by kernel_rfl) ?_
          intro hx hx2
          repeat (go_big_quiet_step ((first | (go_at_call 32; exact ext_call (implSLess_c _ _ _ _ _)))))
          refine wpQuiet_nil ?_
          clear hx hx2
          rintro _ ⟨⟨w1, hb⟩, rfl⟩
          have hK := bt (by first | with_reducible assumption | exact Below.refl _ _) hb
          have hc := bcell hK
          have hf := bfrozen hK
          have hs := bsize hK
          clear hb
          (try (refine bw (w := w) hK ?_ ?_; (focus (first | exact HW.out | (have hq := HW.out; go_grown; done) | (go_grown; done))); intro hw hwz; have hK := hK))
          (try (refine bz hK (w.heap.size) ?_ ?_; (focus (first | omega | (simp; done) | (simp; omega))); intro hz0 hd0 hg0))
          (try (refine bz hK (w.heap.size + 1) ?_ ?_; (focus (first | omega | (simp; done) | (simp; omega))); intro hz1 hd1 hg1))
          (try (refine bz hK (w.heap.size + 2) ?_ ?_; (focus (first | omega | (simp; done) | (simp; omega))); intro hz2 hd2 hg2))
          (try (refine bz hK (w.heap.size + 3) ?_ ?_; (focus (first | omega | (simp; done) | (simp; omega))); intro hz3 hd3 hg3))
          (try (refine bz hK g ?_ ?_; (focus (first | omega | (simp; done) | (simp; omega))); intro hzg hdg hgg))
          (try (refine bz hK g1 ?_ ?_; (focus (first | omega | (simp; done) | (simp; omega))); intro hzg hdg hgg))
          (try (refine bz hK g2 ?_ ?_; (focus (first | omega | (simp; done) | (simp; omega))); intro hzg hdg hgg))
          go_wp2
          go_roundw
          case rel => exact ⟨1, by omega, by go_num, hup.out, HB.out.below (bu hK (by go_grown)), bu hK (by have hw := HW.out; go_grown)⟩
          case measure => simp [intOf]; omega
        · obtain ⟨k, rfl⟩ : ∃ k', k = k' + 1 := ⟨k - 1, by omega⟩
          obtain ⟨b', o', m', t', g', f', e, _, hx', q0, q1, q2, q3⟩ := HR.out.ent (k := k) (by omega)
          simp only [Option.some.injEq, Addr.mk.injEq, and_true] at e
          obtain ⟨rfl, rfl⟩ := e
          clear q0 q3
          have hd : decide ((0 : Int) < (k : Int) + 1) = true := decide_eq_true (by omega)
          have i3 : ((k : Int) + 1).toNat = k + 1 := by omega
          have i5 : (k : Int) < (es.length : Int) := by omega
          have i7 : IntKind.i64.wrap ((k : Int) + 1 - 1) = k := by rw [IntWalk.i64_in _ (by omega)] <;> omega
          have i8 : (k : Int) + 1 - 1 = k := by omega
          have i9 : (0 : Int) ≤ (k : Int) := by omega
          simp only [Int.natCast_add, Int.cast_ofNat_Int] at i1 i2
          rcases h4 : ltB t' g' t g with _ | _
          · have e0 : Hid (areB id ck es = false) := no_are (bad_l hx.out hx'.out h4)
            go_wp2_with (first | (go_at_call 44; refine (isMessage_c _ _).mono ?_; rintro e w' ⟨rfl, rfl⟩) | (go_at_call 43; refine (implSV_c _ _ _).mono ?_; rintro e w1 ⟨rfl, hb⟩; have hK := bt (by first | with_reducible assumption | exact Below.refl _ _) hb; have hc := bcell hK; have hf := bfrozen hK; have hs := bsize hK; clear hb; (try simp only [World.size_drew, World.cell?_drew, World.frozen?_drew] at hc hf hs); (try (refine bw (w := w) hK ?_ ?_; (focus (first | exact HW.out | (have hq := HW.out; go_grown; done) | (go_grown; done))); intro hw hwz; have hK := hK)); (try (refine bz hK (w.heap.size) ?_ ?_; (focus (first | omega | (simp; done) | (simp; omega))); intro hz0 hd0 hg0)); (try (refine bz hK (w.heap.size + 1) ?_ ?_; (focus (first | omega | (simp; done) | (simp; omega))); intro hz1 hd1 hg1)); (try (refine bz hK (w.heap.size + 2) ?_ ?_; (focus (first | omega | (simp; done) | (simp; omega))); intro hz2 hd2 hg2)); (try (refine bz hK (w.heap.size + 3) ?_ ?_; (focus (first | omega | (simp; done) | (simp; omega))); intro hz3 hd3 hg3)); (try (refine bz hK g ?_ ?_; (focus (first | omega | (simp; done) | (simp; omega))); intro hzg hdg hgg)); (try (refine bz hK g1 ?_ ?_; (focus (first | omega | (simp; done) | (simp; omega))); intro hzg hdg hgg)); (try (refine bz hK g2 ?_ ?_; (focus (first | omega | (simp; done) | (simp; omega))); intro hzg hdg hgg))))
            refine wp_region_ext (by first | with_reducible assumption | exact Below.refl _ _) (by kernel_rfl) (by kernel_rfl) ?_
            intro hx hx2
            repeat (go_big_quiet_step ((first | (go_at_call 32; exact ext_call (implSLess_c _ _ _ _ _)))))
            refine wpQuiet_nil ?_
            clear hx hx2
            rintro _ ⟨⟨w1, hb⟩, rfl⟩
            have hK := bt (by first | with_reducible assumption | exact Below.refl _ _) hb
            have hc := bcell hK
            have hf := bfrozen hK
            have hs := bsize hK
            clear hb
            (try (refine bw (w := w) hK ?_ ?_; (focus (first | exact HW.out | (have hq := HW.out; go_grown; done) | (go_grown; done))); intro hw hwz; have hK := hK))
            (try (refine bz hK (w.heap.size) ?_ ?_; (focus (first | omega | (simp; done) | (simp; omega))); intro hz0 hd0 hg0))
            (try (refine bz hK (w.heap.size + 1) ?_ ?_; (focus (first | omega | (simp; done) | (simp; omega))); intro hz1 hd1 hg1))
            (try (refine bz hK (w.heap.size + 2) ?_ ?_; (focus (first | omega | (simp; done) | (simp; omega))); intro hz2 hd2 hg2))
            (try (refine bz hK (w.heap.size + 3) ?_ ?_; (focus (first | omega | (simp; done) | (simp; omega))); intro hz3 hd3 hg3))
            (try (refine bz hK g ?_ ?_; (focus (first | omega | (simp; done) | (simp; omega))); intro hzg hdg hgg))
            (try (refine bz hK g1 ?_ ?_; (focus (first | omega | (simp; done) | (simp; omega))); intro hzg hdg hgg))
            (try (refine bz hK g2 ?_ ?_; (focus (first | omega | (simp; done) | (simp; omega))); intro hzg hdg hgg))
            go_wp2
            go_ret
            exact ⟨ret_bool e0.out.symm, bu hK (by have hw := HW.out; go_grown)⟩
          · have hup := hidI (upA_step HU.out (okA_mk1 hx.out hx'.out h1 h2 h3 (.inl rfl) h4))
            go_wp2_with (first | (go_at_call 44; refine (isMessage_c _ _).mono ?_; rintro e w' ⟨rfl, rfl⟩) | (go_at_call 43; refine (implSV_c _ _ _).mono ?_; rintro e w1 ⟨rfl, hb⟩; have hK := bt (by first | with_reducible assumption | exact Below.refl _ _) hb; have hc := bcell hK; have hf := bfrozen hK; have hs := bsize hK; clear hb; (try simp only [World.size_drew, World.cell?_drew, World.frozen?_drew] at hc hf hs); (try (refine bw (w := w) hK ?_ ?_; (focus (first | exact HW.out | (have hq := HW.out; go_grown; done) | (go_grown; done))); intro hw hwz; have hK := hK)); (try (refine bz hK (w.heap.size) ?_ ?_; (focus (first | omega | (simp; done) | (simp; omega))); intro hz0 hd0 hg0)); (try (refine bz hK (w.heap.size + 1) ?_ ?_; (focus (first | omega | (simp; done) | (simp; omega))); intro hz1 hd1 hg1)); (try (refine bz hK (w.heap.size + 2) ?_ ?_; (focus (first | omega | (simp; done) | (simp; omega))); intro hz2 hd2 hg2)); (try (refine bz hK (w.heap.size + 3) ?_ ?_; (focus (first | omega | (simp; done) | (simp; omega))); intro hz3 hd3 hg3)); (try (refine bz hK g ?_ ?_; (focus (first | omega | (simp; done) | (simp; omega))); intro hzg hdg hgg)); (try (refine bz hK g1 ?_ ?_; (focus (first | omega | (simp; done) | (simp; omega))); intro hzg hdg hgg)); (try (refine bz hK g2 ?_ ?_; (focus (first | omega | (simp; done) | (simp; omega))); intro hzg hdg hgg))))
            refine wp_region_ext (by first | with_reducible assumption | exact Below.refl _ _) (by kernel_rfl) (by kernel_rfl) ?_
            intro hx hx2
            repeat (go_big_quiet_step ((first | (go_at_call 32; exact ext_call (implSLess_c _ _ _ _ _)))))
            refine wpQuiet_nil ?_
            clear hx hx2
            rintro _ ⟨⟨w1, hb⟩, rfl⟩
            have hK := bt (by first | with_reducible assumption | exact Below.refl _ _) hb
            have hc := bcell hK
            have hf := bfrozen hK
            have hs := bsize hK
            clear hb
            (try (refine bw (w := w) hK ?_ ?_; (focus (first | exact HW.out | (have hq := HW.out; go_grown; done) | (go_grown; done))); intro hw hwz; have hK := hK))
            (try (refine bz hK (w.heap.size) ?_ ?_; (focus (first | omega | (simp; done) | (simp; omega))); intro hz0 hd0 hg0))
            (try (refine bz hK (w.heap.size + 1) ?_ ?_; (focus (first | omega | (simp; done) | (simp; omega))); intro hz1 hd1 hg1))
            (try (refine bz hK (w.heap.size + 2) ?_ ?_; (focus (first | omega | (simp; done) | (simp; omega))); intro hz2 hd2 hg2))
            (try (refine bz hK (w.heap.size + 3) ?_ ?_; (focus (first | omega | (simp; done) | (simp; omega))); intro hz3 hd3 hg3))
            (try (refine bz hK g ?_ ?_; (focus (first | omega | (simp; done) | (simp; omega))); intro hzg hdg hgg))
            (try (refine bz hK g1 ?_ ?_; (focus (first | omega | (simp; done) | (simp; omega))); intro hzg hdg hgg))
            (try (refine bz hK g2 ?_ ?_; (focus (first | omega | (simp; done) | (simp; omega))); intro hzg hdg hgg))
            go_wp2
            go_roundw
            case rel => exact ⟨k + 1 + 1, by omega, by go_num, hup.out, HB.out.below (bu hK (by go_grown)), bu hK (by have hw := HW.out; go_grown)⟩
            case measure => simp [intOf]; omega
      --END
    · obtain rfl : k = es.length := by omega
      go_wp2
      go_ret
      exact ⟨ret_bool (upA_full HU.out).symm, hw⟩
end Go.Proofs.Ytiecjkacbpbghaa
