/- Contracts: a group is checked by the program. -/
import Derived.Test.YtiecjkacbpbghaaEe
namespace Go.Proofs.Ytiecjkacbpbghaa
set_option linter.unusedVariables false
open Go.RowKit

set_option maxHeartbeats 8000000 in
theorem implGr_c (id ck : Int) (A1 A2 : Option Addr) (P D : List Ent) (c1 c2 : Nat) (w : World) (hn1 : P.length ≤ 1048576) (hn2 : D.length ≤ 1048576) (hl1 : P.length ≤ c1) (hl2 : D.length ≤ c2) (z1 : A1 = none → P = [] ∧ c1 = 0) (z2 : A2 = none → D = [] ∧ c2 = 0) (hr1 : RE w A1 P) (hr2 : RE w A2 D) :
    Calls Try.prog 12 #[.agg #[.int .i64 id, .int .i64 ck, .slice A1 P.length c1, .slice A2 D.length c2]] w fun e w' => e = .returned (.bool (gB id ck P D)) ∧ Below w.heap.size w w' := by
  have B0 := Box.new w 26 #[.int .i64 id, .int .i64 ck, .slice A1 P.length c1, .slice A2 D.length c2]
  have hw0 : Below w.heap.size w (w.alloc (.cells #[.int .i64 id, .int .i64 ck, .slice A1 P.length c1, .slice A2 D.length c2] 26)) := by go_grown
  have C1 := fun W => isGroup_c id W
  have C2 := fun W => isTime_c ck W
  have C3 := fun W (h : Below w.heap.size w W) => areEntries_c id ck A1 A2 P.length c1 D.length c2 A1 P c1 W hn1 hl1 (RE.below hr1 h)
  have C4 := fun W (h : Below w.heap.size w W) => areEntries_c id ck A1 A2 P.length c1 D.length c2 A2 D c2 W hn2 hl2 (RE.below hr2 h)
  have HR1 := hidI (fun W (h : Below w.heap.size w W) => RE.below hr1 h)
  have HR2 := hidI (fun W (h : Below w.heap.size w W) => RE.below hr2 h)
  have HZ1 := hidI z1
  have HZ2 := hidI z2
  clear hr1 hr2 z1 z2
  rcases e1 : inB id 0 4 with _ | _
  · have E : Hid (gB id ck P D = false) := gB_no fun g => by
      have := g.1
      rw [e1] at this
      cases this
    rw [e1] at C1
    have HC1 := hidI C1
    clear C1 C2 C3 C4 HR1 HR2 e1
    go_enter Try.func12, Try.ntmps12
    go_wp2_with fail
    refine (HC1.out _).mono ?_
    rintro e w' ⟨rfl, rfl⟩
    go_wp2_with fail
    go_ret
    exact ⟨ret_bool E.out.symm, hw0⟩
  rcases e2 : inB ck 0 999 with _ | _
  · have E : Hid (gB id ck P D = false) := gB_no fun g => by
      have := g.2.1
      rw [e2] at this
      cases this
    rw [e1] at C1
    rw [e2] at C2
    have HC1 := hidI C1
    have HC2 := hidI C2
    clear C1 C2 C3 C4 HR1 HR2 e1 e2
    go_enter Try.func12, Try.ntmps12
    go_wp2_with fail
    refine (HC1.out _).mono ?_
    rintro e w' ⟨rfl, rfl⟩
    go_wp2_with fail
    refine (HC2.out _).mono ?_
    rintro e w' ⟨rfl, rfl⟩
    go_wp2_with fail
    go_ret
    exact ⟨ret_bool E.out.symm, hw0⟩
  rw [e1] at C1
  rw [e2] at C2
  have HC1 := hidI C1
  have HC2 := hidI C2
  have HE1 := hidI e1
  have HE2 := hidI e2
  clear C1 C2 e1 e2
  go_enter Try.func12, Try.ntmps12
  go_wp2_with fail
  refine (HC1.out _).mono ?_
  rintro e w' ⟨rfl, rfl⟩
  go_wp2_with fail
  refine (HC2.out _).mono ?_
  rintro e w' ⟨rfl, rfl⟩
  go_wp2_with fail
  clear HC1 HC2
  rcases e3 : areB id ck P with _ | _
  · have E : Hid (gB id ck P D = false) := gB_no fun g => areB_false e3 (gP_iff.1 g).2.2.1
    rw [e3] at C3
    refine (C3 _ hw0).mono ?_
    rintro e w1 ⟨rfl, hb⟩
    have hw1 := bu hb hw0
    clear C3 C4 HR1 HR2 e3 hb B0 hw0
    go_wp2_with fail
    go_ret
    exact ⟨ret_bool E.out.symm, hw1⟩
  rw [e3] at C3
  refine (C3 _ hw0).mono ?_
  rintro e w1 ⟨rfl, hb⟩
  have hw1 := bu hb hw0
  have B1 := B0.below hb
  obtain ⟨k0, k1, k2, k3⟩ := B1.four
  have l1 := B1.lt
  have HE3 := hidI e3
  have HC4 := hidI C4
  clear C3 C4 hb B0 hw0 e3
  go_wp2_with fail
  rcases e4 : areB id ck D with _ | _
  · have E : Hid (gB id ck P D = false) := gB_no fun g => areB_false e4 (gP_iff.1 g).2.2.2.1
    have C4 := HC4.out
    rw [e4] at C4
    refine (C4 _ hw1).mono ?_
    rintro e w2 ⟨rfl, hb⟩
    have hw2 := bu hb hw1
    clear C4 HC4 HR1 HR2 e4 hb B1 hw1
    go_wp2_with fail
    go_ret
    exact ⟨ret_bool E.out.symm, hw2⟩
  have C4 := HC4.out
  rw [e4] at C4
  refine (C4 _ hw1).mono ?_
  rintro e w2 ⟨rfl, hb⟩
  have hw2 := bu hb hw1
  have B2 := B1.below hb
  have HE4 := hidI e4
  clear C4 HC4 hb B1 hw1 k0 k1 k2 k3 l1 e4
  obtain ⟨k0, k1, k2, k3⟩ := B2.four
  have l2 := B2.lt
  go_wp2_with fail
  have BZ : Box (w2.alloc (.cells #[.bool false, .bool false, .bool false, .bool false, .bool false, .bool false, .bool false, .bool false, .bool false, .bool false, .bool false, .bool false] 54)) w2.heap.size 54 (seenL []).toArray := Box.new w2 _ _
  have B3 := B2.alloc (.cells #[.bool false, .bool false, .bool false, .bool false, .bool false, .bool false, .bool false, .bool false, .bool false, .bool false, .bool false, .bool false] 54)
  have hw3 : Below w.heap.size w (w2.alloc (.cells #[.bool false, .bool false, .bool false, .bool false, .bool false, .bool false, .bool false, .bool false, .bool false, .bool false, .bool false, .bool false] 54)) := by go_grown
  have hz : w2.heap.size + 1 = (w2.alloc (.cells #[.bool false, .bool false, .bool false, .bool false, .bool false, .bool false, .bool false, .bool false, .bool false, .bool false, .bool false, .bool false] 54)).heap.size := by simp
  obtain ⟨wz, hwz⟩ : ∃ x, w2.alloc (.cells #[.bool false, .bool false, .bool false, .bool false, .bool false, .bool false, .bool false, .bool false, .bool false, .bool false, .bool false, .bool false] 54) = x := ⟨_, rfl⟩
  rw [hwz] at BZ B3 hw3 hz
  simp only [hwz]
  clear hwz k0 k1 k2 k3 B2 hw2
  obtain ⟨k0, k1, k2, k3⟩ := B3.four
  have l3 := B3.lt
  have HV : Hid (∀ W, Below wz.heap.size wz W → Calls Try.prog 31 #[.slice A2 D.length c2] W fun e w1 => ∃ A3 c3, e = .returned (.slice A3 D.length c3) ∧ (w1.cell? ⟨w.heap.size, 2, none⟩ = some (.slice A1 P.length c1) ∧ w1.cell? ⟨w.heap.size, 3, none⟩ = some (.slice A2 D.length c2)) ∧ EV w1 wz.heap.size (.slice A3 D.length c3) D.length D ∧ Below wz.heap.size wz w1) := fun W hW =>
    (cloneE_c A2 D c2 W hn2 HZ2.out (HR2.out _ (bt hw3 hW))).mono fun e w1 ⟨A3, c3, he, V, hb1⟩ => ⟨A3, c3, he, ⟨((bt hW hb1).cell (p := ⟨w.heap.size, 2, none⟩) l3).trans k2, ((bt hW hb1).cell (p := ⟨w.heap.size, 3, none⟩) l3).trans k3⟩, V.mono hW.size, bt hW hb1⟩
  have HB3 := hidI B3
  have HBZ := hidI BZ
  have HW3 := hidI hw3
  clear k0 k1 B3 BZ hw3
  go_region_held3 (fun w' => w'.cell? ⟨w.heap.size, 2, none⟩ = some (.slice A1 P.length c1) ∧ w'.cell? ⟨w.heap.size, 3, none⟩ = some (.slice A2 D.length c2))
    ((first | assumption | (exact ⟨k2, k3⟩) | (simp (maxDischargeDepth := 4) [*]; done) | (go_keep; done)))
    ((first
      | (go_at_call 31; refine (HV.out _ (by go_grown)).mono ?_; rintro e w3 ⟨A3, c3, rfl, k4, V3, hb3⟩)
      | (refine step_append_EVo P (by rfl) _ _ (by rfl) (by rfl) V3 (by rfl) HZ1.out rfl (HR1.out _ (bt HW3.out hb3)) (by omega) hb3.size ?_; intro v4 w4 V4 hb4 hg4; obtain ⟨A4, c4, rfl⟩ := V4.open_; have k5 := And.intro ((hb4.cell (p := ⟨w.heap.size, 2, none⟩) l3).trans k4.1) ((hb4.cell (p := ⟨w.heap.size, 3, none⟩) l3).trans k4.2))))
  have hb4' : Below wz.heap.size wz w4 := hb3.trans hb4
  have B4 := HB3.out.below hb4'
  have BZ4 := HBZ.out.below hb4'
  have hw4 := bt HW3.out hb4'
  clear hb3 hb4 hg4 k4 k5 V3 HV k2 k3 HB3 HBZ HW3 hb4'
  obtain ⟨L, hL⟩ : ∃ L, D ++ P = L := ⟨_, rfl⟩
  have hLl : L.length = D.length + P.length := by rw [← hL, List.length_append]
  have hLm : ∀ e ∈ L, 0 ≤ e.m ∧ e.m ≤ 11 := fun e he => by
    rw [← hL] at he
    rcases List.mem_append.1 he with h | h
    · exact are_msg (areB_iff.1 HE4.out) e h
    · exact are_msg (areB_iff.1 HE3.out) e h
  have HG : Hid ((L.map Ent.m).Nodup → (∀ d ∈ D, d.f = true) → tlP P D → gB id ck P D = true) := fun h1 h2 h3 => gB_iff.2 (gP_iff.2 ⟨HE1.out, HE2.out, areB_iff.1 HE3.out, areB_iff.1 HE4.out, by rw [hL]; exact h1, h2, h3⟩)
  have HN : Hid (¬ (L.map Ent.m).Nodup → gB id ck P D = false) := fun h => gB_no fun g => h (by have := (gP_iff.1 g).2.2.2.2.1; rwa [hL] at this)
  have HM := hidI hLm
  rw [hL] at V4
  have HV4 := hidI V4
  have HB4 := hidI B4
  have HW4 := hidI hw4
  have l4 := B4.lt
  have z4 := BZ4.lt
  have s4 := hw4.size
  clear HE1 HE2 HE3 HE4 hLm hL V4 B4 hw4
  go_wp2_with fail
  go_loopw [40] (fun i wr => ∃ k : Nat, k ≤ L.length ∧ i = .int .i64 k ∧ Hid (∀ j, j < k → ∀ e, L[j]? = some e → ¬ e.m ∈ (L.take j).map Ent.m) ∧ Box wr w2.heap.size 54 (seenL ((L.take k).map Ent.m)).toArray ∧ Hid (w4.grownBy wr (some w2.heap.size)))
    (fun i _ => L.length - (intOf i).toNat)
  case atStart => exact ⟨0, Nat.zero_le _, rfl, fun j hj => absurd hj (by omega), by simpa using BZ4, grown_refl _ _⟩
  case round =>
    clear BZ4
    obtain ⟨k, hk, rfl, HF, BZ, HGr⟩ := hrel
    have lz := BZ.lt
    have hsz := HGr.out.size
    by_cases hlt : k < L.length
    · have B := HB4.out.grown HGr.out (by intro h; injection h; omega)
      obtain ⟨b, o, m, t, g, f, rfl, hb, hx, d0, d1, d2, d3⟩ := (HV4.out.grown HGr.out (fun j e => by cases e; omega)).rd.ent hlt
      obtain ⟨m0, m1⟩ := HM.out _ (mem_at hx.out)
      simp only at m0 m1
      have i1 : (0 : Int) ≤ (k : Int) := by omega
      have i2 : (k : Int) < (D.length : Int) + (P.length : Int) := by omega
      have m2 : m < 12 := by omega
      have q0 := BZ.cell m.toNat
      have q1 := BZ.frozen m.toNat
      simp only [List.getElem?_toArray, seenL_at m0 m1] at q0
      have HBw : Hid (Below w.heap.size w wr) := HW4.out.grown HGr.out s4 (fun j e => by cases e; omega)
      have HBZ := hidI BZ
      clear BZ
      by_cases hm : m ∈ (L.take k).map Ent.m
      · have E : Hid (gB id ck P D = false) := HN.out (seen_bad hx.out hm)
        rw [decide_eq_true hm] at q0
        clear hm
        go_wp2_with fail
        go_ret
        exact ⟨ret_bool E.out.symm, by have hw := HBw.out; go_grown⟩
      · have HM2 := hidI hm
        rw [decide_eq_false hm] at q0
        clear hm
        go_wp2_with fail
        go_roundw
        case rel =>
          refine ⟨k + 1, by omega, by go_num, fun j hj e he => ?_, ?_, ?_⟩
          · rcases Nat.lt_or_ge j k with h | h
            · exact HF.out j h e he
            · obtain rfl : j = k := by omega
              have := hx.out.symm.trans he
              cases this
              exact HM2.out
          · rw [seen_take hx.out, ← seenL_set m0 m1]
            exact (HBZ.out.list_set m.toNat (.bool true)).alloc _
          · exact gE_alloc (gE_set HGr.out _ _) _
        case measure => simp [intOf]; omega
    · obtain rfl : k = L.length := by omega
      have HBw : Hid (Below w.heap.size w wr) := HW4.out.grown HGr.out s4 (fun j e => by cases e; omega)
      have HB := hidI (HB4.out.grown HGr.out (by intro h; injection h; omega))
      have HG2 : Hid ((∀ d ∈ D, d.f = true) → tlP P D → gB id ck P D = true) := HG.out (seen_good fun j e he => HF.out j (List.getElem?_eq_some_iff.1 he).1 e he)
      obtain ⟨k0, k1, k2, k3⟩ := HB.out.four
      clear HG HF BZ HGr HN HM hlt
      go_wp2_with fail
      clear k0 k1 k2 k3 lz hsz hk HV4 HB4 HW4 l4 z4 s4
      obtain ⟨wq, rfl⟩ : ∃ x : World, x = wr := ⟨_, rfl⟩
      go_loopw [55] (fun i wr => ∃ k : Nat, k ≤ D.length ∧ i = .int .i64 k ∧ Hid (∀ d ∈ D.take k, d.f = true) ∧ Box wr w.heap.size 26 #[.int .i64 id, .int .i64 ck, .slice A1 P.length c1, .slice A2 D.length c2] ∧ Below w.heap.size w wr)
        (fun i _ => D.length - (intOf i).toNat)
      case atStart => exact ⟨0, Nat.zero_le _, rfl, by simp [Hid], HB.out, HBw.out⟩
      case round =>
        clear HB HBw
        obtain ⟨k, hk, rfl, HF, B, hw⟩ := hrel
        have lB := B.lt
        obtain ⟨k0, k1, k2, k3⟩ := B.four
        have HB := hidI B
        have HW := hidI hw
        have hsw := hw.size
        clear B
        by_cases hlt : k < D.length
        · obtain ⟨b, o, m, t, g, f, rfl, hb, hx, d0, d1, d2, d3⟩ := (HR2.out _ hw).ent hlt
          have i1 : (0 : Int) ≤ (k : Int) := by omega
          have i2 : (k : Int) < (D.length : Int) := by omega
          clear hw
          rcases f with _ | _
          · have E : Hid (gB id ck P D = false) := no_f hx.out rfl
            go_wp2_with fail
            go_ret
            exact ⟨ret_bool E.out.symm, by have hw := HW.out; go_grown⟩
          · go_wp2_with fail
            go_roundw
            case rel =>
              refine ⟨k + 1, by omega, by go_num, ?_, by have B := HB.out; exact B.alloc _, by have hw := HW.out; go_grown⟩
              intro d hd
              rw [take_at hx.out] at hd
              rcases List.mem_append.1 hd with h | h
              · exact HF.out d h
              · obtain rfl : d = _ := by simpa using h
                rfl
            case measure => simp [intOf]; omega
        · obtain rfl : k = D.length := by omega
          have HG3 : Hid (tlP P D → gB id ck P D = true) := HG2.out (by have := HF.out; rwa [List.take_length] at this)
          clear HF HG2
          by_cases hP : P.length = 0
          · have E : Hid (gB id ck P D = true) := HG3.out (tl_none hP)
            have hP' : ((P.length : Int) == 0) = true := by rw [hP]; rfl
            clear hw
            go_wp2_with fail
            go_ret
            exact ⟨ret_bool E.out.symm, HW.out⟩
          · obtain ⟨b, o, m, t, g, f, rfl, hb, hx, d0, d1, d2, d3⟩ := (HR1.out _ hw).ent (k := 0) (by omega)
            simp only [Nat.zero_mul, Nat.add_zero] at d0 d1 d2 d3
            have hP' : ((P.length : Int) == 0) = false := by simp; intro h; exact hP (by simp [h])
            have i2 : (0 : Int) < (P.length : Int) := by omega
            rcases f with _ | _
            rotate_left 1
            · have E : Hid (gB id ck P D = false) := no_tl (tl_f hx.out rfl)
              clear hw
              go_wp2_with fail
              refine wp_region_ext (by first | with_reducible assumption | exact Below.refl _ _) (by kernel_rfl) (by kernel_rfl) ?_
              intro hx hx2
              repeat (go_big_quiet_step (fail))
              refine wpQuiet_nil ?_
              clear hx hx2
              rintro _ ⟨⟨w1, hb⟩, rfl⟩
              have hK := bt (by first | with_reducible assumption | exact Below.refl _ _) hb
              have hc := bcell hK
              have hf := bfrozen hK
              have hs := bsize hK
              clear hb
              (try (refine bw (w := w) hK ?_ ?_; (focus (first | exact HW.out | (have hq := HW.out; go_grown; done) | (go_grown; done))); intro hw hwz; have hK := hK))
              (try (refine bz hK (w.heap.size) ?_ ?_; (focus (first | omega | (simp; done) | (simp; omega))); intro hz0 hd0 hg0))
              (try (refine bz hK (w.heap.size + 1) ?_ ?_; (focus (first | omega | (simp; done) | (simp; omega))); intro hz1 hd1 hg1))
              (try (refine bz hK (w.heap.size + 2) ?_ ?_; (focus (first | omega | (simp; done) | (simp; omega))); intro hz2 hd2 hg2))
              (try (refine bz hK (w.heap.size + 3) ?_ ?_; (focus (first | omega | (simp; done) | (simp; omega))); intro hz3 hd3 hg3))
              (try (refine bz hK g ?_ ?_; (focus (first | omega | (simp; done) | (simp; omega))); intro hzg hdg hgg))
              (try (refine bz hK g1 ?_ ?_; (focus (first | omega | (simp; done) | (simp; omega))); intro hzg hdg hgg))
              (try (refine bz hK g2 ?_ ?_; (focus (first | omega | (simp; done) | (simp; omega))); intro hzg hdg hgg))
              go_wp2
              go_ret
              exact ⟨ret_bool E.out.symm, bu hK (by have hw := HW.out; go_grown)⟩
            by_cases hD : D.length = 0
            · have E : Hid (gB id ck P D = true) := HG3.out (tl_first hx.out rfl hD)
              have hD' : ((D.length : Int) == 0) = true := by rw [hD]; rfl
              clear hw
              go_wp2_with fail
              refine wp_region_ext (by first | with_reducible assumption | exact Below.refl _ _) (by kernel_rfl) (by kernel_rfl) ?_
              intro hx hx2
              repeat (go_big_quiet_step (fail))
              refine wpQuiet_nil ?_
              clear hx hx2
              rintro _ ⟨⟨w1, hb⟩, rfl⟩
              have hK := bt (by first | with_reducible assumption | exact Below.refl _ _) hb
              have hc := bcell hK
              have hf := bfrozen hK
              have hs := bsize hK
              clear hb
              (try (refine bw (w := w) hK ?_ ?_; (focus (first | exact HW.out | (have hq := HW.out; go_grown; done) | (go_grown; done))); intro hw hwz; have hK := hK))
              (try (refine bz hK (w.heap.size) ?_ ?_; (focus (first | omega | (simp; done) | (simp; omega))); intro hz0 hd0 hg0))
              (try (refine bz hK (w.heap.size + 1) ?_ ?_; (focus (first | omega | (simp; done) | (simp; omega))); intro hz1 hd1 hg1))
              (try (refine bz hK (w.heap.size + 2) ?_ ?_; (focus (first | omega | (simp; done) | (simp; omega))); intro hz2 hd2 hg2))
              (try (refine bz hK (w.heap.size + 3) ?_ ?_; (focus (first | omega | (simp; done) | (simp; omega))); intro hz3 hd3 hg3))
              (try (refine bz hK g ?_ ?_; (focus (first | omega | (simp; done) | (simp; omega))); intro hzg hdg hgg))
              (try (refine bz hK g1 ?_ ?_; (focus (first | omega | (simp; done) | (simp; omega))); intro hzg hdg hgg))
              (try (refine bz hK g2 ?_ ?_; (focus (first | omega | (simp; done) | (simp; omega))); intro hzg hdg hgg))
              go_wp2
              go_ret
              exact ⟨ret_bool E.out.symm, bu hK (by have hw := HW.out; go_grown)⟩
            · obtain ⟨q, hq⟩ : ∃ q, D.length = q + 1 := ⟨D.length - 1, by omega⟩
              have hD' : ((D.length : Int) == 0) = false := by simp; intro h; exact hD (by simp [h])
              obtain ⟨b', o', m', t', g', f', e, hb', hx', q0, q1, q2, q3⟩ := (HR2.out _ hw).ent (k := q) (by omega)
              subst e
              have j1 : (0 : Int) ≤ (q : Int) := by omega
              have j2 : (q : Int) < (D.length : Int) := by omega
              have j3 : (D.length : Int) - 1 = (q : Int) := by omega
              have j4 : IntKind.i64.wrap ((D.length : Int) - 1) = (q : Int) := by rw [IntWalk.i64_in _ (by omega)] <;> omega
              have hx2 : D[D.length - 1]? = some ⟨m', t', g', f'⟩ := by rw [hq, Nat.add_sub_cancel]; exact hx'.out
              have HX2 := hidI hx2
              clear hw hx2 hx' q0 q3 hq
              rcases h6 : ltB t' g' t g with _ | _
              · have E : Hid (gB id ck P D = false) := no_tl (tl_l hx.out HX2.out h6)
                go_wp2_with fail
                refine wp_region_ext (by first | with_reducible assumption | exact Below.refl _ _) (by kernel_rfl) (by kernel_rfl) ?_
                intro hx hx2
                repeat (go_big_quiet_step ((first | (go_at_call 32; exact ext_call (implSLess_c _ _ _ _ _)))))
                refine wpQuiet_nil ?_
                clear hx hx2
                rintro _ ⟨⟨w1, hb⟩, rfl⟩
                have hK := bt (by first | with_reducible assumption | exact Below.refl _ _) hb
                have hc := bcell hK
                have hf := bfrozen hK
                have hs := bsize hK
                clear hb
                (try (refine bw (w := w) hK ?_ ?_; (focus (first | exact HW.out | (have hq := HW.out; go_grown; done) | (go_grown; done))); intro hw hwz; have hK := hK))
                (try (refine bz hK (w.heap.size) ?_ ?_; (focus (first | omega | (simp; done) | (simp; omega))); intro hz0 hd0 hg0))
                (try (refine bz hK (w.heap.size + 1) ?_ ?_; (focus (first | omega | (simp; done) | (simp; omega))); intro hz1 hd1 hg1))
                (try (refine bz hK (w.heap.size + 2) ?_ ?_; (focus (first | omega | (simp; done) | (simp; omega))); intro hz2 hd2 hg2))
                (try (refine bz hK (w.heap.size + 3) ?_ ?_; (focus (first | omega | (simp; done) | (simp; omega))); intro hz3 hd3 hg3))
                (try (refine bz hK g ?_ ?_; (focus (first | omega | (simp; done) | (simp; omega))); intro hzg hdg hgg))
                (try (refine bz hK g1 ?_ ?_; (focus (first | omega | (simp; done) | (simp; omega))); intro hzg hdg hgg))
                (try (refine bz hK g2 ?_ ?_; (focus (first | omega | (simp; done) | (simp; omega))); intro hzg hdg hgg))
                go_wp2
                go_ret
                exact ⟨ret_bool E.out.symm, bu hK (by have hw := HW.out; go_grown)⟩
              · have E : Hid (gB id ck P D = true) := HG3.out (tl_yes hx.out rfl HX2.out h6)
                go_wp2_with fail
                refine wp_region_ext (by first | with_reducible assumption | exact Below.refl _ _) (by kernel_rfl) (by kernel_rfl) ?_
                intro hx hx2
                repeat (go_big_quiet_step ((first | (go_at_call 32; exact ext_call (implSLess_c _ _ _ _ _)))))
                refine wpQuiet_nil ?_
                clear hx hx2
                rintro _ ⟨⟨w1, hb⟩, rfl⟩
                have hK := bt (by first | with_reducible assumption | exact Below.refl _ _) hb
                have hc := bcell hK
                have hf := bfrozen hK
                have hs := bsize hK
                clear hb
                (try (refine bw (w := w) hK ?_ ?_; (focus (first | exact HW.out | (have hq := HW.out; go_grown; done) | (go_grown; done))); intro hw hwz; have hK := hK))
                (try (refine bz hK (w.heap.size) ?_ ?_; (focus (first | omega | (simp; done) | (simp; omega))); intro hz0 hd0 hg0))
                (try (refine bz hK (w.heap.size + 1) ?_ ?_; (focus (first | omega | (simp; done) | (simp; omega))); intro hz1 hd1 hg1))
                (try (refine bz hK (w.heap.size + 2) ?_ ?_; (focus (first | omega | (simp; done) | (simp; omega))); intro hz2 hd2 hg2))
                (try (refine bz hK (w.heap.size + 3) ?_ ?_; (focus (first | omega | (simp; done) | (simp; omega))); intro hz3 hd3 hg3))
                (try (refine bz hK g ?_ ?_; (focus (first | omega | (simp; done) | (simp; omega))); intro hzg hdg hgg))
                (try (refine bz hK g1 ?_ ?_; (focus (first | omega | (simp; done) | (simp; omega))); intro hzg hdg hgg))
                (try (refine bz hK g2 ?_ ?_; (focus (first | omega | (simp; done) | (simp; omega))); intro hzg hdg hgg))
                go_wp2
                go_ret
                exact ⟨ret_bool E.out.symm, bu hK (by have hw := HW.out; go_grown)⟩
end Go.Proofs.Ytiecjkacbpbghaa
