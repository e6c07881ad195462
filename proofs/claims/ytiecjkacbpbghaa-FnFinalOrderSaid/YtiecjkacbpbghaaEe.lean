/- Contracts: a group is checked by the reference. -/
import Derived.Test.YtiecjkacbpbghaaEd
namespace Go.Proofs.Ytiecjkacbpbghaa
set_option linter.unusedVariables false
open Go.RowKit

theorem fin_take {P D : List Ent} {k : Nat} {d : Ent} (h : ∀ x ∈ D.take k, x.f = true ∧ ∀ p ∈ P, p.m ≠ x.m) (hd : D[k]? = some d) (h1 : d.f = true) (h2 : fnd P d.m 0 < 0) : ∀ x ∈ D.take (k + 1), x.f = true ∧ ∀ p ∈ P, p.m ≠ x.m := fun x hx => by
  rw [take_at hd] at hx
  rcases List.mem_append.1 hx with hx | hx
  · exact h x hx
  · obtain rfl : x = d := by simpa using hx
    exact ⟨h1, (fnd_none (by omega)).1 h2⟩
theorem no_f {id ck : Int} {P D : List Ent} {k : Nat} {d : Ent} (hd : D[k]? = some d) (h : d.f = false) : gB id ck P D = false := gB_no fun g => by
  have := (g.2.2.2.2.1 d (mem_at hd)).1
  rw [h] at this
  cases this
theorem no_d {id ck : Int} {P D : List Ent} {k : Nat} {d : Ent} (hd : D[k]? = some d) (h : ¬ fnd P d.m 0 < 0) : gB id ck P D = false := gB_no fun g => h ((fnd_none (by omega)).2 (g.2.2.2.2.1 d (mem_at hd)).2)
theorem no_tl {id ck : Int} {P D : List Ent} (h : ¬ tlP P D) : gB id ck P D = false := gB_no fun g => h g.2.2.2.2.2
theorem tl_f {P D : List Ent} {p : Ent} (hp : P[0]? = some p) (h : p.f = true) : ¬ tlP P D := fun g => by
  have := (g p hp).1
  rw [h] at this
  cases this
theorem tl_l {P D : List Ent} {p d : Ent} (hp : P[0]? = some p) (hd : D[D.length - 1]? = some d) (h : ltB d.t d.g p.t p.g = false) : ¬ tlP P D := fun g => by
  have := (g p hp).2 d hd
  rw [h] at this
  cases this
theorem tl_none {P D : List Ent} (h : P.length = 0) : tlP P D := fun e he => by
  rw [List.getElem?_eq_none (by omega)] at he
  cases he
theorem tl_first {P D : List Ent} {p : Ent} (hp : P[0]? = some p) (h : p.f = false) (hD : D.length = 0) : tlP P D := fun e he => by
  rw [hp] at he
  cases he
  exact ⟨h, fun d hd => by rw [List.getElem?_eq_none (by omega)] at hd; cases hd⟩
theorem tl_yes {P D : List Ent} {p d : Ent} (hp : P[0]? = some p) (h : p.f = false) (hd : D[D.length - 1]? = some d) (hl : ltB d.t d.g p.t p.g = true) : tlP P D := fun e he => by
  rw [hp] at he
  cases he
  refine ⟨h, fun d' hd' => ?_⟩
  rw [hd] at hd'
  cases hd'
  exact hl

set_option maxHeartbeats 8000000 in
theorem specGr_c (id ck : Int) (A1 A2 : Option Addr) (P D : List Ent) (c1 c2 : Nat) (w : World) (hn1 : P.length ≤ 1048576) (hn2 : D.length ≤ 1048576) (hl1 : P.length ≤ c1) (hl2 : D.length ≤ c2) (hr1 : RE w A1 P) (hr2 : RE w A2 D) :
    Calls Try.prog 19 #[.agg #[.int .i64 id, .int .i64 ck, .slice A1 P.length c1, .slice A2 D.length c2]] w fun e w' => e = .returned (.bool (gB id ck P D)) ∧ Below w.heap.size w w' := by
  have B0 := Box.new w 26 #[.int .i64 id, .int .i64 ck, .slice A1 P.length c1, .slice A2 D.length c2]
  have hw0 : Below w.heap.size w (w.alloc (.cells #[.int .i64 id, .int .i64 ck, .slice A1 P.length c1, .slice A2 D.length c2] 26)) := by go_grown
  have C1 := fun W => l1Group_c id W
  have C2 := fun W => l6In_c ck 0 999 W
  have C3 := fun W (h : Below w.heap.size w W) => l11List_c id ck A1 A2 P.length c1 D.length c2 A1 P c1 W hn1 hl1 (RE.below hr1 h)
  have C4 := fun W (h : Below w.heap.size w W) => l11List_c id ck A1 A2 P.length c1 D.length c2 A2 D c2 W hn2 hl2 (RE.below hr2 h)
  have HR1 := hidI (fun W (h : Below w.heap.size w W) => RE.below hr1 h)
  have HR2 := hidI (fun W (h : Below w.heap.size w W) => RE.below hr2 h)
  clear hr1 hr2
  rcases e1 : inB id 0 4 with _ | _
  · have E : Hid (gB id ck P D = false) := gB_no fun g => by
      have := g.1
      rw [e1] at this
      cases this
    rw [e1] at C1
    have HC1 := hidI C1
    clear C1 C2 C3 C4 HR1 HR2 e1
    go_enter Try.func19, Try.ntmps19
    go_wp2_with fail
    refine (HC1.out _).mono ?_
    rintro e w' ⟨rfl, rfl⟩
    go_wp2_with fail
    go_ret
    exact ⟨ret_bool E.out.symm, hw0⟩
  rcases e2 : inB ck 0 999 with _ | _
  · have E : Hid (gB id ck P D = false) := gB_no fun g => by
      have := g.2.1
      rw [e2] at this
      cases this
    rw [e1] at C1
    rw [e2] at C2
    have HC1 := hidI C1
    have HC2 := hidI C2
    clear C1 C2 C3 C4 HR1 HR2 e1 e2
    go_enter Try.func19, Try.ntmps19
    go_wp2_with fail
    refine (HC1.out _).mono ?_
    rintro e w' ⟨rfl, rfl⟩
    go_wp2_with fail
    refine (HC2.out _).mono ?_
    rintro e w' ⟨rfl, rfl⟩
    go_wp2_with fail
    go_ret
    exact ⟨ret_bool E.out.symm, hw0⟩
  rw [e1] at C1
  rw [e2] at C2
  have HC1 := hidI C1
  have HC2 := hidI C2
  have HE1 := hidI e1
  have HE2 := hidI e2
  clear C1 C2 e1 e2
  go_enter Try.func19, Try.ntmps19
  go_wp2_with fail
  refine (HC1.out _).mono ?_
  rintro e w' ⟨rfl, rfl⟩
  go_wp2_with fail
  refine (HC2.out _).mono ?_
  rintro e w' ⟨rfl, rfl⟩
  go_wp2_with fail
  clear HC1 HC2
  rcases e3 : lsB id ck P with _ | _
  · have E : Hid (gB id ck P D = false) := gB_no fun g => lsB_false e3 g.2.2.1
    rw [e3] at C3
    refine (C3 _ hw0).mono ?_
    rintro e w1 ⟨rfl, hb⟩
    have hw1 := bu hb hw0
    clear C3 C4 HR1 HR2 e3 hb B0 hw0
    go_wp2_with fail
    go_ret
    exact ⟨ret_bool E.out.symm, hw1⟩
  rw [e3] at C3
  refine (C3 _ hw0).mono ?_
  rintro e w1 ⟨rfl, hb⟩
  have hw1 := bu hb hw0
  have B1 := B0.below hb
  obtain ⟨k0, k1, k2, k3⟩ := B1.four
  have l1 := B1.lt
  have HE3 := hidI e3
  have HC4 := hidI C4
  clear C3 C4 hb B0 hw0 e3
  go_wp2_with fail
  rcases e4 : lsB id ck D with _ | _
  · have E : Hid (gB id ck P D = false) := gB_no fun g => lsB_false e4 g.2.2.2.1
    have C4 := HC4.out
    rw [e4] at C4
    refine (C4 _ hw1).mono ?_
    rintro e w2 ⟨rfl, hb⟩
    have hw2 := bu hb hw1
    clear C4 HC4 HR1 HR2 e4 hb B1 hw1
    go_wp2_with fail
    go_ret
    exact ⟨ret_bool E.out.symm, hw2⟩
  have C4 := HC4.out
  rw [e4] at C4
  refine (C4 _ hw1).mono ?_
  rintro e w2 ⟨rfl, hb⟩
  have hw2 := bu hb hw1
  have B2 := B1.below hb
  have HE4 := hidI e4
  clear C4 HC4 hb B1 hw1 k0 k1 k2 k3 l1 e4
  obtain ⟨k0, k1, k2, k3⟩ := B2.four
  have l2 := B2.lt
  go_wp2_with fail
  clear k0 k1 k2 k3 l2
  go_loopw [3] (fun i wr => ∃ k : Nat, k ≤ D.length ∧ i = .int .i64 k ∧ Hid (∀ d ∈ D.take k, d.f = true ∧ ∀ p ∈ P, p.m ≠ d.m) ∧ Box wr w.heap.size 26 #[.int .i64 id, .int .i64 ck, .slice A1 P.length c1, .slice A2 D.length c2] ∧ Below w.heap.size w wr)
    (fun i _ => D.length - (intOf i).toNat)
  case atStart => exact ⟨0, Nat.zero_le _, rfl, by simp [Hid], B2, hw2⟩
  case round =>
    clear B2 hw2
    obtain ⟨k, hk, rfl, HF, B, hw⟩ := hrel
    have lB := B.lt
    obtain ⟨k0, k1, k2, k3⟩ := B.four
    have HB := hidI B
    have HW := hidI hw
    have hsw := hw.size
    clear B
    by_cases hlt : k < D.length
    · obtain ⟨b, o, m, t, g, f, rfl, hb, hx, d0, d1, d2, d3⟩ := (HR2.out _ hw).ent hlt
      have i1 : (0 : Int) ≤ (k : Int) := by omega
      have i2 : (k : Int) < (D.length : Int) := by omega
      have HL : Hid ((P.length : Int) ≤ 9223372036854775807) := by unfold Hid; omega
      have HT := hidI (HR1.out _ hw)
      clear hw
      rcases f with _ | _
      · have E : Hid (gB id ck P D = false) := no_f hx.out rfl
        go_wp2_with fail
        refine wp_region_ext (by first | with_reducible assumption | exact Below.refl _ _) (by kernel_rfl) (by kernel_rfl) ?_
        intro hx hx2
        repeat (go_big_quiet_step ((first | (go_at_call 39; exact ext_call_same (l11Find_c _ P _ _ _ _ HL.out rfl (Rd.ext HT.out _))))))
        refine wpQuiet_nil ?_
        clear hx hx2
        rintro _ ⟨⟨w1, hb⟩, rfl⟩
        have hK := bt (by first | with_reducible assumption | exact Below.refl _ _) hb
        have hc := bcell hK
        have hf := bfrozen hK
        have hs := bsize hK
        clear hb
        (try (refine bw (w := w) hK ?_ ?_; (focus (first | exact HW.out | (have hq := HW.out; go_grown; done) | (go_grown; done))); intro hw hwz; have hK := hK))
        (try (refine bz hK (w.heap.size) ?_ ?_; (focus (first | omega | (simp; done) | (simp; omega))); intro hz0 hd0 hg0))
        (try (refine bz hK (w.heap.size + 1) ?_ ?_; (focus (first | omega | (simp; done) | (simp; omega))); intro hz1 hd1 hg1))
        (try (refine bz hK (w.heap.size + 2) ?_ ?_; (focus (first | omega | (simp; done) | (simp; omega))); intro hz2 hd2 hg2))
        (try (refine bz hK (w.heap.size + 3) ?_ ?_; (focus (first | omega | (simp; done) | (simp; omega))); intro hz3 hd3 hg3))
        (try (refine bz hK g ?_ ?_; (focus (first | omega | (simp; done) | (simp; omega))); intro hzg hdg hgg))
        (try (refine bz hK g1 ?_ ?_; (focus (first | omega | (simp; done) | (simp; omega))); intro hzg hdg hgg))
        (try (refine bz hK g2 ?_ ?_; (focus (first | omega | (simp; done) | (simp; omega))); intro hzg hdg hgg))
        go_wp2
        go_ret
        exact ⟨ret_bool E.out.symm, bt HW.out hK⟩
      · by_cases h5 : fnd P m 0 < 0
        · have h5' : decide ((0 : Int) ≤ fnd P m 0) = false := decide_eq_false (by omega)
          go_wp2_with fail
          refine wp_region_ext (by first | with_reducible assumption | exact Below.refl _ _) (by kernel_rfl) (by kernel_rfl) ?_
          intro hx hx2
          repeat (go_big_quiet_step ((first | (go_at_call 39; exact ext_call_same (l11Find_c _ P _ _ _ _ HL.out rfl (Rd.ext HT.out _))))))
          refine wpQuiet_nil ?_
          clear hx hx2
          rintro _ ⟨⟨w1, hb⟩, rfl⟩
          have hK := bt (by first | with_reducible assumption | exact Below.refl _ _) hb
          have hc := bcell hK
          have hf := bfrozen hK
          have hs := bsize hK
          clear hb
          (try (refine bw (w := w) hK ?_ ?_; (focus (first | exact HW.out | (have hq := HW.out; go_grown; done) | (go_grown; done))); intro hw hwz; have hK := hK))
          (try (refine bz hK (w.heap.size) ?_ ?_; (focus (first | omega | (simp; done) | (simp; omega))); intro hz0 hd0 hg0))
          (try (refine bz hK (w.heap.size + 1) ?_ ?_; (focus (first | omega | (simp; done) | (simp; omega))); intro hz1 hd1 hg1))
          (try (refine bz hK (w.heap.size + 2) ?_ ?_; (focus (first | omega | (simp; done) | (simp; omega))); intro hz2 hd2 hg2))
          (try (refine bz hK (w.heap.size + 3) ?_ ?_; (focus (first | omega | (simp; done) | (simp; omega))); intro hz3 hd3 hg3))
          (try (refine bz hK g ?_ ?_; (focus (first | omega | (simp; done) | (simp; omega))); intro hzg hdg hgg))
          (try (refine bz hK g1 ?_ ?_; (focus (first | omega | (simp; done) | (simp; omega))); intro hzg hdg hgg))
          (try (refine bz hK g2 ?_ ?_; (focus (first | omega | (simp; done) | (simp; omega))); intro hzg hdg hgg))
          go_wp2
          go_roundw
          case rel => exact ⟨k + 1, by omega, by go_num, fin_take HF.out hx.out rfl h5, HB.out.below hK, bt HW.out hK⟩
          case measure => simp [intOf]; omega
        · have h5' : decide ((0 : Int) ≤ fnd P m 0) = true := decide_eq_true (by omega)
          have E : Hid (gB id ck P D = false) := no_d hx.out h5
          go_wp2_with fail
          refine wp_region_ext (by first | with_reducible assumption | exact Below.refl _ _) (by kernel_rfl) (by kernel_rfl) ?_
          intro hx hx2
          repeat (go_big_quiet_step ((first | (go_at_call 39; exact ext_call_same (l11Find_c _ P _ _ _ _ HL.out rfl (Rd.ext HT.out _))))))
          refine wpQuiet_nil ?_
          clear hx hx2
          rintro _ ⟨⟨w1, hb⟩, rfl⟩
          have hK := bt (by first | with_reducible assumption | exact Below.refl _ _) hb
          have hc := bcell hK
          have hf := bfrozen hK
          have hs := bsize hK
          clear hb
          (try (refine bw (w := w) hK ?_ ?_; (focus (first | exact HW.out | (have hq := HW.out; go_grown; done) | (go_grown; done))); intro hw hwz; have hK := hK))
          (try (refine bz hK (w.heap.size) ?_ ?_; (focus (first | omega | (simp; done) | (simp; omega))); intro hz0 hd0 hg0))
          (try (refine bz hK (w.heap.size + 1) ?_ ?_; (focus (first | omega | (simp; done) | (simp; omega))); intro hz1 hd1 hg1))
          (try (refine bz hK (w.heap.size + 2) ?_ ?_; (focus (first | omega | (simp; done) | (simp; omega))); intro hz2 hd2 hg2))
          (try (refine bz hK (w.heap.size + 3) ?_ ?_; (focus (first | omega | (simp; done) | (simp; omega))); intro hz3 hd3 hg3))
          (try (refine bz hK g ?_ ?_; (focus (first | omega | (simp; done) | (simp; omega))); intro hzg hdg hgg))
          (try (refine bz hK g1 ?_ ?_; (focus (first | omega | (simp; done) | (simp; omega))); intro hzg hdg hgg))
          (try (refine bz hK g2 ?_ ?_; (focus (first | omega | (simp; done) | (simp; omega))); intro hzg hdg hgg))
          go_wp2
          go_ret
          exact ⟨ret_bool E.out.symm, bt HW.out hK⟩
    · obtain rfl : k = D.length := by omega
      have HG : Hid (tlP P D → gB id ck P D = true) := fun h => gB_iff.2 ⟨HE1.out, HE2.out, lsB_iff.1 HE3.out, lsB_iff.1 HE4.out, by have := HF.out; rwa [List.take_length] at this, h⟩
      clear HF HE1 HE2 HE3 HE4
      by_cases hP : P.length = 0
      · have E : Hid (gB id ck P D = true) := HG.out (tl_none hP)
        have hP' : ((P.length : Int) == 0) = true := by rw [hP]; rfl
        clear hw
        go_wp2_with fail
        go_ret
        exact ⟨ret_bool E.out.symm, HW.out⟩
      · obtain ⟨b, o, m, t, g, f, rfl, hb, hx, d0, d1, d2, d3⟩ := (HR1.out _ hw).ent (k := 0) (by omega)
        simp only [Nat.zero_mul, Nat.add_zero] at d0 d1 d2 d3
        have hP' : ((P.length : Int) == 0) = false := by simp; intro h; exact hP (by simp [h])
        have i2 : (0 : Int) < (P.length : Int) := by omega
        rcases f with _ | _
        rotate_left 1
        · have E : Hid (gB id ck P D = false) := no_tl (tl_f hx.out rfl)
          clear hw
          go_wp2_with fail
          refine wp_region_ext (by first | with_reducible assumption | exact Below.refl _ _) (by kernel_rfl) (by kernel_rfl) ?_
          intro hx hx2
          repeat (go_big_quiet_step (fail))
          refine wpQuiet_nil ?_
          clear hx hx2
          rintro _ ⟨⟨w1, hb⟩, rfl⟩
          have hK := bt (by first | with_reducible assumption | exact Below.refl _ _) hb
          have hc := bcell hK
          have hf := bfrozen hK
          have hs := bsize hK
          clear hb
          (try (refine bw (w := w) hK ?_ ?_; (focus (first | exact HW.out | (have hq := HW.out; go_grown; done) | (go_grown; done))); intro hw hwz; have hK := hK))
          (try (refine bz hK (w.heap.size) ?_ ?_; (focus (first | omega | (simp; done) | (simp; omega))); intro hz0 hd0 hg0))
          (try (refine bz hK (w.heap.size + 1) ?_ ?_; (focus (first | omega | (simp; done) | (simp; omega))); intro hz1 hd1 hg1))
          (try (refine bz hK (w.heap.size + 2) ?_ ?_; (focus (first | omega | (simp; done) | (simp; omega))); intro hz2 hd2 hg2))
          (try (refine bz hK (w.heap.size + 3) ?_ ?_; (focus (first | omega | (simp; done) | (simp; omega))); intro hz3 hd3 hg3))
          (try (refine bz hK g ?_ ?_; (focus (first | omega | (simp; done) | (simp; omega))); intro hzg hdg hgg))
          (try (refine bz hK g1 ?_ ?_; (focus (first | omega | (simp; done) | (simp; omega))); intro hzg hdg hgg))
          (try (refine bz hK g2 ?_ ?_; (focus (first | omega | (simp; done) | (simp; omega))); intro hzg hdg hgg))
          go_wp2
          go_ret
          exact ⟨ret_bool E.out.symm, bt HW.out hK⟩
        by_cases hD : D.length = 0
        · have E : Hid (gB id ck P D = true) := HG.out (tl_first hx.out rfl hD)
          have hD' : ((D.length : Int) == 0) = true := by rw [hD]; rfl
          clear hw
          go_wp2_with fail
          refine wp_region_ext (by first | with_reducible assumption | exact Below.refl _ _) (by kernel_rfl) (by kernel_rfl) ?_
          intro hx hx2
          repeat (go_big_quiet_step (fail))
          refine wpQuiet_nil ?_
          clear hx hx2
          rintro _ ⟨⟨w1, hb⟩, rfl⟩
          have hK := bt (by first | with_reducible assumption | exact Below.refl _ _) hb
          have hc := bcell hK
          have hf := bfrozen hK
          have hs := bsize hK
          clear hb
          (try (refine bw (w := w) hK ?_ ?_; (focus (first | exact HW.out | (have hq := HW.out; go_grown; done) | (go_grown; done))); intro hw hwz; have hK := hK))
          (try (refine bz hK (w.heap.size) ?_ ?_; (focus (first | omega | (simp; done) | (simp; omega))); intro hz0 hd0 hg0))
          (try (refine bz hK (w.heap.size + 1) ?_ ?_; (focus (first | omega | (simp; done) | (simp; omega))); intro hz1 hd1 hg1))
          (try (refine bz hK (w.heap.size + 2) ?_ ?_; (focus (first | omega | (simp; done) | (simp; omega))); intro hz2 hd2 hg2))
          (try (refine bz hK (w.heap.size + 3) ?_ ?_; (focus (first | omega | (simp; done) | (simp; omega))); intro hz3 hd3 hg3))
          (try (refine bz hK g ?_ ?_; (focus (first | omega | (simp; done) | (simp; omega))); intro hzg hdg hgg))
          (try (refine bz hK g1 ?_ ?_; (focus (first | omega | (simp; done) | (simp; omega))); intro hzg hdg hgg))
          (try (refine bz hK g2 ?_ ?_; (focus (first | omega | (simp; done) | (simp; omega))); intro hzg hdg hgg))
          go_wp2
          go_ret
          exact ⟨ret_bool E.out.symm, bt HW.out hK⟩
        · obtain ⟨q, hq⟩ : ∃ q, D.length = q + 1 := ⟨D.length - 1, by omega⟩
          have hD' : ((D.length : Int) == 0) = false := by simp; intro h; exact hD (by simp [h])
          obtain ⟨b', o', m', t', g', f', e, hb', hx', q0, q1, q2, q3⟩ := (HR2.out _ hw).ent (k := q) (by omega)
          subst e
          have j1 : (0 : Int) ≤ (q : Int) := by omega
          have j2 : (q : Int) < (D.length : Int) := by omega
          have j3 : (D.length : Int) - 1 = (q : Int) := by omega
          have j4 : IntKind.i64.wrap ((D.length : Int) - 1) = (q : Int) := by rw [IntWalk.i64_in _ (by omega)] <;> omega
          have hx2 : D[D.length - 1]? = some ⟨m', t', g', f'⟩ := by rw [hq, Nat.add_sub_cancel]; exact hx'.out
          have HX2 := hidI hx2
          clear hw hx2 hx' q0 q3 hq
          rcases h6 : ltB t' g' t g with _ | _
          · have E : Hid (gB id ck P D = false) := no_tl (tl_l hx.out HX2.out h6)
            go_wp2_with fail
            refine wp_region_ext (by first | with_reducible assumption | exact Below.refl _ _) (by kernel_rfl) (by kernel_rfl) ?_
            intro hx hx2
            repeat (go_big_quiet_step ((first | (go_at_call 40; exact ext_call (specSLess_c _ _ _ _ _)))))
            refine wpQuiet_nil ?_
            clear hx hx2
            rintro _ ⟨⟨w1, hb⟩, rfl⟩
            have hK := bt (by first | with_reducible assumption | exact Below.refl _ _) hb
            have hc := bcell hK
            have hf := bfrozen hK
            have hs := bsize hK
            clear hb
            (try (refine bw (w := w) hK ?_ ?_; (focus (first | exact HW.out | (have hq := HW.out; go_grown; done) | (go_grown; done))); intro hw hwz; have hK := hK))
            (try (refine bz hK (w.heap.size) ?_ ?_; (focus (first | omega | (simp; done) | (simp; omega))); intro hz0 hd0 hg0))
            (try (refine bz hK (w.heap.size + 1) ?_ ?_; (focus (first | omega | (simp; done) | (simp; omega))); intro hz1 hd1 hg1))
            (try (refine bz hK (w.heap.size + 2) ?_ ?_; (focus (first | omega | (simp; done) | (simp; omega))); intro hz2 hd2 hg2))
            (try (refine bz hK (w.heap.size + 3) ?_ ?_; (focus (first | omega | (simp; done) | (simp; omega))); intro hz3 hd3 hg3))
            (try (refine bz hK g ?_ ?_; (focus (first | omega | (simp; done) | (simp; omega))); intro hzg hdg hgg))
            (try (refine bz hK g1 ?_ ?_; (focus (first | omega | (simp; done) | (simp; omega))); intro hzg hdg hgg))
            (try (refine bz hK g2 ?_ ?_; (focus (first | omega | (simp; done) | (simp; omega))); intro hzg hdg hgg))
            go_wp2
            go_ret
            exact ⟨ret_bool E.out.symm, bt HW.out hK⟩
          · have E : Hid (gB id ck P D = true) := HG.out (tl_yes hx.out rfl HX2.out h6)
            go_wp2_with fail
            refine wp_region_ext (by first | with_reducible assumption | exact Below.refl _ _) (by kernel_rfl) (by kernel_rfl) ?_
            intro hx hx2
            repeat (go_big_quiet_step ((first | (go_at_call 40; exact ext_call (specSLess_c _ _ _ _ _)))))
            refine wpQuiet_nil ?_
            clear hx hx2
            rintro _ ⟨⟨w1, hb⟩, rfl⟩
            have hK := bt (by first | with_reducible assumption | exact Below.refl _ _) hb
            have hc := bcell hK
            have hf := bfrozen hK
            have hs := bsize hK
            clear hb
            (try (refine bw (w := w) hK ?_ ?_; (focus (first | exact HW.out | (have hq := HW.out; go_grown; done) | (go_grown; done))); intro hw hwz; have hK := hK))
            (try (refine bz hK (w.heap.size) ?_ ?_; (focus (first | omega | (simp; done) | (simp; omega))); intro hz0 hd0 hg0))
            (try (refine bz hK (w.heap.size + 1) ?_ ?_; (focus (first | omega | (simp; done) | (simp; omega))); intro hz1 hd1 hg1))
            (try (refine bz hK (w.heap.size + 2) ?_ ?_; (focus (first | omega | (simp; done) | (simp; omega))); intro hz2 hd2 hg2))
            (try (refine bz hK (w.heap.size + 3) ?_ ?_; (focus (first | omega | (simp; done) | (simp; omega))); intro hz3 hd3 hg3))
            (try (refine bz hK g ?_ ?_; (focus (first | omega | (simp; done) | (simp; omega))); intro hzg hdg hgg))
            (try (refine bz hK g1 ?_ ?_; (focus (first | omega | (simp; done) | (simp; omega))); intro hzg hdg hgg))
            (try (refine bz hK g2 ?_ ?_; (focus (first | omega | (simp; done) | (simp; omega))); intro hzg hdg hgg))
            go_wp2
            go_ret
            exact ⟨ret_bool E.out.symm, bt HW.out hK⟩
end Go.Proofs.Ytiecjkacbpbghaa
