/- Contracts: entries are looked up; a list of entries is checked by the reference. -/
import Derived.Test.YtiecjkacbpbghaaCa
import Derived.Test.YtiecjkacbpbghaaPlainO
namespace Go.Proofs.Ytiecjkacbpbghaa
set_option linter.unusedVariables false
open Go.RowKit

set_option maxHeartbeats 400000 in
theorem l11Message_c (n : Int) (w : World) : Calls Try.prog 46 #[.int .i64 n] w fun e w' => e = .returned (.bool (inB n 0 11)) ∧ w = w' := by
  go_enter Try.func46, Try.ntmps46
  go_wp2_with (go_at_call 37; refine (l6In_c _ _ _ _).mono ?_; rintro e w' ⟨rfl, rfl⟩)
  go_ret
  exact ⟨rfl, rfl⟩

set_option maxHeartbeats 400000 in
theorem isMessage_c (n : Int) (w : World) : Calls Try.prog 44 #[.int .i64 n] w fun e w' => e = .returned (.bool (inB n 0 11)) ∧ w = w' := by
  by_cases h1 : 0 ≤ n <;> by_cases h2 : n < 12
  all_goals
    go_enter Try.func44, Try.ntmps44
    go_wp2
    go_ret
    exact ⟨ret_bool (by unfold inB; simp; omega), rfl⟩

set_option maxHeartbeats 1000000 in
theorem l11Find_c (A : Option Addr) (es : List Ent) (n c : Nat) (m : Int) (w : World) (hn : (es.length : Int) ≤ 9223372036854775807) (hl : es.length = n) (hr : RE w A es) :
    Calls Try.prog 39 #[.slice A n c, .int .i64 m] w fun e w' => e = .returned (.int .i64 (fnd es m 0)) ∧ w = w' := by
  subst hl
  go_enter Try.func39, Try.ntmps39
  go_wp2
  go_loop [5] (fun i => ∃ k : Nat, k ≤ es.length ∧ i = .int .i64 k ∧ Hid (fnd es m 0 = fnd (es.drop k) m k))
    (fun i => es.length - (intOf i).toNat)
  case atStart => exact ⟨0, Nat.zero_le _, rfl, by simp [Hid]⟩
  case round =>
    obtain ⟨k, hk, rfl, HN⟩ := hrel
    by_cases hlt : k < es.length
    · obtain ⟨b, o, m', t, g, f, rfl, hb, hx, d0, d1, d2, d3⟩ := hr.ent hlt
      by_cases e : m' = m
      · subst e
        go_wp2_with fail
        go_ret
        exact ⟨ret_int (by rw [HN.out]; exact (fnd_hit hx.out rfl).symm), rfl⟩
      · go_wp2_with fail
        go_round
        case rel => exact ⟨k + 1, by omega, by go_num, HN.out.trans ((fnd_step hx.out e).trans (by simp))⟩
        case measure => simp [intOf]; omega
    · obtain rfl : k = es.length := by omega
      go_wp2
      go_ret
      exact ⟨ret_int (by rw [HN.out, fnd_end]), rfl⟩

/-- What is at hand behind a check: the box of the group. -/
def gbox (id ck : Int) (A1 A2 : Option Addr) (n1 c1 n2 c2 : Nat) : Array Value := #[.int .i64 id, .int .i64 ck, .slice A1 n1 c1, .slice A2 n2 c2]

set_option maxHeartbeats 4000000 in
theorem l11List_c (id ck : Int) (A1 A2 : Option Addr) (n1 c1 n2 c2 : Nat) (A : Option Addr) (es : List Ent) (c : Nat) (w : World) (hn : es.length ≤ 1048576) (hlc : es.length ≤ c) (hr : RE w A es) :
    Calls Try.prog 38 #[.agg #[.int .i64 id, .int .i64 ck, .slice A1 n1 c1, .slice A2 n2 c2], .slice A es.length c] w fun e w' => e = .returned (.bool (lsB id ck es)) ∧ Below w.heap.size w w' := by
  go_enter Try.func38, Try.ntmps38
  go_wp2
  go_loopw [5] (fun i wr => ∃ k : Nat, k ≤ es.length ∧ i = .int .i64 k ∧ Hid (upL id ck es k) ∧ Box wr w.heap.size 26 #[.int .i64 id, .int .i64 ck, .slice A1 n1 c1, .slice A2 n2 c2] ∧ Below w.heap.size w wr)
    (fun i _ => es.length - (intOf i).toNat)
  case atStart => exact ⟨0, Nat.zero_le _, rfl, upL_zero _ _ _, Box.new _ _ _, by go_grown⟩
  case round =>
    obtain ⟨k, hk, rfl, HU, B0, hw⟩ := hrel
    have l0 := B0.lt
    have c0 := B0.cell 0
    have c1 := B0.cell 1
    simp only [List.getElem?_toArray, List.getElem?_cons_zero, List.getElem?_cons_succ] at c0 c1
    by_cases hlt : k < es.length
    · obtain ⟨b, o, m, t, g, f, rfl, hb, hx, d0, d1, d2, d3⟩ := (hr.below hw).ent hlt
      have hbw : b < wr.heap.size := by have := hw.size; omega
      have i1 : (0 : Int) ≤ (k : Int) := by omega
      have i2 : (k : Int) < (es.length : Int) := by omega
      have HW : Hid _ := hw
      have HR := hidI (hr.below hw)
      have HB := hidI B0
      clear hw B0 hr
      have HL : Hid (((es.take k).length : Int) ≤ 9223372036854775807) := by unfold Hid; rw [List.length_take]; omega
      have HL2 : Hid ((es.take k).length = k) := by unfold Hid; rw [List.length_take]; omega
      have HT : Hid (RE wr (some ⟨b, o, none⟩) (es.take k)) := HR.out.ents_take k
      --ROUND
      rcases h1 : inB m 0 11 with _ | _
      · have e0 : Hid (lsB id ck es = false) := no_ls (bad_m hx.out h1)
        go_wp2_with fail
        refine wp_region_ext (by first | with_reducible assumption | exact Below.refl _ _) (by kernel_rfl) (by kernel_rfl) ?_
        intro hx hx2
        repeat (go_big_quiet_step ((first | (go_at_call 46; exact ext_call_same (l11Message_c _ _)) | (go_at_call 47; exact ext_call (specSV_c _ _ _)) | (go_at_call 40; exact ext_call (specSLess_c _ _ _ _ _)) | (go_at_call 39; exact ext_call_same (l11Find_c _ (es.take k) _ _ _ _ HL.out (HL2.out) (Rd.ext (RE.below HT.out (by go_grown)) _))))))
        refine wpQuiet_nil ?_
        clear hx hx2
        rintro _ ⟨⟨w1, hb⟩, rfl⟩
        have hK := bt (by first | with_reducible assumption | exact Below.refl _ _) hb
        have hc := bcell hK
        have hf := bfrozen hK
        have hs := bsize hK
        clear hb
        (try (refine bw (w := w) hK ?_ ?_; (focus (first | exact HW.out | (have hq := HW.out; go_grown; done) | (go_grown; done))); intro hw hwz; have hK := hK))
        (try (refine bz hK (w.heap.size) ?_ ?_; (focus (first | omega | (simp; done) | (simp; omega))); intro hz0 hd0 hg0))
        (try (refine bz hK (w.heap.size + 1) ?_ ?_; (focus (first | omega | (simp; done) | (simp; omega))); intro hz1 hd1 hg1))
        (try (refine bz hK (w.heap.size + 2) ?_ ?_; (focus (first | omega | (simp; done) | (simp; omega))); intro hz2 hd2 hg2))
        (try (refine bz hK (w.heap.size + 3) ?_ ?_; (focus (first | omega | (simp; done) | (simp; omega))); intro hz3 hd3 hg3))
        (try (refine bz hK g ?_ ?_; (focus (first | omega | (simp; done) | (simp; omega))); intro hzg hdg hgg))
        (try (refine bz hK g1 ?_ ?_; (focus (first | omega | (simp; done) | (simp; omega))); intro hzg hdg hgg))
        (try (refine bz hK g2 ?_ ?_; (focus (first | omega | (simp; done) | (simp; omega))); intro hzg hdg hgg))
        go_wp2
        go_ret
        exact ⟨ret_bool e0.out.symm, bu hK (by have hw := HW.out; go_grown)⟩
      rcases h2 : svB t g with _ | _
      · have e0 : Hid (lsB id ck es = false) := no_ls (bad_s hx.out h2)
        go_wp2_with fail
        refine wp_region_ext (by first | with_reducible assumption | exact Below.refl _ _) (by kernel_rfl) (by kernel_rfl) ?_
        intro hx hx2
        repeat (go_big_quiet_step ((first | (go_at_call 46; exact ext_call_same (l11Message_c _ _)) | (go_at_call 47; exact ext_call (specSV_c _ _ _)) | (go_at_call 40; exact ext_call (specSLess_c _ _ _ _ _)) | (go_at_call 39; exact ext_call_same (l11Find_c _ (es.take k) _ _ _ _ HL.out (HL2.out) (Rd.ext (RE.below HT.out (by go_grown)) _))))))
        refine wpQuiet_nil ?_
        clear hx hx2
        rintro _ ⟨⟨w1, hb⟩, rfl⟩
        have hK := bt (by first | with_reducible assumption | exact Below.refl _ _) hb
        have hc := bcell hK
        have hf := bfrozen hK
        have hs := bsize hK
        clear hb
        (try (refine bw (w := w) hK ?_ ?_; (focus (first | exact HW.out | (have hq := HW.out; go_grown; done) | (go_grown; done))); intro hw hwz; have hK := hK))
        (try (refine bz hK (w.heap.size) ?_ ?_; (focus (first | omega | (simp; done) | (simp; omega))); intro hz0 hd0 hg0))
        (try (refine bz hK (w.heap.size + 1) ?_ ?_; (focus (first | omega | (simp; done) | (simp; omega))); intro hz1 hd1 hg1))
        (try (refine bz hK (w.heap.size + 2) ?_ ?_; (focus (first | omega | (simp; done) | (simp; omega))); intro hz2 hd2 hg2))
        (try (refine bz hK (w.heap.size + 3) ?_ ?_; (focus (first | omega | (simp; done) | (simp; omega))); intro hz3 hd3 hg3))
        (try (refine bz hK g ?_ ?_; (focus (first | omega | (simp; done) | (simp; omega))); intro hzg hdg hgg))
        (try (refine bz hK g1 ?_ ?_; (focus (first | omega | (simp; done) | (simp; omega))); intro hzg hdg hgg))
        (try (refine bz hK g2 ?_ ?_; (focus (first | omega | (simp; done) | (simp; omega))); intro hzg hdg hgg))
        go_wp2
        go_ret
        exact ⟨ret_bool e0.out.symm, bu hK (by have hw := HW.out; go_grown)⟩
      by_cases h3 : t ≤ ck
      rotate_left 1
      · have h3' : decide (ck < t) = true := decide_eq_true (by omega)
        have e0 : Hid (lsB id ck es = false) := no_ls (bad_c hx.out h3)
        go_wp2_with fail
        refine wp_region_ext (by first | with_reducible assumption | exact Below.refl _ _) (by kernel_rfl) (by kernel_rfl) ?_
        intro hx hx2
        repeat (go_big_quiet_step ((first | (go_at_call 46; exact ext_call_same (l11Message_c _ _)) | (go_at_call 47; exact ext_call (specSV_c _ _ _)) | (go_at_call 40; exact ext_call (specSLess_c _ _ _ _ _)) | (go_at_call 39; exact ext_call_same (l11Find_c _ (es.take k) _ _ _ _ HL.out (HL2.out) (Rd.ext (RE.below HT.out (by go_grown)) _))))))
        refine wpQuiet_nil ?_
        clear hx hx2
        rintro _ ⟨⟨w1, hb⟩, rfl⟩
        have hK := bt (by first | with_reducible assumption | exact Below.refl _ _) hb
        have hc := bcell hK
        have hf := bfrozen hK
        have hs := bsize hK
        clear hb
        (try (refine bw (w := w) hK ?_ ?_; (focus (first | exact HW.out | (have hq := HW.out; go_grown; done) | (go_grown; done))); intro hw hwz; have hK := hK))
        (try (refine bz hK (w.heap.size) ?_ ?_; (focus (first | omega | (simp; done) | (simp; omega))); intro hz0 hd0 hg0))
        (try (refine bz hK (w.heap.size + 1) ?_ ?_; (focus (first | omega | (simp; done) | (simp; omega))); intro hz1 hd1 hg1))
        (try (refine bz hK (w.heap.size + 2) ?_ ?_; (focus (first | omega | (simp; done) | (simp; omega))); intro hz2 hd2 hg2))
        (try (refine bz hK (w.heap.size + 3) ?_ ?_; (focus (first | omega | (simp; done) | (simp; omega))); intro hz3 hd3 hg3))
        (try (refine bz hK g ?_ ?_; (focus (first | omega | (simp; done) | (simp; omega))); intro hzg hdg hgg))
        (try (refine bz hK g1 ?_ ?_; (focus (first | omega | (simp; done) | (simp; omega))); intro hzg hdg hgg))
        (try (refine bz hK g2 ?_ ?_; (focus (first | omega | (simp; done) | (simp; omega))); intro hzg hdg hgg))
        go_wp2
        go_ret
        exact ⟨ret_bool e0.out.symm, bu hK (by have hw := HW.out; go_grown)⟩
      have h3' : decide (ck < t) = false := decide_eq_false (by omega)
      by_cases hk0 : k = 0
      · subst hk0
        have hd : decide ((0 : Int) < 0) = false := rfl
        have i3 : (0 : Int) < (es.length : Int) := by omega
        have h5 : fnd (es.take 0) m 0 = -1 := rfl
        have h5' : decide ((0 : Int) ≤ fnd (es.take 0) m 0) = false := rfl
        simp only [Nat.zero_mul, Nat.add_zero] at d0 d1 d2 d3
        rcases f with _ | _
        · by_cases h6 : g = id
          · subst h6
            have hup := hidI (upL_step HU.out (okA_mk0 hx.out h1 h2 h3 (.inr rfl)) (diA_mk hx.out (by show fnd (es.take 0) m 0 < 0; rw [h5]; omega)))
            go_wp2_with fail
            refine wp_region_ext (by first | with_reducible assumption | exact Below.refl _ _) (by kernel_rfl) (by kernel_rfl) ?_
            intro hx hx2
            repeat (go_big_quiet_step ((first | (go_at_call 46; exact ext_call_same (l11Message_c _ _)) | (go_at_call 47; exact ext_call (specSV_c _ _ _)) | (go_at_call 40; exact ext_call (specSLess_c _ _ _ _ _)) | (go_at_call 39; exact ext_call_same (l11Find_c _ (es.take 0) _ _ _ _ HL.out (HL2.out) (Rd.ext (RE.below HT.out (by go_grown)) _))))))
            refine wpQuiet_nil ?_
            clear hx hx2
            rintro _ ⟨⟨w1, hb⟩, rfl⟩
            have hK := bt (by first | with_reducible assumption | exact Below.refl _ _) hb
            have hc := bcell hK
            have hf := bfrozen hK
            have hs := bsize hK
            clear hb
            (try (refine bw (w := w) hK ?_ ?_; (focus (first | exact HW.out | (have hq := HW.out; go_grown; done) | (go_grown; done))); intro hw hwz; have hK := hK))
            (try (refine bz hK (w.heap.size) ?_ ?_; (focus (first | omega | (simp; done) | (simp; omega))); intro hz0 hd0 hg0))
            (try (refine bz hK (w.heap.size + 1) ?_ ?_; (focus (first | omega | (simp; done) | (simp; omega))); intro hz1 hd1 hg1))
            (try (refine bz hK (w.heap.size + 2) ?_ ?_; (focus (first | omega | (simp; done) | (simp; omega))); intro hz2 hd2 hg2))
            (try (refine bz hK (w.heap.size + 3) ?_ ?_; (focus (first | omega | (simp; done) | (simp; omega))); intro hz3 hd3 hg3))
            (try (refine bz hK g ?_ ?_; (focus (first | omega | (simp; done) | (simp; omega))); intro hzg hdg hgg))
            (try (refine bz hK g1 ?_ ?_; (focus (first | omega | (simp; done) | (simp; omega))); intro hzg hdg hgg))
            (try (refine bz hK g2 ?_ ?_; (focus (first | omega | (simp; done) | (simp; omega))); intro hzg hdg hgg))
            go_wp2
            go_roundw
            case rel => exact ⟨1, by omega, by go_num, hup.out, HB.out.below (bu hK (by go_grown)), bu hK (by have hw := HW.out; go_grown)⟩
            case measure => simp [intOf]; omega
          · have e0 : Hid (lsB id ck es = false) := no_ls (bad_f hx.out rfl h6)
            go_wp2_with fail
            refine wp_region_ext (by first | with_reducible assumption | exact Below.refl _ _) (by kernel_rfl) (by kernel_rfl) ?_
            intro hx hx2
            repeat (go_big_quiet_step ((first | (go_at_call 46; exact ext_call_same (l11Message_c _ _)) | (go_at_call 47; exact ext_call (specSV_c _ _ _)) | (go_at_call 40; exact ext_call (specSLess_c _ _ _ _ _)) | (go_at_call 39; exact ext_call_same (l11Find_c _ (es.take 0) _ _ _ _ HL.out (HL2.out) (Rd.ext (RE.below HT.out (by go_grown)) _))))))
            refine wpQuiet_nil ?_
            clear hx hx2
            rintro _ ⟨⟨w1, hb⟩, rfl⟩
            have hK := bt (by first | with_reducible assumption | exact Below.refl _ _) hb
            have hc := bcell hK
            have hf := bfrozen hK
            have hs := bsize hK
            clear hb
            (try (refine bw (w := w) hK ?_ ?_; (focus (first | exact HW.out | (have hq := HW.out; go_grown; done) | (go_grown; done))); intro hw hwz; have hK := hK))
            (try (refine bz hK (w.heap.size) ?_ ?_; (focus (first | omega | (simp; done) | (simp; omega))); intro hz0 hd0 hg0))
            (try (refine bz hK (w.heap.size + 1) ?_ ?_; (focus (first | omega | (simp; done) | (simp; omega))); intro hz1 hd1 hg1))
            (try (refine bz hK (w.heap.size + 2) ?_ ?_; (focus (first | omega | (simp; done) | (simp; omega))); intro hz2 hd2 hg2))
            (try (refine bz hK (w.heap.size + 3) ?_ ?_; (focus (first | omega | (simp; done) | (simp; omega))); intro hz3 hd3 hg3))
            (try (refine bz hK g ?_ ?_; (focus (first | omega | (simp; done) | (simp; omega))); intro hzg hdg hgg))
            (try (refine bz hK g1 ?_ ?_; (focus (first | omega | (simp; done) | (simp; omega))); intro hzg hdg hgg))
            (try (refine bz hK g2 ?_ ?_; (focus (first | omega | (simp; done) | (simp; omega))); intro hzg hdg hgg))
            go_wp2
            go_ret
            exact ⟨ret_bool e0.out.symm, bu hK (by have hw := HW.out; go_grown)⟩
        · have hup := hidI (upL_step HU.out (okA_mk0 hx.out h1 h2 h3 (.inl rfl)) (diA_mk hx.out (by show fnd (es.take 0) m 0 < 0; rw [h5]; omega)))
          go_wp2_with fail
          refine wp_region_ext (by first | with_reducible assumption | exact Below.refl _ _) (by kernel_rfl) (by kernel_rfl) ?_
          intro hx hx2
          repeat (go_big_quiet_step ((first | (go_at_call 46; exact ext_call_same (l11Message_c _ _)) | (go_at_call 47; exact ext_call (specSV_c _ _ _)) | (go_at_call 40; exact ext_call (specSLess_c _ _ _ _ _)) | (go_at_call 39; exact ext_call_same (l11Find_c _ (es.take 0) _ _ _ _ HL.out (HL2.out) (Rd.ext (RE.below HT.out (by go_grown)) _))))))
          refine wpQuiet_nil ?_
          clear hx hx2
          rintro _ ⟨⟨w1, hb⟩, rfl⟩
          have hK := bt (by first | with_reducible assumption | exact Below.refl _ _) hb
          have hc := bcell hK
          have hf := bfrozen hK
          have hs := bsize hK
          clear hb
          (try (refine bw (w := w) hK ?_ ?_; (focus (first | exact HW.out | (have hq := HW.out; go_grown; done) | (go_grown; done))); intro hw hwz; have hK := hK))
          (try (refine bz hK (w.heap.size) ?_ ?_; (focus (first | omega | (simp; done) | (simp; omega))); intro hz0 hd0 hg0))
          (try (refine bz hK (w.heap.size + 1) ?_ ?_; (focus (first | omega | (simp; done) | (simp; omega))); intro hz1 hd1 hg1))
          (try (refine bz hK (w.heap.size + 2) ?_ ?_; (focus (first | omega | (simp; done) | (simp; omega))); intro hz2 hd2 hg2))
          (try (refine bz hK (w.heap.size + 3) ?_ ?_; (focus (first | omega | (simp; done) | (simp; omega))); intro hz3 hd3 hg3))
          (try (refine bz hK g ?_ ?_; (focus (first | omega | (simp; done) | (simp; omega))); intro hzg hdg hgg))
          (try (refine bz hK g1 ?_ ?_; (focus (first | omega | (simp; done) | (simp; omega))); intro hzg hdg hgg))
          (try (refine bz hK g2 ?_ ?_; (focus (first | omega | (simp; done) | (simp; omega))); intro hzg hdg hgg))
          go_wp2
          go_roundw
          case rel => exact ⟨1, by omega, by go_num, hup.out, HB.out.below (bu hK (by go_grown)), bu hK (by have hw := HW.out; go_grown)⟩
          case measure => simp [intOf]; omega
      · obtain ⟨k, rfl⟩ : ∃ k', k = k' + 1 := ⟨k - 1, by omega⟩
        obtain ⟨b', o', m', t', g', f', e, _, hx', q0, q1, q2, q3⟩ := HR.out.ent (k := k) (by omega)
        simp only [Option.some.injEq, Addr.mk.injEq, and_true] at e
        obtain ⟨rfl, rfl⟩ := e
        clear q0 q3
        have hd : decide ((0 : Int) < (k : Int) + 1) = true := decide_eq_true (by omega)
        have i3 : ((k : Int) + 1).toNat = k + 1 := by omega
        have i5 : (k : Int) < (es.length : Int) := by omega
        have i7 : IntKind.i64.wrap ((k : Int) + 1 - 1) = k := by rw [IntWalk.i64_in _ (by omega)] <;> omega
        have i8 : (k : Int) + 1 - 1 = k := by omega
        have i9 : (0 : Int) ≤ (k : Int) := by omega
        have i10 : (k : Int) + 1 ≤ (c : Int) := by omega
        simp only [Int.natCast_add, Int.cast_ofNat_Int] at i1 i2
        rcases h4 : ltB t' g' t g with _ | _
        · have e0 : Hid (lsB id ck es = false) := no_ls (bad_l hx.out hx'.out h4)
          go_wp2_with fail
          refine wp_region_ext (by first | with_reducible assumption | exact Below.refl _ _) (by kernel_rfl) (by kernel_rfl) ?_
          intro hx hx2
          repeat (go_big_quiet_step ((first | (go_at_call 46; exact ext_call_same (l11Message_c _ _)) | (go_at_call 47; exact ext_call (specSV_c _ _ _)) | (go_at_call 40; exact ext_call (specSLess_c _ _ _ _ _)) | (go_at_call 39; exact ext_call_same (l11Find_c _ (es.take (k + 1)) _ _ _ _ HL.out (HL2.out) (Rd.ext (RE.below HT.out (by go_grown)) _))))))
          refine wpQuiet_nil ?_
          clear hx hx2
          rintro _ ⟨⟨w1, hb⟩, rfl⟩
          have hK := bt (by first | with_reducible assumption | exact Below.refl _ _) hb
          have hc := bcell hK
          have hf := bfrozen hK
          have hs := bsize hK
          clear hb
          (try (refine bw (w := w) hK ?_ ?_; (focus (first | exact HW.out | (have hq := HW.out; go_grown; done) | (go_grown; done))); intro hw hwz; have hK := hK))
          (try (refine bz hK (w.heap.size) ?_ ?_; (focus (first | omega | (simp; done) | (simp; omega))); intro hz0 hd0 hg0))
          (try (refine bz hK (w.heap.size + 1) ?_ ?_; (focus (first | omega | (simp; done) | (simp; omega))); intro hz1 hd1 hg1))
          (try (refine bz hK (w.heap.size + 2) ?_ ?_; (focus (first | omega | (simp; done) | (simp; omega))); intro hz2 hd2 hg2))
          (try (refine bz hK (w.heap.size + 3) ?_ ?_; (focus (first | omega | (simp; done) | (simp; omega))); intro hz3 hd3 hg3))
          (try (refine bz hK g ?_ ?_; (focus (first | omega | (simp; done) | (simp; omega))); intro hzg hdg hgg))
          (try (refine bz hK g1 ?_ ?_; (focus (first | omega | (simp; done) | (simp; omega))); intro hzg hdg hgg))
          (try (refine bz hK g2 ?_ ?_; (focus (first | omega | (simp; done) | (simp; omega))); intro hzg hdg hgg))
          go_wp2
          go_ret
          exact ⟨ret_bool e0.out.symm, bu hK (by have hw := HW.out; go_grown)⟩
        by_cases h5 : fnd (es.take (k + 1)) m 0 < 0
        rotate_left 1
        · have h5' : decide ((0 : Int) ≤ fnd (es.take (k + 1)) m 0) = true := decide_eq_true (by omega)
          have e0 : Hid (lsB id ck es = false) := no_ls' (bad_d hx.out h5)
          go_wp2_with fail
          refine wp_region_ext (by first | with_reducible assumption | exact Below.refl _ _) (by kernel_rfl) (by kernel_rfl) ?_
          intro hx hx2
          repeat (go_big_quiet_step ((first | (go_at_call 46; exact ext_call_same (l11Message_c _ _)) | (go_at_call 47; exact ext_call (specSV_c _ _ _)) | (go_at_call 40; exact ext_call (specSLess_c _ _ _ _ _)) | (go_at_call 39; exact ext_call_same (l11Find_c _ (es.take (k + 1)) _ _ _ _ HL.out (HL2.out) (Rd.ext (RE.below HT.out (by go_grown)) _))))))
          refine wpQuiet_nil ?_
          clear hx hx2
          rintro _ ⟨⟨w1, hb⟩, rfl⟩
          have hK := bt (by first | with_reducible assumption | exact Below.refl _ _) hb
          have hc := bcell hK
          have hf := bfrozen hK
          have hs := bsize hK
          clear hb
          (try (refine bw (w := w) hK ?_ ?_; (focus (first | exact HW.out | (have hq := HW.out; go_grown; done) | (go_grown; done))); intro hw hwz; have hK := hK))
          (try (refine bz hK (w.heap.size) ?_ ?_; (focus (first | omega | (simp; done) | (simp; omega))); intro hz0 hd0 hg0))
          (try (refine bz hK (w.heap.size + 1) ?_ ?_; (focus (first | omega | (simp; done) | (simp; omega))); intro hz1 hd1 hg1))
          (try (refine bz hK (w.heap.size + 2) ?_ ?_; (focus (first | omega | (simp; done) | (simp; omega))); intro hz2 hd2 hg2))
          (try (refine bz hK (w.heap.size + 3) ?_ ?_; (focus (first | omega | (simp; done) | (simp; omega))); intro hz3 hd3 hg3))
          (try (refine bz hK g ?_ ?_; (focus (first | omega | (simp; done) | (simp; omega))); intro hzg hdg hgg))
          (try (refine bz hK g1 ?_ ?_; (focus (first | omega | (simp; done) | (simp; omega))); intro hzg hdg hgg))
          (try (refine bz hK g2 ?_ ?_; (focus (first | omega | (simp; done) | (simp; omega))); intro hzg hdg hgg))
          go_wp2
          go_ret
          exact ⟨ret_bool e0.out.symm, bu hK (by have hw := HW.out; go_grown)⟩
        have h5' : decide ((0 : Int) ≤ fnd (es.take (k + 1)) m 0) = false := decide_eq_false (by omega)
        rcases f with _ | _
        · by_cases h6 : g = id
          · subst h6
            have hup := hidI (upL_step HU.out (okA_mk1 hx.out hx'.out h1 h2 h3 (.inr rfl) h4) (diA_mk hx.out h5))
            go_wp2_with fail
            refine wp_region_ext (by first | with_reducible assumption | exact Below.refl _ _) (by kernel_rfl) (by kernel_rfl) ?_
            intro hx hx2
            repeat (go_big_quiet_step ((first | (go_at_call 46; exact ext_call_same (l11Message_c _ _)) | (go_at_call 47; exact ext_call (specSV_c _ _ _)) | (go_at_call 40; exact ext_call (specSLess_c _ _ _ _ _)) | (go_at_call 39; exact ext_call_same (l11Find_c _ (es.take (k + 1)) _ _ _ _ HL.out (HL2.out) (Rd.ext (RE.below HT.out (by go_grown)) _))))))
            refine wpQuiet_nil ?_
            clear hx hx2
            rintro _ ⟨⟨w1, hb⟩, rfl⟩
            have hK := bt (by first | with_reducible assumption | exact Below.refl _ _) hb
            have hc := bcell hK
            have hf := bfrozen hK
            have hs := bsize hK
            clear hb
            (try (refine bw (w := w) hK ?_ ?_; (focus (first | exact HW.out | (have hq := HW.out; go_grown; done) | (go_grown; done))); intro hw hwz; have hK := hK))
            (try (refine bz hK (w.heap.size) ?_ ?_; (focus (first | omega | (simp; done) | (simp; omega))); intro hz0 hd0 hg0))
            (try (refine bz hK (w.heap.size + 1) ?_ ?_; (focus (first | omega | (simp; done) | (simp; omega))); intro hz1 hd1 hg1))
            (try (refine bz hK (w.heap.size + 2) ?_ ?_; (focus (first | omega | (simp; done) | (simp; omega))); intro hz2 hd2 hg2))
            (try (refine bz hK (w.heap.size + 3) ?_ ?_; (focus (first | omega | (simp; done) | (simp; omega))); intro hz3 hd3 hg3))
            (try (refine bz hK g ?_ ?_; (focus (first | omega | (simp; done) | (simp; omega))); intro hzg hdg hgg))
            (try (refine bz hK g1 ?_ ?_; (focus (first | omega | (simp; done) | (simp; omega))); intro hzg hdg hgg))
            (try (refine bz hK g2 ?_ ?_; (focus (first | omega | (simp; done) | (simp; omega))); intro hzg hdg hgg))
            go_wp2
            go_roundw
            case rel => exact ⟨k + 1 + 1, by omega, by go_num, hup.out, HB.out.below (bu hK (by go_grown)), bu hK (by have hw := HW.out; go_grown)⟩
            case measure => simp [intOf]; omega
          · have e0 : Hid (lsB id ck es = false) := no_ls (bad_f hx.out rfl h6)
            go_wp2_with fail
            refine wp_region_ext (by first | with_reducible assumption | exact Below.refl _ _) (by kernel_rfl) (by kernel_rfl) ?_
            intro hx hx2
            repeat (go_big_quiet_step ((first | (go_at_call 46; exact ext_call_same (l11Message_c _ _)) | (go_at_call 47; exact ext_call (specSV_c _ _ _)) | (go_at_call 40; exact ext_call (specSLess_c _ _ _ _ _)) | (go_at_call 39; exact ext_call_same (l11Find_c _ (es.take (k + 1)) _ _ _ _ HL.out (HL2.out) (Rd.ext (RE.below HT.out (by go_grown)) _))))))
            refine wpQuiet_nil ?_
            clear hx hx2
            rintro _ ⟨⟨w1, hb⟩, rfl⟩
            have hK := bt (by first | with_reducible assumption | exact Below.refl _ _) hb
            have hc := bcell hK
            have hf := bfrozen hK
            have hs := bsize hK
            clear hb
            (try (refine bw (w := w) hK ?_ ?_; (focus (first | exact HW.out | (have hq := HW.out; go_grown; done) | (go_grown; done))); intro hw hwz; have hK := hK))
            (try (refine bz hK (w.heap.size) ?_ ?_; (focus (first | omega | (simp; done) | (simp; omega))); intro hz0 hd0 hg0))
            (try (refine bz hK (w.heap.size + 1) ?_ ?_; (focus (first | omega | (simp; done) | (simp; omega))); intro hz1 hd1 hg1))
            (try (refine bz hK (w.heap.size + 2) ?_ ?_; (focus (first | omega | (simp; done) | (simp; omega))); intro hz2 hd2 hg2))
            (try (refine bz hK (w.heap.size + 3) ?_ ?_; (focus (first | omega | (simp; done) | (simp; omega))); intro hz3 hd3 hg3))
            (try (refine bz hK g ?_ ?_; (focus (first | omega | (simp; done) | (simp; omega))); intro hzg hdg hgg))
            (try (refine bz hK g1 ?_ ?_; (focus (first | omega | (simp; done) | (simp; omega))); intro hzg hdg hgg))
            (try (refine bz hK g2 ?_ ?_; (focus (first | omega | (simp; done) | (simp; omega))); intro hzg hdg hgg))
            go_wp2
            go_ret
            exact ⟨ret_bool e0.out.symm, bu hK (by have hw := HW.out; go_grown)⟩
        · have hup := hidI (upL_step HU.out (okA_mk1 hx.out hx'.out h1 h2 h3 (.inl rfl) h4) (diA_mk hx.out h5))
          go_wp2_with fail
          refine wp_region_ext (by first | with_reducible assumption | exact Below.refl _ _) (by kernel_rfl) (by kernel_rfl) ?_
          intro hx hx2
          repeat (go_big_quiet_step ((first | (go_at_call 46; exact ext_call_same (l11Message_c _ _)) | (go_at_call 47; exact ext_call (specSV_c _ _ _)) | (go_at_call 40; exact ext_call (specSLess_c _ _ _ _ _)) | (go_at_call 39; exact ext_call_same (l11Find_c _ (es.take (k + 1)) _ _ _ _ HL.out (HL2.out) (Rd.ext (RE.below HT.out (by go_grown)) _))))))
          refine wpQuiet_nil ?_
          clear hx hx2
          rintro _ ⟨⟨w1, hb⟩, rfl⟩
          have hK := bt (by first | with_reducible assumption | exact Below.refl _ _) hb
          have hc := bcell hK
          have hf := bfrozen hK
          have hs := bsize hK
          clear hb
          (try (refine bw (w := w) hK ?_ ?_; (focus (first | exact HW.out | (have hq := HW.out; go_grown; done) | (go_grown; done))); intro hw hwz; have hK := hK))
          (try (refine bz hK (w.heap.size) ?_ ?_; (focus (first | omega | (simp; done) | (simp; omega))); intro hz0 hd0 hg0))
          (try (refine bz hK (w.heap.size + 1) ?_ ?_; (focus (first | omega | (simp; done) | (simp; omega))); intro hz1 hd1 hg1))
          (try (refine bz hK (w.heap.size + 2) ?_ ?_; (focus (first | omega | (simp; done) | (simp; omega))); intro hz2 hd2 hg2))
          (try (refine bz hK (w.heap.size + 3) ?_ ?_; (focus (first | omega | (simp; done) | (simp; omega))); intro hz3 hd3 hg3))
          (try (refine bz hK g ?_ ?_; (focus (first | omega | (simp; done) | (simp; omega))); intro hzg hdg hgg))
          (try (refine bz hK g1 ?_ ?_; (focus (first | omega | (simp; done) | (simp; omega))); intro hzg hdg hgg))
          (try (refine bz hK g2 ?_ ?_; (focus (first | omega | (simp; done) | (simp; omega))); intro hzg hdg hgg))
          go_wp2
          go_roundw
          case rel => exact ⟨k + 1 + 1, by omega, by go_num, hup.out, HB.out.below (bu hK (by go_grown)), bu hK (by have hw := HW.out; go_grown)⟩
          case measure => simp [intOf]; omega
      --END
    · obtain rfl : k = es.length := by omega
      go_wp2
      go_ret
      exact ⟨ret_bool (upL_full HU.out).symm, hw⟩
end Go.Proofs.Ytiecjkacbpbghaa
