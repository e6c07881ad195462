/- Contracts: a final stamp is set by the reference. -/
import Derived.Test.YtiecjkacbpbghaaEo
import Derived.Test.YtiecjkacbpbghaaEqs
import Derived.Deep.CutBlock
import Derived.Deep.RegionLaw
namespace Go.Proofs.Ytiecjkacbpbghaa
set_option linter.unusedVariables false
open Go.RowKit

/-- What a final stamp hands back: a group of the call's own with no more entries; a slice; a bool. -/
def Fin_ (id ck t : Int) (P D : List Ent) (w : World) (e : Ending) (w' : World) : Prop :=
  ∃ (v : Value) (T : Option Addr) (n c : Nat) (ck' : Int) (ok : Bool) (P' D' : List Ent), e = .returned (.tuple #[v, .slice T n c, .bool ok]) ∧ OwnG id ck' P' D' w.heap.size w' v ∧ ck ≤ ck' ∧ (ck' ≤ ck ∨ ck' ≤ t) ∧ P'.length + D'.length ≤ P.length + D.length ∧ Below w.heap.size w w'

/-- While a final stamp is being set: the told messages, what is pending (its length is k), what is done. -/
def FSt (w : World) (id cc : Int) (N q : Nat) (wr : World) (s10 : Value) (k : Nat) : Prop :=
  ∃ (tb tn tc b8 o8 c8 b9 c9 : Nat) (L E : List Ent), s10 = .slice (some ⟨tb, 0, none⟩) tn tc ∧ TD wr tb tn tc ∧ L.length = k ∧
    Box wr q 26 #[.int .i64 id, .int .i64 cc, .slice (some ⟨b8, o8, none⟩) L.length c8, .slice (some ⟨b9, 0, none⟩) E.length c9] ∧
    Box wr (w.heap.size + 1 + 1) 26 #[.int .i64 0, .int .i64 0, .slice none 0 0, .slice none 0 0] ∧
    RE wr (some ⟨b8, o8, none⟩) L ∧ L.length ≤ c8 ∧ c8 ≤ maxLen ∧ EV wr (w.heap.size + 1 + 1 + 1) (.slice (some ⟨b9, 0, none⟩) E.length c9) E.length E ∧
    (b8 ≠ b9 ∧ b8 ≠ q ∧ b9 ≠ q ∧ tb ≠ q ∧ tb ≠ b8 ∧ tb ≠ b9 ∧ w.heap.size + 1 + 1 + 1 ≤ b8 ∧ w.heap.size + 1 + 1 + 1 ≤ tb ∧ w.heap.size + 1 + 1 + 1 ≤ q ∧ b8 < wr.heap.size) ∧
    L.length + E.length ≤ N ∧ tn + L.length ≤ N ∧ Below w.heap.size w wr

theorem FSt.step {w w18 : World} {id cc : Int} {N q tb tn tc b8 o8 c8 b9 c9 : Nat} {v : Value} {L E : List Ent} (Bo : Box w18 q 26 #[.int .i64 id, .int .i64 cc, v, .slice (some ⟨b9, 0, none⟩) E.length c9])
    (Br : Box w18 (w.heap.size + 1 + 1) 26 #[.int .i64 0, .int .i64 0, .slice none 0 0, .slice none 0 0]) (T : TD w18 tb tn tc) (RL : RE w18 (some ⟨b8, o8, none⟩) L) (hl : L.length ≤ c8) (hm : c8 ≤ maxLen)
    (VE : EV w18 (w.heap.size + 1 + 1 + 1) (.slice (some ⟨b9, 0, none⟩) E.length c9) E.length E) (n1 : b8 ≠ b9) (n2 : b8 ≠ q) (n3 : b9 ≠ q) (n4 : tb ≠ q) (n5 : tb ≠ b8) (n6 : tb ≠ b9) (n7 : w.heap.size + 1 + 1 + 1 ≤ b8) (n8 : w.heap.size + 1 + 1 + 1 ≤ tb)
    (n9 : w.heap.size + 1 + 1 + 1 ≤ q) (n10 : b8 < w18.heap.size) (hN : L.length + E.length ≤ N) (htn : tn + L.length ≤ N) (hW : Below w.heap.size w w18) :
    FSt w id cc N q (w18.setCell ⟨q, 2, none⟩ (.slice (some ⟨b8, o8, none⟩) L.length c8)) (.slice (some ⟨tb, 0, none⟩) tn tc) L.length := by
  have hg : w18.grownBy (w18.setCell ⟨q, 2, none⟩ (.slice (some ⟨b8, o8, none⟩) L.length c8)) (some q) := grown_setC w18 ⟨q, 2, none⟩ _
  refine ⟨tb, tn, tc, b8, o8, c8, b9, c9, L, E, rfl, T.off hg (by intro h; injection h; omega), rfl, ?_, Br.grown hg (by intro h; injection h; omega), RE.off RL hg (by intro h; injection h; omega), hl, hm, VE.offb hg (by intro h; injection h; omega), ⟨n1, n2, n3, n4, n5, n6, n7, n8, n9, Nat.lt_of_lt_of_le n10 hg.size⟩, hN, htn, ?_⟩
  · simpa using Bo.set 2 (.slice (some ⟨b8, o8, none⟩) L.length c8)
  · exact hW.setCell (by simp; omega) _

theorem FSt.start {w w10 w8 : World} {id cc : Int} {N q n8 b8 c8 b2 d2 : Nat} {v : Value} {L D : List Ent} (hK : Below w10.heap.size w10 w8) (hW : Below w.heap.size w w10) (V : EV w8 w10.heap.size (.slice (some ⟨b8, 0, none⟩) n8 c8) n8 L)
    (E : EV w10 (w.heap.size + 1 + 1 + 1) (.slice (some ⟨b2, 0, none⟩) D.length d2) D.length D) (Bo : Box w10 q 26 #[.int .i64 id, .int .i64 cc, v, .slice (some ⟨b2, 0, none⟩) D.length d2])
    (Br : Box w10 (w.heap.size + 1 + 1) 26 #[.int .i64 0, .int .i64 0, .slice none 0 0, .slice none 0 0]) (To : TD w10 (q + 1) 0 0) (h1 : w.heap.size + 1 + 1 + 1 ≤ q) (h2 : b2 < q) (h3 : q + 1 + 1 ≤ w10.heap.size) (h4 : L.length + D.length ≤ N) :
    FSt w id cc N q (w8.setCell ⟨q, 2, none⟩ (.slice (some ⟨b8, 0, none⟩) n8 c8)) (.slice (some ⟨q + 1, 0, none⟩) 0 0) L.length := by
  have hln := V.len
  subst hln
  have hb := V.blk
  have he := E.blk
  have hg : w8.grownBy (w8.setCell ⟨q, 2, none⟩ (.slice (some ⟨b8, 0, none⟩) L.length c8)) (some q) := grown_setC w8 ⟨q, 2, none⟩ (.slice (some ⟨b8, 0, none⟩) L.length c8)
  have hc := V.cap
  refine ⟨q + 1, 0, 0, b8, 0, c8, b2, d2, L, D, rfl, (To.below hK).off hg (by intro h; injection h; omega), rfl, ?_, (Br.below hK).grown hg (by intro h; injection h; omega), RE.off V.rd hg (by intro h; injection h; omega), hc.1, hc.2, (E.below hK).offb hg (by intro h; injection h; omega), ⟨by omega, by omega, by omega, by omega, by omega, by omega, by omega, by omega, by omega, Nat.lt_of_lt_of_le hb.2 hg.size⟩, h4, by omega, ?_⟩
  · simpa using (Bo.below hK).set 2 (.slice (some ⟨b8, 0, none⟩) L.length c8)
  · exact (hW.trans (hK.mono hW.size)).setCell (by simp; omega) _

set_option maxRecDepth 100000 in
set_option maxHeartbeats 40000000 in
theorem l11Final_c (id ck m t g : Int) (A1 A2 : Option Addr) (c1 c2 : Nat) (P D : List Ent) (w : World) (hck : 0 ≤ ck) (hck' : ck ≤ 1000000) (ht : 0 ≤ t) (ht' : t ≤ 1000000) (hn1 : P.length ≤ 1000) (hn2 : D.length ≤ 1000) (hc1 : P.length ≤ c1) (hcm : c1 ≤ maxLen) (z1 : A1 = none → P = [] ∧ c1 = 0) (z2 : A2 = none → D = [] ∧ c2 = 0) (hr1 : RE w A1 P) (hr2 : RE w A2 D) :
    Calls Try.prog 50 #[.agg #[.int .i64 id, .int .i64 ck, .slice A1 P.length c1, .slice A2 D.length c2], .int .i64 m, .agg #[.int .i64 t, .int .i64 g]] w (Fin_ id ck t P D w) := by
  have hcm' : (c1 : Int) ≤ 9223372036854775807 := by unfold maxLen at hcm; omega
  obtain ⟨wx, hwx⟩ : ∃ x, ((w.alloc (.cells #[.int .i64 id, .int .i64 ck, .slice A1 P.length c1, .slice A2 D.length c2] 26)).alloc (.cells #[.int .i64 t, .int .i64 g] 46)).alloc (.cells #[.int .i64 0, .int .i64 0, .slice none 0 0, .slice none 0 0] 26) = x := ⟨_, rfl⟩
  have Bp : Box wx w.heap.size 26 #[.int .i64 id, .int .i64 ck, .slice A1 P.length c1, .slice A2 D.length c2] := by rw [← hwx]; exact ((Box.new w _ _).alloc _).alloc _
  have Bs : Box wx (w.heap.size + 1) 46 #[.int .i64 t, .int .i64 g] := by rw [← hwx]; exact (by simpa using Box.new (w.alloc _) _ _ : Box _ _ _ _).alloc _
  have Br : Box wx (w.heap.size + 1 + 1) 26 #[.int .i64 0, .int .i64 0, .slice none 0 0, .slice none 0 0] := by rw [← hwx]; simpa using Box.new ((w.alloc _).alloc _) _ _
  have hw : Below w.heap.size w wx := by rw [← hwx]; go_grown
  have hs : wx.heap.size = w.heap.size + 1 + 1 + 1 := by rw [← hwx]; simp
  have CC := hidI (l11Copy_c id ck A1 A2 P.length D.length c1 c2 P D wx rfl rfl (by omega) (by omega) z1 z2 (RE.below hr1 hw) (RE.below hr2 hw))
  have HR1 := hidI (fun W (h : Below w.heap.size w W) => RE.below hr1 h)
  have HX := hidI hwx
  clear hr1 hr2 hwx z1 z2
  go_enter Try.func50, Try.ntmps50
  go_wp2_with fail
  rw [HX.out]
  clear HX
  refine Calls.mono CC.out ?_
  rintro e w1 ⟨v, rfl, ⟨b1, d1, b2, d2, rfl, hne, V1, V2⟩, hb⟩
  have hw1 := bu hb hw
  replace Bp := Bp.below hb
  replace Br := Br.below hb
  replace Bs := Bs.below hb
  have q1 := V1.blk
  have q2 := V2.blk
  have hs1 := hb.size
  rw [hs] at q1 q2 hs1 V1 V2
  clear CC hb hw
  obtain ⟨q, hq⟩ : ∃ q, w1.heap.size = q := ⟨_, rfl⟩
  rw [hq] at q1 q2 hs1
  obtain ⟨wo, hwo⟩ : ∃ x, (w1.alloc (.cells #[.int .i64 id, .int .i64 ck, .slice (some ⟨b1, 0, none⟩) P.length d1, .slice (some ⟨b2, 0, none⟩) D.length d2] 26)).alloc (.cells #[] 3) = x := ⟨_, rfl⟩
  have Bo : Box wo q 26 #[.int .i64 id, .int .i64 ck, .slice (some ⟨b1, 0, none⟩) P.length d1, .slice (some ⟨b2, 0, none⟩) D.length d2] := by rw [← hwo, ← hq]; exact (Box.new w1 _ _).alloc _
  have To : TD wo (q + 1) 0 0 := by rw [← hwo, ← hq]; have h := TD.start (w1.alloc (.cells #[.int .i64 id, .int .i64 ck, .slice (some ⟨b1, 0, none⟩) P.length d1, .slice (some ⟨b2, 0, none⟩) D.length d2] 26)); rwa [World.size_alloc] at h
  have hso : wo.heap.size = q + 1 + 1 := by rw [← hwo, ← hq]; simp
  have hb1 : Below w1.heap.size w1 wo := by rw [← hwo]; go_grown
  have Bp' := Bp.below hb1
  replace Br := Br.below hb1
  replace Bs := Bs.below hb1
  replace V1 := V1.below hb1
  replace V2 := V2.below hb1
  have hwo2 := bt hw1 hb1
  have HY := hidI hwo
  obtain ⟨p0, p1, p2, p3⟩ := Bp.four
  have lp := Bp.lt
  have HQ := hidI hq
  have HV1 := hidI V1
  have HV2 := hidI V2
  have HSo := hidI hso
  clear hwo hb1 hw1 hq V1 V2 hso
  go_wp2_with fail
  simp only [HQ.out] at HY lp ⊢
  rw [HY.out]
  clear HY p0 p1 p2 p3 Bp
  obtain ⟨p0, p1, p2, p3⟩ := Bp'.four
  have lp' := Bp'.lt
  obtain ⟨o0, o1, o2, o3⟩ := Bo.four
  have lo := Bo.lt
  obtain ⟨r0, r1, r2, r3⟩ := Br.four
  have lr := Br.lt
  have y0 := Br.frozen 0
  have y1 := Br.frozen 1
  have y2 := Br.frozen 2
  have y3 := Br.frozen 3
  have s0 := Bs.cell 0
  have s1 := Bs.cell 1
  have ls := Bs.lt
  simp only [List.getElem?_toArray, List.getElem?_cons_zero, List.getElem?_cons_succ] at s0 s1
  have HBo := hidI Bo
  have HBr := hidI Br
  have HBs := hidI Bs
  have HTo := hidI To
  have HBp := hidI Bp'
  clear Bp' Br Bs Bo To
  have C := hidI (l11Find_c A1 P P.length c1 m wo (by omega) rfl (HR1.out _ hwo2))
  have HWo := hidI hwo2
  clear hwo2
  by_cases hk : 0 ≤ fnd P m 0
  rotate_left 1
  ·
    --RB
    have hk' : fnd P m 0 = -1 := by have := fnd_ge (es := P) (m := m) (k := 0) (by omega); omega
    rw [hk'] at C
    clear hk hk'
    refine Calls.mono C.out ?_
    rintro e w' ⟨rfl, rfl⟩
    clear C
    go_wp2_with fail
    refine wp_region_ext (Below.refl _ _) (by kernel_rfl) (by kernel_rfl) ?_
    intro hx hx2
    repeat (go_big_quiet_step ((first | (go_at_call 40; exact ext_call (specSLess_c _ _ _ _ _)))))
    refine wpQuiet_nil ?_
    clear hx hx2
    rintro wp ⟨n9, h9⟩
    have hK := n9.below
    rw [← h9] at hK
    clear h9 n9
    have E1 := hidI (HV1.out.below hK)
    have E2 := hidI (HV2.out.below hK)
    have Bo := HBo.out.below hK
    have Br := HBr.out.below hK
    have hw := bt HWo.out hK
    obtain ⟨o0, o1, o2, o3⟩ := Bo.four
    have lo := Bo.lt
    obtain ⟨r0, r1, r2, r3⟩ := Br.four
    have lr := Br.lt
    have y0 := Br.frozen 0
    have y1 := Br.frozen 1
    have y2 := Br.frozen 2
    have y3 := Br.frozen 3
    clear hK Bo Br
    go_wp2_with fail
    refine bodyPost_ret (v := .tuple #[.agg #[.int .i64 id, .int .i64 ck, .slice (some ⟨b1, 0, none⟩) P.length d1, .slice (some ⟨b2, 0, none⟩) D.length d2], .slice (some ⟨q + 1, 0, none⟩) 0 0, .bool false]) (by simp (maxDischargeDepth := 8) [results, Try.results50, go_sem, *]) rfl ⟨_, _, 0, 0, ck, false, P, D, rfl, ⟨b1, d1, b2, d2, rfl, hne, ?_, ?_⟩, by omega, by omega, by omega, by go_grown⟩
    · refine EV.mono (B := w.heap.size + 1 + 1 + 1) ?_ (by omega)
      repeat (first | with_reducible refine EV.drew ?_ | (with_reducible refine EV.far ?_ (by simp; omega) _))
      with_reducible exact E1.out
    · refine EV.mono (B := w.heap.size + 1 + 1 + 1) ?_ (by omega)
      repeat (first | with_reducible refine EV.drew ?_ | (with_reducible refine EV.far ?_ (by simp; omega) _))
      with_reducible exact E2.out
    --RE
  · obtain ⟨j, e, hj, he, hm⟩ := fnd_some (by omega) hk
    have hj' : fnd P m 0 = (j : Int) := by omega
    rw [hj'] at C
    clear hj hj' hk
    have hjl := (List.getElem?_eq_some_iff.1 he).1
    obtain ⟨b, o, rfl, hb0⟩ := Rd.base (HR1.out w (Below.refl _ _)) (by omega)
    obtain ⟨b', o', m', t', g', f, e9, hb, hx, d0, d1', d2', d3⟩ := (HR1.out _ HWo.out).ent hjl
    simp only [Option.some.injEq, Addr.mk.injEq, and_true] at e9
    obtain ⟨rfl, rfl⟩ := e9
    have i1 : (0 : Int) ≤ (j : Int) := by omega
    have i2 : (j : Int) < (P.length : Int) := by omega
    have i3 : decide ((j : Int) < 0) = false := decide_eq_false (by omega)
    refine Calls.mono C.out ?_
    rintro e w' ⟨rfl, rfl⟩
    clear C
    rcases f with _ | _
    rotate_left 1
    ·
      --RB
      go_wp2_with fail
      refine wp_region_ext (Below.refl _ _) (by kernel_rfl) (by kernel_rfl) ?_
      intro hx hx2
      repeat (go_big_quiet_step ((first | (go_at_call 40; exact ext_call (specSLess_c _ _ _ _ _)))))
      refine wpQuiet_nil ?_
      clear hx hx2
      rintro wp ⟨n9, h9⟩
      have hK := n9.below
      rw [← h9] at hK
      clear h9 n9
      have E1 := hidI (HV1.out.below hK)
      have E2 := hidI (HV2.out.below hK)
      have Bo := HBo.out.below hK
      have Br := HBr.out.below hK
      have hw := bt HWo.out hK
      obtain ⟨o0, o1, o2, o3⟩ := Bo.four
      have lo := Bo.lt
      obtain ⟨r0, r1, r2, r3⟩ := Br.four
      have lr := Br.lt
      have y0 := Br.frozen 0
      have y1 := Br.frozen 1
      have y2 := Br.frozen 2
      have y3 := Br.frozen 3
      clear hK Bo Br
      go_wp2_with fail
      refine bodyPost_ret (v := .tuple #[.agg #[.int .i64 id, .int .i64 ck, .slice (some ⟨b1, 0, none⟩) P.length d1, .slice (some ⟨b2, 0, none⟩) D.length d2], .slice (some ⟨q + 1, 0, none⟩) 0 0, .bool false]) (by simp (maxDischargeDepth := 8) [results, Try.results50, go_sem, *]) rfl ⟨_, _, 0, 0, ck, false, P, D, rfl, ⟨b1, d1, b2, d2, rfl, hne, ?_, ?_⟩, by omega, by omega, by omega, by go_grown⟩
      · refine EV.mono (B := w.heap.size + 1 + 1 + 1) ?_ (by omega)
        repeat (first | with_reducible refine EV.drew ?_ | (with_reducible refine EV.far ?_ (by simp; omega) _))
        with_reducible exact E1.out
      · refine EV.mono (B := w.heap.size + 1 + 1 + 1) ?_ (by omega)
        repeat (first | with_reducible refine EV.drew ?_ | (with_reducible refine EV.far ?_ (by simp; omega) _))
        with_reducible exact E2.out
      --RE
    rcases hl : ltB t g t' g' with _ | _
    rotate_left 1
    ·
      --RB
      go_wp2_with fail
      refine wp_region_ext (Below.refl _ _) (by kernel_rfl) (by kernel_rfl) ?_
      intro hx hx2
      repeat (go_big_quiet_step ((first | (go_at_call 40; exact ext_call (specSLess_c _ _ _ _ _)))))
      refine wpQuiet_nil ?_
      clear hx hx2
      rintro wp ⟨n9, h9⟩
      have hK := n9.below
      rw [← h9] at hK
      clear h9 n9
      have E1 := hidI (HV1.out.below hK)
      have E2 := hidI (HV2.out.below hK)
      have Bo := HBo.out.below hK
      have Br := HBr.out.below hK
      have hw := bt HWo.out hK
      obtain ⟨o0, o1, o2, o3⟩ := Bo.four
      have lo := Bo.lt
      obtain ⟨r0, r1, r2, r3⟩ := Br.four
      have lr := Br.lt
      have y0 := Br.frozen 0
      have y1 := Br.frozen 1
      have y2 := Br.frozen 2
      have y3 := Br.frozen 3
      clear hK Bo Br
      go_wp2_with fail
      refine bodyPost_ret (v := .tuple #[.agg #[.int .i64 id, .int .i64 ck, .slice (some ⟨b1, 0, none⟩) P.length d1, .slice (some ⟨b2, 0, none⟩) D.length d2], .slice (some ⟨q + 1, 0, none⟩) 0 0, .bool false]) (by simp (maxDischargeDepth := 8) [results, Try.results50, go_sem, *]) rfl ⟨_, _, 0, 0, ck, false, P, D, rfl, ⟨b1, d1, b2, d2, rfl, hne, ?_, ?_⟩, by omega, by omega, by omega, by go_grown⟩
      · refine EV.mono (B := w.heap.size + 1 + 1 + 1) ?_ (by omega)
        repeat (first | with_reducible refine EV.drew ?_ | (with_reducible refine EV.far ?_ (by simp; omega) _))
        with_reducible exact E1.out
      · refine EV.mono (B := w.heap.size + 1 + 1 + 1) ?_ (by omega)
        repeat (first | with_reducible refine EV.drew ?_ | (with_reducible refine EV.far ?_ (by simp; omega) _))
        with_reducible exact E2.out
      --RE
    go_wp2_with fail
    refine wp_region_ext (Below.refl _ _) (by kernel_rfl) (by kernel_rfl) ?_
    intro hx hx2
    repeat (go_big_quiet_step ((first | (go_at_call 40; exact ext_call (specSLess_c _ _ _ _ _)))))
    refine wpQuiet_nil ?_
    clear hx hx2
    rintro wp ⟨n9, h9⟩
    have hK := n9.below
    rw [← h9] at hK
    clear h9 n9
    have E1 := hidI (HV1.out.below hK)
    have E2 := hidI (HV2.out.below hK)
    have HBo := hidI (HBo.out.below hK)
    have HBr := hidI (HBr.out.below hK)
    have HBs := hidI (HBs.out.below hK)
    have HBp := hidI (HBp.out.below hK)
    have HTo := hidI (HTo.out.below hK)
    have HWp := hidI (bt HWo.out hK)
    have hsp := hK.size
    rw [HSo.out] at hsp
    clear hK HV1 HV2 HWo HSo HQ o0 o1 o2 o3 lo r0 r1 r2 r3 lr y0 y1 y2 y3 s0 s1 ls p0 p1 p2 p3 lp' d0 d1' d2' d3 hl hb
    obtain ⟨p0, p1, p2, p3⟩ := HBp.out.four
    have lp := HBp.out.lt
    go_upto_region 6 with fail
    go_cut [12] from 14 to 54 (fun s12 wx => ∃ (b7 c7 : Nat) (R : List Ent), s12 = .slice (some ⟨b7, 0, none⟩) R.length c7 ∧ R.length + 1 = P.length ∧ EV wx wp.heap.size (.slice (some ⟨b7, 0, none⟩) R.length c7) R.length R ∧ Below wp.heap.size wp wx)
    case first =>
      have V0 := hidI (EV.startAt (w := wp) (B := wp.heap.size) (n := wp.heap.size) rfl (by omega))
      have HT1 := hidI (show (P.take j).length = j by rw [List.length_take]; omega)
      have HT2 := hidI (show (P.drop (j + 1)).length = P.length - (j + 1) from List.length_drop)
      have HRl := hidI (show (P.take j ++ P.drop (j + 1)).length = 0 + j + (P.length - (j + 1)) by simp; omega)
      have j0 : (j : Int) ≤ (c1 : Int) := by omega
      have j4 : IntKind.i64.wrap ((j : Int) + 1) = (j : Int) + 1 := IntWalk.i64_in _ (by omega)
      have j5 : (0 : Int) ≤ (j : Int) + 1 := by omega
      have j6 : (j : Int) + 1 ≤ (P.length : Int) := by omega
      have j7 : (j : Int) + 1 ≤ (c1 : Int) := by omega
      have j8 : ((j : Int) + 1).toNat = j + 1 := by omega
      have j3 : (j : Int) ≤ (P.length : Int) := by omega
      by_cases hc9 : c1 = j + 1
      ·
        --RB
        subst hc9
        have HRd := hidI (show Rd wp wp.heap.size (some ⟨b, o, none⟩) ((P.drop (j + 1)).flatMap ec) by rw [List.drop_eq_nil_of_le (by omega)]; exact Rd.nil)
        have j9 : (j : Int) ≤ (j : Int) + 1 := by omega
        have j10 : (j : Int) + 1 ≤ 9223372036854775807 := by omega
        clear j0 j7 hc1 hcm hcm'
        go_region_held3 (fun w' => w'.cell? ⟨w.heap.size, 2, none⟩ = some (.slice (some ⟨b, o, none⟩) P.length (j + 1)))
          ((first | assumption | (simp (maxDischargeDepth := 4) [*]; done) | (go_keep; done)))
          ((first
            | (refine step_append_ED (P.take j) (by rfl) _ _ (by rfl) (by rfl) V0.out.drew (by rfl) (fun e => by cases e) HT1.out (Rd.ents_take (HR1.out _ (HWp.out.alloc (by omega) _)) j) (by omega) (by simp) ?_; intro b5 c5 w5 q5 l5 V5 hb5 hg5; have k5 := ((hb5.cell (p := ⟨w.heap.size, 2, none⟩) (by simp; omega)).trans ((World.cell?_drew _ _).trans (HBp.out.alloc _).four.2.2.1)); have hK5 := hidI (Below.trans (Below.drew (Below.alloc (Below.refl wp.heap.size wp) (Nat.le_refl _) _)) hb5); have hz5 := Below.size hK5.out)
            | (refine step_append_ED (P.drop (j + 1)) (by rfl) _ _ (by rfl) (by rfl) V5 (by rfl) (fun e => by cases e) HT2.out (Rd.below HRd.out hK5.out) (by omega) hz5 ?_; intro b6 c6 w6 q6 l6 V6 hb6 hg6; have k6 := (hb6.cell (p := ⟨w.heap.size, 2, none⟩) (by simp; omega)).trans k5)
            | (trace_state; fail)))
        have V7 : EV w6 wp.heap.size (.slice (some ⟨b6, 0, none⟩) (P.take j ++ P.drop (j + 1)).length c6) (P.take j ++ P.drop (j + 1)).length (P.take j ++ P.drop (j + 1)) := by rw [HRl.out]; exact V6
        have hl7 := HRl.out
        have hb7 := hK5.out.trans hb6
        clear V6 hb6 hg6 k5 k6 V5 hb5 hg5
        go_wp2_with fail
        go_meet
        refine ⟨b6, c6, P.take j ++ P.drop (j + 1), ?_, by omega, V7, hb7⟩
        rw [hl7, Nat.zero_add]
        --RE
      ·
        --RB
        have hc9' : ¬ (c1 : Int) = (j : Int) + 1 := by omega
        go_region_held3 (fun w' => w'.cell? ⟨w.heap.size, 2, none⟩ = some (.slice (some ⟨b, o, none⟩) P.length c1))
          ((first | assumption | (simp (maxDischargeDepth := 4) [*]; done) | (go_keep; done)))
          ((first
            | (refine step_append_ED (P.take j) (by rfl) _ _ (by rfl) (by rfl) V0.out.drew (by rfl) (fun e => by cases e) HT1.out (Rd.ents_take (HR1.out _ (HWp.out.alloc (by omega) _)) j) (by omega) (by simp) ?_; intro b5 c5 w5 q5 l5 V5 hb5 hg5; have k5 := ((hb5.cell (p := ⟨w.heap.size, 2, none⟩) (by simp; omega)).trans ((World.cell?_drew _ _).trans (HBp.out.alloc _).four.2.2.1)); have hK5 := hidI (Below.trans (Below.drew (Below.alloc (Below.refl wp.heap.size wp) (Nat.le_refl _) _)) hb5); have hz5 := Below.size hK5.out)
            | (refine step_append_ED (P.drop (j + 1)) (by rfl) _ _ (by rfl) (by rfl) V5 (by rfl) (fun e => by cases e) HT2.out (Rd.ents_drop (HR1.out _ (bt HWp.out hK5.out)) (j + 1)) (by omega) hz5 ?_; intro b6 c6 w6 q6 l6 V6 hb6 hg6; have k6 := (hb6.cell (p := ⟨w.heap.size, 2, none⟩) (by simp; omega)).trans k5)
            | (trace_state; fail)))
        have V7 : EV w6 wp.heap.size (.slice (some ⟨b6, 0, none⟩) (P.take j ++ P.drop (j + 1)).length c6) (P.take j ++ P.drop (j + 1)).length (P.take j ++ P.drop (j + 1)) := by rw [HRl.out]; exact V6
        have hl7 := HRl.out
        have hb7 := hK5.out.trans hb6
        clear V6 hb6 hg6 k5 k6 V5 hb5 hg5
        go_wp2_with fail
        go_meet
        refine ⟨b6, c6, P.take j ++ P.drop (j + 1), ?_, by omega, V7, hb7⟩
        rw [hl7, Nat.zero_add]
        --RE
    case rest =>
      obtain ⟨b7, c7, R, rfl, hRl, V7, hK⟩ := hcut
      have E1 := hidI (E1.out.below hK)
      have E2 := hidI (E2.out.below hK)
      have HBo := hidI (HBo.out.below hK)
      have HBr := hidI (HBr.out.below hK)
      have HBs := hidI (HBs.out.below hK)
      have HTo := hidI (HTo.out.below hK)
      have HBp := hidI (HBp.out.below hK)
      have HW7 := hidI (bt HWp.out hK)
      have HV7 := hidI V7
      have hs7 : q + 1 + 1 ≤ wc.heap.size := by have := hK.size; omega
      obtain ⟨w7, rfl⟩ : ∃ x, x = wc := ⟨_, rfl⟩
      clear hK V7 HWp p0 p1 p2 p3 lp
      go_upto_block 0 with fail
      go_cut [13] from 14 to 69 (fun s13 wx => ∃ k : Nat, k ≤ R.length ∧ s13 = .int .i64 k ∧ Below w7.heap.size w7 wx)
      case first =>
        --RB
        go_wp2_with fail
        go_loopw [13] (fun s wr => ∃ k : Nat, k ≤ R.length ∧ s = .int .i64 k ∧ Below w7.heap.size w7 wr) (fun s _ => R.length - (intOf s).toNat)
        case atStart => exact ⟨0, Nat.zero_le _, rfl, Below.refl _ _⟩
        case round =>
          obtain ⟨k, hk, rfl, hB⟩ := hrel
          have Bs := HBs.out.below hB
          have s0 := Bs.cell 0
          have s1 := Bs.cell 1
          have ls := Bs.lt
          simp only [List.getElem?_toArray, List.getElem?_cons_zero, List.getElem?_cons_succ] at s0 s1
          have V := HV7.out.below hB
          have HB := hidI hB
          clear hB Bs
          by_cases hlt : k < R.length
          · 
            obtain ⟨b', o', mk, tk, gk, fk, e9, hb', hxk, d0, d1', d2', d3⟩ := V.rd.ent hlt
            simp only [Option.some.injEq, Addr.mk.injEq, and_true] at e9
            obtain ⟨rfl, rfl⟩ := e9
            simp only [Nat.zero_add] at d0 d1' d2' d3
            have i1 : (0 : Int) ≤ (k : Int) := by omega
            have i2 : (k : Int) < (R.length : Int) := by omega
            have hd : decide (k < R.length) = true := decide_eq_true hlt
            clear hxk d0 d3
            rcases hl : ltB tk gk t g with _ | _
            · go_wp2_with fail
              refine wp_region_ext (Below.refl _ _) (by kernel_rfl) (by kernel_rfl) ?_
              intro hx hx2
              repeat (go_big_quiet_step ((first | (go_at_call 40; exact ext_call (specSLess_c _ _ _ _ _)))))
              refine wpQuiet_nil ?_
              clear hx hx2
              rintro wq ⟨n9, h9⟩
              have hK := n9.below
              rw [← h9] at hK
              clear h9 n9
              go_wp2_with fail
              go_meet
              exact ⟨k, hk, rfl, bt HB.out hK⟩
            · go_wp2_with fail
              refine wp_region_ext (Below.refl _ _) (by kernel_rfl) (by kernel_rfl) ?_
              intro hx hx2
              repeat (go_big_quiet_step ((first | (go_at_call 40; exact ext_call (specSLess_c _ _ _ _ _)))))
              refine wpQuiet_nil ?_
              clear hx hx2
              rintro wq ⟨n9, h9⟩
              have hK := n9.below
              rw [← h9] at hK
              clear h9 n9
              go_wp2_with fail
              go_roundw
              case rel => exact ⟨k + 1, by omega, by go_num, bt HB.out hK⟩
              case measure => simp [intOf]; omega
          · obtain rfl : k = R.length := by omega
            have hd : decide (R.length < R.length) = false := decide_eq_false (by omega)
            go_wp2_with fail
            refine wp_region_ext (Below.refl _ _) (by kernel_rfl) (by kernel_rfl) ?_
            intro hx hx2
            repeat (go_big_quiet_step (fail))
            refine wpQuiet_nil ?_
            clear hx hx2
            rintro wq ⟨n9, h9⟩
            have hK := n9.below
            rw [← h9] at hK
            clear h9 n9
            go_wp2_with fail
            go_meet
            exact ⟨R.length, hk, rfl, bt HB.out hK⟩
        --RE
      case rest =>
        obtain ⟨k, hk, rfl, hK⟩ := hcut
        have E1 := hidI (E1.out.below hK)
        have E2 := hidI (E2.out.below hK)
        have HBo := hidI (HBo.out.below hK)
        have HBr := hidI (HBr.out.below hK)
        have HBs := hidI (HBs.out.below hK)
        have HTo := hidI (HTo.out.below hK)
        have HBp := hidI (HBp.out.below hK)
        have HV7 := hidI (HV7.out.below hK)
        have HW8 := hidI (bt HW7.out hK)
        have hs8 : q + 1 + 1 ≤ wc.heap.size := by have := hK.size; omega
        obtain ⟨w8, rfl⟩ : ∃ x, x = wc := ⟨_, rfl⟩
        clear hK HW7 hs7
        go_upto_region 10 with fail
        go_cut [82] from 14 to 82 (fun s82 wx => ∃ bb : Bool, s82 = .bool bb ∧ Below w8.heap.size w8 wx)
        case first =>
          --RB
          have hB := Below.refl w8.heap.size w8
          have Bs := HBs.out.below hB
          have s0 := Bs.cell 0
          have s1 := Bs.cell 1
          have ls := Bs.lt
          simp only [List.getElem?_toArray, List.getElem?_cons_zero, List.getElem?_cons_succ] at s0 s1
          have V := HV7.out
          clear hB Bs
          by_cases hlt : k < R.length
          · 
            obtain ⟨b', o', mk, tk, gk, fk, e9, hb', hxk, d0, d1', d2', d3⟩ := V.rd.ent hlt
            simp only [Option.some.injEq, Addr.mk.injEq, and_true] at e9
            obtain ⟨rfl, rfl⟩ := e9
            simp only [Nat.zero_add] at d0 d1' d2' d3
            have i1 : (0 : Int) ≤ (k : Int) := by omega
            have i2 : (k : Int) < (R.length : Int) := by omega
            have hd : decide (k < R.length) = true := decide_eq_true hlt
            clear hxk d0 d3
            have hq := fun W => run_eql_stamp tk gk t g W
            go_wp2_with fail
            refine wp_region_ext (Below.refl _ _) (by kernel_rfl) (by kernel_rfl) ?_
            intro hx hx2
            repeat (go_big_quiet_step (fail))
            refine wpQuiet_nil ?_
            clear hx hx2
            rintro wq ⟨n9, h9⟩
            have hK := n9.below
            rw [← h9] at hK
            clear h9 n9
            go_wp2_with fail
            go_meet
            exact ⟨_, rfl, hK⟩
          · obtain rfl : k = R.length := by omega
            have hd : decide (R.length < R.length) = false := decide_eq_false (by omega)
            go_wp2_with fail
            refine wp_region_ext (Below.refl _ _) (by kernel_rfl) (by kernel_rfl) ?_
            intro hx hx2
            repeat (go_big_quiet_step (fail))
            refine wpQuiet_nil ?_
            clear hx hx2
            rintro wq ⟨n9, h9⟩
            have hK := n9.below
            rw [← h9] at hK
            clear h9 n9
            go_wp2_with fail
            go_meet
            exact ⟨_, rfl, hK⟩
          --RE
        case rest =>
          obtain ⟨bb, rfl, hK⟩ := hcut
          have E1 := hidI (E1.out.below hK)
          have E2 := hidI (E2.out.below hK)
          have HBo := hidI (HBo.out.below hK)
          have HBr := hidI (HBr.out.below hK)
          have HBs := hidI (HBs.out.below hK)
          have HTo := hidI (HTo.out.below hK)
          have HBp := hidI (HBp.out.below hK)
          have HV7 := hidI (HV7.out.below hK)
          have HW9 := hidI (bt HW8.out hK)
          have hs9 : q + 1 + 1 ≤ wc.heap.size := by have := hK.size; omega
          obtain ⟨w9, rfl⟩ : ∃ x, x = wc := ⟨_, rfl⟩
          clear hK HW8 hs8
          rcases bb with _ | _
          rotate_left 1
          ·
            --RB
            have Bo := HBo.out
            have Br := HBr.out
            have hw := HW9.out
            obtain ⟨o0, o1, o2, o3⟩ := Bo.four
            have lo := Bo.lt
            obtain ⟨r0, r1, r2, r3⟩ := Br.four
            have lr := Br.lt
            have y0 := Br.frozen 0
            have y1 := Br.frozen 1
            have y2 := Br.frozen 2
            have y3 := Br.frozen 3
            clear Bo Br
            go_wp2_with fail
            refine bodyPost_ret (v := .tuple #[.agg #[.int .i64 id, .int .i64 ck, .slice (some ⟨b1, 0, none⟩) P.length d1, .slice (some ⟨b2, 0, none⟩) D.length d2], .slice (some ⟨q + 1, 0, none⟩) 0 0, .bool false]) (by simp (maxDischargeDepth := 8) [results, Try.results50, go_sem, *]) rfl ⟨_, _, 0, 0, ck, false, P, D, rfl, ⟨b1, d1, b2, d2, rfl, hne, ?_, ?_⟩, by omega, by omega, by omega, by go_grown⟩
            · refine EV.mono (B := w.heap.size + 1 + 1 + 1) ?_ (by omega)
              repeat (first | with_reducible refine EV.drew ?_ | (with_reducible refine EV.far ?_ (by simp; omega) _))
              with_reducible exact E1.out
            · refine EV.mono (B := w.heap.size + 1 + 1 + 1) ?_ (by omega)
              repeat (first | with_reducible refine EV.drew ?_ | (with_reducible refine EV.far ?_ (by simp; omega) _))
              with_reducible exact E2.out
            --RE
          have p1 := HBp.out.four.2.1
          have lp := HBp.out.lt
          have Bs := HBs.out
          have s0 := Bs.cell 0
          have s1 := Bs.cell 1
          have ls := Bs.lt
          simp only [List.getElem?_toArray, List.getElem?_cons_zero, List.getElem?_cons_succ] at s0 s1
          have Bo := HBo.out
          obtain ⟨o0, o1, o2, o3⟩ := Bo.four
          have of1 := Bo.frozen 1
          have lo := Bo.lt
          clear Bs Bo
          go_upto_region 13 with fail
          obtain ⟨cc, hcc⟩ : ∃ x, (if ck < t then t else ck) = x := ⟨_, rfl⟩
          have hc8 : ck ≤ cc := by rw [← hcc]; split <;> omega
          have hc9 : cc ≤ ck ∨ cc ≤ t := by rw [← hcc]; split <;> omega
          simp only [hcc]
          clear hcc o0 o1 o2 o3 of1 lo p1 lp s0 s1 ls HBp
          obtain ⟨w10, hw10⟩ : ∃ x, w9.setCell ⟨q, 1, none⟩ (.int .i64 cc) = x := ⟨_, rfl⟩
          have hg10 : w9.grownBy w10 (some q) := by rw [← hw10]; exact grown_setC w9 ⟨q, 1, none⟩ _
          have q7 := HV7.out.blk
          have HE2 := hidI (E2.out.offb hg10 (by intro h; injection h; omega))
          have HV7 := hidI (HV7.out.offb hg10 (by intro h; injection h; omega))
          have HBr := hidI (HBr.out.grown hg10 (by intro h; injection h; omega))
          have HBs := hidI (HBs.out.grown hg10 (by intro h; injection h; omega))
          have HTo := hidI (HTo.out.off hg10 (by intro h; injection h; omega))
          have HBo : Hid (Box w10 q 26 #[.int .i64 id, .int .i64 cc, .slice (some ⟨b1, 0, none⟩) P.length d1, .slice (some ⟨b2, 0, none⟩) D.length d2]) := by rw [← hw10]; exact HBo.out.set 1 (.int .i64 cc)
          have HW10 : Hid (Below w.heap.size w w10) := by rw [← hw10]; exact HW9.out.setCell (by simp; omega) _
          have hs10 : q + 1 + 1 ≤ w10.heap.size := by have := hg10.size; omega
          have hb7s : b7 < w10.heap.size := by have := hg10.size; omega
          rw [hw10]
          clear hw10 hg10 HW9 hs9 E1 E2 hsp
          go_cut [] from 14 to 105 (fun wx => ∃ k, FSt w id cc (P.length + D.length) q wx (.slice (some ⟨q + 1, 0, none⟩) 0 0) k)
          case first =>
            --RB
            have Bs := HBs.out
            have s0 := Bs.cell 0
            have s1 := Bs.cell 1
            have ls := Bs.lt
            simp only [List.getElem?_toArray, List.getElem?_cons_zero, List.getElem?_cons_succ] at s0 s1
            clear Bs
            have V0a := hidI (EV.startAt (w := w10) (B := w10.heap.size) (n := w10.heap.size) rfl (by omega))
            have V0b := hidI (EV.startAt (w := w10.alloc (.cells #[.int .i64 m, .int .i64 t, .int .i64 g, .bool true] 48)) (B := w10.heap.size) (n := w10.heap.size + 1) (by simp) (by omega))
            have HT1 := hidI (show (R.take k).length = k by rw [List.length_take]; omega)
            have HT2 := hidI (show (R.drop k).length = R.length - k from List.length_drop)
            have cV := HV7.out.cap
            have cV' : c7 ≤ 9223372036854775807 := by have := cV.2; unfold maxLen at this; omega
            have HRD := hidI HV7.out.rd
            have HNa := hidI (show Box ((w10.alloc (.cells #[] 48)).alloc (.cells #[.int .i64 m, .int .i64 t, .int .i64 g, .bool true] 48)) (w10.heap.size + 1) 48 #[.int .i64 m, .int .i64 t, .int .i64 g, .bool true] by simpa using Box.new (w10.alloc (.cells #[] 48)) 48 #[.int .i64 m, .int .i64 t, .int .i64 g, .bool true])
            have HNb := hidI ((Box.new w10 48 #[.int .i64 m, .int .i64 t, .int .i64 g, .bool true]).alloc (.cells #[] 48))
            have j1 : (0 : Int) ≤ (k : Int) := by omega
            have j2 : (k : Int) ≤ (R.length : Int) := by omega
            have j3 : (R.length : Int) ≤ (c7 : Int) := by omega
            have j4 : (k : Int) ≤ (c7 : Int) := by omega
            have j5 : (c7 : Int) ≤ 9223372036854775807 := by omega
            by_cases hck7 : c7 = k
            · have HRK := hidI (fun (W : World) (h : Below w10.heap.size w10 W) => (show Rd W W.heap.size (some ⟨b7, 0, none⟩) ((R.drop k).flatMap ec) by rw [List.drop_eq_nil_of_le (by omega)]; exact Rd.nil))
              subst hck7
              have j6 : (c7 : Int) ≤ (c7 : Int) := Int.le_refl _
              clear cV cV' j3 j4
              go_region_held3 (fun w' => w'.cell? ⟨w.heap.size + 1, 0, none⟩ = some (.int .i64 t) ∧ w'.cell? ⟨w.heap.size + 1, 1, none⟩ = some (.int .i64 g))
                ((first | (exact ⟨k80, k81⟩) | (exact ⟨k60, k61⟩) | (exact ⟨k50, k51⟩) | (simp (maxDischargeDepth := 4) [*]; done) | (go_keep; done) | (simp (maxDischargeDepth := 6) [go_sem, *]; done)))
                ((first
                  | (refine step_append_ED (B := w10.heap.size) (R.drop c7) (by rfl) _ _ (by rfl) (by rfl) V6 (by rfl) (fun e => by cases e) HT2.out (HRK.out _ hK6.out) (by omega) hz6 ?_; intro b8 c8 w8 q8 l8 V8 hb8 hg8; have hK8 := hidI (Below.trans hK6.out hb8); have hz8 := Below.size hK8.out; have V8n : EV w8 w10.heap.size (.slice (some ⟨b8, 0, none⟩) (c7 + 1 + (R.length - c7)) c8) (c7 + 1 + (R.length - c7)) (R.take c7 ++ [⟨m, t, g, true⟩] ++ R.drop c7) := (by first | exact V8 | (simp only [Nat.zero_add, List.nil_append] at V8; exact V8)); have k80 := (Below.cell hK8.out (p := ⟨w.heap.size + 1, 0, none⟩) (by simp; omega)).trans s0; have k81 := (Below.cell hK8.out (p := ⟨w.heap.size + 1, 1, none⟩) (by simp; omega)).trans s1; have Bo := HBo.out.below hK8.out; have o2 := Bo.four.2.2.1; have of2 := Bo.frozen 2; have lo := Bo.lt; clear Bo)
                  | (refine step_append_ED (B := w10.heap.size) (m := 1) [⟨m, t, g, true⟩] (by rfl) _ _ (by rfl) (by rfl) (V5n.alloc _) (by rfl) (fun e => by cases e) rfl (Rd.box (cs := [.int .i64 m, .int .i64 t, .int .i64 g, .bool true]) (Box.new w5 48 #[.int .i64 m, .int .i64 t, .int .i64 g, .bool true])) (by omega) (by first | (simp; done) | (simp; omega)) ?_; intro b6 c6 w6 q6 l6 V6 hb6 hg6; have hK6 := hidI (Below.trans (Below.alloc hK5.out hz5 _) hb6); have hz6 := Below.size hK6.out; have k60 := (Below.cell hK6.out (p := ⟨w.heap.size + 1, 0, none⟩) (by simp; omega)).trans s0; have k61 := (Below.cell hK6.out (p := ⟨w.heap.size + 1, 1, none⟩) (by simp; omega)).trans s1)
                  | (refine step_append_ED (B := w10.heap.size) (m := 1) [⟨m, t, g, true⟩] (by rfl) _ _ (by rfl) (by rfl) (V5.alloc _) (by rfl) (fun e => by cases e) rfl (Rd.box (cs := [.int .i64 m, .int .i64 t, .int .i64 g, .bool true]) (Box.new w5 48 #[.int .i64 m, .int .i64 t, .int .i64 g, .bool true])) (by omega) (by first | (simp; done) | (simp; omega)) ?_; intro b6 c6 w6 q6 l6 V6 hb6 hg6; have hK6 := hidI (Below.trans (Below.alloc hK5.out hz5 _) hb6); have hz6 := Below.size hK6.out; have k60 := (Below.cell hK6.out (p := ⟨w.heap.size + 1, 0, none⟩) (by simp; omega)).trans s0; have k61 := (Below.cell hK6.out (p := ⟨w.heap.size + 1, 1, none⟩) (by simp; omega)).trans s1)
                  | (refine step_append_ED (B := w10.heap.size) (m := 1) [⟨m, t, g, true⟩] (by rfl) _ _ (by rfl) (by rfl) V5n (by rfl) (fun e => by cases e) rfl HN5.out (by omega) hz5 ?_; intro b6 c6 w6 q6 l6 V6 hb6 hg6; have hK6 := hidI (Below.trans hK5.out hb6); have hz6 := Below.size hK6.out; have k60 := (Below.cell hK6.out (p := ⟨w.heap.size + 1, 0, none⟩) (by simp; omega)).trans s0; have k61 := (Below.cell hK6.out (p := ⟨w.heap.size + 1, 1, none⟩) (by simp; omega)).trans s1)
                  | (refine step_append_ED (B := w10.heap.size) (m := 1) [⟨m, t, g, true⟩] (by rfl) _ _ (by rfl) (by rfl) V5 (by rfl) (fun e => by cases e) rfl HN5.out (by omega) hz5 ?_; intro b6 c6 w6 q6 l6 V6 hb6 hg6; have hK6 := hidI (Below.trans hK5.out hb6); have hz6 := Below.size hK6.out; have k60 := (Below.cell hK6.out (p := ⟨w.heap.size + 1, 0, none⟩) (by simp; omega)).trans s0; have k61 := (Below.cell hK6.out (p := ⟨w.heap.size + 1, 1, none⟩) (by simp; omega)).trans s1)
                  | (refine step_append_ED (B := w10.heap.size) (R.take c7) (by rfl) _ _ (by rfl) (by rfl) V0a.out.drew (by rfl) (fun e => by cases e) HT1.out (Rd.drew (Rd.ents_take (RE.below HRD.out (by go_grown)) c7)) (by omega) (by first | (simp; done) | (simp; omega)) ?_; intro b5 c5 w5 q5 l5 V5 hb5 hg5; have hK5 := hidI (Below.trans (Below.drew (Below.alloc (Below.refl w10.heap.size w10) (Nat.le_refl _) _)) hb5); have hz5 := Below.size hK5.out; have V5n : EV w5 w10.heap.size (.slice (some ⟨b5, 0, none⟩) c7 c5) c7 (R.take c7) := (by simpa using V5); have k50 := (Below.cell hK5.out (p := ⟨w.heap.size + 1, 0, none⟩) (by simp; omega)).trans s0; have k51 := (Below.cell hK5.out (p := ⟨w.heap.size + 1, 1, none⟩) (by simp; omega)).trans s1)
                  | (refine step_append_ED (B := w10.heap.size) (R.take c7) (by rfl) _ _ (by rfl) (by rfl) (V0a.out.alloc _).drew (by rfl) (fun e => by cases e) HT1.out (Rd.drew (Rd.ents_take (RE.below HRD.out (by go_grown)) c7)) (by omega) (by first | (simp; done) | (simp; omega)) ?_; intro b5 c5 w5 q5 l5 V5 hb5 hg5; have hK5 := hidI (Below.trans (Below.drew (Below.alloc (Below.alloc (Below.refl w10.heap.size w10) (Nat.le_refl _) _) (by simp) _)) hb5); have hz5 := Below.size hK5.out; have V5n : EV w5 w10.heap.size (.slice (some ⟨b5, 0, none⟩) c7 c5) c7 (R.take c7) := (by simpa using V5); have k50 := (Below.cell hK5.out (p := ⟨w.heap.size + 1, 0, none⟩) (by simp; omega)).trans s0; have k51 := (Below.cell hK5.out (p := ⟨w.heap.size + 1, 1, none⟩) (by simp; omega)).trans s1; have HN5 := hidI (Rd.box (cs := [.int .i64 m, .int .i64 t, .int .i64 g, .bool true]) (Box.grown (Box.drew HNa.out) hg5 (by intro h; injection h; omega))))
                  | (refine step_append_ED (B := w10.heap.size) (R.take c7) (by rfl) _ _ (by rfl) (by rfl) V0b.out.drew (by rfl) (fun e => by cases e) HT1.out (Rd.drew (Rd.ents_take (RE.below HRD.out (by go_grown)) c7)) (by omega) (by first | (simp; done) | (simp; omega)) ?_; intro b5 c5 w5 q5 l5 V5 hb5 hg5; have hK5 := hidI (Below.trans (Below.drew (Below.alloc (Below.alloc (Below.refl w10.heap.size w10) (Nat.le_refl _) _) (by simp) _)) hb5); have hz5 := Below.size hK5.out; have V5n : EV w5 w10.heap.size (.slice (some ⟨b5, 0, none⟩) c7 c5) c7 (R.take c7) := (by simpa using V5); have k50 := (Below.cell hK5.out (p := ⟨w.heap.size + 1, 0, none⟩) (by simp; omega)).trans s0; have k51 := (Below.cell hK5.out (p := ⟨w.heap.size + 1, 1, none⟩) (by simp; omega)).trans s1; have HN5 := hidI (Rd.box (cs := [.int .i64 m, .int .i64 t, .int .i64 g, .bool true]) (Box.grown (Box.drew HNb.out) hg5 (by intro h; injection h; omega))))
                  | fail))
              all_goals
                clear o2 of2 lo k80 k81 k60 k61 k50 k51 hb8 hg8 hb6 hg6 hb5 hg5 V8 V6 V5 V5n
                go_wp2_with fail
                go_meet
                exact ⟨_, FSt.start hK8.out HW10.out V8n HE2.out HBo.out HBr.out HTo.out hs1 (by omega) hs10 (by simp; omega)⟩
            · have HRK := hidI (fun (W : World) (h : Below w10.heap.size w10 W) => (show Rd W W.heap.size (some ⟨b7, k * 4, none⟩) ((R.drop k).flatMap ec) by simpa using Rd.ents_drop (RE.below HRD.out h) k))
              have hck7' : ¬ (c7 : Int) = (k : Int) := by omega
              clear cV cV'
              go_region_held3 (fun w' => w'.cell? ⟨w.heap.size + 1, 0, none⟩ = some (.int .i64 t) ∧ w'.cell? ⟨w.heap.size + 1, 1, none⟩ = some (.int .i64 g))
                ((first | (exact ⟨k80, k81⟩) | (exact ⟨k60, k61⟩) | (exact ⟨k50, k51⟩) | (simp (maxDischargeDepth := 4) [*]; done) | (go_keep; done) | (simp (maxDischargeDepth := 6) [go_sem, *]; done)))
                ((first
                  | (refine step_append_ED (B := w10.heap.size) (R.drop k) (by rfl) _ _ (by rfl) (by rfl) V6 (by rfl) (fun e => by cases e) HT2.out (HRK.out _ hK6.out) (by omega) hz6 ?_; intro b8 c8 w8 q8 l8 V8 hb8 hg8; have hK8 := hidI (Below.trans hK6.out hb8); have hz8 := Below.size hK8.out; have V8n : EV w8 w10.heap.size (.slice (some ⟨b8, 0, none⟩) (k + 1 + (R.length - k)) c8) (k + 1 + (R.length - k)) (R.take k ++ [⟨m, t, g, true⟩] ++ R.drop k) := (by first | exact V8 | (simp only [Nat.zero_add, List.nil_append] at V8; exact V8)); have k80 := (Below.cell hK8.out (p := ⟨w.heap.size + 1, 0, none⟩) (by simp; omega)).trans s0; have k81 := (Below.cell hK8.out (p := ⟨w.heap.size + 1, 1, none⟩) (by simp; omega)).trans s1; have Bo := HBo.out.below hK8.out; have o2 := Bo.four.2.2.1; have of2 := Bo.frozen 2; have lo := Bo.lt; clear Bo)
                  | (refine step_append_ED (B := w10.heap.size) (m := 1) [⟨m, t, g, true⟩] (by rfl) _ _ (by rfl) (by rfl) (V5n.alloc _) (by rfl) (fun e => by cases e) rfl (Rd.box (cs := [.int .i64 m, .int .i64 t, .int .i64 g, .bool true]) (Box.new w5 48 #[.int .i64 m, .int .i64 t, .int .i64 g, .bool true])) (by omega) (by first | (simp; done) | (simp; omega)) ?_; intro b6 c6 w6 q6 l6 V6 hb6 hg6; have hK6 := hidI (Below.trans (Below.alloc hK5.out hz5 _) hb6); have hz6 := Below.size hK6.out; have k60 := (Below.cell hK6.out (p := ⟨w.heap.size + 1, 0, none⟩) (by simp; omega)).trans s0; have k61 := (Below.cell hK6.out (p := ⟨w.heap.size + 1, 1, none⟩) (by simp; omega)).trans s1)
                  | (refine step_append_ED (B := w10.heap.size) (m := 1) [⟨m, t, g, true⟩] (by rfl) _ _ (by rfl) (by rfl) (V5.alloc _) (by rfl) (fun e => by cases e) rfl (Rd.box (cs := [.int .i64 m, .int .i64 t, .int .i64 g, .bool true]) (Box.new w5 48 #[.int .i64 m, .int .i64 t, .int .i64 g, .bool true])) (by omega) (by first | (simp; done) | (simp; omega)) ?_; intro b6 c6 w6 q6 l6 V6 hb6 hg6; have hK6 := hidI (Below.trans (Below.alloc hK5.out hz5 _) hb6); have hz6 := Below.size hK6.out; have k60 := (Below.cell hK6.out (p := ⟨w.heap.size + 1, 0, none⟩) (by simp; omega)).trans s0; have k61 := (Below.cell hK6.out (p := ⟨w.heap.size + 1, 1, none⟩) (by simp; omega)).trans s1)
                  | (refine step_append_ED (B := w10.heap.size) (m := 1) [⟨m, t, g, true⟩] (by rfl) _ _ (by rfl) (by rfl) V5n (by rfl) (fun e => by cases e) rfl HN5.out (by omega) hz5 ?_; intro b6 c6 w6 q6 l6 V6 hb6 hg6; have hK6 := hidI (Below.trans hK5.out hb6); have hz6 := Below.size hK6.out; have k60 := (Below.cell hK6.out (p := ⟨w.heap.size + 1, 0, none⟩) (by simp; omega)).trans s0; have k61 := (Below.cell hK6.out (p := ⟨w.heap.size + 1, 1, none⟩) (by simp; omega)).trans s1)
                  | (refine step_append_ED (B := w10.heap.size) (m := 1) [⟨m, t, g, true⟩] (by rfl) _ _ (by rfl) (by rfl) V5 (by rfl) (fun e => by cases e) rfl HN5.out (by omega) hz5 ?_; intro b6 c6 w6 q6 l6 V6 hb6 hg6; have hK6 := hidI (Below.trans hK5.out hb6); have hz6 := Below.size hK6.out; have k60 := (Below.cell hK6.out (p := ⟨w.heap.size + 1, 0, none⟩) (by simp; omega)).trans s0; have k61 := (Below.cell hK6.out (p := ⟨w.heap.size + 1, 1, none⟩) (by simp; omega)).trans s1)
                  | (refine step_append_ED (B := w10.heap.size) (R.take k) (by rfl) _ _ (by rfl) (by rfl) V0a.out.drew (by rfl) (fun e => by cases e) HT1.out (Rd.drew (Rd.ents_take (RE.below HRD.out (by go_grown)) k)) (by omega) (by first | (simp; done) | (simp; omega)) ?_; intro b5 c5 w5 q5 l5 V5 hb5 hg5; have hK5 := hidI (Below.trans (Below.drew (Below.alloc (Below.refl w10.heap.size w10) (Nat.le_refl _) _)) hb5); have hz5 := Below.size hK5.out; have V5n : EV w5 w10.heap.size (.slice (some ⟨b5, 0, none⟩) k c5) k (R.take k) := (by simpa using V5); have k50 := (Below.cell hK5.out (p := ⟨w.heap.size + 1, 0, none⟩) (by simp; omega)).trans s0; have k51 := (Below.cell hK5.out (p := ⟨w.heap.size + 1, 1, none⟩) (by simp; omega)).trans s1)
                  | (refine step_append_ED (B := w10.heap.size) (R.take k) (by rfl) _ _ (by rfl) (by rfl) (V0a.out.alloc _).drew (by rfl) (fun e => by cases e) HT1.out (Rd.drew (Rd.ents_take (RE.below HRD.out (by go_grown)) k)) (by omega) (by first | (simp; done) | (simp; omega)) ?_; intro b5 c5 w5 q5 l5 V5 hb5 hg5; have hK5 := hidI (Below.trans (Below.drew (Below.alloc (Below.alloc (Below.refl w10.heap.size w10) (Nat.le_refl _) _) (by simp) _)) hb5); have hz5 := Below.size hK5.out; have V5n : EV w5 w10.heap.size (.slice (some ⟨b5, 0, none⟩) k c5) k (R.take k) := (by simpa using V5); have k50 := (Below.cell hK5.out (p := ⟨w.heap.size + 1, 0, none⟩) (by simp; omega)).trans s0; have k51 := (Below.cell hK5.out (p := ⟨w.heap.size + 1, 1, none⟩) (by simp; omega)).trans s1; have HN5 := hidI (Rd.box (cs := [.int .i64 m, .int .i64 t, .int .i64 g, .bool true]) (Box.grown (Box.drew HNa.out) hg5 (by intro h; injection h; omega))))
                  | (refine step_append_ED (B := w10.heap.size) (R.take k) (by rfl) _ _ (by rfl) (by rfl) V0b.out.drew (by rfl) (fun e => by cases e) HT1.out (Rd.drew (Rd.ents_take (RE.below HRD.out (by go_grown)) k)) (by omega) (by first | (simp; done) | (simp; omega)) ?_; intro b5 c5 w5 q5 l5 V5 hb5 hg5; have hK5 := hidI (Below.trans (Below.drew (Below.alloc (Below.alloc (Below.refl w10.heap.size w10) (Nat.le_refl _) _) (by simp) _)) hb5); have hz5 := Below.size hK5.out; have V5n : EV w5 w10.heap.size (.slice (some ⟨b5, 0, none⟩) k c5) k (R.take k) := (by simpa using V5); have k50 := (Below.cell hK5.out (p := ⟨w.heap.size + 1, 0, none⟩) (by simp; omega)).trans s0; have k51 := (Below.cell hK5.out (p := ⟨w.heap.size + 1, 1, none⟩) (by simp; omega)).trans s1; have HN5 := hidI (Rd.box (cs := [.int .i64 m, .int .i64 t, .int .i64 g, .bool true]) (Box.grown (Box.drew HNb.out) hg5 (by intro h; injection h; omega))))
                  | fail))
              all_goals
                clear o2 of2 lo k80 k81 k60 k61 k50 k51 hb8 hg8 hb6 hg6 hb5 hg5 V8 V6 V5 V5n
                go_wp2_with fail
                go_meet
                exact ⟨_, FSt.start hK8.out HW10.out V8n HE2.out HBo.out HBr.out HTo.out hs1 (by omega) hs10 (by simp; omega)⟩
            --RE
          case rest =>
            obtain ⟨k0, hF⟩ := hcut
            have HF := hidI hF
            obtain ⟨w11, rfl⟩ : ∃ x, x = wc := ⟨_, rfl⟩
            clear hF HE2 HV7 HBr HBs HTo HBo HW10 hs10 hb7s q7 hRl hs1 hx hm he hjl
            go_upto_block 2 with fail
            go_cut [10] from 14 to 137 (fun s10 wx => ∃ k, FSt w id cc (P.length + D.length) q wx s10 k)
            case first =>
              --RB
              go_wp2_with fail
              go_loopg [10] k0 (fun k s wr => FSt w id cc (P.length + D.length) q wr s k)
              case atStart => exact HF.out
              case round =>
                have HR := hidI hrel
                obtain ⟨tb, tn, tc, b8, o8, c8, b9, c9, L, E, rfl, T, hl, Bo, Br, RL, hl8, hm8, VE, hne, hN, htn, hW⟩ := hrel
                subst hl
                have HW := hidI hW
                have HBr := hidI Br
                have HVE := hidI VE
                have HRL := hidI RL
                have HT := hidI T
                clear T Br RL VE hW HF
                obtain ⟨n1, n2, n3, n4, n5, n6, n7, n8, n9, n10⟩ := hne
                have hmm : (c8 : Int) ≤ 9223372036854775807 := by unfold maxLen at hm8; omega
                have HM := hidI hm8
                clear hm8
                rcases L with _ | ⟨⟨em, et, eg, ef⟩, L⟩
                · simp only [List.length_nil] at Bo
                  obtain ⟨o0, o1, o2, o3⟩ := Bo.four
                  have lo := Bo.lt
                  clear Bo
                  go_wp2_with fail
                  go_meet
                  exact ⟨_, HR.out⟩
                · simp only [List.length_cons] at Bo hl8 hN htn
                  obtain ⟨b', o', m', t', g', f', e9, hb', hx, d0, d1', d2', d3⟩ := HRL.out.ent (k := 0) (by simp)
                  simp only [Option.some.injEq, Addr.mk.injEq, and_true] at e9
                  obtain ⟨rfl, rfl⟩ := e9
                  have hx' := hx.out
                  simp only [List.getElem?_cons_zero, Option.some.injEq, Ent.mk.injEq] at hx'
                  obtain ⟨rfl, rfl, rfl, rfl⟩ := hx'
                  simp only [Nat.zero_mul, Nat.add_zero] at d0 d1' d2' d3
                  have i1 : (0 : Int) < (L.length : Int) + 1 := by omega
                  obtain ⟨o0, o1, o2, o3⟩ := Bo.four
                  have lo := Bo.lt
                  have HBo := hidI Bo
                  clear Bo hx
                  rcases ef with _ | _
                  · go_wp2_with fail
                    go_meet
                    exact ⟨_, HR.out⟩
                  · clear HR
                    have hgT := (Box.new wr 3 #[.int .i64 em]).cell 0
                    simp only [List.getElem?_toArray, List.getElem?_cons_zero] at hgT
                    go_upto_region 16 with (at_builtin; refine wpList_append_TD em rfl _ _ rfl rfl (HT.out.alloc _) rfl hgT (by omega) ?_; intro tb' tc' w15 q15 T15 hg15)
                    have lb9 := HVE.out.blk
                    have lt15 := T15.lt
                    have s15 := hg15.size
                    simp only [World.size_alloc] at s15 q15
                    have m4 : tb' ≠ q := by rcases q15 with h | h <;> omega
                    have m5 : tb' ≠ b8 := by rcases q15 with h | h <;> omega
                    have m6 : tb' ≠ b9 := by rcases q15 with h | h <;> omega
                    have m8 : w.heap.size + 1 + 1 + 1 ≤ tb' := by rcases q15 with h | h <;> omega
                    have HBo := hidI ((HBo.out.alloc (.cells #[.int .i64 em] 3)).grown hg15 (by intro h; injection h; omega))
                    have HBr := hidI ((HBr.out.alloc (.cells #[.int .i64 em] 3)).grown hg15 (by intro h; injection h; omega))
                    have HVE := hidI ((HVE.out.alloc (.cells #[.int .i64 em] 3)).offb hg15 (by intro h; injection h; omega))
                    have HRL := hidI (RE.off (RE.below HRL.out ((Below.refl _ _).alloc (Nat.le_refl _) (.cells #[.int .i64 em] 3))) hg15 (by intro h; injection h; omega))
                    have HW := hidI (((HW.out.alloc (by omega) (.cells #[.int .i64 em] 3)).grown hg15 (by simp; omega) (fun g e => by cases e; omega)))
                    have HT := hidI T15
                    have m10 : b8 < w15.heap.size := by omega
                    have m11 : b9 < w15.heap.size := by omega
                    have lo' : q < w15.heap.size := by omega
                    obtain ⟨_, _, m', t', g', f', e9, hb', hx, d0, d1', d2', d3⟩ := Rd.ent (k := 0) HRL.out (by simp)
                    simp only [Option.some.injEq, Addr.mk.injEq, and_true] at e9
                    obtain ⟨rfl, rfl⟩ := e9
                    have hx' := hx.out
                    simp only [List.getElem?_cons_zero, Option.some.injEq, Ent.mk.injEq] at hx'
                    obtain ⟨rfl, rfl, rfl, rfl⟩ := hx'
                    simp only [Nat.zero_mul, Nat.add_zero] at d0 d1' d2' d3
                    obtain ⟨o0, o1, o2, o3⟩ := HBo.out.four
                    clear s15 q15 T15 hg15 hgT hx hb' o0 o1
                    go_region_law (first
                      | (refine step_append_ED (B := w.heap.size + 1 + 1 + 1) (m := 1) [⟨em, et, eg, true⟩] (by rfl) _ _ (by rfl) (by rfl) (EV.drew (EV.alloc HVE.out _)) (by rfl) (fun e => by cases e) rfl (Rd.drew (Rd.box (cs := [.int .i64 em, .int .i64 et, .int .i64 eg, .bool true]) (Box.new w15 48 #[.int .i64 em, .int .i64 et, .int .i64 eg, .bool true]))) (by omega) (by simp; omega) ?_; intro b10 c10 w17 q17 l17 V17 hb17 hg17; have HB17 := hidI (Box.grown (Box.drew (Box.alloc HBo.out _)) hg17 (by intro h; injection h; omega)); have z3 := HB17.out.four.2.2.2; have f3 := HB17.out.frozen 3; have lq := HB17.out.lt)
                      | fail)
                    all_goals
                      have HBr := hidI (Box.grown (Box.drew (Box.alloc HBr.out _)) hg17 (by intro h; injection h; omega))
                      have HRL := hidI (RE.off (Rd.drew (RE.below HRL.out ((Below.refl _ _).alloc (Nat.le_refl _) (.cells #[.int .i64 em, .int .i64 et, .int .i64 eg, .bool true] 48)))) hg17 (by intro h; injection h; omega))
                      have HW := hidI (((HW.out.alloc (by omega) (.cells #[.int .i64 em, .int .i64 et, .int .i64 eg, .bool true] 48)).drew).grown hg17 (by simp; omega) (fun g e => by cases e; omega))
                      have HT := hidI (TD.off (show TD (w15.alloc (.cells #[.int .i64 em, .int .i64 et, .int .i64 eg, .bool true] 48)).drew tb' (tn + 1) tc' from HT.out.alloc _) hg17 (by intro h; injection h; omega))
                      have hb10 : b10 = b9 ∨ w15.heap.size ≤ b10 := by
                        rcases q17 with h | h
                        · exact .inl h
                        · right
                          rw [h]
                          simp
                      have p1 : b8 ≠ b10 := by rcases hb10 with h | h <;> omega
                      have p3 : b10 ≠ q := by rcases hb10 with h | h <;> omega
                      have p6 : tb' ≠ b10 := by rcases hb10 with h | h <;> omega
                      obtain ⟨w18, hw18⟩ : ∃ x, w17.setCell ⟨q, 3, none⟩ (.slice (some ⟨b10, 0, none⟩) (E.length + 1) c10) = x := ⟨_, rfl⟩
                      have hg18 : w17.grownBy w18 (some q) := by rw [← hw18]; exact grown_setC w17 ⟨q, 3, none⟩ _
                      have hEl : (E ++ [(⟨em, et, eg, true⟩ : Ent)]).length = E.length + 1 := by simp
                      have B18 : Box w18 q 26 #[.int .i64 id, .int .i64 cc, .slice (some ⟨b8, o8, none⟩) (L.length + 1) c8, .slice (some ⟨b10, 0, none⟩) (E.length + 1) c10] := by rw [← hw18]; exact HB17.out.set 3 (.slice (some ⟨b10, 0, none⟩) (E.length + 1) c10)
                      have HBr := hidI (HBr.out.grown hg18 (by intro h; injection h; omega))
                      have HRL := hidI (RE.off HRL.out hg18 (by intro h; injection h; omega))
                      have HV18 := hidI (V17.offb hg18 (by intro h; injection h; omega))
                      have HT := hidI (HT.out.off hg18 (by intro h; injection h; omega))
                      have HW : Hid (Below w.heap.size w w18) := by rw [← hw18]; exact HW.out.setCell (by simp; omega) _
                      have m10' : b8 < w18.heap.size := by
                        have h1 := hg17.size
                        have h2 := hg18.size
                        simp at h1
                        omega
                      rw [hw18]
                      obtain ⟨z0, z1, z2, z3⟩ := B18.four
                      have f2 := B18.frozen 2
                      have lq := B18.lt
                      rw [← hEl] at B18
                      have HV18 := hidI (show EV w18 (w.heap.size + 1 + 1 + 1) (.slice (some ⟨b10, 0, none⟩) (E ++ [(⟨em, et, eg, true⟩ : Ent)]).length c10) (E ++ [(⟨em, et, eg, true⟩ : Ent)]).length (E ++ [(⟨em, et, eg, true⟩ : Ent)]) by rw [hEl]; exact HV18.out)
                      have HB18 := hidI B18
                      have HEl := hidI hEl
                      clear hw18 hg18 hg17 hb17 V17 q17 hb10 f3 HB17 B18 hEl d0 d1' d2' d3 o2 o3 m10 m11 lo'
                      by_cases h81 : c8 = 1
                      · subst h81
                        have hL0 := hidI (show L = [] from List.eq_nil_of_length_eq_zero (by omega))
                        have i2 : (1 : Int) ≤ (L.length : Int) + 1 := by omega
                        have i3 : (L.length : Int) + 1 ≤ 1 := by omega
                        go_wp2_with fail
                        go_roundg L.length
                        case measure => simp
                        case rel =>
                          have hL := hL0.out
                          clear hL0
                          subst hL
                          exact FSt.step (L := []) (E := E ++ [⟨em, et, eg, true⟩]) (o8 := o8) (c8 := 0) HB18.out HBr.out HT.out Rd.nil (Nat.le_refl _) (Nat.zero_le _) HV18.out p1 n2 p3 m4 m5 p6 n7 m8 n9 m10' (by rw [HEl.out]; omega) (by omega) HW.out
                      · have h81' : ¬ (c8 : Int) = 1 := by omega
                        have i2 : (1 : Int) ≤ (L.length : Int) + 1 := by omega
                        have i3 : (L.length : Int) + 1 ≤ (c8 : Int) := by omega
                        have i4 : (1 : Int) ≤ (c8 : Int) := by omega
                        go_wp2_with fail
                        go_roundg L.length
                        case measure => simp
                        case rel => exact FSt.step (L := L) (E := E ++ [⟨em, et, eg, true⟩]) (o8 := o8 + 4) (c8 := c8 - 1) HB18.out HBr.out HT.out (show RE w18 (some ⟨b8, o8 + 4, none⟩) L by simpa using Rd.ents_drop HRL.out 1) (by omega) (Nat.le_trans (Nat.sub_le _ _) HM.out) HV18.out p1 n2 p3 m4 m5 p6 n7 m8 n9 m10' (by rw [HEl.out]; omega) (by omega) HW.out
              --RE
            case rest =>
              --RB
              obtain ⟨k1, tb, tn, tc, b8, o8, c8, b9, c9, L, E, rfl, T, hl, Bo, Br, RL, hl8, hm8, VE, hne, hN, htn, hW⟩ := hcut
              subst hl
              obtain ⟨w12, rfl⟩ : ∃ x, x = wc := ⟨_, rfl⟩
              have CC := hidI (l11Copy_c id cc (some ⟨b8, o8, none⟩) (some ⟨b9, 0, none⟩) L.length E.length c8 c9 L E w12 rfl rfl (by omega) (by omega) (fun e => by cases e) (fun e => by cases e) RL VE.rd)
              have HBr := hidI Br
              have HW := hidI hW
              obtain ⟨o0, o1, o2, o3⟩ := Bo.four
              have lo := Bo.lt
              clear Br hW RL VE T HF Bo
              go_wp2_with fail
              refine Calls.mono CC.out ?_
              rintro e w13 ⟨v, rfl, ⟨x1, y1, x2, y2, rfl, hne2, V1, V2⟩, hb⟩
              have Br := HBr.out.below hb
              obtain ⟨r0, r1, r2, r3⟩ := Br.four
              have lr := Br.lt
              have y0 := Br.frozen 0
              have y1' := Br.frozen 1
              have y2' := Br.frozen 2
              have y3 := Br.frozen 3
              have hw := bt HW.out hb
              have hsz := HBr.out.lt
              have z1 := V1.blk
              have z2 := V2.blk
              have HV1 := hidI V1
              have HV2 := hidI V2
              clear CC HBr HW hb Br V1 V2 o0 o1 o2 o3 lo
              go_wp2_with fail
              refine bodyPost_ret (v := .tuple #[.agg #[.int .i64 id, .int .i64 cc, .slice (some ⟨x1, 0, none⟩) L.length y1, .slice (some ⟨x2, 0, none⟩) E.length y2], .slice (some ⟨tb, 0, none⟩) tn tc, .bool true]) (by simp (maxDischargeDepth := 8) [results, Try.results50, go_sem, *]) rfl ⟨_, _, _, _, cc, true, L, E, rfl, ⟨x1, y1, x2, y2, rfl, hne2, ?_, ?_⟩, by omega, by omega, by omega, by go_grown⟩
              · refine EV.mono (B := w12.heap.size) ?_ (by omega)
                repeat (first | with_reducible refine EV.drew ?_ | (with_reducible refine EV.far ?_ (by simp; omega) _))
                with_reducible exact HV1.out
              · refine EV.mono (B := w12.heap.size) ?_ (by omega)
                repeat (first | with_reducible refine EV.drew ?_ | (with_reducible refine EV.far ?_ (by simp; omega) _))
                with_reducible exact HV2.out
              --RE
end Go.Proofs.Ytiecjkacbpbghaa
