/- The law FnFinalOrder: its call hands back true, whatever the code; out of what the draw of a group hands back. -/
import Derived.Test.YtiecjkacbpbghaaEf
import Derived.Test.YtiecjkacbpbghaaDraw
namespace Go.Proofs.Ytiecjkacbpbghaa
set_option linter.unusedVariables false
open Go.RowKit

/-- A drawn group, as the law meets it. -/
def DrewG (w : World) (e : Ending) (w' : World) : Prop :=
  ∃ (id ck : Int) (b1 c1 b2 c2 : Nat) (P D : List Ent), e = .returned (.agg #[.int .i64 id, .int .i64 ck, .slice (some ⟨b1, 0, none⟩) P.length c1, .slice (some ⟨b2, 0, none⟩) D.length c2]) ∧ P.length ≤ 1000 ∧ D.length ≤ 1000 ∧ P.length ≤ c1 ∧ D.length ≤ c2 ∧
    RE w' (some ⟨b1, 0, none⟩) P ∧ RE w' (some ⟨b2, 0, none⟩) D ∧ Below w.heap.size w w'

theorem slB_mk {a b c d : Int} (h1 : svB a b = true) (h2 : svB c d = true) (h3 : ltB a b c d = true) : slB a b c d = true := by
  unfold slB
  rw [h1, h2, h3]
  rfl
/-- Two done entries stand in order, the second is final. -/
theorem gP.done_ok {id ck : Int} {P D : List Ent} {k : Nat} {p e : Ent} (h : gP id ck P D) (hp : D[k]? = some p) (he : D[k + 1]? = some e) : slB p.t p.g e.t e.g = true ∧ e.f = true := by
  obtain ⟨_, _, _, hd, hf, _⟩ := h
  refine ⟨slB_mk ((hd k).1 p hp).2.1 ((hd (k + 1)).1 e he).2.1 (((hd (k + 1)).1 e he).2.2.2.2 p (by omega) (by simp; exact hp)), (hf e (List.mem_of_getElem? he)).1⟩
/-- Every pending entry stands behind the last done one. -/
theorem gP.pend_lt {id ck : Int} {P D : List Ent} {d : Ent} (h : gP id ck P D) (hd : D[D.length - 1]? = some d) : ∀ (i : Nat) (e : Ent), P[i]? = some e → ltB d.t d.g e.t e.g = true := by
  obtain ⟨_, _, hp, _, _, ht⟩ := h
  intro i
  induction i with
  | zero => exact fun e he => (ht e he).2 d hd
  | succ i ih =>
    intro e he
    have hi := (List.getElem?_eq_some_iff.1 he).1
    have hq : P[i]? = some P[i] := List.getElem?_eq_getElem (by omega)
    have a := ltB_iff.1 (ih _ hq)
    have b := ltB_iff.1 (((hp (i + 1)).1 e he).2.2.2.2 P[i] (by omega) (by simp))
    exact ltB_iff.2 (by omega)
theorem gP.pend_ok {id ck : Int} {P D : List Ent} {d e : Ent} {i : Nat} (h : gP id ck P D) (hd : D[D.length - 1]? = some d) (he : P[i]? = some e) : slB d.t d.g e.t e.g = true :=
  slB_mk ((h.2.2.2.1 _).1 d hd).2.1 ((h.2.2.1 _).1 e he).2.1 (h.pend_lt hd i e he)

set_option maxHeartbeats 8000000 in
theorem fOrd_walk' (A : Option Addr) (bs : List Int) (c : Nat) (w : World) (hm : (bs.length : Int) ≤ 9223372036854775807) (hlc : bs.length ≤ c) (hcm : (c : Int) ≤ 9223372036854775807) (hr : Rd w w.heap.size A (bs.map (Value.int .u8))) (hf : ∀ x ∈ bs, FitB x)
    (HD : ∀ (A : Option Addr) (bs : List Int) (c : Nat) (w : World) (hm : (bs.length : Int) ≤ 9223372036854775807) (hlc : bs.length ≤ c) (hcm : (c : Int) ≤ 9223372036854775807) (hr : Rd w w.heap.size A (bs.map (Value.int .u8))) (hf : ∀ x ∈ bs, FitB x), Calls Try.prog 22 #[.slice A bs.length c] w (DrewG w)) :
    Calls Try.prog 7 #[.slice A bs.length c] w fun e w' => e = .returned (.bool true) ∧ Below w.heap.size w w' := by
  by_cases hn : (1048576 : Int) < bs.length
  · clear hr hf HD
    go_enter Try.func7, Try.ntmps7
    go_wp2
    go_ret
    exact ⟨rfl, by go_grown⟩
  · have hn' : (bs.length : Int) ≤ 1048576 := by omega
    go_enter Try.func7, Try.ntmps7
    go_wp2_with fail
    refine (HD A bs c _ hm hlc hcm hr hf).mono ?_
    rintro e w1 ⟨id, ck, b1, c1, b2, c2, P, D, rfl, l1, l2, m1, m2, R1, R2, hb⟩
    clear hr hf HD
    obtain ⟨q, hq⟩ : ∃ q, w1.heap.size = q := ⟨_, rfl⟩
    obtain ⟨wx, hwx⟩ : ∃ x, w1.alloc (.cells #[.int .i64 id, .int .i64 ck, .slice (some ⟨b1, 0, none⟩) P.length c1, .slice (some ⟨b2, 0, none⟩) D.length c2] 26) = x := ⟨_, rfl⟩
    have B0 : Box wx q 26 #[.int .i64 id, .int .i64 ck, .slice (some ⟨b1, 0, none⟩) P.length c1, .slice (some ⟨b2, 0, none⟩) D.length c2] := by rw [← hwx, ← hq]; exact Box.new w1 _ _
    have hb1 : Below w1.heap.size w1 wx := by rw [← hwx]; go_grown
    have HW := hidI (bu hb1 hb)
    replace R1 := RE.below R1 hb1
    replace R2 := RE.below R2 hb1
    have HR1 := hidI (fun W (h : Below wx.heap.size wx W) => RE.below R1 h)
    have HR2 := hidI (fun W (h : Below wx.heap.size wx W) => RE.below R2 h)
    have CI := hidI (implGr_c id ck (some ⟨b1, 0, none⟩) (some ⟨b2, 0, none⟩) P D c1 c2 wx (by omega) (by omega) m1 m2 (fun e => by cases e) (fun e => by cases e) R1 R2)
    have CS := hidI (fun W (h : Below wx.heap.size wx W) => specGr_c id ck (some ⟨b1, 0, none⟩) (some ⟨b2, 0, none⟩) P D c1 c2 W (by omega) (by omega) m1 m2 (RE.below R1 h) (RE.below R2 h))
    have HX := hidI hwx
    have HQ := hidI hq
    clear hb hb1 R1 R2 hwx hq
    go_wp2_with fail
    rw [HX.out]
    simp only [HQ.out]
    refine Calls.mono CI.out ?_
    rintro e w2 ⟨rfl, hb⟩
    have HB := hidI (B0.below hb)
    have hw2 := hb
    clear CI HX HQ hb B0
    obtain ⟨q0, q1, q2, q3⟩ := HB.out.four
    have lq := HB.out.lt
    go_wp2_with fail
    refine (CS.out _ hw2).mono ?_
    rintro e w3 ⟨rfl, hb⟩
    replace HB := hidI (HB.out.below hb)
    replace hw2 := hidI (bt hw2 hb)
    clear CS hb q0 q1 q2 q3 lq
    rcases hg : gB id ck P D with _ | _
    · go_wp2_with fail
      go_ret
      exact ⟨rfl, bu hw2.out HW.out⟩
    · have HG := hidI (gB_iff.1 hg)
      clear hg
      go_wp2_with fail
      go_loopw [6] (fun i wr => ∃ k : Nat, (k = 0 ∨ k + 1 ≤ D.length) ∧ i = .int .i64 ((k : Int) + 1) ∧ Box wr q 26 #[.int .i64 id, .int .i64 ck, .slice (some ⟨b1, 0, none⟩) P.length c1, .slice (some ⟨b2, 0, none⟩) D.length c2] ∧ Below wx.heap.size wx wr)
        (fun i _ => D.length + 1 - (intOf i).toNat)
      case atStart => exact ⟨0, .inl rfl, rfl, HB.out, hw2.out⟩
      case round =>
        obtain ⟨k, hk, rfl, B, hw⟩ := hrel
        obtain ⟨q0, q1, q2, q3⟩ := B.four
        have lq := B.lt
        have HB := hidI B
        have HV := hidI hw
        clear B hw hw2
        by_cases hlt : k + 1 < D.length
        ·
          --RB
          obtain ⟨b, o, m, t, g, f, e9, hb, hx, d0, d1, d2, d3⟩ := (HR2.out _ HV.out).ent hlt
          simp only [Option.some.injEq, Addr.mk.injEq, and_true] at e9
          obtain ⟨rfl, rfl⟩ := e9
          obtain ⟨b, o, m', t', g', f', e9, _, hx', p0, p1, p2, p3⟩ := (HR2.out _ HV.out).ent (k := k) (by omega)
          simp only [Option.some.injEq, Addr.mk.injEq, and_true] at e9
          obtain ⟨rfl, rfl⟩ := e9
          obtain ⟨hs, hff⟩ := HG.out.done_ok hx'.out hx.out
          simp only at hs hff
          subst hff
          simp only [Nat.zero_add] at d0 d1 d2 d3 p0 p1 p2 p3
          clear p0 p3 d0 hx hx' hb
          have i1 : (0 : Int) ≤ (k : Int) := by omega
          have i2 : (k : Int) + 1 < (D.length : Int) := by omega
          have i3 : ((k : Int) + 1).toNat = k + 1 := by omega
          have i5 : (k : Int) < (D.length : Int) := by omega
          have i7 : IntKind.i64.wrap ((k : Int) + 1 - 1) = k := by rw [IntWalk.i64_in _ (by omega)] <;> omega
          have i8 : (k : Int) + 1 - 1 = k := by omega
          have i9 : (0 : Int) ≤ (k : Int) + 1 := by omega
          go_wp2_with fail
          refine wp_region_ext (Below.refl _ _) (by kernel_rfl) (by kernel_rfl) ?_
          intro hx hx2
          repeat (go_big_quiet_step ((first | (go_at_call 23; exact ext_call (implSL_c _ _ _ _ _)))))
          refine wpQuiet_nil ?_
          clear hx hx2
          rintro w4 ⟨n9, h9⟩
          have hK := n9.below
          rw [← h9] at hK
          clear h9 n9
          go_wp2_with fail
          go_roundw
          case rel => exact ⟨k + 1, .inr (by omega), by go_num, HB.out.below hK, bt HV.out hK⟩
          case measure => simp [intOf]; omega
          --RE
        · have i2 : ¬ (k : Int) + 1 < (D.length : Int) := by omega
          go_wp2_with fail
          clear q0 q1 q2 q3 lq i2 hlt hk
          go_loopw [7] (fun i wr => ∃ k : Nat, k ≤ P.length ∧ i = .int .i64 (k : Int) ∧ Box wr q 26 #[.int .i64 id, .int .i64 ck, .slice (some ⟨b1, 0, none⟩) P.length c1, .slice (some ⟨b2, 0, none⟩) D.length c2] ∧ Below wx.heap.size wx wr)
            (fun i _ => P.length - (intOf i).toNat)
          case atStart => exact ⟨0, Nat.zero_le _, rfl, HB.out, HV.out⟩
          case round =>
            obtain ⟨k, hk, rfl, B, hw⟩ := hrel
            obtain ⟨q0, q1, q2, q3⟩ := B.four
            have lq := B.lt
            have HB := hidI B
            have HV := hidI hw
            clear B hw
            by_cases hlt : k < P.length
            · obtain ⟨b, o, m, t, g, f, e9, hb, hx, d0, d1, d2, d3⟩ := (HR1.out _ HV.out).ent hlt
              simp only [Option.some.injEq, Addr.mk.injEq, and_true] at e9
              obtain ⟨rfl, rfl⟩ := e9
              have i1 : (0 : Int) ≤ (k : Int) := by omega
              have i2 : (k : Int) < (P.length : Int) := by omega
              simp only [Nat.zero_add] at d0 d1 d2 d3
              clear d0 d3
              by_cases hz : D.length = 0
              · have z1 : decide (0 < D.length) = false := decide_eq_false (by omega)
                have z2 : ¬ (0 : Int) < (D.length : Int) := by omega
                clear hx hz
                go_wp2_with fail
                refine wp_region_ext (Below.refl _ _) (by kernel_rfl) (by kernel_rfl) ?_
                intro hx hx2
                repeat (go_big_quiet_step ((first | (go_at_call 23; exact ext_call (implSL_c _ _ _ _ _)))))
                refine wpQuiet_nil ?_
                clear hx hx2
                rintro w4 ⟨n9, h9⟩
                have hK := n9.below
                rw [← h9] at hK
                clear h9 n9
                go_wp2_with fail
                go_roundw
                case rel => exact ⟨k + 1, by omega, by go_num, HB.out.below hK, bt HV.out hK⟩
                case measure => simp [intOf]; omega
              · obtain ⟨n, hn2⟩ : ∃ n, D.length = n + 1 := ⟨D.length - 1, by omega⟩
                obtain ⟨b, o, m', t', g', f', e9, _, hx', p0, p1, p2, p3⟩ := (HR2.out _ HV.out).ent (k := n) (by omega)
                simp only [Option.some.injEq, Addr.mk.injEq, and_true] at e9
                obtain ⟨rfl, rfl⟩ := e9
                have hs := HG.out.pend_ok (d := ⟨m', t', g', f'⟩) (by rw [hn2]; exact hx'.out) hx.out
                simp only at hs
                simp only [Nat.zero_add] at p0 p1 p2 p3
                have z1 : decide (0 < D.length) = true := decide_eq_true (by omega)
                have z2 : (0 : Int) < (D.length : Int) := by omega
                have i7 : IntKind.i64.wrap ((D.length : Int) - 1) = n := by rw [IntWalk.i64_in _ (by omega)] <;> omega
                have i8 : (D.length : Int) - 1 = n := by omega
                have i9 : (0 : Int) ≤ (n : Int) := by omega
                have i10 : (n : Int) < (D.length : Int) := by omega
                clear hn2
                clear p0 p3 hx hx' hz
                go_wp2_with fail
                refine wp_region_ext (Below.refl _ _) (by kernel_rfl) (by kernel_rfl) ?_
                intro hx hx2
                repeat (go_big_quiet_step ((first | (go_at_call 23; exact ext_call (implSL_c _ _ _ _ _)))))
                refine wpQuiet_nil ?_
                clear hx hx2
                rintro w4 ⟨n9, h9⟩
                have hK := n9.below
                rw [← h9] at hK
                clear h9 n9
                go_wp2_with fail
                go_roundw
                case rel => exact ⟨k + 1, by omega, by go_num, HB.out.below hK, bt HV.out hK⟩
                case measure => simp [intOf]; omega
            · obtain rfl : k = P.length := by omega
              go_wp2_with fail
              go_ret
              exact ⟨rfl, bu HV.out HW.out⟩
end Go.Proofs.Ytiecjkacbpbghaa
