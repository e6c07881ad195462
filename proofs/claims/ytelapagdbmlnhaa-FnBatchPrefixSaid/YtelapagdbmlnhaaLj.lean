/- The law FnBatchPrefix: its call hands back true, whatever the codes. -/
import Derived.Test.YtelapagdbmlnhaaDs
import Derived.Test.YtelapagdbmlnhaaIc
import Derived.Test.YtelapagdbmlnhaaId
import Derived.Test.YtelapagdbmlnhaaIe
namespace Go.Proofs.Ytelapagdbmlnhaa
set_option linter.unusedVariables false
open Go.RowKit

set_option maxHeartbeats 4000000 in
theorem bPrefix_walk (A : Option Addr) (bs : List Int) (c : Nat) (A' : Option Addr) (ms : List Int) (c' : Nat) (w : World) (hm : (bs.length : Int) ≤ 9223372036854775807) (hlc : bs.length ≤ c) (hcm : (c : Int) ≤ 9223372036854775807) (hr : Rd w w.heap.size A (bs.map (Value.int .u8))) (hf : ∀ x ∈ bs, FitB x) (hm' : (ms.length : Int) ≤ 9223372036854775807) :
    Calls Try.prog 6 #[.slice A bs.length c, .slice A' ms.length c'] w fun e w' => e = .returned (.bool true) ∧ Below w.heap.size w w' := by
  by_cases hn : (1048576 : Int) < bs.length
  · go_enter Try.func6, Try.ntmps6
    go_wp2
    go_ret
    exact ⟨rfl, by go_grown⟩
  · have hn' : (bs.length : Int) ≤ 1048576 := by omega
    by_cases hn2 : (1048576 : Int) < ms.length
    · go_enter Try.func6, Try.ntmps6
      go_wp2
      go_ret
      exact ⟨rfl, by go_grown⟩
    have hn2' : (ms.length : Int) ≤ 1048576 := by omega
    have hd1 : decide ((1048576 : Int) < bs.length) = false := by simpa using hn'
    have hw := Below.refl w.heap.size w
    go_enter Try.func6, Try.ntmps6
    go_wp2_with fail
    refine (drawBC_c A bs c _ hm hlc hcm hr hf).mono ?_
    rintro e w1 ⟨L, b, m, A1, c1, rfl, h1, h2, h3, h4, h5, h6, S1, hb⟩
    have hK : Below w.heap.size w w1 := bu hb (by go_grown)
    replace hw := hK
    clear hb hK
    have hL : (L.length : Int) ≤ 9223372036854775807 := by omega
    have hO0 := cutB_len L b m
    obtain ⟨O, HO⟩ : ∃ O, Hid (cutB L b m = O) := ⟨_, rfl⟩
    rw [HO.out] at hO0
    have hO : (O.length : Int) ≤ 9223372036854775807 := by omega
    have H2 : Hid (∀ x ∈ L, 0 ≤ x ∧ x ≤ 30) := h2
    clear h2
    go_wp2_with fail
    refine (implCut_c _ L _ b m _ hL S1.rd).mono ?_
    rw [HO.out]
    rintro e w2 ⟨A2, c2, rfl, S2, hb⟩
    have hK : Below w1.heap.size w1 w2 := bu hb (by go_grown)
    replace S1 := S1.below hK
    replace hw := bt hw hK
    clear hb hK
    go_wp2_with fail
    refine (specCut_c _ L _ b m _ hL S1.rd).mono ?_
    rw [HO.out]
    rintro e w3 ⟨A3, c3, rfl, S3, hb⟩
    have hK : Below w2.heap.size w2 w3 := bu hb (by go_grown)
    replace S1 := S1.below hK
    replace S2 := S2.below hK
    replace hw := bt hw hK
    clear hb hK
    go_wp2_with fail
    refine (sameInts_c _ _ O _ _ _ hO S2.rd S3.rd).mono ?_
    rintro e w4 ⟨rfl, hb⟩
    have hK : Below w3.heap.size w3 w4 := bu hb (by go_grown)
    replace S1 := S1.below hK
    replace S2 := S2.below hK
    replace S3 := S3.below hK
    replace hw := bt hw hK
    have zzw4 := hK.size
    clear hb hK
    by_cases hp : O.length = 0
    · have hpb : ((O.length : Int) == 0) = true := by rw [hp]; rfl
      clear hp
      go_wp2_with fail
      refine (sameInts_c _ _ O _ _ _ hO S2.rd S3.rd).mono ?_
      rintro e w5 ⟨rfl, hb⟩
      have hK : Below w4.heap.size w4 w5 := bu hb (by go_grown)
      replace hw := bt hw hK
      have zzw5 := hK.size
      clear hb hK
      go_wp2_with fail
      go_ret
      exact ⟨rfl, hw⟩
    · have hpb : ((O.length : Int) == 0) = false := by simp; intro h; exact hp (by simp [h])
      have hv := (cutB_pos (show 0 < (cutB L b m).length by rw [HO.out]; omega)).1
      clear hp
      obtain ⟨k, hk⟩ : ∃ k, k = ms.length % (L.length + 1) := ⟨_, rfl⟩
      have hkl : k ≤ L.length := by have := Nat.mod_lt ms.length (show 0 < L.length + 1 by omega); omega
      have e1 : (ms.length : Int) % ((L.length : Int) + 1) = (k : Int) := by
        rw [hk, Int.natCast_emod]
        simp
      clear hk
      have hlen : (L.take k).length = k := by rw [List.length_take]; omega
      have PF := cutB_prefix hv k
      have hX0 := cutB_len (L.take k) b m
      obtain ⟨X, HX⟩ : ∃ X, Hid (cutB (L.take k) b m = X) := ⟨_, rfl⟩
      rw [HO.out, HX.out] at PF
      rw [HX.out] at hX0
      have CC := implCut_c A1 (L.take k) c1 b m w4 (by omega) (by rw [List.map_take]; exact S1.rd.take k)
      rw [hlen, HX.out] at CC
      obtain ⟨p1, p2⟩ := PF
      have P2 : Hid _ := p2
      have k0 := S1.cap.1
      have k1 : (c1 : Int) ≤ 9223372036854775807 := by have := S1.cap.2; unfold maxLen at this; omega
      clear p2 hv hlen
      go_wp2_with fail
      refine CC.mono ?_
      rintro e w5 ⟨A5, c5, rfl, S5, hb⟩
      have hK : Below w4.heap.size w4 w5 := bu hb (by go_grown)
      replace S2 := S2.below hK
      replace hw := bt hw hK
      clear hb hK e1 k0 k1 CC
      go_wp2_with fail
      go_loopw [11] (fun i wr => ∃ k : Nat, k ≤ X.length ∧ i = .int .i64 k ∧ IS wr w4.heap.size A5 X.length c5 X ∧ IS wr w1.heap.size A2 O.length c2 O ∧ Below w.heap.size w wr) (fun i _ => X.length - (intOf i).toNat)
      case atStart => exact ⟨0, Nat.zero_le _, rfl, S5, S2, hw⟩
      case round =>
        clear S5 S2 hw
        obtain ⟨k, hk, rfl, S5, S2, hw⟩ := hrel
        by_cases hlt : k < X.length
        · obtain ⟨g5, rfl, _, l5, hc5⟩ := S5.at_ (by omega)
          obtain ⟨g2, rfl, _, l2, hc2⟩ := S2.at_ (by omega)
          obtain ⟨u, hu⟩ : ∃ u, X[k]? = some u := ⟨_, List.getElem?_eq_getElem hlt⟩
          obtain ⟨v, hv, huv, hlast⟩ := P2.out k u hu
          have d0 := hc5 k u hu
          have d1 := hc2 k v hv
          have hvu : decide (v < u) = false := by simpa using huv
          have i1 : (0 : Int) ≤ (k : Int) := by omega
          have i2 : (k : Int) < (X.length : Int) := by omega
          have i3 : (k : Int) < (O.length : Int) := by omega
          have HW : Hid _ := hw
          clear hc5 hc2 hu hv hw
          by_cases hl : k + 1 < X.length
          · obtain rfl := hlast hl
            have hl' : (k : Int) + 1 < (X.length : Int) := by omega
            clear hl huv
            go_wp2_with fail
            refine wp_region_ext (by first | with_reducible assumption | exact Below.refl _ _) (by kernel_rfl) (by kernel_rfl) ?_
            intro hx hx2
            repeat (go_big_quiet_step (fail))
            refine wpQuiet_nil ?_
            clear hx hx2
            rintro _ ⟨⟨w1, hb⟩, rfl⟩
            have hK := bt (by first | with_reducible assumption | exact Below.refl _ _) hb
            have hc := bcell hK
            have hf := bfrozen hK
            have hs := bsize hK
            clear hb
            (try (refine bw (w := w) hK ?_ ?_; (focus (first | exact HW.out | (have hq := HW.out; go_grown; done) | (go_grown; done))); intro hw hwz; have hK := hK))
            (try (refine bz hK (w.heap.size) ?_ ?_; (focus (first | omega | (simp; done) | (simp; omega))); intro hz0 hd0 hg0))
            (try (refine bz hK (w.heap.size + 1) ?_ ?_; (focus (first | omega | (simp; done) | (simp; omega))); intro hz1 hd1 hg1))
            (try (refine bz hK (w.heap.size + 2) ?_ ?_; (focus (first | omega | (simp; done) | (simp; omega))); intro hz2 hd2 hg2))
            (try (refine bz hK (w.heap.size + 3) ?_ ?_; (focus (first | omega | (simp; done) | (simp; omega))); intro hz3 hd3 hg3))
            (try (refine bz hK g ?_ ?_; (focus (first | omega | (simp; done) | (simp; omega))); intro hzg hdg hgg))
            (try (refine bz hK g1 ?_ ?_; (focus (first | omega | (simp; done) | (simp; omega))); intro hzg hdg hgg))
            (try (refine bz hK g2 ?_ ?_; (focus (first | omega | (simp; done) | (simp; omega))); intro hzg hdg hgg))
            go_wp2
            go_roundw
            case rel => exact ⟨k + 1, by omega, by go_num, S5.below hK, S2.below hK, bt HW.out hK⟩
            case measure => simp [intOf]; omega
          · have hl' : decide ((k : Int) + 1 < (X.length : Int)) = false := by simp; omega
            clear hl
            go_wp2_with fail
            refine wp_region_ext (by first | with_reducible assumption | exact Below.refl _ _) (by kernel_rfl) (by kernel_rfl) ?_
            intro hx hx2
            repeat (go_big_quiet_step (fail))
            refine wpQuiet_nil ?_
            clear hx hx2
            rintro _ ⟨⟨w1, hb⟩, rfl⟩
            have hK := bt (by first | with_reducible assumption | exact Below.refl _ _) hb
            have hc := bcell hK
            have hf := bfrozen hK
            have hs := bsize hK
            clear hb
            (try (refine bw (w := w) hK ?_ ?_; (focus (first | exact HW.out | (have hq := HW.out; go_grown; done) | (go_grown; done))); intro hw hwz; have hK := hK))
            (try (refine bz hK (w.heap.size) ?_ ?_; (focus (first | omega | (simp; done) | (simp; omega))); intro hz0 hd0 hg0))
            (try (refine bz hK (w.heap.size + 1) ?_ ?_; (focus (first | omega | (simp; done) | (simp; omega))); intro hz1 hd1 hg1))
            (try (refine bz hK (w.heap.size + 2) ?_ ?_; (focus (first | omega | (simp; done) | (simp; omega))); intro hz2 hd2 hg2))
            (try (refine bz hK (w.heap.size + 3) ?_ ?_; (focus (first | omega | (simp; done) | (simp; omega))); intro hz3 hd3 hg3))
            (try (refine bz hK g ?_ ?_; (focus (first | omega | (simp; done) | (simp; omega))); intro hzg hdg hgg))
            (try (refine bz hK g1 ?_ ?_; (focus (first | omega | (simp; done) | (simp; omega))); intro hzg hdg hgg))
            (try (refine bz hK g2 ?_ ?_; (focus (first | omega | (simp; done) | (simp; omega))); intro hzg hdg hgg))
            go_wp2
            go_roundw
            case rel => exact ⟨k + 1, by omega, by go_num, S5.below hK, S2.below hK, bt HW.out hK⟩
            case measure => simp [intOf]; omega
        · have p1' : (X.length : Int) ≤ O.length := by omega
          go_wp2_with fail
          go_ret
          exact ⟨rfl, hw⟩
end Go.Proofs.Ytelapagdbmlnhaa
