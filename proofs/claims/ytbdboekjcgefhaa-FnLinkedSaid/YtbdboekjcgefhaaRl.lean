/- The law FnLinked: its call hands back true, whatever the code. -/
import Derived.Test.YtbdboekjcgefhaaRk
import Derived.Test.YtbdboekjcgefhaaRd
namespace Go.Proofs.Ytbdboekjcgefhaa
set_option linter.unusedVariables false
open Go.RowKit
attribute [local go_sem ↓] Go.wp_at_zero Go.wp_at_succ

set_option maxHeartbeats 8000000 in
theorem rLinked_walk (A : Option Addr) (bs : List Int) (c : Nat) (w : World) (hm : (bs.length : Int) ≤ 9223372036854775807) (hlc : bs.length ≤ c) (hcm : (c : Int) ≤ 9223372036854775807) (hr : Rd w w.heap.size A (bs.map (Value.int .u8))) (hf : ∀ x ∈ bs, FitB x) :
    Calls Try.prog 8 #[.slice A bs.length c] w fun e w' => e = .returned (.bool true) ∧ Below w.heap.size w w' := by
  by_cases hn : (1048576 : Int) < bs.length
  · clear hr hf
    go_enter Try.func8, Try.ntmps8
    go_wp2
    go_ret
    exact ⟨rfl, by go_grown⟩
  · have hn' : (bs.length : Int) ≤ 1048576 := by omega
    have hw := Below.refl w.heap.size w
    go_enter Try.func8, Try.ntmps8
    go_wp2_with fail
    refine (drawRL_c A bs c _ hm hlc hcm hr hf).mono ?_
    rintro e w1 ⟨hs, A1, c1, n, rfl, h1, h2, n0, n1, R1, hb⟩
    have hK : Below w.heap.size w w1 := bu hb (by go_grown)
    replace hw := hK
    clear hb hK hr hf
    have hn1 : hs.length ≤ 1048576 := by omega
    have H6 := hidI h2
    have H7 : Hid (∀ h ∈ hs, h.xs.length ≤ 1048576) := fun h m => Nat.le_trans (h2 h m) (by omega)
    clear h2
    have CI := fun W (h : RR W A1 hs) => implLink_c A1 hs c1 n W hn1 H7 (hidI h)
    have CS := fun W (h : RR W A1 hs) => specLink_c A1 hs c1 n W hn1 H7 (hidI h)
    have hR0 := link_le (rowsOf hs) n
    obtain ⟨R, hR⟩ : ∃ R, linkB (rowsOf hs) n = R := ⟨_, rfl⟩
    rw [hR] at hR0
    simp only [hR] at CI CS
    unfold NewI at CI CS
    have HR := hidI hR
    have HCI := hidI CI
    have HCS := hidI CS
    clear hR CI CS
    have hRl : R.length ≤ 1048576 := by omega
    have hRm : (R.length : Int) ≤ 9223372036854775807 := by omega
    go_wp2_with fail
    refine (HCI.out _ R1.rr).mono ?_
    rintro e w2 ⟨A2, c2, rfl, S2, hb⟩
    have hK : Below w1.heap.size w1 w2 := bu hb (by go_grown)
    replace R1 := R1.below hK
    replace hw := bt hw hK
    have zzw2 := hK.size
    clear hb hK
    go_wp2_with fail
    refine (HCS.out _ R1.rr).mono ?_
    rintro e w3 ⟨A3, c3, rfl, S3, hb⟩
    have hK : Below w2.heap.size w2 w3 := bu hb (by go_grown)
    replace R1 := R1.below hK
    replace S2 := S2.below hK
    replace hw := bt hw hK
    have zzw3 := hK.size
    clear hb hK
    go_wp2_with fail
    refine (sameInts_c _ _ R _ _ _ hRm S2.rd S3.rd).mono ?_
    rintro e w4 ⟨rfl, hb⟩
    have hK : Below w3.heap.size w3 w4 := bu hb (by go_grown)
    replace R1 := R1.below hK
    replace S2 := S2.below hK
    replace S3 := S3.below hK
    replace hw := bt hw hK
    have zzw4 := hK.size
    clear hb hK
    by_cases h0 : R.length = 0
    · have hz : ((R.length : Int) == 0) = true := by rw [h0]; rfl
      clear h0
      go_wp2_with fail
      refine (sameInts_c _ _ R _ _ _ hRm S2.rd S3.rd).mono ?_
      rintro e w5 ⟨rfl, hb⟩
      have hK : Below w4.heap.size w4 w5 := bu hb (by go_grown)
      replace hw := bt hw hK
      have zzw5 := hK.size
      clear hb hK
      go_wp2_with fail
      go_ret
      exact ⟨rfl, hw⟩
    have hz : ((R.length : Int) == 0) = false := by simp; intro h; exact h0 (by simp [h])
    have hset := link_set (sets := rowsOf hs) (g := n) (by rw [HR.out]; exact h0)
    have LK := link_is hset
    rw [HR.out] at LK
    have HLK := hidI LK
    have HV := hidI (setsB_iff.1 hset).1
    have HG := hidI (hasB_iff.2 LK.mem)
    clear LK hset h0 HCI HCS S3
    go_wp2_with fail
    go_loopw [7] (fun i wr => ∃ k : Nat, k ≤ hs.length ∧ i = .int .i64 k ∧ RV wr w.heap.size (.slice A1 hs.length c1) hs.length hs ∧ IS wr w1.heap.size A2 R.length c2 R ∧ Below w.heap.size w wr) (fun i _ => hs.length - (intOf i).toNat)
    case atStart => exact ⟨0, Nat.zero_le _, rfl, R1.mono (by omega), S2, hw⟩
    case round =>
      clear R1 S2 hw
      obtain ⟨k, hk, rfl, R1, S2, hw⟩ := hrel
      by_cases hlt : k < hs.length
      · obtain ⟨b, o, Ar, cr, xs, rfl, hb, hx, d0, hrow⟩ := R1.rr.at_ hlt
        have hx6 := H7.out _ (mem_at hx.out)
        simp only at hx6
        have hxm := List.mem_of_getElem? (rowsOf_at hx.out)
        have hxv := HV.out xs hxm
        have MT := link_meet HLK.out hxv hxm
        have CC := fun (W : World) (hW : Below wr.heap.size wr W) => implCom_c A2 R c2 Ar xs cr W hRl hx6 (S2.below hW).rd (hrow.below hW).low
        have i1 : (0 : Int) ≤ (k : Int) := by omega
        have i2 : (k : Int) < (hs.length : Int) := by omega
        by_cases hc : 0 < (comL R xs).length
        · have hl := MT hc
          have HC : Hid (∀ W, Below wr.heap.size wr W → Calls Try.prog 26 #[.slice A2 R.length c2, .slice Ar xs.length cr] W fun e w1 => ∃ A3 c3, e = .returned (.slice A3 xs.length c3) ∧ w1.cell? ⟨b, o + k, none⟩ = some (.slice Ar xs.length cr) ∧ Below wr.heap.size wr w1) := fun W hW =>
            (CC W hW).mono fun e w1 ⟨A3, c3, he, _, hb1⟩ => ⟨A3, c3, by rw [he, hl], ((bt hW hb1).cell (p := ⟨b, o + k, none⟩) hb).trans d0, bt hW hb1⟩
          have hd : decide (0 < xs.length) = true := decide_eq_true (by omega)
          have hd' : decide ((0 : Int) < (xs.length : Int)) = true := decide_eq_true (by omega)
          have hdp : 0 < xs.length := by omega
          have HW := hidI hw
          clear CC MT hc hl hxm hxv hrow hw hx
          go_wp2_with fail
          go_region_held3 (fun w' => w'.cell? ⟨b, o + k, none⟩ = some (.slice Ar xs.length cr))
            ((first | assumption | (simp (maxDischargeDepth := 4) [*]; done) | (go_keep; done)))
            ((go_at_call 26; refine (HC.out _ (by go_grown)).mono ?_; rintro e w1 ⟨A3, c3, rfl, k3, hb1⟩))
          have HB := hidI hb1
          have R5 := R1.below hb1
          have S5 := S2.below hb1
          clear hb1
          go_wp2_with fail
          go_roundw
          case rel => exact ⟨k + 1, by omega, by go_num, R5, S5, bt HW.out HB.out⟩
          case measure => simp [intOf]; omega
        · obtain ⟨C0, hl⟩ : ∃ C0, (comL R xs).length = C0 := ⟨_, rfl⟩
          rw [hl] at hc
          have HC : Hid (∀ W, Below wr.heap.size wr W → Calls Try.prog 26 #[.slice A2 R.length c2, .slice Ar xs.length cr] W fun e w1 => ∃ A3 c3, e = .returned (.slice A3 C0 c3) ∧ w1.cell? ⟨b, o + k, none⟩ = some (.slice Ar xs.length cr) ∧ Below wr.heap.size wr w1) := fun W hW =>
            (CC W hW).mono fun e w1 ⟨A3, c3, he, _, hb1⟩ => ⟨A3, c3, by rw [he, hl], ((bt hW hb1).cell (p := ⟨b, o + k, none⟩) hb).trans d0, bt hW hb1⟩
          have HW := hidI hw
          have hd : decide (0 < C0) = false := decide_eq_false hc
          have hd' : decide ((0 : Int) < (C0 : Int)) = false := decide_eq_false (by omega)
          clear CC MT hl hxm hxv hrow hw hx
          go_wp2_with fail
          refine wp_region_noPanic ?_
          refine wp_region_held_drew (S := fun w' => w'.cell? ⟨b, o + k, none⟩ = some (.slice Ar xs.length cr)) (by kernel_rfl) d0 (fun hHeld => ?_)
          refine wpAnyH_take (i := 0) (oi := ⟨some 40, _, _, _, _, _⟩) (v := ?_) rfl (by kernel_rfl) (by kernel_rfl) (by kernel_rfl) (fun _ _ _ h => h) (Or.inl ⟨by rfl, ?_⟩) (by assumption) ?_
          rotate_left 1
          · intro w hSw
            (try dsimp only at hSw)
            go_simp
            try with_reducible rfl
          simp only [Act.put, List.setIfInBounds_toArray, List.set_cons_zero, List.set_cons_succ]
          refine wpAnyH_take (i := 1) (oi := ⟨some 41, _, _, _, _, _⟩) (v := ?_) rfl (by kernel_rfl) (by kernel_rfl) (by kernel_rfl) (fun _ _ _ h => h) (Or.inl ⟨by rfl, ?_⟩) (by assumption) ?_
          rotate_left 1
          · intro w hSw
            (try dsimp only at hSw)
            go_simp
            try with_reducible rfl
          simp only [Act.put, List.setIfInBounds_toArray, List.set_cons_zero, List.set_cons_succ]
          refine wpAnyH_take (i := 2) (oi := ⟨some 42, _, _, _, _, _⟩) (v := ?_) rfl (by kernel_rfl) (by kernel_rfl) (by kernel_rfl) (fun _ _ _ h => h) (Or.inl ⟨by rfl, ?_⟩) (by assumption) ?_
          rotate_left 1
          · intro w hSw
            (try dsimp only at hSw)
            go_simp
            try with_reducible rfl
          simp only [Act.put, List.setIfInBounds_toArray, List.set_cons_zero, List.set_cons_succ]
          refine wpAnyH_take (i := 3) (oi := ⟨some 43, _, _, _, _, _⟩) (v := ?_) rfl (by kernel_rfl) (by kernel_rfl) (by kernel_rfl) (fun _ _ _ h => h) (Or.inl ⟨by rfl, ?_⟩) (by assumption) ?_
          rotate_left 1
          · intro w hSw
            (try dsimp only at hSw)
            go_simp
            try with_reducible rfl
          simp only [Act.put, List.setIfInBounds_toArray, List.set_cons_zero, List.set_cons_succ]
          refine wpAnyH_take (i := 4) (oi := ⟨some 44, _, _, _, _, _⟩) (v := ?_) rfl (by kernel_rfl) (by kernel_rfl) (by kernel_rfl) (fun _ _ _ h => h) (Or.inl ⟨by rfl, ?_⟩) (by assumption) ?_
          rotate_left 1
          · intro w hSw
            (try dsimp only at hSw)
            go_simp
            try with_reducible rfl
          simp only [Act.put, List.setIfInBounds_toArray, List.set_cons_zero, List.set_cons_succ]
          refine wpAnyH_ready (rs := [5]) (by kernel_rfl) (by simp) ?_
          refine AllReadyH.cons rfl (fun K hK => ?_) AllReadyH.nil
          (try rw [if_pos (by rfl)])
          (try go_simp)
          refine (HC.out _ (by go_grown)).mono ?_
          rintro e w1 ⟨A3, c3, rfl, k3, hb1⟩
          go_wp2_with fail
          refine hK.out _ _ k3 (fun hHeld => ?_)
          clear hK K
          (try simp only [Act.put, List.setIfInBounds_toArray, List.set_cons_zero, List.set_cons_succ])
          refine wpAnyH_take (i := 6) (oi := ⟨some 46, _, _, _, _, _⟩) (v := ?_) rfl (by kernel_rfl) (by kernel_rfl) (by kernel_rfl) (fun _ _ _ h => h) (Or.inl ⟨by rfl, ?_⟩) (by assumption) ?_
          rotate_left 1
          · intro w hSw
            (try dsimp only at hSw)
            go_simp
            try with_reducible rfl
          simp only [Act.put, List.setIfInBounds_toArray, List.set_cons_zero, List.set_cons_succ]
          refine wpAnyH_take (i := 7) (oi := ⟨some 47, _, _, _, _, _⟩) (v := ?_) rfl (by kernel_rfl) (by kernel_rfl) (by kernel_rfl) (fun _ _ _ h => h) (Or.inl ⟨by rfl, ?_⟩) (by assumption) ?_
          rotate_left 1
          · intro w hSw
            (try dsimp only at hSw)
            go_simp
            try with_reducible rfl
          simp only [Act.put, List.setIfInBounds_toArray, List.set_cons_zero, List.set_cons_succ]
          refine wpAnyH_take (i := 8) (oi := ⟨some 48, _, _, _, _, _⟩) (v := ?_) rfl (by kernel_rfl) (by kernel_rfl) (by kernel_rfl) (fun _ _ _ h => h) (Or.inl ⟨by rfl, ?_⟩) (by assumption) ?_
          rotate_left 1
          · intro w hSw
            (try dsimp only at hSw)
            go_simp
            try with_reducible rfl
          simp only [Act.put, List.setIfInBounds_toArray, List.set_cons_zero, List.set_cons_succ]
          refine wpAnyH_take (i := 9) (oi := ⟨some 49, _, _, _, _, _⟩) (v := undef) rfl (by kernel_rfl) (by kernel_rfl) (by kernel_rfl) (fun _ _ _ h => h) (Or.inr ⟨by rfl, rfl⟩) (by assumption) ?_
          simp only [Act.put, List.setIfInBounds_toArray, List.set_cons_zero, List.set_cons_succ]
          refine wpAnyH_take (i := 10) (oi := ⟨some 50, _, _, _, _, _⟩) (v := undef) rfl (by kernel_rfl) (by kernel_rfl) (by kernel_rfl) (fun _ _ _ h => h) (Or.inr ⟨by rfl, rfl⟩) (by assumption) ?_
          simp only [Act.put, List.setIfInBounds_toArray, List.set_cons_zero, List.set_cons_succ]
          refine wpAnyH_take (i := 11) (oi := ⟨some 51, _, _, _, _, _⟩) (v := undef) rfl (by kernel_rfl) (by kernel_rfl) (by kernel_rfl) (fun _ _ _ h => h) (Or.inr ⟨by rfl, rfl⟩) (by assumption) ?_
          simp only [Act.put, List.setIfInBounds_toArray, List.set_cons_zero, List.set_cons_succ]
          refine wpAnyH_take (i := 12) (oi := ⟨some 52, _, _, _, _, _⟩) (v := undef) rfl (by kernel_rfl) (by kernel_rfl) (by kernel_rfl) (fun _ _ _ h => h) (Or.inr ⟨by rfl, rfl⟩) (by assumption) ?_
          simp only [Act.put, List.setIfInBounds_toArray, List.set_cons_zero, List.set_cons_succ]
          refine wpAnyH_take (i := 13) (oi := ⟨some 53, _, _, _, _, _⟩) (v := undef) rfl (by kernel_rfl) (by kernel_rfl) (by kernel_rfl) (fun _ _ _ h => h) (Or.inr ⟨by rfl, rfl⟩) (by assumption) ?_
          simp only [Act.put, List.setIfInBounds_toArray, List.set_cons_zero, List.set_cons_succ]
          refine wpAnyH_take (i := 14) (oi := ⟨some 54, _, _, _, _, _⟩) (v := undef) rfl (by kernel_rfl) (by kernel_rfl) (by kernel_rfl) (fun _ _ _ h => h) (Or.inr ⟨by rfl, rfl⟩) (by assumption) ?_
          simp only [Act.put, List.setIfInBounds_toArray, List.set_cons_zero, List.set_cons_succ]
          refine wpAnyH_take (i := 15) (oi := ⟨some 55, _, _, _, _, _⟩) (v := undef) rfl (by kernel_rfl) (by kernel_rfl) (by kernel_rfl) (fun _ _ _ h => h) (Or.inr ⟨by rfl, rfl⟩) (by assumption) ?_
          simp only [Act.put, List.setIfInBounds_toArray, List.set_cons_zero, List.set_cons_succ]
          refine wpAnyH_take (i := 16) (oi := ⟨some 56, _, _, _, _, _⟩) (v := undef) rfl (by kernel_rfl) (by kernel_rfl) (by kernel_rfl) (fun _ _ _ h => h) (Or.inr ⟨by rfl, rfl⟩) (by assumption) ?_
          simp only [Act.put, List.setIfInBounds_toArray, List.set_cons_zero, List.set_cons_succ]
          refine wpAnyH_take (i := 17) (oi := ⟨some 57, _, _, _, _, _⟩) (v := undef) rfl (by kernel_rfl) (by kernel_rfl) (by kernel_rfl) (fun _ _ _ h => h) (Or.inr ⟨by rfl, rfl⟩) (by assumption) ?_
          simp only [Act.put, List.setIfInBounds_toArray, List.set_cons_zero, List.set_cons_succ]
          refine wpAnyH_take (i := 18) (oi := ⟨some 58, _, _, _, _, _⟩) (v := undef) rfl (by kernel_rfl) (by kernel_rfl) (by kernel_rfl) (fun _ _ _ h => h) (Or.inr ⟨by rfl, rfl⟩) (by assumption) ?_
          simp only [Act.put, List.setIfInBounds_toArray, List.set_cons_zero, List.set_cons_succ]
          refine wpAnyH_take (i := 19) (oi := ⟨some 59, _, _, _, _, _⟩) (v := undef) rfl (by kernel_rfl) (by kernel_rfl) (by kernel_rfl) (fun _ _ _ h => h) (Or.inr ⟨by rfl, rfl⟩) (by assumption) ?_
          simp only [Act.put, List.setIfInBounds_toArray, List.set_cons_zero, List.set_cons_succ]
          refine wpAnyH_take (i := 20) (oi := ⟨some 60, _, _, _, _, _⟩) (v := undef) rfl (by kernel_rfl) (by kernel_rfl) (by kernel_rfl) (fun _ _ _ h => h) (Or.inr ⟨by rfl, rfl⟩) (by assumption) ?_
          simp only [Act.put, List.setIfInBounds_toArray, List.set_cons_zero, List.set_cons_succ]
          refine wpAnyH_take (i := 21) (oi := ⟨some 61, _, _, _, _, _⟩) (v := undef) rfl (by kernel_rfl) (by kernel_rfl) (by kernel_rfl) (fun _ _ _ h => h) (Or.inr ⟨by rfl, rfl⟩) (by assumption) ?_
          simp only [Act.put, List.setIfInBounds_toArray, List.set_cons_zero, List.set_cons_succ]
          refine wpAnyH_take (i := 22) (oi := ⟨some 62, _, _, _, _, _⟩) (v := ?_) rfl (by kernel_rfl) (by kernel_rfl) (by kernel_rfl) (fun _ _ _ h => h) (Or.inl ⟨by rfl, ?_⟩) (by assumption) ?_
          rotate_left 1
          · intro w hSw
            (try dsimp only at hSw)
            go_simp
            try with_reducible rfl
          simp only [Act.put, List.setIfInBounds_toArray, List.set_cons_zero, List.set_cons_succ]
          refine wpAnyH_done (by kernel_rfl) ?_ _
          refine NoPanic.normal ?_
          have HB := hidI hb1
          have R5 := R1.below hb1
          have S5 := S2.below hb1
          clear hb1
          go_wp2_with fail
          go_roundw
          case rel => exact ⟨k + 1, by omega, by go_num, R5, S5, bt HW.out HB.out⟩
          case measure => simp [intOf]; omega
      · obtain rfl : k = hs.length := by omega
        have HC := hasInt_c A2 R c2 n wr hRm S2.rd
        rw [HG.out] at HC
        have HCC := hidI HC
        clear HC
        go_wp2_with fail
        refine Calls.mono HCC.out ?_
        rintro e w' ⟨rfl, rfl⟩
        go_wp2_with fail
        go_ret
        exact ⟨rfl, hw⟩
end Go.Proofs.Ytbdboekjcgefhaa
