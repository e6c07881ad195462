/- The law FnNamed: its call hands back true, whatever the code. -/
import Derived.Test.YtbdboekjcgefhaaRh
import Derived.Test.YtbdboekjcgefhaaRd
namespace Go.Proofs.Ytbdboekjcgefhaa
set_option linter.unusedVariables false
open Go.RowKit

theorem nam_has {sets : List (List Int)} {g : Int} (h : ¬ (namL sets g).length = 0) : ∀ (k : Nat) (s : List Int), sets[k]? = some s → hasB (namL sets g) (k : Int) = hasB s g := fun k s hs => by
  rcases e : setsB sets g with _ | _
  · rw [nam_no e] at h
    exact absurd rfl h
  · rw [nam_yes e, Bool.eq_iff_iff, hasB_iff, namAt_mem]
    have hk := (List.getElem?_eq_some_iff.1 hs).1
    constructor
    · rintro ⟨j, hj, h1, h2⟩
      obtain rfl : k = j := by omega
      simpa [hs] using h2
    · intro h2
      exact ⟨k, rfl, hk, by simpa [hs] using h2⟩

set_option maxHeartbeats 8000000 in
theorem rNamed_walk (A : Option Addr) (bs : List Int) (c : Nat) (w : World) (hm : (bs.length : Int) ≤ 9223372036854775807) (hlc : bs.length ≤ c) (hcm : (c : Int) ≤ 9223372036854775807) (hr : Rd w w.heap.size A (bs.map (Value.int .u8))) (hf : ∀ x ∈ bs, FitB x) :
    Calls Try.prog 4 #[.slice A bs.length c] w fun e w' => e = .returned (.bool true) ∧ Below w.heap.size w w' := by
  by_cases hn : (1048576 : Int) < bs.length
  · clear hr hf
    go_enter Try.func4, Try.ntmps4
    go_wp2
    go_ret
    exact ⟨rfl, by go_grown⟩
  · have hn' : (bs.length : Int) ≤ 1048576 := by omega
    have hw := Below.refl w.heap.size w
    go_enter Try.func4, Try.ntmps4
    go_wp2_with fail
    refine (drawRN_c A bs c _ hm hlc hcm hr hf).mono ?_
    rintro e w1 ⟨hs, A1, c1, n, rfl, h1, h2, n0, n1, R1, hb⟩
    have hK : Below w.heap.size w w1 := bu hb (by go_grown)
    replace hw := hK
    clear hb hK hr hf
    have hn1 : hs.length ≤ 1048576 := by omega
    have H6 := hidI h2
    have H7 : Hid (∀ h ∈ hs, h.xs.length ≤ 1048576) := fun h m => Nat.le_trans (h2 h m) (by omega)
    clear h2
    have CI := fun W (h : RR W A1 hs) => implNam_c A1 hs c1 n W hn1 H7 (hidI h)
    have CS := fun W (h : RR W A1 hs) => specNam_c A1 hs c1 n W hn1 H7 (hidI h)
    have hR0 := nam_le (rowsOf hs) n
    obtain ⟨R, hR⟩ : ∃ R, namL (rowsOf hs) n = R := ⟨_, rfl⟩
    rw [hR] at hR0
    simp only [hR] at CI CS
    unfold NewI at CI CS
    have HR := hidI hR
    have HCI := hidI CI
    have HCS := hidI CS
    clear hR CI CS
    have hRl : R.length ≤ 1048576 := by omega
    have hRm : (R.length : Int) ≤ 9223372036854775807 := by omega
    go_wp2_with fail
    refine (HCI.out _ R1.rr).mono ?_
    rintro e w2 ⟨A2, c2, rfl, S2, hb⟩
    have hK : Below w1.heap.size w1 w2 := bu hb (by go_grown)
    replace R1 := R1.below hK
    replace hw := bt hw hK
    have zzw2 := hK.size
    clear hb hK
    go_wp2_with fail
    refine (HCS.out _ R1.rr).mono ?_
    rintro e w3 ⟨A3, c3, rfl, S3, hb⟩
    have hK : Below w2.heap.size w2 w3 := bu hb (by go_grown)
    replace R1 := R1.below hK
    replace S2 := S2.below hK
    replace hw := bt hw hK
    have zzw3 := hK.size
    clear hb hK
    go_wp2_with fail
    refine (sameInts_c _ _ R _ _ _ hRm S2.rd S3.rd).mono ?_
    rintro e w4 ⟨rfl, hb⟩
    have hK : Below w3.heap.size w3 w4 := bu hb (by go_grown)
    replace R1 := R1.below hK
    replace S2 := S2.below hK
    replace S3 := S3.below hK
    replace hw := bt hw hK
    have zzw4 := hK.size
    clear hb hK
    by_cases h0 : R.length = 0
    · have hz : ((R.length : Int) == 0) = true := by rw [h0]; rfl
      clear h0
      go_wp2_with fail
      refine (sameInts_c _ _ R _ _ _ hRm S2.rd S3.rd).mono ?_
      rintro e w5 ⟨rfl, hb⟩
      have hK : Below w4.heap.size w4 w5 := bu hb (by go_grown)
      replace hw := bt hw hK
      have zzw5 := hK.size
      clear hb hK
      go_wp2_with fail
      go_ret
      exact ⟨rfl, hw⟩
    have hz : ((R.length : Int) == 0) = false := by simp; intro h; exact h0 (by simp [h])
    have NH := hidI (nam_has (sets := rowsOf hs) (g := n) (by rw [HR.out]; exact h0))
    rw [HR.out] at NH
    clear h0 S3
    go_wp2_with fail
    go_loopw [7] (fun i wr => ∃ k : Nat, k ≤ hs.length ∧ i = .int .i64 k ∧ RV wr w.heap.size (.slice A1 hs.length c1) hs.length hs ∧ IS wr w1.heap.size A2 R.length c2 R ∧ Below w.heap.size w wr) (fun i _ => hs.length - (intOf i).toNat)
    case atStart => exact ⟨0, Nat.zero_le _, rfl, R1.mono (by omega), S2, hw⟩
    case round =>
      clear R1 S2 hw
      obtain ⟨k, hk, rfl, R1, S2, hw⟩ := hrel
      by_cases hlt : k < hs.length
      · obtain ⟨b, o, Ar, cr, xs, rfl, hb, hx, d0, hrow⟩ := R1.rr.at_ hlt
        have hx6 := H6.out _ (mem_at hx.out)
        simp only at hx6
        have HE := NH.out k xs (rowsOf_at hx.out)
        have C1 := fun (m : Ext wr) => hasInt_c A2 R c2 (k : Int) m.at_ hRm (S2.rd.ext m)
        have C2 := fun (m : Ext wr) => hasInt_c Ar xs cr n m.at_ (by omega) (hrow.ext m)
        rw [HE] at C1
        have i1 : (0 : Int) ≤ (k : Int) := by omega
        have i2 : (k : Int) < (hs.length : Int) := by omega
        have HW := hidI hw
        have hws := hw.size
        clear HE hx hw hrow
        rcases e : hasB xs n with _ | _
        all_goals
          rw [e] at C1 C2
          have H1 := hidI C1
          have H2 := hidI C2
          clear C1 C2 e
          go_wp2_with fail
          refine wp_region_ext (by first | with_reducible assumption | exact Below.refl _ _) (by kernel_rfl) (by kernel_rfl) ?_
          intro hx hx2
          repeat (go_big_quiet_step ((first | (go_at_call 22; with_reducible exact ext_call_same (H1.out _)) | (go_at_call 22; with_reducible exact ext_call_same (H2.out _)))))
          refine wpQuiet_nil ?_
          clear hx hx2
          rintro _ ⟨⟨w1, hb⟩, rfl⟩
          have hK := bt (by first | with_reducible assumption | exact Below.refl _ _) hb
          have hc := bcell hK
          have hf := bfrozen hK
          have hs1 := bsize hK
          clear hb
          go_wp2
          go_roundw
          case rel => exact ⟨k + 1, by omega, by go_num, R1.below hK, S2.below hK, bt HW.out hK⟩
          case measure => simp [intOf]; omega
      · obtain rfl : k = hs.length := by omega
        go_wp2
        go_ret
        exact ⟨rfl, hw⟩
end Go.Proofs.Ytbdboekjcgefhaa
