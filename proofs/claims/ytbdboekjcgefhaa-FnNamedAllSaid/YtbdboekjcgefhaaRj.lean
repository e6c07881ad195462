/- The law FnNamedAll: its call hands back true, whatever the code. -/
import Derived.Test.YtbdboekjcgefhaaRk
import Derived.Test.YtbdboekjcgefhaaRd
namespace Go.Proofs.Ytbdboekjcgefhaa
set_option linter.unusedVariables false
open Go.RowKit

theorem nam_alone {sets : List (List Int)} {g : Int} {L : List Int} (h : setsB sets g = true) (k : IsLink sets g L) (hl : L.length = 1) : ∀ x ∈ namL sets g, ∃ (j : Nat) (s : List Int), x = (j : Int) ∧ sets[j]? = some s ∧ s.length = 1 := fun x hx => by
  rw [nam_yes h, namAt_mem] at hx
  obtain ⟨j, rfl, hj, hs⟩ := hx
  have e : sets[j]? = some sets[j] := List.getElem?_eq_getElem hj
  refine ⟨j, sets[j], rfl, e, link_alone k hl ((setsB_iff.1 h).1 _ (List.getElem_mem hj)) (List.getElem_mem hj) ?_⟩
  rw [List.getD_eq_getElem?_getD, e] at hs
  exact hasB_iff.1 hs

set_option maxHeartbeats 8000000 in
theorem rNAll_walk (A : Option Addr) (bs : List Int) (c : Nat) (w : World) (hm : (bs.length : Int) ≤ 9223372036854775807) (hlc : bs.length ≤ c) (hcm : (c : Int) ≤ 9223372036854775807) (hr : Rd w w.heap.size A (bs.map (Value.int .u8))) (hf : ∀ x ∈ bs, FitB x) :
    Calls Try.prog 10 #[.slice A bs.length c] w fun e w' => e = .returned (.bool true) ∧ Below w.heap.size w w' := by
  by_cases hn : (1048576 : Int) < bs.length
  · clear hr hf
    go_enter Try.func10, Try.ntmps10
    go_wp2
    go_ret
    exact ⟨rfl, by go_grown⟩
  · have hn' : (bs.length : Int) ≤ 1048576 := by omega
    have hw := Below.refl w.heap.size w
    go_enter Try.func10, Try.ntmps10
    go_wp2_with fail
    refine (drawRL_c A bs c _ hm hlc hcm hr hf).mono ?_
    rintro e w1 ⟨hs, A1, c1, n, rfl, h1, h2, n0, n1, R1, hb⟩
    have hK : Below w.heap.size w w1 := bu hb (by go_grown)
    replace hw := hK
    clear hb hK hr hf
    have hn1 : hs.length ≤ 1048576 := by omega
    have H6 := hidI h2
    have H7 : Hid (∀ h ∈ hs, h.xs.length ≤ 1048576) := fun h m => Nat.le_trans (h2 h m) (by omega)
    clear h2
    have CI := fun W (h : RR W A1 hs) => implLink_c A1 hs c1 n W hn1 H7 (hidI h)
    have CS := fun W (h : RR W A1 hs) => specLink_c A1 hs c1 n W hn1 H7 (hidI h)
    have hR0 := link_le (rowsOf hs) n
    obtain ⟨R, hR⟩ : ∃ R, linkB (rowsOf hs) n = R := ⟨_, rfl⟩
    rw [hR] at hR0
    simp only [hR] at CI CS
    unfold NewI at CI CS
    have HR := hidI hR
    have HCI := hidI CI
    have HCS := hidI CS
    clear hR CI CS
    have hRl : R.length ≤ 1048576 := by omega
    have hRm : (R.length : Int) ≤ 9223372036854775807 := by omega
    go_wp2_with fail
    refine (HCI.out _ R1.rr).mono ?_
    rintro e w2 ⟨A2, c2, rfl, S2, hb⟩
    have hK : Below w1.heap.size w1 w2 := bu hb (by go_grown)
    replace R1 := R1.below hK
    replace hw := bt hw hK
    have zzw2 := hK.size
    clear hb hK
    go_wp2_with fail
    refine (HCS.out _ R1.rr).mono ?_
    rintro e w3 ⟨A3, c3, rfl, S3, hb⟩
    have hK : Below w2.heap.size w2 w3 := bu hb (by go_grown)
    replace R1 := R1.below hK
    replace S2 := S2.below hK
    replace hw := bt hw hK
    have zzw3 := hK.size
    clear hb hK
    go_wp2_with fail
    refine (sameInts_c _ _ R _ _ _ hRm S2.rd S3.rd).mono ?_
    rintro e w4 ⟨rfl, hb⟩
    have hK : Below w3.heap.size w3 w4 := bu hb (by go_grown)
    replace R1 := R1.below hK
    replace S2 := S2.below hK
    replace S3 := S3.below hK
    replace hw := bt hw hK
    have zzw4 := hK.size
    clear hb hK
    by_cases h0 : R.length = 1
    rotate_left 1
    · have hz : ((R.length : Int) != 1) = true := by simp; omega
      clear h0
      go_wp2_with fail
      refine (sameInts_c _ _ R _ _ _ hRm S2.rd S3.rd).mono ?_
      rintro e w5 ⟨rfl, hb⟩
      have hK : Below w4.heap.size w4 w5 := bu hb (by go_grown)
      replace hw := bt hw hK
      have zzw5 := hK.size
      clear hb hK
      go_wp2_with fail
      go_ret
      exact ⟨rfl, hw⟩
    have hz : ((R.length : Int) != 1) = false := by simp; omega
    have hset := link_set (sets := rowsOf hs) (g := n) (by rw [HR.out]; omega)
    have LK := link_is hset
    rw [HR.out] at LK
    have NA := hidI (nam_alone (sets := rowsOf hs) (g := n) hset LK h0)
    have HV := hidI (setsB_iff.1 hset)
    have CN := implNam_c A1 hs c1 n w4 hn1 H7 (hidI R1.rr)
    have hN0 := nam_le (rowsOf hs) n
    obtain ⟨N, hN⟩ : ∃ N, namL (rowsOf hs) n = N := ⟨_, rfl⟩
    rw [hN] at CN hN0 NA
    have HCN := hidI CN
    clear LK hset h0 CN hN HCI HCS S2 S3
    go_wp2_with fail
    refine Calls.mono HCN.out ?_
    rintro e w5 ⟨A5, c5, rfl, S5, hb5⟩
    have R5 := R1.below hb5
    have hw5 := bt hw hb5
    clear hb5 HCN R1 hw
    go_wp2_with fail
    go_loopw [8] (fun i wr => ∃ k : Nat, k ≤ N.length ∧ i = .int .i64 k ∧ RV wr w.heap.size (.slice A1 hs.length c1) hs.length hs ∧ IS wr w4.heap.size A5 N.length c5 N ∧ Below w.heap.size w wr) (fun i _ => N.length - (intOf i).toNat)
    case atStart => exact ⟨0, Nat.zero_le _, rfl, R5.mono (by omega), S5, hw5⟩
    case round =>
      clear R5 S5 hw5
      obtain ⟨k, hk, rfl, R1, S5, hw⟩ := hrel
      by_cases hlt : k < N.length
      · obtain ⟨b5, o5, x, rfl, hb5, hx, e0⟩ := S5.rd.int' hlt
        obtain ⟨j, s, rfl, hjs, hj1⟩ := NA.out x (mem_at hx.out)
        have hjl : j < hs.length := by
          have := (List.getElem?_eq_some_iff.1 hjs).1
          rwa [rowsOf_length] at this
        obtain ⟨b, o, Ar, cr, xs, rfl, hb, hxx, d0, hrow⟩ := R1.rr.at_ hjl
        obtain rfl : s = xs := by
          have h2 := rowsOf_at hxx.out
          rw [hjs] at h2
          simpa using h2
        rw [hj1] at d0
        have i1 : (0 : Int) ≤ (k : Int) := by omega
        have i2 : (k : Int) < (N.length : Int) := by omega
        have i3 : (0 : Int) ≤ (j : Int) := by omega
        have i4 : (j : Int) < (hs.length : Int) := by omega
        have HW := hidI hw
        clear hjs hj1 hx hrow hw hxx
        go_wp2_with fail
        go_roundw
        case rel => exact ⟨k + 1, by omega, by go_num, R1, S5, HW.out⟩
        case measure => simp [intOf]; omega
      · obtain rfl : k = N.length := by omega
        go_wp2
        go_ret
        exact ⟨rfl, hw⟩
end Go.Proofs.Ytbdboekjcgefhaa
