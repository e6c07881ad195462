/- The law FnLinkedSame: its call hands back true, whatever the code. -/
import Derived.Test.YtbdboekjcgefhaaRh
import Derived.Test.YtbdboekjcgefhaaRd
namespace Go.Proofs.Ytbdboekjcgefhaa
set_option linter.unusedVariables false
open Go.RowKit

theorem link_set {sets : List (List Int)} {g : Int} (h : ¬ (linkB sets g).length = 0) : setsB sets g = true := by
  rcases e : setsB sets g with _ | _
  · rw [link_bad e] at h
    exact absurd rfl h
  · rfl

set_option maxHeartbeats 8000000 in
theorem rSame_walk (A : Option Addr) (bs : List Int) (c : Nat) (A9 : Option Addr) (ms : List Int) (c9 : Nat) (w : World) (hm : (bs.length : Int) ≤ 9223372036854775807) (hlc : bs.length ≤ c) (hcm : (c : Int) ≤ 9223372036854775807) (hr : Rd w w.heap.size A (bs.map (Value.int .u8))) (hf : ∀ x ∈ bs, FitB x) (hm9 : (ms.length : Int) ≤ 9223372036854775807) :
    Calls Try.prog 6 #[.slice A bs.length c, .slice A9 ms.length c9] w fun e w' => e = .returned (.bool true) ∧ Below w.heap.size w w' := by
  by_cases hn : (1048576 : Int) < bs.length
  · clear hr hf
    go_enter Try.func6, Try.ntmps6
    go_wp2
    go_ret
    exact ⟨rfl, by go_grown⟩
  · have hn' : (bs.length : Int) ≤ 1048576 := by omega
    by_cases hn2 : (1048576 : Int) < ms.length
    · clear hr hf
      go_enter Try.func6, Try.ntmps6
      go_wp2
      go_ret
      exact ⟨rfl, by go_grown⟩
    have hn2' : (ms.length : Int) ≤ 1048576 := by omega
    have hw := Below.refl w.heap.size w
    go_enter Try.func6, Try.ntmps6
    go_wp2_with fail
    refine (drawRL_c A bs c _ hm hlc hcm hr hf).mono ?_
    rintro e w1 ⟨hs, A1, c1, n, rfl, h1, h2, n0, n1, R1, hb⟩
    have hK : Below w.heap.size w w1 := bu hb (by go_grown)
    replace hw := hK
    clear hb hK hr hf
    have hn1 : hs.length ≤ 1048576 := by omega
    have H6 := hidI h2
    have H7 : Hid (∀ h ∈ hs, h.xs.length ≤ 1048576) := fun h m => Nat.le_trans (h2 h m) (by omega)
    clear h2
    have CI := fun W (h : RR W A1 hs) => implLink_c A1 hs c1 n W hn1 H7 (hidI h)
    have CS := fun W (h : RR W A1 hs) => specLink_c A1 hs c1 n W hn1 H7 (hidI h)
    have hR0 := link_le (rowsOf hs) n
    obtain ⟨R, hR⟩ : ∃ R, linkB (rowsOf hs) n = R := ⟨_, rfl⟩
    rw [hR] at hR0
    simp only [hR] at CI CS
    unfold NewI at CI CS
    have HR := hidI hR
    have HCI := hidI CI
    have HCS := hidI CS
    clear hR CI CS
    have hRl : R.length ≤ 1048576 := by omega
    have hRm : (R.length : Int) ≤ 9223372036854775807 := by omega
    go_wp2_with fail
    refine (HCI.out _ R1.rr).mono ?_
    rintro e w2 ⟨A2, c2, rfl, S2, hb⟩
    have hK : Below w1.heap.size w1 w2 := bu hb (by go_grown)
    replace R1 := R1.below hK
    replace hw := bt hw hK
    have zzw2 := hK.size
    clear hb hK
    go_wp2_with fail
    refine (HCS.out _ R1.rr).mono ?_
    rintro e w3 ⟨A3, c3, rfl, S3, hb⟩
    have hK : Below w2.heap.size w2 w3 := bu hb (by go_grown)
    replace R1 := R1.below hK
    replace S2 := S2.below hK
    replace hw := bt hw hK
    have zzw3 := hK.size
    clear hb hK
    go_wp2_with fail
    refine (sameInts_c _ _ R _ _ _ hRm S2.rd S3.rd).mono ?_
    rintro e w4 ⟨rfl, hb⟩
    have hK : Below w3.heap.size w3 w4 := bu hb (by go_grown)
    replace R1 := R1.below hK
    replace S2 := S2.below hK
    replace S3 := S3.below hK
    replace hw := bt hw hK
    have zzw4 := hK.size
    clear hb hK
    by_cases h0 : R.length = 0
    · have hz : ((R.length : Int) == 0) = true := by rw [h0]; rfl
      clear h0
      go_wp2_with fail
      refine (sameInts_c _ _ R _ _ _ hRm S2.rd S3.rd).mono ?_
      rintro e w5 ⟨rfl, hb⟩
      have hK : Below w4.heap.size w4 w5 := bu hb (by go_grown)
      replace hw := bt hw hK
      have zzw5 := hK.size
      clear hb hK
      go_wp2_with fail
      go_ret
      exact ⟨rfl, hw⟩
    have hz : ((R.length : Int) == 0) = false := by simp; intro h; exact h0 (by simp [h])
    have hset := link_set (sets := rowsOf hs) (g := n) (by rw [HR.out]; exact h0)
    have LK := link_is hset
    rw [HR.out] at LK
    obtain ⟨k, hk⟩ : ∃ k, k = ms.length % R.length := ⟨_, rfl⟩
    have hkl : k < R.length := by have := Nat.mod_lt ms.length (show 0 < R.length by omega); omega
    have e1 : (ms.length : Int) % (R.length : Int) = (k : Int) := by
      rw [hk, Int.natCast_emod]
    have hz2 : ¬ (R.length : Int) = 0 := by omega
    obtain ⟨b, o, x, rfl, hb, hx, d0⟩ := S2.rd.int' hkl
    have hxm := mem_at hx.out
    have hx04 := (gvB_iff.1 LK.valid).2.2 x hxm
    have hsx : setsB (rowsOf hs) x = true := setsB_iff.2 ⟨(setsB_iff.1 hset).1, (setsB_iff.1 hset).2.1, hx04⟩
    have HX : Hid (linkB (rowsOf hs) x = R) := link_same LK (link_is hsx) hxm
    have CX := implLink_c A1 hs c1 x w4 hn1 H7 (hidI R1.rr)
    rw [HX.out] at CX
    have HCX := hidI CX
    have i1 : (0 : Int) ≤ (k : Int) := by omega
    have i2 : (k : Int) < (R.length : Int) := by omega
    clear hk LK hset hxm hx04 hsx CX hx h0 HCI HCS S3 R1
    go_wp2_with fail
    refine Calls.mono HCX.out ?_
    rintro e w5 ⟨A5, c5, rfl, S5, hb5⟩
    have HS2 := hidI (S2.below hb5)
    have hw5 := hidI (bt hw hb5)
    clear hb5 HCX S2 hw d0
    go_wp2_with fail
    refine (sameInts_c _ _ R _ _ _ hRm S5.rd HS2.out.rd).mono ?_
    rintro e w6 ⟨rfl, hb6⟩
    have hw6 := bt hw5.out hb6
    clear hb6
    go_wp2_with fail
    go_ret
    exact ⟨rfl, hw6⟩
end Go.Proofs.Ytbdboekjcgefhaa
