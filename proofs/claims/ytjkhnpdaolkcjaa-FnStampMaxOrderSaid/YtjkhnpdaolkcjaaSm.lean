/- The law FnStampMaxOrder: its call hands back true, whatever the code. -/
import Derived.Test.YtjkhnpdaolkcjaaSp
import Derived.Test.YtjkhnpdaolkcjaaSs
import Derived.Test.YtjkhnpdaolkcjaaCf
namespace Go.Proofs.Ytjkhnpdaolkcjaa
set_option linter.unusedVariables false
open Go.RowKit

set_option maxHeartbeats 8000000 in
theorem sOrd_walk (A : Option Addr) (bs : List Int) (c : Nat) (w : World) (hm : (bs.length : Int) ≤ 9223372036854775807) (hlc : bs.length ≤ c) (hcm : (c : Int) ≤ 9223372036854775807) (hr : Rd w w.heap.size A (bs.map (Value.int .u8))) (hf : ∀ x ∈ bs, FitB x) :
    Calls Try.prog 7 #[.slice A bs.length c] w fun e w' => e = .returned (.bool true) ∧ Below w.heap.size w w' := by
  by_cases hn : (1048576 : Int) < bs.length
  · go_enter Try.func7, Try.ntmps7
    go_wp2
    go_ret
    exact ⟨rfl, by go_grown⟩
  · have hn' : (bs.length : Int) ≤ 1048576 := by omega
    have hw := Below.refl w.heap.size w
    go_enter Try.func7, Try.ntmps7
    go_wp2_with fail
    refine (drawSM_c A bs c _ hm hlc hcm hr hf).mono ?_
    rintro e w1 ⟨ss, A1, c1, rfl, h1, h2, S1, hb⟩
    have hK : Below w.heap.size w w1 := bu hb (by go_grown)
    replace hw := hK
    have H2 := hidS h2
    clear hb hK h2 hr hf
    have hs := hw.size
    have CI := fun A c w h => implSM_c A ss c w (by omega) h
    have CS := fun A c w h => specSM_c A ss c w (by omega) h
    have SA := @smV_all ss
    have SI := @smOk_iff ss
    have SR := @sm_rev ss
    have CR := fun A c w h => implSM_c A ss.reverse c w (by simp; omega) h
    obtain ⟨ok, hok⟩ : ∃ ok, smOk ss = ok := ⟨_, rfl⟩
    obtain ⟨X, hX⟩ : ∃ X, (smV ss).1 = X := ⟨_, rfl⟩
    obtain ⟨Y, hY⟩ : ∃ Y, (smV ss).2 = Y := ⟨_, rfl⟩
    have hXY : smV ss = (X, Y) := by rw [← hX, ← hY]
    rw [hok] at SI SR
    rw [hok, hX, hY] at CI CS
    rw [hXY] at SA SR
    have HCR := hidS CR
    have HSA := hidS SA
    have HSI := hidS SI
    have HSR := hidS SR
    clear hok hX hY hXY SA SI SR CR
    unfold pv at CI CS
    have HCI := hidS CI
    have HCS := hidS CS
    clear CI CS
    go_wp2_with fail
    refine (HCI.out _ _ _ S1.rd).mono ?_
    rintro e w2 ⟨rfl, hb⟩
    have hK : Below w1.heap.size w1 w2 := bu hb (by go_grown)
    replace S1 := S1.below hK
    replace hw := bt hw hK
    have q2 := hw.size
    clear hb hK HCI
    have Bo0 := Box.new w2 31 #[.int .i64 (pw ok X), .int .i64 (pw ok Y)]
    have S10 := S1.alloc (.cells #[.int .i64 (pw ok X), .int .i64 (pw ok Y)] 31)
    go_wp2_with fail
    refine (HCS.out _ _ _ S10.rd).mono ?_
    rintro e w3 ⟨rfl, hb⟩
    have Bo := Bo0.below hb
    have S3 := S10.below hb
    have hw3 : Below w.heap.size w w3 := bu hb (by go_grown)
    clear hb HCS S10 Bo0 S1 hw
    have HA : Hid (∀ a, A1 = some a → a.block < w3.heap.size) := fun a e => by
      subst e
      exact (World.ownsRow.lt S3 a.block rfl).2
    have c0 := Bo.cell 0
    have c1' := Bo.cell 1
    have lo := Bo.lt
    simp only [List.getElem?_toArray, List.getElem?_cons_zero, List.getElem?_cons_succ] at c0 c1'
    have q3 := hw3.size
    rcases ok with _ | _
    · simp only [pw, Bool.false_eq_true, if_false] at c0 c1' Bo ⊢
      clear HSA HSI HSR HCR
      go_wp2_with fail
      go_ret
      exact ⟨rfl, by go_grown⟩
    · simp only [pw, if_true] at c0 c1' Bo ⊢
      have I := HSI.out.1 rfl
      have hp : 1 ≤ ss.length := I.2.1
      have M := HSA.out hp
      have HM1 := hidS M.1
      have HM2 := hidS M.2
      have Bw := Box.new w3 31 #[.int .i64 X, .int .i64 Y]
      have Bo4 := Bo.alloc (.cells #[.int .i64 X, .int .i64 Y] 31)
      have S4 := S3.alloc (.cells #[.int .i64 X, .int .i64 Y] 31)
      have hw4 : Below w.heap.size w (w3.alloc (.cells #[.int .i64 X, .int .i64 Y] 31)) := by go_grown
      obtain ⟨r1, r2⟩ := HSR.out rfl
      have CR := fun A c w h => HCR.out A c w h
      simp only [List.length_reverse, r1, r2, pw, if_true] at CR
      have HCR' := hidS CR
      clear CR r1 r2 I M HSA HSI HSR HCR Bo S3 Bw HM1 HM2
      have hw4s := hw4.size
      have lo3 := lo
      have V0 := PV.start (w3.alloc (.cells #[.int .i64 X, .int .i64 Y] 31))
      have V1 := V0.mono (B' := w3.heap.size) (by simp)
      have S5 := S4.alloc (.cells #[] 31)
      have Bo5 := Bo4.alloc (.cells #[] 31)
      have hw5 : Below w.heap.size w ((w3.alloc (.cells #[.int .i64 X, .int .i64 Y] 31)).alloc (.cells #[] 31)) := by go_grown
      have l5 := Bo5.lt
      clear V0 S4 Bo4 hw4
      go_wp2_with fail
      go_loopw [8, 9] (fun f i wr => ∃ (k : Nat) (z : Int) (v : Value), k ≤ ss.length ∧ Hid (z + 1 + k = ss.length) ∧ -1 ≤ z ∧ z ≤ 13 ∧ i = .int .i64 z ∧ f = v ∧ PV wr w3.heap.size v k (ss.reverse.take k) ∧ Box wr w2.heap.size 31 #[.int .i64 X, .int .i64 Y] ∧ PV wr w.heap.size (.slice A1 ss.length c1) ss.length ss ∧ Below w.heap.size w wr ∧ w3.heap.size ≤ wr.heap.size ∧ Hid (∀ a, A1 = some a → a.block < w3.heap.size)) (fun _ i _ => (intOf i + 1).toNat)
      case atStart => exact ⟨0, (ss.length : Int) - 1, _, Nat.zero_le _, by show _ = _; omega, by omega, by omega, rfl, rfl, by simpa using V1, Bo5, S5, hw5, by simp; omega, HA.out⟩
      case round =>
        clear S5 Bo5 hw5 c0 c1' lo hw3 l5 V1 hw4s HA
        obtain ⟨k, z, v, hk, HZ, hz0, hz1, rfl, rfl, V, B, S, hw, hsz, HA⟩ := hrel
        have c0 := B.cell 0
        have c1' := B.cell 1
        have lo := B.lt
        simp only [List.getElem?_toArray, List.getElem?_cons_zero, List.getElem?_cons_succ] at c0 c1'
        by_cases hneg : z = -1
        · have hkl := HZ.out
          obtain rfl : k = ss.length := by omega
          subst hneg
          rw [List.take_of_length_le (by simp)] at V
          obtain ⟨A8, c8, rfl⟩ := V.open_
          clear hkl
          go_wp2_with fail
          refine (HCR'.out _ _ _ V.rd).mono ?_
          rintro e w8 ⟨rfl, hb⟩
          have B8 := B.below hb
          have hw8 := bt hw hb
          clear c0 c1' lo hb hw B V S
          have c0 := B8.cell 0
          have c1' := B8.cell 1
          have lo := B8.lt
          simp only [List.getElem?_toArray, List.getElem?_cons_zero, List.getElem?_cons_succ] at c0 c1'
          go_wp2_with fail
          go_ret
          exact ⟨rfl, by go_grown⟩
        · obtain ⟨j, rfl⟩ := Int.eq_ofNat_of_zero_le (show 0 ≤ z by omega)
          have hj := HZ.out
          have hjl : j < ss.length := by omega
          obtain ⟨b, o, x, y, rfl, hb, hx, d0, d1⟩ := S.rd.pair' hjl
          have HE := hidS (show ss.reverse.take (k + 1) = ss.reverse.take k ++ [(x, y)] from take_at (by rw [List.getElem?_reverse (by omega), show ss.length - 1 - k = j by omega]; exact hx.out))
          have HW := hidS hw
          have hws := hw.size
          have k13 : k ≤ 13 := by omega
          have hbb : b < w3.heap.size := HA.out _ rfl
          have hk1 : k + 1 ≤ ss.length := by omega
          clear hj hw
          go_wp2_with (at_builtin; refine wpList_append_PV x y rfl _ _ rfl rfl (V.alloc _) rfl (by simp) (by simp) (by omega) (by simp; omega) ?_; intro v6 w6 V6 hb6 hg6)
          have hw6 : Below w.heap.size w w6 := (HW.out.alloc hws _).trans (hb6.mono (by omega))
          have hs6 := hb6.size
          have S6 : PV w6 w.heap.size (.slice (some ⟨b, o, none⟩) ss.length c1) ss.length ss := S.apart hbb ((Below.refl _ wr).alloc hsz _ |>.trans hb6)
          have B6 : Box w6 w2.heap.size 31 #[.int .i64 X, .int .i64 Y] := (hb6.block _ (by omega)).trans (B.alloc _)
          go_roundw
          case rel => exact ⟨k + 1, (j : Int) - 1, _, by omega, by have := HZ.out; show _ = _; omega, by omega, by omega, by go_num, rfl, by rw [HE.out]; exact V6, B6, S6, hw6, by simp at hs6; omega, HA⟩
          case measure => simp [intOf]
end Go.Proofs.Ytjkhnpdaolkcjaa
