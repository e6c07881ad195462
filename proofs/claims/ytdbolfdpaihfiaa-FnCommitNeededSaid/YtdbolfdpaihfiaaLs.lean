/- The laws FnCommitGrow, FnCommitOrder, FnCommitNeeded: their calls hand back true, whatever the codes. -/
import Derived.Test.YtdbolfdpaihfiaaDu
import Derived.Test.YtdbolfdpaihfiaaAp
import Derived.Test.YtdbolfdpaihfiaaNe
import Derived.Test.YtdbolfdpaihfiaaPlainF
import Derived.BigRegion
namespace Go.Proofs.Ytdbolfdpaihfiaa
set_option linter.unusedVariables false
open Go.RowKit


set_option maxHeartbeats 4000000 in
theorem cNeeded_walk (A : Option Addr) (bs : List Int) (c : Nat) (w : World) (hm : (bs.length : Int) ≤ 9223372036854775807) (hlc : bs.length ≤ c) (hcm : (c : Int) ≤ 9223372036854775807) (hr : Rd w w.heap.size A (bs.map (Value.int .u8))) (hf : ∀ x ∈ bs, FitB x) :
    Calls Try.prog 9 #[.slice A bs.length c] w fun e w' => e = .returned (.bool true) ∧ Below w.heap.size w w' := by
  by_cases hn : (1048576 : Int) < bs.length
  · go_enter Try.func9, Try.ntmps9
    go_wp2
    go_ret
    exact ⟨rfl, by go_grown⟩
  · have hn' : (bs.length : Int) ≤ 1048576 := by omega
    have hw := Below.refl w.heap.size w
    go_enter Try.func9, Try.ntmps9
    go_wp2_with fail
    refine (drawCN_c A bs c _ hm hlc hcm hr hf).mono ?_
    rintro e w2 ⟨L, A1, c1, n, rfl, h1, h2, h3, h4, S1, hb⟩
    have hK : Below w.heap.size w w2 := bu hb (by go_grown)
    replace hw := hK
    clear hb hK h2
    have hL : (L.length : Int) ≤ 9223372036854775807 := by omega
    obtain ⟨cn, HC⟩ : ∃ cn, Hid (cnB L n = cn) := ⟨_, rfl⟩
    have CI := fun w h => implNeeded_c A1 L c1 n w hL h
    have CS := fun w h => specNeeded_c A1 L c1 n w hL h
    rw [HC.out] at CI CS
    by_cases hneg : cn < 0
    · have hd : decide (cn < 0) = true := decide_eq_true hneg
      go_wp2_with (first | (go_at_call 13; refine (CI _ S1.rd).mono ?_; rintro e w' ⟨rfl, rfl⟩) | (go_at_call 25; refine (CS _ S1.rd).mono ?_; rintro e w' ⟨rfl, rfl⟩))
      go_ret
      exact ⟨rfl, hw⟩
    have hd : decide (cn < 0) = false := decide_eq_false hneg
    obtain ⟨m, rfl⟩ := Int.eq_ofNat_of_zero_le (show 0 ≤ cn by omega)
    obtain ⟨hv, hin⟩ := cn_ok (xs := L) (n := n) (by rw [HC.out]; exact hneg)
    have hm7 : m ≤ 14 := by
      have := cn_le hv hin
      have := HC.out
      omega
    have hp := (lvB_iff.1 hv).2.1
    obtain ⟨k0, k1⟩ := inB_true hin
    have F0 : Hid (Fill L n m 0 m L) := fill_start m hv
    have FE : Hid (∀ k r X, Fill L n m k r X → (k = L.length ∨ r = 0) → r = 0 ∧ n ≤ ciB X) := fun k r X h he => fill_end hv hin HC.out h he
    have FZ : Hid ((m : Int) = 0 ↔ n ≤ ciB L) := by
      unfold Hid
      rw [← HC.out]
      exact cn_zero hv hin
    have CL := fun w h => implCI_c A1 L c1 w hL h
    obtain ⟨ci, hci⟩ : ∃ ci, ciB L = ci := ⟨_, rfl⟩
    rw [hci] at CL FZ
    obtain ⟨g1, rfl, _, l1, _⟩ := S1.at_ (by omega)
    have V : IV (w2.alloc (.cells #[] 3)) w2.heap.size (.slice (some ⟨w2.heap.size, 0, none⟩) 0 0) 0 [] := (IS.full (xs := []) (Box.new w2 _ _) (Nat.le_refl _) (Nat.zero_le _)).iv
    have hz2 := hw.size
    clear hv hin HC hci hneg
    go_wp2_with (first
      | (go_at_call 13; refine (CI _ S1.rd).mono ?_; rintro e w' ⟨rfl, rfl⟩)
      | (go_at_call 25; refine (CS _ S1.rd).mono ?_; rintro e w' ⟨rfl, rfl⟩)
      | (at_builtin; refine wpList_append_IVs L rfl _ _ rfl rfl V rfl rfl (S1.rd.below (by go_grown)) (by omega) (by simp) ?_; intro v4 w4 V4 hb4 hg4))
    have hw4 : Below w.heap.size w w4 := (Below.trans (by go_grown) (hb4.mono hz2))
    obtain ⟨A3, c3, rfl, S3⟩ := V4.open_
    simp only [Nat.zero_add, List.nil_append] at S3 ⊢
    have L1 : Hid (∀ a, (some ⟨g1, 0, none⟩ : Option Addr) = some a → a.block < w2.heap.size) := fun a e => (S1.lt a e).2
    have S4 := (S1.alloc _).below_of L1.out hb4
    clear V V4 hb4 hg4 hw S1 CI CS
    go_loopw [8, 9] (fun p i wr => ∃ (k r : Nat) (X : List Int), k ≤ L.length ∧ i = .int .i64 k ∧ p = .int .i64 r ∧ r ≤ m ∧ Hid (Fill L n m k r X) ∧ IS wr w2.heap.size A3 L.length c3 X ∧ IS wr w.heap.size (some ⟨g1, 0, none⟩) L.length c1 L ∧ Below w.heap.size w wr) (fun _ i _ => L.length - (intOf i).toNat)
    case atStart => exact ⟨0, m, L, Nat.zero_le _, rfl, rfl, Nat.le_refl _, F0, S3, S4, hw4⟩
    case round =>
      clear S3 S4 hw4 F0
      obtain ⟨k, r, X, hk, rfl, rfl, hr, FX, S3, S1, hw⟩ := hrel
      by_cases hlt : k < L.length ∧ 0 < r
      · obtain ⟨hlt, hr0⟩ := hlt
        obtain ⟨r, rfl⟩ : ∃ q, r = q + 1 := ⟨r - 1, by omega⟩
        have hlen := S3.len
        obtain ⟨g3, rfl, _, l3, hc3⟩ := S3.at_ (by omega)
        obtain ⟨x, hx⟩ : ∃ x, X[k]? = some x := ⟨_, List.getElem?_eq_getElem (by omega)⟩
        have d3 := hc3 k x hx
        have f3 := S3.frozen k
        have hB := (S3.lt _ rfl).1
        have i1 : (0 : Int) ≤ (k : Int) := by omega
        have i2 : (k : Int) < (L.length : Int) := by omega
        have i3 : (0 : Int) < ((r + 1 : Nat) : Int) := by omega
        by_cases hlow : x < n
        · have HF : Hid (Fill L n m (k + 1) r (X.set k n)) := fill_low FX.out hx hlow k1
          have hS : Hid (IS (wr.setCell ⟨g3, k, none⟩ (.int .i64 n)) w2.heap.size (some ⟨g3, 0, none⟩) L.length c3 (X.set k n)) := S3.set n
          have hS1 : Hid (IS (wr.setCell ⟨g3, k, none⟩ (.int .i64 n)) w.heap.size (some ⟨g1, 0, none⟩) L.length c1 L) := S1.far (fun a e => by have := L1.out a e; dsimp only at hB ⊢; omega) _
          have HW : Hid _ := hw
          clear hc3 hx hlen S3 S1 hw FX
          go_wp2_with fail
          go_roundw
          case rel =>
            have hw := HW.out
            exact ⟨k + 1, r, _, by omega, by go_num, by go_num, by omega, HF, hS.out, hS1.out, by go_grown⟩
          case measure => simp [intOf]; omega
        · have HF : Hid (Fill L n m (k + 1) (r + 1) X) := fill_skip FX.out hx (by omega)
          have HW : Hid _ := hw
          clear hc3 hx hlen hw FX
          go_wp2_with fail
          go_roundw
          case rel => exact ⟨k + 1, r + 1, X, by omega, by go_num, rfl, hr, HF, S3, S1, HW.out⟩
          case measure => simp [intOf]; omega
      · obtain ⟨rfl, hcx⟩ := FE.out k r X FX.out (by omega)
        have hlen := S3.len
        obtain ⟨cx, hcx2⟩ : ∃ cx, ciB X = cx := ⟨_, rfl⟩
        have CX := fun w h => implCI_c A3 X c3 w (by omega) h
        rw [hlen, hcx2] at CX
        rw [hcx2] at hcx
        have t3 : decide (n ≤ cx) = true := decide_eq_true hcx
        have fz := FZ.out
        clear FX FE FZ hlen hcx2
        by_cases hl2 : (k : Int) < (L.length : Int)
        all_goals
          by_cases hm0 : (m : Int) = 0
          all_goals
            first
            | (have t1 : ((m : Int) == 0) = true := by rw [hm0]; rfl
               have t2 : decide (n ≤ ci) = true := decide_eq_true (fz.1 hm0)
               clear fz hcx hlt)
            | (have t1 : ((m : Int) == 0) = false := by simpa using hm0
               have t2 : decide (n ≤ ci) = false := decide_eq_false (fun h => hm0 (fz.2 h))
               clear fz hcx hlt)
            go_wp2_with fail
            refine (CL _ S1.rd).mono ?_
            rintro e w5 ⟨rfl, hb⟩
            have hK : Below wr.heap.size wr w5 := bu hb (by go_grown)
            replace S3 := S3.below hK
            replace hw := bt hw hK
            have zzw5 := hK.size
            clear hb hK
            go_wp2_with fail
            refine (CX _ S3.rd).mono ?_
            rintro e w6 ⟨rfl, hb⟩
            have hK : Below w5.heap.size w5 w6 := bu hb (by go_grown)
            replace hw := bt hw hK
            have zzw6 := hK.size
            clear hb hK
            go_wp2_with fail
            go_ret
            exact ⟨rfl, hw⟩
end Go.Proofs.Ytdbolfdpaihfiaa
