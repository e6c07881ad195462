/- Contracts: the reference cuts batches. -/
import Derived.Test.YtelapagdbmlnhaaIb
import Derived.Test.YtelapagdbmlnhaaAp
namespace Go.Proofs.Ytelapagdbmlnhaa
set_option linter.unusedVariables false
open Go.RowKit

set_option maxHeartbeats 2000000 in
theorem specCut_c (A : Option Addr) (xs : List Int) (c : Nat) (b m : Int) (w : World) (hn : (xs.length : Int) ≤ 9223372036854775807) (hr : Rd w w.heap.size A (xs.map (Value.int .i64))) :
    Calls Try.prog 13 #[.slice A xs.length c, .int .i64 b, .int .i64 m] w (NewI (cutB xs b m) w) := by
  have hmk : IS (w.alloc (.cells #[] 3)) w.heap.size (some ⟨w.heap.size, 0, none⟩) 0 0 [] := IS.full (xs := []) (Box.new w _ _) (Nat.le_refl _) (Nat.zero_le _)
  rcases hv : bvB xs b m with _ | _
  · have e0 : Hid (cutB xs b m = []) := by simp [Hid, cutB, hv]
    go_enter Try.func13, Try.ntmps13
    go_wp2_with ((go_at_call 15; refine (specBV_c _ _ _ _ _ _ hn (hr.alloc (Nat.le_refl _) _).low).mono ?_; rintro e w' ⟨rfl, rfl⟩))
    go_ret
    unfold NewI
    rw [e0.out]
    exact ⟨_, _, rfl, hmk, by go_grown⟩
  · obtain ⟨q1, q2, q3, q4, q5, q6⟩ := bvB_iff.1 hv
    have e0 : Hid (cutB xs b m = cutG b m 0 0 xs) := by simp [Hid, cutB, hv]
    have Q1 : Hid (∀ x ∈ xs, 1 ≤ x ∧ x ≤ b) := q1
    clear q1
    go_enter Try.func13, Try.ntmps13
    go_wp2_with ((go_at_call 15; refine (specBV_c _ _ _ _ _ _ hn (hr.alloc (Nat.le_refl _) _).low).mono ?_; rintro e w' ⟨rfl, rfl⟩))
    go_loopw [7, 8, 9, 10] (fun o s n i wr => ∃ (k : Nat) (sm cn : Int) (v : Value) (l : Nat) (L : List Int), k ≤ xs.length ∧ i = .int .i64 k ∧ s = .int .i64 sm ∧ n = .int .i64 cn ∧ o = v ∧ 0 ≤ sm ∧ sm ≤ 99 * k ∧ 0 ≤ cn ∧ cn ≤ k ∧ l ≤ k ∧
        Hid (cutB xs b m = L ++ cutG b m cn sm (xs.drop k)) ∧ IV wr w.heap.size v l L ∧ Below w.heap.size w wr)
      (fun _ _ _ i _ => xs.length - (intOf i).toNat)
    case atStart => exact ⟨0, 0, 0, _, 0, [], Nat.zero_le _, rfl, rfl, rfl, rfl, by omega, by omega, by omega, by omega, by omega, by simpa using e0, hmk.iv, by go_grown⟩
    case round =>
      obtain ⟨k, sm, cn, v, l, L, hk, rfl, rfl, rfl, rfl, s0, s1, n0, n1, l0, HC, S, hw⟩ := hrel
      have hsz := hw.size
      by_cases hlt : k < xs.length
      · obtain ⟨b2, o2, z, rfl, hb2, hz, f0⟩ := (hr.below hw).int' hlt
        obtain ⟨z0, z1⟩ := Q1.out z (mem_at hz.out)
        have HF : Hid (∀ w1, Below w.heap.size w w1 → w1.cell? ⟨b2, o2 + k, none⟩ = some (.int .i64 z)) := fun w1 h => (h.cell (p := ⟨b2, o2 + k, none⟩) hb2).trans ((hw.cell (p := ⟨b2, o2 + k, none⟩) hb2).symm.trans f0)
        have HW : Hid _ := hw
        by_cases hc : cn = m ∨ b < sm + z
        · have e1 : Hid (cutB xs b m = (L ++ [cn]) ++ cutG b m 1 z (xs.drop (k + 1))) := by
            unfold Hid
            rw [HC.out, drop_at hz.out, cutG_yes hc]
            simp
          clear hz HC hw
          by_cases h1 : b < sm + z
          · clear hc
            go_wp2_with (at_builtin; refine wpList_append_IV cn rfl _ _ rfl rfl (S.alloc _) rfl (by simp) (by omega) (by simp; omega) ?_; intro v1 w1 S1 hb1 hg1; have hw2 := (HW.out.alloc hsz _).trans hb1; have f1 := HF.out w1 hw2; clear hb1 hg1 S)
            go_roundw
            case rel => exact ⟨k + 1, z, 1, _, l + 1, L ++ [cn], by omega, by go_num, by simp, by simp, rfl, by omega, by omega, by omega, by omega, by omega, e1, S1, hw2⟩
            case measure => simp [intOf]; omega
          · have h2 : cn = m := by omega
            have h1' : decide (b < sm + z) = false := by simpa using h1
            subst h2
            clear hc
            go_wp2_with (at_builtin; refine wpList_append_IV cn rfl _ _ rfl rfl (S.alloc _) rfl (by simp) (by omega) (by simp; omega) ?_; intro v1 w1 S1 hb1 hg1; have hw2 := (HW.out.alloc hsz _).trans hb1; have f1 := HF.out w1 hw2; clear hb1 hg1 S)
            go_roundw
            case rel => exact ⟨k + 1, z, 1, _, l + 1, L ++ [cn], by omega, by go_num, by simp, by simp, rfl, by omega, by omega, by omega, by omega, by omega, e1, S1, hw2⟩
            case measure => simp [intOf]; omega
        · have e1 : Hid (cutB xs b m = L ++ cutG b m (cn + 1) (sm + z) (xs.drop (k + 1))) := by
            unfold Hid
            rw [HC.out, drop_at hz.out, cutG_no hc]
          have h1' : decide (b < sm + z) = false := by simp; omega
          have h2' : decide (cn = m) = false := by simp; omega
          have h3' : (cn == m) = false := by simp; omega
          clear hz HC hw
          go_wp2
          go_roundw
          case rel => exact ⟨k + 1, sm + z, cn + 1, _, l, L, by omega, by go_num, rfl, rfl, rfl, by omega, by omega, by omega, by omega, by omega, e1, S, HW.out⟩
          case measure => simp [intOf]; omega
      · obtain rfl : k = xs.length := by omega
        have HW : Hid _ := hw
        have hlen := S.len
        by_cases hp : 0 < cn
        · have e1 : Hid (cutB xs b m = L ++ [cn]) := by
            unfold Hid
            rw [HC.out, List.drop_length]
            simp [cutG, hp]
          have e2 : Hid ((L ++ [cn]).length = l + 1) := by simp [Hid, hlen]
          clear hlen hw
          go_wp2_with (at_builtin; refine wpList_append_IV cn rfl _ _ rfl rfl (S.alloc _) rfl (by simp) (by omega) (by simp; omega) ?_; intro v1 w1 S1 hb1 hg1; have hw2 := (HW.out.alloc hsz _).trans hb1; clear hb1 hg1 S)
          go_ret
          unfold NewI
          rw [e1.out, e2.out]
          obtain ⟨A1, c1, rfl, S2⟩ := S1.open_
          exact ⟨A1, c1, rfl, S2, hw2⟩
        · have e1 : Hid (cutB xs b m = L) := by
            unfold Hid
            rw [HC.out, List.drop_length]
            simp [cutG, hp]
          have e2 : Hid (L.length = l) := hlen
          clear hlen hw
          go_wp2
          go_ret
          unfold NewI
          rw [e1.out, e2.out]
          obtain ⟨A1, c1, rfl, S2⟩ := S.open_
          exact ⟨A1, c1, rfl, S2, HW.out⟩
end Go.Proofs.Ytelapagdbmlnhaa
