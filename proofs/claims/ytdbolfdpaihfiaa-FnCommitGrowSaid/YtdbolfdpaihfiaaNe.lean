/- Contracts: the commit index, by the reference and by the program. -/
import Derived.Test.YtdbolfdpaihfiaaNa
import Derived.Test.YtdbolfdpaihfiaaNs
import Derived.Laws.CopyOwn
import Derived.Deep.DeepCutAuto
namespace Go.Proofs.Ytdbolfdpaihfiaa
set_option linter.unusedVariables false
open Go.RowKit

set_option maxHeartbeats 2000000 in
theorem specCI_c (A : Option Addr) (xs : List Int) (c : Nat) (w : World) (hn : (xs.length : Int) ≤ 9223372036854775807) (hr : Rd w w.heap.size A (xs.map (Value.int .i64))) :
    Calls Try.prog 12 #[.slice A xs.length c] w fun e w' => e = .returned (.int .i64 (ciB xs)) ∧ w = w' := by
  rcases h1 : lvB xs with _ | _
  · have e0 : Hid (ciB xs = -1) := ci_bad h1
    go_enter Try.func12, Try.ntmps12
    go_wp2_with ((go_at_call 30; refine (specLens_c _ _ _ _ hn hr).mono ?_; rintro e w' ⟨rfl, rfl⟩))
    go_ret
    exact ⟨ret_int e0.out.symm, rfl⟩
  · obtain ⟨v1, v2, v3⟩ := lvB_iff.1 h1
    have H1 : Hid _ := h1
    have h00 : Hid (xs.length < 2 * havI xs 0) := by
      have := havI_all (n := 0) (fun x hx => (v1 x hx).1)
      unfold Hid
      omega
    clear v1
    go_enter Try.func12, Try.ntmps12
    go_wp2_with ((go_at_call 30; refine (specLens_c _ _ _ _ hn hr).mono ?_; rintro e w' ⟨rfl, rfl⟩))
    clear h1
    go_loop [3] (fun i => ∃ k : Nat, k ≤ 99 ∧ i = .int .i64 k ∧ Hid (xs.length < 2 * havI xs k))
      (fun i => 99 - (intOf i).toNat)
    case atStart => exact ⟨0, by omega, rfl, h00⟩
    case round =>
      obtain ⟨k, hk, rfl, HK⟩ := hrel
      have hle := havI_le xs ((k : Int) + 1)
      by_cases hlt : k < 99
      · have hd : decide ((k : Int) < 99) = true := decide_eq_true (by omega)
        by_cases hv : xs.length < 2 * havI xs ((k : Int) + 1)
        · have hv' : decide ((xs.length : Int) < 2 * (havI xs ((k : Int) + 1) : Int)) = true := decide_eq_true (by omega)
          have HV : Hid _ := hv
          clear hv
          go_wp2_with ((go_at_call 31; refine (specHav_c _ _ _ _ _ hn hr).mono ?_; rintro e w' ⟨rfl, rfl⟩))
          go_round
          case rel => exact ⟨k + 1, by omega, by go_num, by simpa [Hid] using HV.out⟩
          case measure => simp [intOf]; omega
        · have hv' : decide ((xs.length : Int) < 2 * (havI xs ((k : Int) + 1) : Int)) = false := decide_eq_false (by omega)
          have e0 : Hid (ciB xs = k) := ci_eq H1.out ⟨by omega, by omega, HK.out, fun _ => by omega⟩
          clear hv
          go_wp2_with ((go_at_call 31; refine (specHav_c _ _ _ _ _ hn hr).mono ?_; rintro e w' ⟨rfl, rfl⟩))
          go_ret
          exact ⟨ret_int e0.out.symm, rfl⟩
      · have hd : decide ((k : Int) < 99) = false := decide_eq_false (by omega)
        have e0 : Hid (ciB xs = k) := ci_eq H1.out ⟨by omega, by omega, HK.out, fun h => by omega⟩
        go_wp2_with ((go_at_call 31; refine (specHav_c _ _ _ _ _ hn hr).mono ?_; rintro e w' ⟨rfl, rfl⟩))
        go_ret
        exact ⟨ret_int e0.out.symm, rfl⟩

set_option maxHeartbeats 2000000 in
theorem implCI_c (A : Option Addr) (xs : List Int) (c : Nat) (w : World) (hn : (xs.length : Int) ≤ 9223372036854775807) (hr : Rd w w.heap.size A (xs.map (Value.int .i64))) :
    Calls Try.prog 11 #[.slice A xs.length c] w fun e w' => e = .returned (.int .i64 (ciB xs)) ∧ Below w.heap.size w w' := by
  rcases h1 : lvB xs with _ | _
  · have e0 : Hid (ciB xs = -1) := ci_bad h1
    go_enter Try.func11, Try.ntmps11
    go_wp2_with ((go_at_call 28; refine (implLens_c _ _ _ _ hn hr).mono ?_; rintro e w' ⟨rfl, rfl⟩))
    go_ret
    exact ⟨ret_int e0.out.symm, by go_grown⟩
  · obtain ⟨v1, v2, v3⟩ := lvB_iff.1 h1
    have H1 : Hid _ := h1
    clear v1
    obtain ⟨b, o, rfl, hb0, hcell⟩ := hr.lit (by simp; omega)
    clear hcell
    have hsz1 : (Try.prog.info? 3).map (·.size) = some 1 := by kernel_rfl
    have hmin : (xs.map (Value.int .i64)).length = Nat.min xs.length 7 := by
      rw [List.length_map]
      exact (Nat.min_eq_left v3).symm
    go_enter Try.func11, Try.ntmps11
    go_upto_region 4 with ((go_at_call 28; refine (implLens_c _ _ _ _ hn hr).mono ?_; rintro e w' ⟨rfl, rfl⟩))
    generalize hwa : w.alloc _ = wa
    have hwa' : ∃ T, wa = w.alloc (.cells #[.int .i64 0, .int .i64 0, .int .i64 0, .int .i64 0, .int .i64 0, .int .i64 0, .int .i64 0] T) := ⟨_, hwa.symm⟩
    clear hwa
    obtain ⟨T, rfl⟩ := hwa'
    have hr2 := hr.alloc (Nat.le_refl _) (.cells #[.int .i64 0, .int .i64 0, .int .i64 0, .int .i64 0, .int .i64 0, .int .i64 0, .int .i64 0] T)
    have hpos : ∀ (j : Nat) (v : Value), (xs.map (Value.int .i64))[j]? = some v → (w.alloc (.cells #[.int .i64 0, .int .i64 0, .int .i64 0, .int .i64 0, .int .i64 0, .int .i64 0, .int .i64 0] T)).cell? ((⟨b, o, none⟩ : Addr).add j) = some v := fun j v hv => by
      obtain ⟨ad, e, _, hc⟩ := hr2 j v hv
      cases e
      exact hc
    have hone : ∀ v ∈ xs.map (Value.int .i64), v.oneCell' = true := by
      intro v hv
      obtain ⟨y, _, rfl⟩ := List.mem_map.1 hv
      rfl
    have HP : Hid _ := hpos
    have HM : Hid _ := hmin
    have HO : Hid _ := hone
    clear hpos hmin hone hr2
    have hx7 : (xs.length : Int) ≤ 7 := by omega
    have hx1 : (1 : Int) ≤ (xs.length : Int) := by omega
    have BX := Box.new w T #[.int .i64 0, .int .i64 0, .int .i64 0, .int .i64 0, .int .i64 0, .int .i64 0, .int .i64 0]
    go_wp2_with ((refine wpList_copy_splice (o := ⟨some 10, _, _, _, _, _⟩) rfl (.tmp 8) (.tmp 9) 23 23 rfl 3 Try.underlying23 hsz1 (some ⟨w.heap.size, 0, none⟩) (some ⟨b, o, none⟩) 7 7 xs.length c rfl rfl w.heap.size 0 _ _ BX (xs.map (Value.int .i64)) HM.out (fun _ => ⟨rfl, _, rfl, HP.out⟩) (by simp; omega) HO.out w.heap.size w (by go_grown) (Nat.le_refl _) ?_; intro w1 HB hb1))
    have hcs : splice [Value.int .i64 0, .int .i64 0, .int .i64 0, .int .i64 0, .int .i64 0, .int .i64 0, .int .i64 0] 0 (xs.map (Value.int .i64)) = (xs ++ List.replicate (7 - xs.length) 0).map (Value.int .i64) := by
      have e : [Value.int .i64 0, .int .i64 0, .int .i64 0, .int .i64 0, .int .i64 0, .int .i64 0, .int .i64 0] = List.replicate 7 (Value.int .i64 0) := rfl
      rw [e]
      unfold splice
      rw [List.take_zero, List.nil_append, Nat.zero_add, List.length_map, List.drop_replicate, List.map_append, List.map_replicate]
    have BX1 : Box w1 w.heap.size T ((xs ++ List.replicate (7 - xs.length) 0).map (Value.int .i64)).toArray := by
      rw [← hcs]
      exact HB.out
    clear HB hcs BX HP HM HO
    refine (sort_c T w.heap.size xs.length 7 _ _ (by omega) (by simp) (by simp; omega) BX1).mono ?_
    rintro e w2 ⟨⟨v, rfl⟩, ds, BX2, dl, dh, ds1, dt, hg⟩
    have dl7 : ds.length = 7 := by rw [dl]; simp; omega
    obtain ⟨j, hj⟩ : ∃ j, j = xs.length - 1 - xs.length / 2 := ⟨_, rfl⟩
    have hj7 : j < 7 := by omega
    obtain ⟨r, hr1⟩ : ∃ r, ds[j]? = some r := ⟨_, List.getElem?_eq_getElem (by omega)⟩
    have hjn : j < xs.length := by omega
    have e0 : Hid (ciB xs = r) := by
      refine ci_sorted (ss := ds.take xs.length) H1.out (by rw [List.length_take]; omega) (fun x => ?_) (fun p q x y h1 h2 hx hy => ?_) (by rw [← hj, List.getElem?_take, if_pos hjn]; exact hr1)
      · have h1 := hav_split ds xs.length x
        have h2 := dh x
        rw [havI_append] at h2
        have h3 : ds.drop xs.length = List.replicate (7 - xs.length) 0 := by
          apply List.ext_getElem?
          intro q
          rw [List.getElem?_drop, dt _ (by omega), List.getElem?_append_right (by omega)]
          congr 1
          omega
        rw [h3] at h1
        omega
      · rw [List.length_take] at h2
        rw [List.getElem?_take] at hx hy
        rw [if_pos (by omega)] at hx hy
        exact ds1 p q x y h1 (by omega) hx hy
    have d0 : w2.cell? ⟨w.heap.size, j, none⟩ = some (.int .i64 r) := by
      rw [BX2.cell]
      simp [hr1]
    have hje : (xs.length : Int) - 1 - (xs.length : Int) / 2 = (j : Int) := by omega
    have hw2 : Below w.heap.size w w2 := below_grown hb1 hg (fun g e => by cases e; exact Nat.le_refl _) hb1.size
    have hj7' : (j : Int) < 7 := by omega
    clear hg BX1 BX2 dl dh ds1 dt dl7 hr1 hj hb1
    go_wp2_with fail
    go_ret
    exact ⟨ret_int e0.out.symm, hw2⟩
end Go.Proofs.Ytdbolfdpaihfiaa
