/- Contracts: the library's sort at a few ints. -/
import Derived.Test.YtdbolfdpaihfiaaIa
import Derived.Test.YtdbolfdpaihfiaaPlainS
import Derived.BigRegion
import Derived.Deep.DeepCutAuto
import Derived.Lib.Strings
import Derived.Lib.Slices
import Derived.Lib.Small
import Derived.Lib.Walk
import Derived.Lib.BitFns
import Derived.Laws.MathBits
namespace Go.Proofs.Ytdbolfdpaihfiaa
set_option linter.unusedVariables false
open Go.RowKit

set_option maxHeartbeats 1000000 in
theorem isNaN_c (x : Int) (w : World) : Calls Try.prog 58 #[.int .i64 x] w fun e w' => e = .returned (.bool false) ∧ w = w' := by
  go_enter Try.func58, Try.ntmps58
  go_wp2
  go_ret
  exact ⟨rfl, rfl⟩

set_option maxHeartbeats 1000000 in
theorem cmpLess_c (x y : Int) (w : World) : Calls Try.prog 48 #[.int .i64 x, .int .i64 y] w fun e w' => e = .returned (.bool (decide (x < y))) ∧ w = w' := by
  go_enter Try.func48, Try.ntmps48
  go_wp2_with ((go_at_call 58; refine (isNaN_c _ _).mono ?_; rintro e w' ⟨rfl, rfl⟩))
  all_goals
    go_ret
    exact ⟨ret_bool (by simp [*]), rfl⟩

/-- Some int, the world as it was. -/
def SomeI (w : World) (e : Ending) (w' : World) : Prop := ∃ k : Int, e = .returned (.int .i64 k) ∧ w = w'

theorem wpList_ran {P : Program} {ops : Array Oper} {rest : List Oper} {o : Oper} {a : Act} {Q : Exit → Act → World → Prop} {w : World} (v : Value) (hg : o.guard = none) (h : ∀ w, (execOp a.eval o).run P w = .ok (.value v) w) (k : wpList P ops Q rest (a.put o.dst v) w) : wpList P ops Q (o :: rest) a w :=
  wpList_plain hg fun K hK => by
    unfold Oper.wp
    rw [h]
    exact hK _ _ k

set_option maxRecDepth 100000 in
set_option maxHeartbeats 4000000 in
theorem bitsLen64_c (x : Int) (h1 : 0 ≤ x) (h2 : x ≤ 7) (w : World) : Calls Try.prog 52 #[.int .u64 x] w (SomeI w) := by
  rcases (show x = 0 ∨ x = 1 ∨ x = 2 ∨ x = 3 ∨ x = 4 ∨ x = 5 ∨ x = 6 ∨ x = 7 by omega) with rfl | rfl | rfl | rfl | rfl | rfl | rfl | rfl
  · clear h1 h2
    go_enter Try.func52, Try.ntmps52
    go_upto_region 10 with fail
    go_wp2_with (refine wpList_ran (o := ⟨some 22, _, _, _, _, _⟩) (.int .u8 0) rfl (fun _ => by kernel_rfl) ?_)
    go_ret
    exact ⟨_, rfl, rfl⟩
  · clear h1 h2
    go_enter Try.func52, Try.ntmps52
    go_upto_region 10 with fail
    go_wp2_with (refine wpList_ran (o := ⟨some 22, _, _, _, _, _⟩) (.int .u8 1) rfl (fun _ => by kernel_rfl) ?_)
    go_ret
    exact ⟨_, rfl, rfl⟩
  · clear h1 h2
    go_enter Try.func52, Try.ntmps52
    go_upto_region 10 with fail
    go_wp2_with (refine wpList_ran (o := ⟨some 22, _, _, _, _, _⟩) (.int .u8 2) rfl (fun _ => by kernel_rfl) ?_)
    go_ret
    exact ⟨_, rfl, rfl⟩
  · clear h1 h2
    go_enter Try.func52, Try.ntmps52
    go_upto_region 10 with fail
    go_wp2_with (refine wpList_ran (o := ⟨some 22, _, _, _, _, _⟩) (.int .u8 2) rfl (fun _ => by kernel_rfl) ?_)
    go_ret
    exact ⟨_, rfl, rfl⟩
  · clear h1 h2
    go_enter Try.func52, Try.ntmps52
    go_upto_region 10 with fail
    go_wp2_with (refine wpList_ran (o := ⟨some 22, _, _, _, _, _⟩) (.int .u8 3) rfl (fun _ => by kernel_rfl) ?_)
    go_ret
    exact ⟨_, rfl, rfl⟩
  · clear h1 h2
    go_enter Try.func52, Try.ntmps52
    go_upto_region 10 with fail
    go_wp2_with (refine wpList_ran (o := ⟨some 22, _, _, _, _, _⟩) (.int .u8 3) rfl (fun _ => by kernel_rfl) ?_)
    go_ret
    exact ⟨_, rfl, rfl⟩
  · clear h1 h2
    go_enter Try.func52, Try.ntmps52
    go_upto_region 10 with fail
    go_wp2_with (refine wpList_ran (o := ⟨some 22, _, _, _, _, _⟩) (.int .u8 3) rfl (fun _ => by kernel_rfl) ?_)
    go_ret
    exact ⟨_, rfl, rfl⟩
  · clear h1 h2
    go_enter Try.func52, Try.ntmps52
    go_upto_region 10 with fail
    go_wp2_with (refine wpList_ran (o := ⟨some 22, _, _, _, _, _⟩) (.int .u8 3) rfl (fun _ => by kernel_rfl) ?_)
    go_ret
    exact ⟨_, rfl, rfl⟩

set_option maxHeartbeats 1000000 in
theorem bitsLen_c (n : Nat) (hn : n ≤ 7) (w : World) : Calls Try.prog 40 #[.int .u64 n] w (SomeI w) := by
  have h1 : (0 : Int) ≤ n := by omega
  have h2 : (n : Int) ≤ 7 := by omega
  go_enter Try.func40, Try.ntmps40
  go_wp2_with fail
  refine (bitsLen64_c n h1 h2 _).mono ?_
  rintro e w' ⟨k, rfl, rfl⟩
  go_wp2_with fail
  go_ret
  exact ⟨_, rfl, rfl⟩

theorem grown_of {a b : World} (h : Below a.heap.size a b) (row : Option Nat) : a.grownBy b row := ⟨h.os, h.tape, h.output, h.size, fun i hi _ => h.block i hi⟩

/-- Block g holds n ints in order, the same as cs held, and behind them what it held. -/
def SortedTo (T : TypeId) (g n : Nat) (cs : List Int) (w : World) (w' : World) : Prop :=
  ∃ ds : List Int, Box w' g T (ds.map (Value.int .i64)).toArray ∧ ds.length = cs.length ∧ (∀ x, havI ds x = havI cs x) ∧ SrtP ds n ∧ (∀ q, n ≤ q → ds[q]? = cs[q]?) ∧ w.grownBy w' (some g)
def SortedR (T : TypeId) (g n : Nat) (cs : List Int) (w : World) (e : Ending) (w' : World) : Prop := (∃ v, e = .returned v) ∧ SortedTo T g n cs w w'

/-- What the rounds keep. -/
structure Kp (T : TypeId) (g n : Nat) (cs : List Int) (w : World) (ds : List Int) (wr : World) : Prop where
  box : Box wr g T (ds.map (Value.int .i64)).toArray
  len : ds.length = cs.length
  hav : ∀ x, havI ds x = havI cs x
  tail : ∀ q, n ≤ q → ds[q]? = cs[q]?
  grown : w.grownBy wr (some g)
theorem Kp.below {T : TypeId} {g n : Nat} {cs ds : List Int} {w wr w' : World} (h : Kp T g n cs w ds wr) (hb : Below wr.heap.size wr w') : Kp T g n cs w ds w' :=
  ⟨h.box.below hb, h.len, h.hav, h.tail, grown_trans h.grown (grown_of hb _)⟩
theorem Kp.drew {T : TypeId} {g n : Nat} {cs ds : List Int} {w wr : World} (h : Kp T g n cs w ds wr) : Kp T g n cs w ds wr.drew := h.below (Below.refl _ _).drew
theorem Kp.cell {T : TypeId} {g n : Nat} {cs ds : List Int} {w wr : World} (h : Kp T g n cs w ds wr) {j : Nat} {x : Int} (hx : ds[j]? = some x) : wr.cell? ⟨g, j, none⟩ = some (.int .i64 x) := by
  rw [h.box.cell]
  simp [hx]
theorem Kp.swap {T : TypeId} {g n : Nat} {cs ds : List Int} {w wr : World} (h : Kp T g n cs w ds wr) {j : Nat} {u v : Int} (hu : ds[j + 1]? = some u) (hv : ds[j]? = some v) (hj : j + 1 < n) :
    Kp T g n cs w (swp ds j u v) ((wr.setCell ⟨g, j + 1, none⟩ (.int .i64 v)).setCell ⟨g, j, none⟩ (.int .i64 u)) := by
  refine ⟨?_, by rw [swp_len]; exact h.len, fun x => by rw [swp_hav hu hv]; exact h.hav x, fun q hq => by rw [swp_ne (by omega) (by omega)]; exact h.tail q hq, grown_set (grown_set h.grown g _ _) g _ _⟩
  have := (h.box.set (j + 1) (.int .i64 v)).set j (.int .i64 u)
  simpa [swp, List.map_set] using this
theorem Kp.swap' {T : TypeId} {g n : Nat} {cs ds : List Int} {w wr : World} (h : Kp T g n cs w ds wr) {j : Nat} {u v : Int} (hu : ds[j + 1]? = some u) (hv : ds[j]? = some v) (hj : j + 1 < n) :
    Kp T g n cs w (swp ds j u v) ((wr.setCell ⟨g, j, none⟩ (.int .i64 u)).setCell ⟨g, j + 1, none⟩ (.int .i64 v)) := by
  refine ⟨?_, by rw [swp_len]; exact h.len, fun x => by rw [swp_hav hu hv]; exact h.hav x, fun q hq => by rw [swp_ne (by omega) (by omega)]; exact h.tail q hq, grown_set (grown_set h.grown g _ _) g _ _⟩
  have := (h.box.set j (.int .i64 u)).set (j + 1) (.int .i64 v)
  have e : swp ds j u v = (ds.set j u).set (j + 1) v := by
    unfold swp
    rw [List.set_comm _ _ (by omega)]
  rw [e]
  simpa [List.map_set] using this

set_option maxHeartbeats 4000000 in
theorem insSort_c (T : TypeId) (g n c : Nat) (cs : List Int) (w : World) (hn1 : 1 ≤ n) (hn : n ≤ cs.length) (hc7 : cs.length ≤ 7) (B : Box w g T (cs.map (Value.int .i64)).toArray) :
    Calls Try.prog 42 #[.slice (some ⟨g, 0, none⟩) n c, .int .i64 0, .int .i64 n] w (SortedR T g n cs w) := by
  have K0 : Kp T g n cs w cs w := ⟨B, rfl, fun _ => rfl, fun _ _ => rfl, World.grownBy.refl _ _⟩
  go_enter Try.func42, Try.ntmps42
  go_wp2
  go_loopw [6] (fun i wr => ∃ (k : Nat) (ds : List Int), 1 ≤ k ∧ k ≤ n ∧ i = .int .i64 k ∧ Hid (SrtP ds k) ∧ Kp T g n cs w ds wr)
    (fun i _ => n - (intOf i).toNat)
  case atStart => exact ⟨1, cs, by omega, hn1, by simp, srt_one, K0⟩
  case round =>
    clear K0 B
    obtain ⟨k, ds, k1, hk, rfl, HS, K⟩ := hrel
    by_cases hlt : k < n
    · obtain ⟨wo, rfl⟩ : ∃ wo : World, wo = wr := ⟨_, rfl⟩
      go_wp2_with fail
      go_loopw [7] (fun jj wr => ∃ (j : Nat) (es : List Int), j ≤ k ∧ jj = .int .i64 j ∧ Hid (InsP es k j) ∧ Kp T g n cs w es wr)
        (fun jj _ => (intOf jj).toNat)
      case atStart => exact ⟨k, ds, Nat.le_refl _, rfl, srt_ins HS.out, K⟩
      case round =>
        clear K HS
        obtain ⟨j, es, hj, rfl, HI, K⟩ := hrel
        have hel : es.length = cs.length := K.len
        have lg := K.box.lt
        by_cases hj0 : j = 0
        · subst hj0
          have hd : decide ((0 : Int) < 0) = false := rfl
          go_wp2_with fail
          refine wp_region_ext (by first | with_reducible assumption | exact Below.refl _ _) (by kernel_rfl) (by kernel_rfl) ?_
          intro hx hx2
          repeat (go_big_quiet_step ((first | (go_at_call 48; exact ext_call_same (cmpLess_c _ _ _)))))
          refine wpQuiet_nil ?_
          clear hx hx2
          rintro _ ⟨⟨w1, hb⟩, rfl⟩
          have hK := bt (by first | with_reducible assumption | exact Below.refl _ _) hb
          have hc := bcell hK
          have hf := bfrozen hK
          have hs := bsize hK
          clear hb
          (try (refine bw (w := w) hK ?_ ?_; (focus (first | exact HW.out | (have hq := HW.out; go_grown; done) | (go_grown; done))); intro hw hwz; have hK := hK))
          (try (refine bz hK (w.heap.size) ?_ ?_; (focus (first | omega | (simp; done) | (simp; omega))); intro hz0 hd0 hg0))
          (try (refine bz hK (w.heap.size + 1) ?_ ?_; (focus (first | omega | (simp; done) | (simp; omega))); intro hz1 hd1 hg1))
          (try (refine bz hK (w.heap.size + 2) ?_ ?_; (focus (first | omega | (simp; done) | (simp; omega))); intro hz2 hd2 hg2))
          (try (refine bz hK (w.heap.size + 3) ?_ ?_; (focus (first | omega | (simp; done) | (simp; omega))); intro hz3 hd3 hg3))
          (try (refine bz hK g ?_ ?_; (focus (first | omega | (simp; done) | (simp; omega))); intro hzg hdg hgg))
          (try (refine bz hK g1 ?_ ?_; (focus (first | omega | (simp; done) | (simp; omega))); intro hzg hdg hgg))
          (try (refine bz hK g2 ?_ ?_; (focus (first | omega | (simp; done) | (simp; omega))); intro hzg hdg hgg))
          go_wp2
          go_roundw
          case rel => exact ⟨k + 1, es, by omega, by omega, by go_num, ins_zero HI.out, K.below hK⟩
          case measure => simp [intOf]; omega
        · obtain ⟨j, rfl⟩ : ∃ j', j = j' + 1 := ⟨j - 1, by omega⟩
          obtain ⟨u, hu⟩ : ∃ u, es[j + 1]? = some u := ⟨_, List.getElem?_eq_getElem (by omega)⟩
          obtain ⟨v, hv⟩ : ∃ v, es[j]? = some v := ⟨_, List.getElem?_eq_getElem (by omega)⟩
          have d0 := K.cell hu
          have d1 := K.cell hv
          have hd : decide ((0 : Int) < (j : Int) + 1) = true := decide_eq_true (by omega)
          have i1 : (0 : Int) ≤ (j : Int) + 1 := by omega
          have i2 : (j : Int) + 1 < (n : Int) := by omega
          have i3 : ((j : Int) + 1).toNat = j + 1 := by omega
          have i5 : (j : Int) < (n : Int) := by omega
          have i7 : IntKind.i64.wrap ((j : Int) + 1 - 1) = j := by rw [IntWalk.i64_in _ (by omega)] <;> omega
          have i8 : (j : Int) + 1 - 1 = j := by omega
          have i9 : (0 : Int) ≤ (j : Int) := by omega
          have i10 : IntKind.i64.wrap (j : Int) = j := IntWalk.i64_in _ (by omega)
          have HU : Hid _ := hu
          have HV : Hid _ := hv
          clear hu hv hel
          by_cases hl : u < v
          · have CL := fun w => cmpLess_c u v w
            rw [decide_eq_true hl] at CL
            go_wp2_with fail
            refine wp_region_ext (by first | with_reducible assumption | exact Below.refl _ _) (by kernel_rfl) (by kernel_rfl) ?_
            intro hx hx2
            repeat (go_big_quiet_step ((first | (go_at_call 48; exact ext_call_same (CL _)))))
            refine wpQuiet_nil ?_
            clear hx hx2
            rintro _ ⟨⟨w1, hb⟩, rfl⟩
            have hK := bt (by first | with_reducible assumption | exact Below.refl _ _) hb
            have hc := bcell hK
            have hf := bfrozen hK
            have hs := bsize hK
            clear hb
            (try (refine bw (w := w) hK ?_ ?_; (focus (first | exact HW.out | (have hq := HW.out; go_grown; done) | (go_grown; done))); intro hw hwz; have hK := hK))
            (try (refine bz hK (w.heap.size) ?_ ?_; (focus (first | omega | (simp; done) | (simp; omega))); intro hz0 hd0 hg0))
            (try (refine bz hK (w.heap.size + 1) ?_ ?_; (focus (first | omega | (simp; done) | (simp; omega))); intro hz1 hd1 hg1))
            (try (refine bz hK (w.heap.size + 2) ?_ ?_; (focus (first | omega | (simp; done) | (simp; omega))); intro hz2 hd2 hg2))
            (try (refine bz hK (w.heap.size + 3) ?_ ?_; (focus (first | omega | (simp; done) | (simp; omega))); intro hz3 hd3 hg3))
            (try (refine bz hK g ?_ ?_; (focus (first | omega | (simp; done) | (simp; omega))); intro hzg hdg hgg))
            (try (refine bz hK g1 ?_ ?_; (focus (first | omega | (simp; done) | (simp; omega))); intro hzg hdg hgg))
            (try (refine bz hK g2 ?_ ?_; (focus (first | omega | (simp; done) | (simp; omega))); intro hzg hdg hgg))
            replace K := K.below hK
            have lg1 := K.box.lt
            have d2 := K.cell HU.out
            have d3 := K.cell HV.out
            have f2 := K.box.frozen (j + 1)
            have f3 := K.box.frozen j
            clear hc hf hs d0 d1 hdg hgg
            go_wp2_with fail
            go_region
            go_wp2_with fail
            go_roundw
            case rel =>
              refine ⟨j, swp es j u v, by omega, by go_num, ins_swap HI.out (by have := K.len; omega) HU.out HV.out (by omega) hl, ?_⟩
              first | exact K.swap HU.out HV.out (by omega) | exact K.drew.swap HU.out HV.out (by omega) | exact (K.swap HU.out HV.out (by omega)).drew | exact K.swap' HU.out HV.out (by omega) | exact K.drew.swap' HU.out HV.out (by omega) | exact (K.swap' HU.out HV.out (by omega)).drew
            case measure => simp [intOf] <;> omega
          · have CL := fun w => cmpLess_c u v w
            rw [decide_eq_false hl] at CL
            go_wp2_with fail
            refine wp_region_ext (by first | with_reducible assumption | exact Below.refl _ _) (by kernel_rfl) (by kernel_rfl) ?_
            intro hx hx2
            repeat (go_big_quiet_step ((first | (go_at_call 48; exact ext_call_same (CL _)))))
            refine wpQuiet_nil ?_
            clear hx hx2
            rintro _ ⟨⟨w1, hb⟩, rfl⟩
            have hK := bt (by first | with_reducible assumption | exact Below.refl _ _) hb
            have hc := bcell hK
            have hf := bfrozen hK
            have hs := bsize hK
            clear hb
            (try (refine bw (w := w) hK ?_ ?_; (focus (first | exact HW.out | (have hq := HW.out; go_grown; done) | (go_grown; done))); intro hw hwz; have hK := hK))
            (try (refine bz hK (w.heap.size) ?_ ?_; (focus (first | omega | (simp; done) | (simp; omega))); intro hz0 hd0 hg0))
            (try (refine bz hK (w.heap.size + 1) ?_ ?_; (focus (first | omega | (simp; done) | (simp; omega))); intro hz1 hd1 hg1))
            (try (refine bz hK (w.heap.size + 2) ?_ ?_; (focus (first | omega | (simp; done) | (simp; omega))); intro hz2 hd2 hg2))
            (try (refine bz hK (w.heap.size + 3) ?_ ?_; (focus (first | omega | (simp; done) | (simp; omega))); intro hz3 hd3 hg3))
            (try (refine bz hK g ?_ ?_; (focus (first | omega | (simp; done) | (simp; omega))); intro hzg hdg hgg))
            (try (refine bz hK g1 ?_ ?_; (focus (first | omega | (simp; done) | (simp; omega))); intro hzg hdg hgg))
            (try (refine bz hK g2 ?_ ?_; (focus (first | omega | (simp; done) | (simp; omega))); intro hzg hdg hgg))
            go_wp2
            go_roundw
            case rel => exact ⟨k + 1, es, by omega, by omega, by go_num, ins_end HI.out HU.out HV.out (by omega), K.below hK⟩
            case measure => simp [intOf]; omega
    · obtain rfl : k = n := by omega
      go_wp2
      go_end0
      exact ⟨⟨_, rfl⟩, ds, K.box, K.len, K.hav, HS.out, K.tail, K.grown⟩

set_option maxRecDepth 100000 in
set_option maxHeartbeats 4000000 in
theorem pdq_c (T : TypeId) (g n c : Nat) (cs : List Int) (k : Int) (w : World) (hn1 : 1 ≤ n) (hn : n ≤ cs.length) (hc7 : cs.length ≤ 7) (B : Box w g T (cs.map (Value.int .i64)).toArray) :
    Calls Try.prog 39 #[.slice (some ⟨g, 0, none⟩) n c, .int .i64 0, .int .i64 n, .int .i64 k] w (SortedR T g n cs w) := by
  have h7 : (n : Int) ≤ 7 := by omega
  have h12 : (n : Int) ≤ 12 := by omega
  go_enter Try.func39, Try.ntmps39
  go_wp2_with fail
  refine wp_loop_rounds 1 ?_
  rw [rounds_succ]
  go_wp2_with fail
  refine (insSort_c T g n c cs _ hn1 hn hc7 B).mono ?_
  rintro e w1 ⟨⟨v, rfl⟩, h⟩
  go_wp2_with fail
  go_end0
  exact ⟨⟨_, rfl⟩, h⟩

set_option maxHeartbeats 4000000 in
theorem sort_c (T : TypeId) (g n c : Nat) (cs : List Int) (w : World) (hn1 : 1 ≤ n) (hn : n ≤ cs.length) (hc7 : cs.length ≤ 7) (B : Box w g T (cs.map (Value.int .i64)).toArray) :
    Calls Try.prog 29 #[.slice (some ⟨g, 0, none⟩) n c] w (SortedR T g n cs w) := by
  have h7 : (n : Int) ≤ 7 := by omega
  go_enter Try.func29, Try.ntmps29
  go_wp2_with fail
  refine (bitsLen_c n (by omega) _).mono ?_
  rintro e w1 ⟨k, rfl, rfl⟩
  go_wp2_with fail
  refine (pdq_c T g n c cs k _ hn1 hn hc7 B).mono ?_
  rintro e w1 ⟨⟨v, rfl⟩, h⟩
  go_wp2_with fail
  go_end0
  exact ⟨⟨_, rfl⟩, h⟩
end Go.Proofs.Ytdbolfdpaihfiaa
