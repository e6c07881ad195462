/- The law FnExactStampMax: its call hands back true, whatever the argument. -/
import Derived.Test.YtjnloiilabbhbaaCf
import Derived.Deep.RegionHeld3
import Derived.Deep.DeepCutAuto
namespace Go.Proofs.Ytjnloiilabbhbaa
set_option linter.unusedVariables false
open Go.RowKit

set_option maxHeartbeats 2000000 in
theorem xSM_walk (A : Option Addr) (ss : List (Int × Int)) (c : Nat) (w : World) (hm : (ss.length : Int) ≤ 9223372036854775807) (hr : Rd w w.heap.size A (ss.flatMap pc)) :
    Calls Try.prog 10 #[.slice A ss.length c] w fun e w' => e = .returned (.bool true) ∧ Below w.heap.size w w' := by
  by_cases hn : ss.length ≤ 1048576
  · have hz : (if ss.length ≤ 1048576 then 1048576 - (ss.length : Int) else -1) = 1048576 - (ss.length : Int) := if_pos hn
    have hz2 : ¬ (1048576 - (ss.length : Int) < 0) := by omega
    have eq := eqB_refl (pw (smOk ss) (smV ss).1) (pw (smOk ss) (smV ss).2)
    go_enter Try.func10, Try.ntmps10
    go_wp2_with (first | (go_at_call 26; refine (szStampS_c _ _ _ _ hm).mono ?_; rintro e w' ⟨rfl, rfl⟩))
    refine (toStampS_c A ss c w hn hr).mono ?_
    rintro e w1 ⟨g, rfl, bx, hge, hb1⟩
    go_wp2_with fail
    refine (specSM_c _ ss _ _ hn (Rd.box bx)).mono ?_
    rintro e w2 ⟨rfl, hb2⟩
    have hw2 := bt hb1 hb2
    have hq2 := hw2.size
    clear hb1 hb2
    go_wp2_with fail
    refine (toStampS_c A ss c _ hn (hr.below (by go_grown)).low).mono ?_
    rintro e w3 ⟨g2, rfl, bx2, hge2, hb3⟩
    go_wp2_with fail
    refine (implSM_c _ ss _ _ hn (Rd.box bx2)).mono ?_
    rintro e w4 ⟨rfl, hb4⟩
    have hK := bt hb3 hb4
    have hc := bcell hK
    have hs := bsize hK
    have bx4 := bx2.below hb4
    have l4 := bx4.lt
    have hw4 : Below w.heap.size w w4 := bu hK (by go_grown)
    have hq4 := hw4.size
    have hz4 : w2.heap.size < w4.heap.size := hs _ (by simp)
    have hd4 := fun o => hc w2.heap.size o (by simp)
    clear hb3 hb4 hc hs hK
    go_wp2_with (first | (go_at_call 30; refine (eqStamp_c _ _ _ _ _).mono ?_; rintro e w1 ⟨rfl, hb⟩; have hK := bt (by first | with_reducible assumption | exact Below.refl _ _) hb; have hc := bcell hK; have hf := bfrozen hK; have hs := bsize hK; clear hb; (try simp only [World.size_drew, World.cell?_drew, World.frozen?_drew] at hc hf hs); (try (refine bw (w := w) hK ?_ ?_; (focus (first | exact HW.out | (have hq := HW.out; go_grown; done) | (go_grown; done))); intro hw hwz; have hK := hK)); (try (refine bz hK (w.heap.size) ?_ ?_; (focus (first | omega | (simp; done) | (simp; omega))); intro hz0 hd0 hg0)); (try (refine bz hK (w.heap.size + 1) ?_ ?_; (focus (first | omega | (simp; done) | (simp; omega))); intro hz1 hd1 hg1)); (try (refine bz hK (w.heap.size + 2) ?_ ?_; (focus (first | omega | (simp; done) | (simp; omega))); intro hz2 hd2 hg2)); (try (refine bz hK (w.heap.size + 3) ?_ ?_; (focus (first | omega | (simp; done) | (simp; omega))); intro hz3 hd3 hg3)); (try (refine bz hK g ?_ ?_; (focus (first | omega | (simp; done) | (simp; omega))); intro hzg hdg hgg)); (try (refine bz hK g1 ?_ ?_; (focus (first | omega | (simp; done) | (simp; omega))); intro hzg hdg hgg)); (try (refine bz hK g2 ?_ ?_; (focus (first | omega | (simp; done) | (simp; omega))); intro hzg hdg hgg))))
    refine (toStampS_c A ss c _ hn (hr.below (by go_grown)).low).mono ?_
    rintro e w6 ⟨g6, rfl, bx6, hge6, hb6⟩
    have hw6 : Below w.heap.size w w6 := bu hb6 (by go_grown)
    go_ways
    go_wp2_with fail
    refine (eqStampS_c _ _ ss _ _ _ hn (Rd.box (((bx4.alloc _).below hK).below hb6)) (Rd.box bx6)).mono ?_
    rintro e w7 ⟨rfl, hb7⟩
    go_wp2_with fail
    go_ret
    exact ⟨rfl, bt hw6 hb7⟩
  · have hz : (if ss.length ≤ 1048576 then 1048576 - (ss.length : Int) else -1) = -1 := if_neg hn
    go_enter Try.func10, Try.ntmps10
    go_wp2_with (first | (go_at_call 26; refine (szStampS_c _ _ _ _ hm).mono ?_; rintro e w' ⟨rfl, rfl⟩))
    go_ret
    exact ⟨rfl, by go_grown⟩
end Go.Proofs.Ytjnloiilabbhbaa
