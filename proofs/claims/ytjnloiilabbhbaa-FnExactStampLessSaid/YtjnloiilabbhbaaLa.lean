/- The laws FnExactHybridValid, FnExactStampValid, FnExactHybridLess, FnExactStampLess: their calls hand back true, whatever the arguments. -/
import Derived.Test.YtjnloiilabbhbaaCa
import Derived.Test.YtjnloiilabbhbaaExt
namespace Go.Proofs.Ytjnloiilabbhbaa
set_option linter.unusedVariables false
open Go.RowKit

set_option maxHeartbeats 400000 in
theorem xHV_walk (a c : Int) (w : World) : Calls Try.prog 4 #[.agg #[.int .i64 a, .int .i64 c]] w fun e w' => e = .returned (.bool true) ∧ Below w.heap.size w w' := by
  go_enter Try.func4, Try.ntmps4
  go_wp2_with (first | (go_at_call 12; refine (toHybrid_c _ _ _).mono ?_; rintro e w1 ⟨rfl, hb⟩; have hK := bt (by first | with_reducible assumption | exact Below.refl _ _) hb; have hc := bcell hK; have hf := bfrozen hK; have hs := bsize hK; clear hb; (try simp only [World.size_drew, World.cell?_drew, World.frozen?_drew] at hc hf hs); (try (refine bw (w := w) hK ?_ ?_; (focus (first | exact HW.out | (have hq := HW.out; go_grown; done) | (go_grown; done))); intro hw hwz; have hK := hK)); (try (refine bz hK (w.heap.size) ?_ ?_; (focus (first | omega | (simp; done) | (simp; omega))); intro hz0 hd0 hg0)); (try (refine bz hK (w.heap.size + 1) ?_ ?_; (focus (first | omega | (simp; done) | (simp; omega))); intro hz1 hd1 hg1)); (try (refine bz hK (w.heap.size + 2) ?_ ?_; (focus (first | omega | (simp; done) | (simp; omega))); intro hz2 hd2 hg2)); (try (refine bz hK (w.heap.size + 3) ?_ ?_; (focus (first | omega | (simp; done) | (simp; omega))); intro hz3 hd3 hg3)); (try (refine bz hK g ?_ ?_; (focus (first | omega | (simp; done) | (simp; omega))); intro hzg hdg hgg)); (try (refine bz hK g1 ?_ ?_; (focus (first | omega | (simp; done) | (simp; omega))); intro hzg hdg hgg)); (try (refine bz hK g2 ?_ ?_; (focus (first | omega | (simp; done) | (simp; omega))); intro hzg hdg hgg))) | (go_at_call 11; refine (specHV_c _ _ _).mono ?_; rintro e w1 ⟨rfl, hb⟩; have hK := bt (by first | with_reducible assumption | exact Below.refl _ _) hb; have hc := bcell hK; have hf := bfrozen hK; have hs := bsize hK; clear hb; (try simp only [World.size_drew, World.cell?_drew, World.frozen?_drew] at hc hf hs); (try (refine bw (w := w) hK ?_ ?_; (focus (first | exact HW.out | (have hq := HW.out; go_grown; done) | (go_grown; done))); intro hw hwz; have hK := hK)); (try (refine bz hK (w.heap.size) ?_ ?_; (focus (first | omega | (simp; done) | (simp; omega))); intro hz0 hd0 hg0)); (try (refine bz hK (w.heap.size + 1) ?_ ?_; (focus (first | omega | (simp; done) | (simp; omega))); intro hz1 hd1 hg1)); (try (refine bz hK (w.heap.size + 2) ?_ ?_; (focus (first | omega | (simp; done) | (simp; omega))); intro hz2 hd2 hg2)); (try (refine bz hK (w.heap.size + 3) ?_ ?_; (focus (first | omega | (simp; done) | (simp; omega))); intro hz3 hd3 hg3)); (try (refine bz hK g ?_ ?_; (focus (first | omega | (simp; done) | (simp; omega))); intro hzg hdg hgg)); (try (refine bz hK g1 ?_ ?_; (focus (first | omega | (simp; done) | (simp; omega))); intro hzg hdg hgg)); (try (refine bz hK g2 ?_ ?_; (focus (first | omega | (simp; done) | (simp; omega))); intro hzg hdg hgg))) | (go_at_call 13; refine (implHV_c _ _ _).mono ?_; rintro e w1 ⟨rfl, hb⟩; have hK := bt (by first | with_reducible assumption | exact Below.refl _ _) hb; have hc := bcell hK; have hf := bfrozen hK; have hs := bsize hK; clear hb; (try simp only [World.size_drew, World.cell?_drew, World.frozen?_drew] at hc hf hs); (try (refine bw (w := w) hK ?_ ?_; (focus (first | exact HW.out | (have hq := HW.out; go_grown; done) | (go_grown; done))); intro hw hwz; have hK := hK)); (try (refine bz hK (w.heap.size) ?_ ?_; (focus (first | omega | (simp; done) | (simp; omega))); intro hz0 hd0 hg0)); (try (refine bz hK (w.heap.size + 1) ?_ ?_; (focus (first | omega | (simp; done) | (simp; omega))); intro hz1 hd1 hg1)); (try (refine bz hK (w.heap.size + 2) ?_ ?_; (focus (first | omega | (simp; done) | (simp; omega))); intro hz2 hd2 hg2)); (try (refine bz hK (w.heap.size + 3) ?_ ?_; (focus (first | omega | (simp; done) | (simp; omega))); intro hz3 hd3 hg3)); (try (refine bz hK g ?_ ?_; (focus (first | omega | (simp; done) | (simp; omega))); intro hzg hdg hgg)); (try (refine bz hK g1 ?_ ?_; (focus (first | omega | (simp; done) | (simp; omega))); intro hzg hdg hgg)); (try (refine bz hK g2 ?_ ?_; (focus (first | omega | (simp; done) | (simp; omega))); intro hzg hdg hgg))))
  go_ret
  exact ⟨rfl, bu (by assumption) (by go_grown)⟩

set_option maxHeartbeats 400000 in
theorem xSV_walk (a c : Int) (w : World) : Calls Try.prog 5 #[.agg #[.int .i64 a, .int .i64 c]] w fun e w' => e = .returned (.bool true) ∧ Below w.heap.size w w' := by
  go_enter Try.func5, Try.ntmps5
  go_wp2_with (first | (go_at_call 15; refine (toStamp_c _ _ _).mono ?_; rintro e w1 ⟨rfl, hb⟩; have hK := bt (by first | with_reducible assumption | exact Below.refl _ _) hb; have hc := bcell hK; have hf := bfrozen hK; have hs := bsize hK; clear hb; (try simp only [World.size_drew, World.cell?_drew, World.frozen?_drew] at hc hf hs); (try (refine bw (w := w) hK ?_ ?_; (focus (first | exact HW.out | (have hq := HW.out; go_grown; done) | (go_grown; done))); intro hw hwz; have hK := hK)); (try (refine bz hK (w.heap.size) ?_ ?_; (focus (first | omega | (simp; done) | (simp; omega))); intro hz0 hd0 hg0)); (try (refine bz hK (w.heap.size + 1) ?_ ?_; (focus (first | omega | (simp; done) | (simp; omega))); intro hz1 hd1 hg1)); (try (refine bz hK (w.heap.size + 2) ?_ ?_; (focus (first | omega | (simp; done) | (simp; omega))); intro hz2 hd2 hg2)); (try (refine bz hK (w.heap.size + 3) ?_ ?_; (focus (first | omega | (simp; done) | (simp; omega))); intro hz3 hd3 hg3)); (try (refine bz hK g ?_ ?_; (focus (first | omega | (simp; done) | (simp; omega))); intro hzg hdg hgg)); (try (refine bz hK g1 ?_ ?_; (focus (first | omega | (simp; done) | (simp; omega))); intro hzg hdg hgg)); (try (refine bz hK g2 ?_ ?_; (focus (first | omega | (simp; done) | (simp; omega))); intro hzg hdg hgg))) | (go_at_call 14; refine (specSV_c _ _ _).mono ?_; rintro e w1 ⟨rfl, hb⟩; have hK := bt (by first | with_reducible assumption | exact Below.refl _ _) hb; have hc := bcell hK; have hf := bfrozen hK; have hs := bsize hK; clear hb; (try simp only [World.size_drew, World.cell?_drew, World.frozen?_drew] at hc hf hs); (try (refine bw (w := w) hK ?_ ?_; (focus (first | exact HW.out | (have hq := HW.out; go_grown; done) | (go_grown; done))); intro hw hwz; have hK := hK)); (try (refine bz hK (w.heap.size) ?_ ?_; (focus (first | omega | (simp; done) | (simp; omega))); intro hz0 hd0 hg0)); (try (refine bz hK (w.heap.size + 1) ?_ ?_; (focus (first | omega | (simp; done) | (simp; omega))); intro hz1 hd1 hg1)); (try (refine bz hK (w.heap.size + 2) ?_ ?_; (focus (first | omega | (simp; done) | (simp; omega))); intro hz2 hd2 hg2)); (try (refine bz hK (w.heap.size + 3) ?_ ?_; (focus (first | omega | (simp; done) | (simp; omega))); intro hz3 hd3 hg3)); (try (refine bz hK g ?_ ?_; (focus (first | omega | (simp; done) | (simp; omega))); intro hzg hdg hgg)); (try (refine bz hK g1 ?_ ?_; (focus (first | omega | (simp; done) | (simp; omega))); intro hzg hdg hgg)); (try (refine bz hK g2 ?_ ?_; (focus (first | omega | (simp; done) | (simp; omega))); intro hzg hdg hgg))) | (go_at_call 16; refine (implSV_c _ _ _).mono ?_; rintro e w1 ⟨rfl, hb⟩; have hK := bt (by first | with_reducible assumption | exact Below.refl _ _) hb; have hc := bcell hK; have hf := bfrozen hK; have hs := bsize hK; clear hb; (try simp only [World.size_drew, World.cell?_drew, World.frozen?_drew] at hc hf hs); (try (refine bw (w := w) hK ?_ ?_; (focus (first | exact HW.out | (have hq := HW.out; go_grown; done) | (go_grown; done))); intro hw hwz; have hK := hK)); (try (refine bz hK (w.heap.size) ?_ ?_; (focus (first | omega | (simp; done) | (simp; omega))); intro hz0 hd0 hg0)); (try (refine bz hK (w.heap.size + 1) ?_ ?_; (focus (first | omega | (simp; done) | (simp; omega))); intro hz1 hd1 hg1)); (try (refine bz hK (w.heap.size + 2) ?_ ?_; (focus (first | omega | (simp; done) | (simp; omega))); intro hz2 hd2 hg2)); (try (refine bz hK (w.heap.size + 3) ?_ ?_; (focus (first | omega | (simp; done) | (simp; omega))); intro hz3 hd3 hg3)); (try (refine bz hK g ?_ ?_; (focus (first | omega | (simp; done) | (simp; omega))); intro hzg hdg hgg)); (try (refine bz hK g1 ?_ ?_; (focus (first | omega | (simp; done) | (simp; omega))); intro hzg hdg hgg)); (try (refine bz hK g2 ?_ ?_; (focus (first | omega | (simp; done) | (simp; omega))); intro hzg hdg hgg))))
  go_ret
  exact ⟨rfl, bu (by assumption) (by go_grown)⟩

set_option maxHeartbeats 400000 in
theorem xHL_walk (a b c d : Int) (w : World) : Calls Try.prog 6 #[.agg #[.int .i64 a, .int .i64 b], .agg #[.int .i64 c, .int .i64 d]] w fun e w' => e = .returned (.bool true) ∧ Below w.heap.size w w' := by
  go_enter Try.func6, Try.ntmps6
  go_wp2_with fail
  refine wp_region_ext (by first | with_reducible assumption | exact Below.refl _ _) (by kernel_rfl) (by kernel_rfl) ?_
  intro hx hx2
  repeat (go_big_quiet_step ((first | (go_at_call 12; exact ext_call (toHybrid_c _ _ _)) | (go_at_call 17; exact ext_call (specHL_c _ _ _ _ _)) | (go_at_call 18; exact ext_call (implHL_c _ _ _ _ _)))))
  refine wpQuiet_nil ?_
  clear hx hx2
  rintro _ ⟨⟨w1, hb⟩, rfl⟩
  have hK := bt (by first | with_reducible assumption | exact Below.refl _ _) hb
  have hc := bcell hK
  have hf := bfrozen hK
  have hs := bsize hK
  clear hb
  (try (refine bw (w := w) hK ?_ ?_; (focus (first | exact HW.out | (have hq := HW.out; go_grown; done) | (go_grown; done))); intro hw hwz; have hK := hK))
  (try (refine bz hK (w.heap.size) ?_ ?_; (focus (first | omega | (simp; done) | (simp; omega))); intro hz0 hd0 hg0))
  (try (refine bz hK (w.heap.size + 1) ?_ ?_; (focus (first | omega | (simp; done) | (simp; omega))); intro hz1 hd1 hg1))
  (try (refine bz hK (w.heap.size + 2) ?_ ?_; (focus (first | omega | (simp; done) | (simp; omega))); intro hz2 hd2 hg2))
  (try (refine bz hK (w.heap.size + 3) ?_ ?_; (focus (first | omega | (simp; done) | (simp; omega))); intro hz3 hd3 hg3))
  (try (refine bz hK g ?_ ?_; (focus (first | omega | (simp; done) | (simp; omega))); intro hzg hdg hgg))
  (try (refine bz hK g1 ?_ ?_; (focus (first | omega | (simp; done) | (simp; omega))); intro hzg hdg hgg))
  (try (refine bz hK g2 ?_ ?_; (focus (first | omega | (simp; done) | (simp; omega))); intro hzg hdg hgg))
  go_wp2_with fail
  refine wp_region_ext (by first | with_reducible assumption | exact Below.refl _ _) (by kernel_rfl) (by kernel_rfl) ?_
  intro hx hx2
  repeat (go_big_quiet_step ((first | (go_at_call 12; exact ext_call (toHybrid_c _ _ _)) | (go_at_call 17; exact ext_call (specHL_c _ _ _ _ _)) | (go_at_call 18; exact ext_call (implHL_c _ _ _ _ _)))))
  refine wpQuiet_nil ?_
  clear hx hx2
  rintro _ ⟨⟨w1, hb⟩, rfl⟩
  have hK := bt (by first | with_reducible assumption | exact Below.refl _ _) hb
  have hc := bcell hK
  have hf := bfrozen hK
  have hs := bsize hK
  clear hb
  (try (refine bw (w := w) hK ?_ ?_; (focus (first | exact HW.out | (have hq := HW.out; go_grown; done) | (go_grown; done))); intro hw hwz; have hK := hK))
  (try (refine bz hK (w.heap.size) ?_ ?_; (focus (first | omega | (simp; done) | (simp; omega))); intro hz0 hd0 hg0))
  (try (refine bz hK (w.heap.size + 1) ?_ ?_; (focus (first | omega | (simp; done) | (simp; omega))); intro hz1 hd1 hg1))
  (try (refine bz hK (w.heap.size + 2) ?_ ?_; (focus (first | omega | (simp; done) | (simp; omega))); intro hz2 hd2 hg2))
  (try (refine bz hK (w.heap.size + 3) ?_ ?_; (focus (first | omega | (simp; done) | (simp; omega))); intro hz3 hd3 hg3))
  (try (refine bz hK g ?_ ?_; (focus (first | omega | (simp; done) | (simp; omega))); intro hzg hdg hgg))
  (try (refine bz hK g1 ?_ ?_; (focus (first | omega | (simp; done) | (simp; omega))); intro hzg hdg hgg))
  (try (refine bz hK g2 ?_ ?_; (focus (first | omega | (simp; done) | (simp; omega))); intro hzg hdg hgg))
  go_wp2_with fail
  go_ret
  exact ⟨rfl, bu (by assumption) (by go_grown)⟩

set_option maxHeartbeats 400000 in
theorem xSL_walk (a b c d : Int) (w : World) : Calls Try.prog 7 #[.agg #[.int .i64 a, .int .i64 b], .agg #[.int .i64 c, .int .i64 d]] w fun e w' => e = .returned (.bool true) ∧ Below w.heap.size w w' := by
  go_enter Try.func7, Try.ntmps7
  go_wp2_with fail
  refine wp_region_ext (by first | with_reducible assumption | exact Below.refl _ _) (by kernel_rfl) (by kernel_rfl) ?_
  intro hx hx2
  repeat (go_big_quiet_step ((first | (go_at_call 15; exact ext_call (toStamp_c _ _ _)) | (go_at_call 19; exact ext_call (specSL_c _ _ _ _ _)) | (go_at_call 20; exact ext_call (implSL_c _ _ _ _ _)))))
  refine wpQuiet_nil ?_
  clear hx hx2
  rintro _ ⟨⟨w1, hb⟩, rfl⟩
  have hK := bt (by first | with_reducible assumption | exact Below.refl _ _) hb
  have hc := bcell hK
  have hf := bfrozen hK
  have hs := bsize hK
  clear hb
  (try (refine bw (w := w) hK ?_ ?_; (focus (first | exact HW.out | (have hq := HW.out; go_grown; done) | (go_grown; done))); intro hw hwz; have hK := hK))
  (try (refine bz hK (w.heap.size) ?_ ?_; (focus (first | omega | (simp; done) | (simp; omega))); intro hz0 hd0 hg0))
  (try (refine bz hK (w.heap.size + 1) ?_ ?_; (focus (first | omega | (simp; done) | (simp; omega))); intro hz1 hd1 hg1))
  (try (refine bz hK (w.heap.size + 2) ?_ ?_; (focus (first | omega | (simp; done) | (simp; omega))); intro hz2 hd2 hg2))
  (try (refine bz hK (w.heap.size + 3) ?_ ?_; (focus (first | omega | (simp; done) | (simp; omega))); intro hz3 hd3 hg3))
  (try (refine bz hK g ?_ ?_; (focus (first | omega | (simp; done) | (simp; omega))); intro hzg hdg hgg))
  (try (refine bz hK g1 ?_ ?_; (focus (first | omega | (simp; done) | (simp; omega))); intro hzg hdg hgg))
  (try (refine bz hK g2 ?_ ?_; (focus (first | omega | (simp; done) | (simp; omega))); intro hzg hdg hgg))
  go_wp2_with fail
  refine wp_region_ext (by first | with_reducible assumption | exact Below.refl _ _) (by kernel_rfl) (by kernel_rfl) ?_
  intro hx hx2
  repeat (go_big_quiet_step ((first | (go_at_call 15; exact ext_call (toStamp_c _ _ _)) | (go_at_call 19; exact ext_call (specSL_c _ _ _ _ _)) | (go_at_call 20; exact ext_call (implSL_c _ _ _ _ _)))))
  refine wpQuiet_nil ?_
  clear hx hx2
  rintro _ ⟨⟨w1, hb⟩, rfl⟩
  have hK := bt (by first | with_reducible assumption | exact Below.refl _ _) hb
  have hc := bcell hK
  have hf := bfrozen hK
  have hs := bsize hK
  clear hb
  (try (refine bw (w := w) hK ?_ ?_; (focus (first | exact HW.out | (have hq := HW.out; go_grown; done) | (go_grown; done))); intro hw hwz; have hK := hK))
  (try (refine bz hK (w.heap.size) ?_ ?_; (focus (first | omega | (simp; done) | (simp; omega))); intro hz0 hd0 hg0))
  (try (refine bz hK (w.heap.size + 1) ?_ ?_; (focus (first | omega | (simp; done) | (simp; omega))); intro hz1 hd1 hg1))
  (try (refine bz hK (w.heap.size + 2) ?_ ?_; (focus (first | omega | (simp; done) | (simp; omega))); intro hz2 hd2 hg2))
  (try (refine bz hK (w.heap.size + 3) ?_ ?_; (focus (first | omega | (simp; done) | (simp; omega))); intro hz3 hd3 hg3))
  (try (refine bz hK g ?_ ?_; (focus (first | omega | (simp; done) | (simp; omega))); intro hzg hdg hgg))
  (try (refine bz hK g1 ?_ ?_; (focus (first | omega | (simp; done) | (simp; omega))); intro hzg hdg hgg))
  (try (refine bz hK g2 ?_ ?_; (focus (first | omega | (simp; done) | (simp; omega))); intro hzg hdg hgg))
  go_wp2_with fail
  go_ret
  exact ⟨rfl, bu (by assumption) (by go_grown)⟩
end Go.Proofs.Ytjnloiilabbhbaa
