/- The laws of hybrid times FnHybridMerge, FnHybridSymmetric: their calls hand back true, whatever the code. -/
import Derived.Test.YtfemlfmkomkkbaaCc
import Derived.Test.YtfemlfmkomkkbaaDraw3
import Derived.Test.YtfemlfmkomkkbaaPlainH
--worlds
namespace Go.Proofs.Ytfemlfmkomkkbaa
set_option linter.unusedVariables false
open Go.RowKit

/-- What a merge hands back, in short. -/
theorem merge_short (a b p a' b' : Int) : ∃ (ok : Bool) (X Y : Int), pv (mergeOk a b p a' b') (mx a p a') (my a b p a' b') = .tuple #[.agg #[.int .i64 X, .int .i64 Y], .bool ok] ∧ pv (mergeOk a' b' p a b) (mx a' p a) (my a' b' p a b) = .tuple #[.agg #[.int .i64 X, .int .i64 Y], .bool ok] ∧
    (ok = true → hlB a b X Y = true ∧ hlB a' b' X Y = true ∧ X = gmax (gmax a a') p) := by
  refine ⟨mergeOk a b p a' b', pw (mergeOk a b p a' b') (mx a p a'), pw (mergeOk a b p a' b') (my a b p a' b'), rfl, ?_, fun h => ?_⟩
  · rw [mergeOk_comm a' b', mx_comm a' p a, my_comm a' b' p a b]
  · rw [pw_true h, pw_true h]
    exact ⟨merge_less h, merge_less' h, rfl⟩

set_option maxHeartbeats 4000000 in
theorem pSymmetric_walk (A : Option Addr) (bs : List Int) (c : Nat) (w : World) (hm : (bs.length : Int) ≤ 9223372036854775807) (hlc : bs.length ≤ c) (hcm : (c : Int) ≤ 9223372036854775807) (hr : Rd w w.heap.size A (bs.map (Value.int .u8))) (hf : ∀ x ∈ bs, FitB x) :
    Calls Try.prog 6 #[.slice A bs.length c] w fun e w' => e = .returned (.bool true) ∧ Below w.heap.size w w' := by
  by_cases hn : (1048576 : Int) < bs.length
  · go_enter Try.func6, Try.ntmps6
    go_wp2
    go_ret
    exact ⟨rfl, by go_grown⟩
  · have hn' : (bs.length : Int) ≤ 1048576 := by omega
    go_enter Try.func6, Try.ntmps6
    go_wp2_with fail
    refine (drawHM_c A bs c _ hm hlc hcm hr hf).mono ?_
    rintro e wd ⟨a, b, p, a', b', rfl, a1, a2, b1, b2, p1, p2, a3, a4, b3, b4, hw⟩
    have CI := implMerge_c a b p a' b'
    have CS := specMerge_c a b p a' b'
    have CJ := implMerge_c a' b' p a b
    obtain ⟨ok, X, Y, eX, eY, hok⟩ := merge_short a b p a' b'
    simp only [eX, eY] at CI CS CJ
    clear eX eY
    have hs := hw.size
    go_wp2_with fail
    refine (CI _).mono ?_
    rintro e wa ⟨rfl, hba⟩
    have Bh := ((Box.new wd 24 #[.int .i64 a, .int .i64 b]).alloc _).below hba
    have Bg : Box wa (wd.heap.size + 1) 24 #[.int .i64 a', .int .i64 b'] := by simpa using (Box.new (wd.alloc _) 24 #[.int .i64 a', .int .i64 b']).below hba
    have hwa : Below w.heap.size w wa := bu hba (by go_grown)
    have hsa := hwa.size
    clear hba hw
    have ch0 := Bh.cell 0
    have ch1 := Bh.cell 1
    have cg0 := Bg.cell 0
    have cg1 := Bg.cell 1
    have lh := Bh.lt
    have lg := Bg.lt
    simp only [List.getElem?_toArray, List.getElem?_cons_zero, List.getElem?_cons_succ] at ch0 ch1 cg0 cg1
    go_wp2_with fail
    refine (CS _).mono ?_
    rintro e wb ⟨rfl, hbb⟩
    have Bh2 := (Bh.alloc _).below hbb
    have Bg2 := (Bg.alloc _).below hbb
    have Bo := (Box.new wa 24 #[.int .i64 X, .int .i64 Y]).below hbb
    have hw : Below w.heap.size w wb := bu hbb (by go_grown)
    have hsb := hw.size
    clear hbb ch0 ch1 cg0 cg1 Bh Bg hwa
    have c0 := Bh2.cell 0
    have c1 := Bh2.cell 1
    have c4 := Bg2.cell 0
    have c5 := Bg2.cell 1
    have c2 := Bo.cell 0
    have c3 := Bo.cell 1
    have l0 := Bh2.lt
    have l1 := Bo.lt
    have l2 := Bg2.lt
    simp only [List.getElem?_toArray, List.getElem?_cons_zero, List.getElem?_cons_succ] at c0 c1 c2 c3 c4 c5
    clear Bh2 Bo Bg2 CI CS
    rcases ok with _ | _
    · go_wp2_with fail
      go_ret
      exact ⟨rfl, by go_grown⟩
    · obtain ⟨hl, hl2, h⟩ := hok rfl
      clear hok
      go_wp2_with ((go_at_call 13; refine (CJ _).mono ?_; rintro e w1 ⟨rfl, hb⟩; have hK := bt (by first | with_reducible assumption | exact Below.refl _ _) hb; have hc := bcell hK; have hf := bfrozen hK; have hs := bsize hK; clear hb; (try simp only [World.size_drew, World.cell?_drew, World.frozen?_drew] at hc hf hs); (try (refine bw (w := w) hK ?_ ?_; (focus (first | exact HW.out | (have hq := HW.out; go_grown; done) | (go_grown; done))); intro hw hwz; have hK := hK)); (try (refine bz hK (w.heap.size) ?_ ?_; (focus (first | omega | (simp; done) | (simp; omega))); intro hz0 hd0 hg0)); (try (refine bz hK (w.heap.size + 1) ?_ ?_; (focus (first | omega | (simp; done) | (simp; omega))); intro hz1 hd1 hg1)); (try (refine bz hK (w.heap.size + 2) ?_ ?_; (focus (first | omega | (simp; done) | (simp; omega))); intro hz2 hd2 hg2)); (try (refine bz hK (w.heap.size + 3) ?_ ?_; (focus (first | omega | (simp; done) | (simp; omega))); intro hz3 hd3 hg3)); (try (refine bz hK g ?_ ?_; (focus (first | omega | (simp; done) | (simp; omega))); intro hzg hdg hgg)); (try (refine bz hK g1 ?_ ?_; (focus (first | omega | (simp; done) | (simp; omega))); intro hzg hdg hgg)); (try (refine bz hK g2 ?_ ?_; (focus (first | omega | (simp; done) | (simp; omega))); intro hzg hdg hgg)); (try (refine bz hK wd.heap.size ?_ ?_; (focus (first | omega | (simp; done) | (simp; omega))); intro hzwd hdwd hgwd)); (try (refine bz hK wa.heap.size ?_ ?_; (focus (first | omega | (simp; done) | (simp; omega))); intro hzwa hdwa hgwa)); (try (refine bz hK wb.heap.size ?_ ?_; (focus (first | omega | (simp; done) | (simp; omega))); intro hzwb hdwb hgwb))))
      go_ret
      exact ⟨rfl, by go_grown⟩

set_option maxHeartbeats 4000000 in
theorem pMerge_walk (A : Option Addr) (bs : List Int) (c : Nat) (w : World) (hm : (bs.length : Int) ≤ 9223372036854775807) (hlc : bs.length ≤ c) (hcm : (c : Int) ≤ 9223372036854775807) (hr : Rd w w.heap.size A (bs.map (Value.int .u8))) (hf : ∀ x ∈ bs, FitB x) :
    Calls Try.prog 7 #[.slice A bs.length c] w fun e w' => e = .returned (.bool true) ∧ Below w.heap.size w w' := by
  by_cases hn : (1048576 : Int) < bs.length
  · go_enter Try.func7, Try.ntmps7
    go_wp2
    go_ret
    exact ⟨rfl, by go_grown⟩
  · have hn' : (bs.length : Int) ≤ 1048576 := by omega
    go_enter Try.func7, Try.ntmps7
    go_wp2_with fail
    refine (drawHM_c A bs c _ hm hlc hcm hr hf).mono ?_
    rintro e wd ⟨a, b, p, a', b', rfl, a1, a2, b1, b2, p1, p2, a3, a4, b3, b4, hw⟩
    have CI := implMerge_c a b p a' b'
    have CS := specMerge_c a b p a' b'
    have CJ := implMerge_c a' b' p a b
    obtain ⟨ok, X, Y, eX, eY, hok⟩ := merge_short a b p a' b'
    simp only [eX, eY] at CI CS CJ
    clear eX eY
    have hs := hw.size
    go_wp2_with fail
    refine (CI _).mono ?_
    rintro e wa ⟨rfl, hba⟩
    have Bh := ((Box.new wd 24 #[.int .i64 a, .int .i64 b]).alloc _).below hba
    have Bg : Box wa (wd.heap.size + 1) 24 #[.int .i64 a', .int .i64 b'] := by simpa using (Box.new (wd.alloc _) 24 #[.int .i64 a', .int .i64 b']).below hba
    have hwa : Below w.heap.size w wa := bu hba (by go_grown)
    have hsa := hwa.size
    clear hba hw
    have ch0 := Bh.cell 0
    have ch1 := Bh.cell 1
    have cg0 := Bg.cell 0
    have cg1 := Bg.cell 1
    have lh := Bh.lt
    have lg := Bg.lt
    simp only [List.getElem?_toArray, List.getElem?_cons_zero, List.getElem?_cons_succ] at ch0 ch1 cg0 cg1
    go_wp2_with fail
    refine (CS _).mono ?_
    rintro e wb ⟨rfl, hbb⟩
    have Bh2 := (Bh.alloc _).below hbb
    have Bg2 := (Bg.alloc _).below hbb
    have Bo := (Box.new wa 24 #[.int .i64 X, .int .i64 Y]).below hbb
    have hw : Below w.heap.size w wb := bu hbb (by go_grown)
    have hsb := hw.size
    clear hbb ch0 ch1 cg0 cg1 Bh Bg hwa
    have c0 := Bh2.cell 0
    have c1 := Bh2.cell 1
    have c4 := Bg2.cell 0
    have c5 := Bg2.cell 1
    have c2 := Bo.cell 0
    have c3 := Bo.cell 1
    have l0 := Bh2.lt
    have l1 := Bo.lt
    have l2 := Bg2.lt
    simp only [List.getElem?_toArray, List.getElem?_cons_zero, List.getElem?_cons_succ] at c0 c1 c2 c3 c4 c5
    clear Bh2 Bo Bg2 CI CS
    rcases ok with _ | _
    · go_wp2_with fail
      go_ret
      exact ⟨rfl, by go_grown⟩
    · obtain ⟨hl, hl2, h⟩ := hok rfl
      clear hok
      unfold gmax at h
      split at h <;> split at h <;> subst h
      all_goals
        go_wp2_with ((go_at_call 11; refine (implHL_c _ _ _ _ _).mono ?_; rintro e w1 ⟨rfl, hb⟩; have hK := bt (by first | with_reducible assumption | exact Below.refl _ _) hb; have hc := bcell hK; have hf := bfrozen hK; have hs := bsize hK; clear hb; (try simp only [World.size_drew, World.cell?_drew, World.frozen?_drew] at hc hf hs); (try (refine bw (w := w) hK ?_ ?_; (focus (first | exact HW.out | (have hq := HW.out; go_grown; done) | (go_grown; done))); intro hw hwz; have hK := hK)); (try (refine bz hK (w.heap.size) ?_ ?_; (focus (first | omega | (simp; done) | (simp; omega))); intro hz0 hd0 hg0)); (try (refine bz hK (w.heap.size + 1) ?_ ?_; (focus (first | omega | (simp; done) | (simp; omega))); intro hz1 hd1 hg1)); (try (refine bz hK (w.heap.size + 2) ?_ ?_; (focus (first | omega | (simp; done) | (simp; omega))); intro hz2 hd2 hg2)); (try (refine bz hK (w.heap.size + 3) ?_ ?_; (focus (first | omega | (simp; done) | (simp; omega))); intro hz3 hd3 hg3)); (try (refine bz hK g ?_ ?_; (focus (first | omega | (simp; done) | (simp; omega))); intro hzg hdg hgg)); (try (refine bz hK g1 ?_ ?_; (focus (first | omega | (simp; done) | (simp; omega))); intro hzg hdg hgg)); (try (refine bz hK g2 ?_ ?_; (focus (first | omega | (simp; done) | (simp; omega))); intro hzg hdg hgg)); (try (refine bz hK wd.heap.size ?_ ?_; (focus (first | omega | (simp; done) | (simp; omega))); intro hzwd hdwd hgwd)); (try (refine bz hK wa.heap.size ?_ ?_; (focus (first | omega | (simp; done) | (simp; omega))); intro hzwa hdwa hgwa)); (try (refine bz hK wb.heap.size ?_ ?_; (focus (first | omega | (simp; done) | (simp; omega))); intro hzwb hdwb hgwb))))
        go_ret
        exact ⟨rfl, by go_grown⟩

end Go.Proofs.Ytfemlfmkomkkbaa
