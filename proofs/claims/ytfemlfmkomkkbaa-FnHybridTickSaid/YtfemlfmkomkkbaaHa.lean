/- The laws of hybrid times FnHybridLater, FnHybridLeast, FnHybridTick: their calls hand back true, whatever the code. -/
import Derived.Test.YtfemlfmkomkkbaaCc
import Derived.Test.YtfemlfmkomkkbaaDraw3
import Derived.Test.YtfemlfmkomkkbaaPlainH
--worlds
namespace Go.Proofs.Ytfemlfmkomkkbaa
set_option linter.unusedVariables false
open Go.RowKit

/-- What a tick hands back, in short. -/
theorem tick_short (a b p : Int) : ∃ (ok : Bool) (X Y : Int), pv (tickOk a b p) (tx a p) (ty a b p) = .tuple #[.agg #[.int .i64 X, .int .i64 Y], .bool ok] ∧
    (ok = true → 0 ≤ a ∧ a ≤ 999 ∧ 0 ≤ b ∧ b ≤ 99 ∧ 0 ≤ p ∧ p ≤ 999 ∧ 0 ≤ X ∧ X ≤ 999 ∧ 0 ≤ Y ∧ Y ≤ 99 ∧ hlB a b X Y = true ∧ ((a < p ∧ X = p ∧ Y = 0) ∨ (p ≤ a ∧ X = a ∧ Y = b + 1))) := by
  refine ⟨tickOk a b p, pw (tickOk a b p) (tx a p), pw (tickOk a b p) (ty a b p), rfl, fun h => ?_⟩
  have hl := tick_less h
  obtain ⟨t1, t2, t3, t4, t5, t6, t7⟩ := tick_bounds h
  obtain ⟨k1, k2, k3, k4⟩ := hvB_iff.1 t7
  rw [pw_true h, pw_true h]
  refine ⟨t1, t2, t3, t4, t5, t6, k1, k2, k3, k4, hl, ?_⟩
  by_cases e : a < p
  · exact .inl ⟨e, if_pos e, if_pos e⟩
  · exact .inr ⟨by omega, if_neg e, if_neg e⟩

set_option maxHeartbeats 2000000 in
theorem pLater_walk (A : Option Addr) (bs : List Int) (c : Nat) (w : World) (hm : (bs.length : Int) ≤ 9223372036854775807) (hlc : bs.length ≤ c) (hcm : (c : Int) ≤ 9223372036854775807) (hr : Rd w w.heap.size A (bs.map (Value.int .u8))) (hf : ∀ x ∈ bs, FitB x) :
    Calls Try.prog 3 #[.slice A bs.length c] w fun e w' => e = .returned (.bool true) ∧ Below w.heap.size w w' := by
  by_cases hn : (1048576 : Int) < bs.length
  · go_enter Try.func3, Try.ntmps3
    go_wp2
    go_ret
    exact ⟨rfl, by go_grown⟩
  · have hn' : (bs.length : Int) ≤ 1048576 := by omega
    go_enter Try.func3, Try.ntmps3
    go_wp2_with fail
    refine (drawHT_c A bs c _ hm hlc hcm hr hf).mono ?_
    rintro e wd ⟨a, b, p, rfl, a1, a2, b1, b2, p1, p2, hw⟩
    have CI := implTick_c a b p
    have CS := specTick_c a b p
    obtain ⟨ok, X, Y, eX, hok⟩ := tick_short a b p
    simp only [eX] at CI CS
    clear eX
    have hs := hw.size
    go_wp2_with fail
    refine (CI _).mono ?_
    rintro e wa ⟨rfl, hba⟩
    have Bh := (Box.new wd 24 #[.int .i64 a, .int .i64 b]).below hba
    have hwa : Below w.heap.size w wa := bu hba (by go_grown)
    have hsa := hwa.size
    clear hba hw
    have ch0 := Bh.cell 0
    have ch1 := Bh.cell 1
    have lh := Bh.lt
    simp only [List.getElem?_toArray, List.getElem?_cons_zero, List.getElem?_cons_succ] at ch0 ch1
    go_wp2_with fail
    refine (CS _).mono ?_
    rintro e wb ⟨rfl, hbb⟩
    have Bh2 := (Bh.alloc _).below hbb
    have Bo := (Box.new wa 24 #[.int .i64 X, .int .i64 Y]).below hbb
    have hw : Below w.heap.size w wb := bu hbb (by go_grown)
    have hsb := hw.size
    clear hbb ch0 ch1 Bh hwa
    have c0 := Bh2.cell 0
    have c1 := Bh2.cell 1
    have c2 := Bo.cell 0
    have c3 := Bo.cell 1
    have l0 := Bh2.lt
    have l1 := Bo.lt
    simp only [List.getElem?_toArray, List.getElem?_cons_zero, List.getElem?_cons_succ] at c0 c1 c2 c3
    clear Bh2 Bo CI CS
    rcases ok with _ | _
    · go_wp2_with fail
      go_ret
      exact ⟨rfl, by go_grown⟩
    · obtain ⟨a1, a2, b1, b2, p1, p2, X1, X2, Y1, Y2, hl, h⟩ := hok rfl
      clear hok
      obtain ⟨h, rfl, rfl⟩ | ⟨h, rfl, rfl⟩ := h
      · go_wp2_with fail
        go_ret
        exact ⟨rfl, by go_grown⟩
      · go_wp2_with fail
        go_ret
        exact ⟨rfl, by go_grown⟩

set_option maxHeartbeats 2000000 in
theorem pTick_walk (A : Option Addr) (bs : List Int) (c : Nat) (w : World) (hm : (bs.length : Int) ≤ 9223372036854775807) (hlc : bs.length ≤ c) (hcm : (c : Int) ≤ 9223372036854775807) (hr : Rd w w.heap.size A (bs.map (Value.int .u8))) (hf : ∀ x ∈ bs, FitB x) :
    Calls Try.prog 5 #[.slice A bs.length c] w fun e w' => e = .returned (.bool true) ∧ Below w.heap.size w w' := by
  by_cases hn : (1048576 : Int) < bs.length
  · go_enter Try.func5, Try.ntmps5
    go_wp2
    go_ret
    exact ⟨rfl, by go_grown⟩
  · have hn' : (bs.length : Int) ≤ 1048576 := by omega
    go_enter Try.func5, Try.ntmps5
    go_wp2_with fail
    refine (drawHT_c A bs c _ hm hlc hcm hr hf).mono ?_
    rintro e wd ⟨a, b, p, rfl, a1, a2, b1, b2, p1, p2, hw⟩
    have CI := implTick_c a b p
    have CS := specTick_c a b p
    obtain ⟨ok, X, Y, eX, hok⟩ := tick_short a b p
    simp only [eX] at CI CS
    clear eX
    have hs := hw.size
    go_wp2_with fail
    refine (CI _).mono ?_
    rintro e wa ⟨rfl, hba⟩
    have Bh := (Box.new wd 24 #[.int .i64 a, .int .i64 b]).below hba
    have hwa : Below w.heap.size w wa := bu hba (by go_grown)
    have hsa := hwa.size
    clear hba hw
    have ch0 := Bh.cell 0
    have ch1 := Bh.cell 1
    have lh := Bh.lt
    simp only [List.getElem?_toArray, List.getElem?_cons_zero, List.getElem?_cons_succ] at ch0 ch1
    go_wp2_with fail
    refine (CS _).mono ?_
    rintro e wb ⟨rfl, hbb⟩
    have Bh2 := (Bh.alloc _).below hbb
    have Bo := (Box.new wa 24 #[.int .i64 X, .int .i64 Y]).below hbb
    have hw : Below w.heap.size w wb := bu hbb (by go_grown)
    have hsb := hw.size
    clear hbb ch0 ch1 Bh hwa
    have c0 := Bh2.cell 0
    have c1 := Bh2.cell 1
    have c2 := Bo.cell 0
    have c3 := Bo.cell 1
    have l0 := Bh2.lt
    have l1 := Bo.lt
    simp only [List.getElem?_toArray, List.getElem?_cons_zero, List.getElem?_cons_succ] at c0 c1 c2 c3
    clear Bh2 Bo CI CS
    rcases ok with _ | _
    · go_wp2_with fail
      go_ret
      exact ⟨rfl, by go_grown⟩
    · obtain ⟨a1, a2, b1, b2, p1, p2, X1, X2, Y1, Y2, hl, h⟩ := hok rfl
      clear hok
      obtain ⟨h, rfl, rfl⟩ | ⟨h, rfl, rfl⟩ := h
      · go_wp2_with ((go_at_call 11; refine (implHL_c _ _ _ _ _).mono ?_; rintro e w1 ⟨rfl, hb⟩; have hK := bt (by first | with_reducible assumption | exact Below.refl _ _) hb; have hc := bcell hK; have hf := bfrozen hK; have hs := bsize hK; clear hb; (try simp only [World.size_drew, World.cell?_drew, World.frozen?_drew] at hc hf hs); (try (refine bw (w := w) hK ?_ ?_; (focus (first | exact HW.out | (have hq := HW.out; go_grown; done) | (go_grown; done))); intro hw hwz; have hK := hK)); (try (refine bz hK (w.heap.size) ?_ ?_; (focus (first | omega | (simp; done) | (simp; omega))); intro hz0 hd0 hg0)); (try (refine bz hK (w.heap.size + 1) ?_ ?_; (focus (first | omega | (simp; done) | (simp; omega))); intro hz1 hd1 hg1)); (try (refine bz hK (w.heap.size + 2) ?_ ?_; (focus (first | omega | (simp; done) | (simp; omega))); intro hz2 hd2 hg2)); (try (refine bz hK (w.heap.size + 3) ?_ ?_; (focus (first | omega | (simp; done) | (simp; omega))); intro hz3 hd3 hg3)); (try (refine bz hK g ?_ ?_; (focus (first | omega | (simp; done) | (simp; omega))); intro hzg hdg hgg)); (try (refine bz hK g1 ?_ ?_; (focus (first | omega | (simp; done) | (simp; omega))); intro hzg hdg hgg)); (try (refine bz hK g2 ?_ ?_; (focus (first | omega | (simp; done) | (simp; omega))); intro hzg hdg hgg)); (try (refine bz hK wd.heap.size ?_ ?_; (focus (first | omega | (simp; done) | (simp; omega))); intro hzwd hdwd hgwd)); (try (refine bz hK wa.heap.size ?_ ?_; (focus (first | omega | (simp; done) | (simp; omega))); intro hzwa hdwa hgwa)); (try (refine bz hK wb.heap.size ?_ ?_; (focus (first | omega | (simp; done) | (simp; omega))); intro hzwb hdwb hgwb))))
        go_ret
        exact ⟨rfl, by go_grown⟩
      · go_wp2_with ((go_at_call 11; refine (implHL_c _ _ _ _ _).mono ?_; rintro e w1 ⟨rfl, hb⟩; have hK := bt (by first | with_reducible assumption | exact Below.refl _ _) hb; have hc := bcell hK; have hf := bfrozen hK; have hs := bsize hK; clear hb; (try simp only [World.size_drew, World.cell?_drew, World.frozen?_drew] at hc hf hs); (try (refine bw (w := w) hK ?_ ?_; (focus (first | exact HW.out | (have hq := HW.out; go_grown; done) | (go_grown; done))); intro hw hwz; have hK := hK)); (try (refine bz hK (w.heap.size) ?_ ?_; (focus (first | omega | (simp; done) | (simp; omega))); intro hz0 hd0 hg0)); (try (refine bz hK (w.heap.size + 1) ?_ ?_; (focus (first | omega | (simp; done) | (simp; omega))); intro hz1 hd1 hg1)); (try (refine bz hK (w.heap.size + 2) ?_ ?_; (focus (first | omega | (simp; done) | (simp; omega))); intro hz2 hd2 hg2)); (try (refine bz hK (w.heap.size + 3) ?_ ?_; (focus (first | omega | (simp; done) | (simp; omega))); intro hz3 hd3 hg3)); (try (refine bz hK g ?_ ?_; (focus (first | omega | (simp; done) | (simp; omega))); intro hzg hdg hgg)); (try (refine bz hK g1 ?_ ?_; (focus (first | omega | (simp; done) | (simp; omega))); intro hzg hdg hgg)); (try (refine bz hK g2 ?_ ?_; (focus (first | omega | (simp; done) | (simp; omega))); intro hzg hdg hgg)); (try (refine bz hK wd.heap.size ?_ ?_; (focus (first | omega | (simp; done) | (simp; omega))); intro hzwd hdwd hgwd)); (try (refine bz hK wa.heap.size ?_ ?_; (focus (first | omega | (simp; done) | (simp; omega))); intro hzwa hdwa hgwa)); (try (refine bz hK wb.heap.size ?_ ?_; (focus (first | omega | (simp; done) | (simp; omega))); intro hzwb hdwb hgwb))))
        go_ret
        exact ⟨rfl, by go_grown⟩

set_option maxHeartbeats 2000000 in
theorem pLeast_walk (A : Option Addr) (bs : List Int) (c : Nat) (w : World) (hm : (bs.length : Int) ≤ 9223372036854775807) (hlc : bs.length ≤ c) (hcm : (c : Int) ≤ 9223372036854775807) (hr : Rd w w.heap.size A (bs.map (Value.int .u8))) (hf : ∀ x ∈ bs, FitB x) :
    Calls Try.prog 4 #[.slice A bs.length c] w fun e w' => e = .returned (.bool true) ∧ Below w.heap.size w w' := by
  by_cases hn : (1048576 : Int) < bs.length
  · go_enter Try.func4, Try.ntmps4
    go_wp2
    go_ret
    exact ⟨rfl, by go_grown⟩
  · have hn' : (bs.length : Int) ≤ 1048576 := by omega
    go_enter Try.func4, Try.ntmps4
    go_wp2_with fail
    refine (drawHT_c A bs c _ hm hlc hcm hr hf).mono ?_
    rintro e wd ⟨a, b, p, rfl, a1, a2, b1, b2, p1, p2, hw⟩
    have CI := implTick_c a b p
    have CS := specTick_c a b p
    obtain ⟨ok, X, Y, eX, hok⟩ := tick_short a b p
    simp only [eX] at CI CS
    clear eX
    have hs := hw.size
    go_wp2_with fail
    refine (CI _).mono ?_
    rintro e wa ⟨rfl, hba⟩
    have Bh := (Box.new wd 24 #[.int .i64 a, .int .i64 b]).below hba
    have hwa : Below w.heap.size w wa := bu hba (by go_grown)
    have hsa := hwa.size
    clear hba hw
    have ch0 := Bh.cell 0
    have ch1 := Bh.cell 1
    have lh := Bh.lt
    simp only [List.getElem?_toArray, List.getElem?_cons_zero, List.getElem?_cons_succ] at ch0 ch1
    go_wp2_with fail
    refine (CS _).mono ?_
    rintro e wb ⟨rfl, hbb⟩
    have Bh2 := (Bh.alloc _).below hbb
    have Bo := (Box.new wa 24 #[.int .i64 X, .int .i64 Y]).below hbb
    have hw : Below w.heap.size w wb := bu hbb (by go_grown)
    have hsb := hw.size
    clear hbb ch0 ch1 Bh hwa
    have c0 := Bh2.cell 0
    have c1 := Bh2.cell 1
    have c2 := Bo.cell 0
    have c3 := Bo.cell 1
    have l0 := Bh2.lt
    have l1 := Bo.lt
    simp only [List.getElem?_toArray, List.getElem?_cons_zero, List.getElem?_cons_succ] at c0 c1 c2 c3
    clear Bh2 Bo CI CS
    rcases ok with _ | _
    · go_wp2_with fail
      go_ret
      exact ⟨rfl, by go_grown⟩
    · obtain ⟨a1, a2, b1, b2, p1, p2, X1, X2, Y1, Y2, hl, h⟩ := hok rfl
      clear hok
      have hi := less_irrefl a b
      obtain ⟨h, rfl, rfl⟩ | ⟨h, rfl, rfl⟩ := h
      · go_wp2_with ((go_at_call 11; refine (implHL_c _ _ _ _ _).mono ?_; rintro e w1 ⟨rfl, hb⟩; have hK := bt (by first | with_reducible assumption | exact Below.refl _ _) hb; have hc := bcell hK; have hf := bfrozen hK; have hs := bsize hK; clear hb; (try simp only [World.size_drew, World.cell?_drew, World.frozen?_drew] at hc hf hs); (try (refine bw (w := w) hK ?_ ?_; (focus (first | exact HW.out | (have hq := HW.out; go_grown; done) | (go_grown; done))); intro hw hwz; have hK := hK)); (try (refine bz hK (w.heap.size) ?_ ?_; (focus (first | omega | (simp; done) | (simp; omega))); intro hz0 hd0 hg0)); (try (refine bz hK (w.heap.size + 1) ?_ ?_; (focus (first | omega | (simp; done) | (simp; omega))); intro hz1 hd1 hg1)); (try (refine bz hK (w.heap.size + 2) ?_ ?_; (focus (first | omega | (simp; done) | (simp; omega))); intro hz2 hd2 hg2)); (try (refine bz hK (w.heap.size + 3) ?_ ?_; (focus (first | omega | (simp; done) | (simp; omega))); intro hz3 hd3 hg3)); (try (refine bz hK g ?_ ?_; (focus (first | omega | (simp; done) | (simp; omega))); intro hzg hdg hgg)); (try (refine bz hK g1 ?_ ?_; (focus (first | omega | (simp; done) | (simp; omega))); intro hzg hdg hgg)); (try (refine bz hK g2 ?_ ?_; (focus (first | omega | (simp; done) | (simp; omega))); intro hzg hdg hgg)); (try (refine bz hK wd.heap.size ?_ ?_; (focus (first | omega | (simp; done) | (simp; omega))); intro hzwd hdwd hgwd)); (try (refine bz hK wa.heap.size ?_ ?_; (focus (first | omega | (simp; done) | (simp; omega))); intro hzwa hdwa hgwa)); (try (refine bz hK wb.heap.size ?_ ?_; (focus (first | omega | (simp; done) | (simp; omega))); intro hzwb hdwb hgwb))))
        go_ret
        exact ⟨rfl, by go_grown⟩
      · have hne : b + 1 ≠ 0 := by omega
        have he : b + 1 - 1 = b := by omega
        go_wp2_with ((go_at_call 11; refine (implHL_c _ _ _ _ _).mono ?_; rintro e w1 ⟨rfl, hb⟩; have hK := bt (by first | with_reducible assumption | exact Below.refl _ _) hb; have hc := bcell hK; have hf := bfrozen hK; have hs := bsize hK; clear hb; (try simp only [World.size_drew, World.cell?_drew, World.frozen?_drew] at hc hf hs); (try (refine bw (w := w) hK ?_ ?_; (focus (first | exact HW.out | (have hq := HW.out; go_grown; done) | (go_grown; done))); intro hw hwz; have hK := hK)); (try (refine bz hK (w.heap.size) ?_ ?_; (focus (first | omega | (simp; done) | (simp; omega))); intro hz0 hd0 hg0)); (try (refine bz hK (w.heap.size + 1) ?_ ?_; (focus (first | omega | (simp; done) | (simp; omega))); intro hz1 hd1 hg1)); (try (refine bz hK (w.heap.size + 2) ?_ ?_; (focus (first | omega | (simp; done) | (simp; omega))); intro hz2 hd2 hg2)); (try (refine bz hK (w.heap.size + 3) ?_ ?_; (focus (first | omega | (simp; done) | (simp; omega))); intro hz3 hd3 hg3)); (try (refine bz hK g ?_ ?_; (focus (first | omega | (simp; done) | (simp; omega))); intro hzg hdg hgg)); (try (refine bz hK g1 ?_ ?_; (focus (first | omega | (simp; done) | (simp; omega))); intro hzg hdg hgg)); (try (refine bz hK g2 ?_ ?_; (focus (first | omega | (simp; done) | (simp; omega))); intro hzg hdg hgg)); (try (refine bz hK wd.heap.size ?_ ?_; (focus (first | omega | (simp; done) | (simp; omega))); intro hzwd hdwd hgwd)); (try (refine bz hK wa.heap.size ?_ ?_; (focus (first | omega | (simp; done) | (simp; omega))); intro hzwa hdwa hgwa)); (try (refine bz hK wb.heap.size ?_ ?_; (focus (first | omega | (simp; done) | (simp; omega))); intro hzwb hdwb hgwb))))
        go_ret
        exact ⟨rfl, by go_grown⟩

end Go.Proofs.Ytfemlfmkomkkbaa
