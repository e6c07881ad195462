/- Contracts: a group is copied by the reference. -/
import Derived.Test.YtiecjkacbpbghaaEm
namespace Go.Proofs.Ytiecjkacbpbghaa
set_option linter.unusedVariables false
open Go.RowKit

/-- A group of the call's own: its two slices lie in two blocks of the call's own. -/
def OwnG (id ck : Int) (P D : List Ent) (B : Nat) (w' : World) (v : Value) : Prop :=
  ∃ b1 c1 b2 c2 : Nat, v = .agg #[.int .i64 id, .int .i64 ck, .slice (some ⟨b1, 0, none⟩) P.length c1, .slice (some ⟨b2, 0, none⟩) D.length c2] ∧ b1 ≠ b2 ∧
    EV w' B (.slice (some ⟨b1, 0, none⟩) P.length c1) P.length P ∧ EV w' B (.slice (some ⟨b2, 0, none⟩) D.length c2) D.length D

set_option maxHeartbeats 2000000 in
theorem l11Copy_c (id ck : Int) (A1 A2 : Option Addr) (n1 n2 c1 c2 : Nat) (P D : List Ent) (w : World) (e1 : P.length = n1) (e2 : D.length = n2) (hn1 : P.length ≤ 1048576) (hn2 : D.length ≤ 1048576) (z1 : A1 = none → P = [] ∧ c1 = 0) (z2 : A2 = none → D = [] ∧ c2 = 0) (hr1 : RE w A1 P) (hr2 : RE w A2 D) :
    Calls Try.prog 54 #[.agg #[.int .i64 id, .int .i64 ck, .slice A1 n1 c1, .slice A2 n2 c2]] w fun e w' => ∃ v, e = .returned v ∧ OwnG id ck P D w.heap.size w' v ∧ Below w.heap.size w w' := by
  subst e1 e2
  obtain ⟨wx, hwx⟩ : ∃ x, (w.alloc (.cells #[.int .i64 id, .int .i64 ck, .slice A1 P.length c1, .slice A2 D.length c2] 26)).alloc (.cells #[.int .i64 0, .int .i64 0, .slice none 0 0, .slice none 0 0] 26) = x := ⟨_, rfl⟩
  have Bp : Box wx w.heap.size 26 #[.int .i64 id, .int .i64 ck, .slice A1 P.length c1, .slice A2 D.length c2] := by rw [← hwx]; exact (Box.new w _ _).alloc _
  have Br : Box wx (w.heap.size + 1) 26 #[.int .i64 0, .int .i64 0, .slice none 0 0, .slice none 0 0] := by rw [← hwx]; simpa using Box.new (w.alloc _) _ _
  have hw : Below w.heap.size w wx := by rw [← hwx]; go_grown
  have hs : wx.heap.size = w.heap.size + 1 + 1 := by rw [← hwx]; simp
  have V0 : EV (wx.alloc (.cells #[] 48)) w.heap.size (.slice (some ⟨w.heap.size + 1 + 1, 0, none⟩) 0 0) 0 [] := by
    have h := (EV.start wx).mono (B' := w.heap.size) (by omega)
    rwa [hs] at h
  have HR1 := hidI (fun W (h : Below w.heap.size w W) => RE.below hr1 h)
  have HR2 := hidI (fun W (h : Below w.heap.size w W) => RE.below hr2 h)
  have HBp := hidI (Bp.alloc (.cells #[] 48))
  have HBr := hidI (Br.alloc (.cells #[] 48))
  have hw0 : Below w.heap.size w (wx.alloc (.cells #[] 48)) := by go_grown
  have HW0 := hidI hw0
  obtain ⟨k0, k1, k2, k3⟩ := Bp.four
  have lp : w.heap.size < wx.heap.size := by omega
  have HZ1 := hidI z1
  have HZ2 := hidI z2
  clear hr1 hr2 Bp Br hw hw0 z1 z2
  go_enter Try.func54, Try.ntmps54
  go_wp2_with (first
    | (at_builtin; refine wpList_append_ED P rfl _ _ rfl rfl V0 rfl HZ1.out rfl (HR1.out _ HW0.out) (by omega) (by simp; omega) ?_; intro b1 c1' w1 q1 l1 V1 hb1 hg1; have Bp1 := HBp.out.grown hg1 (by intro h; injection h; omega); have Br1 := HBr.out.grown hg1 (by intro h; injection h; omega); have hw1 := hidI (HW0.out.trans hb1); have HBp1 := hidI Bp1; have HBr1 := hidI Br1; have lp1 := Bp1.lt; have lr1 := Br1.lt; have m0 := Bp1.four.1; have m1 := Bp1.four.2.1; have m2 := Bp1.four.2.2.1; have m3 := Bp1.four.2.2.2; have f2 := Bp1.frozen 2; clear Bp1 Br1; have hws := hw1.out.size; simp only [Nat.zero_add, List.nil_append] at V1; have HV2 := hidI (EV.startAt (w := w1.setCell ⟨w.heap.size, 2, none⟩ (.slice (some ⟨b1, 0, none⟩) P.length c1')) (B := w.heap.size) (n := w1.heap.size) (by simp) hws); have hw2 := hidI ((hw1.out.setCell (p := ⟨w.heap.size, 2, none⟩) (by simp) (.slice (some ⟨b1, 0, none⟩) P.length c1')).alloc (by simp; omega) (.cells #[] 48)); have HV1 := hidI V1; clear V1)
    | (at_builtin; refine wpList_append_ED D rfl _ _ rfl rfl HV2.out rfl HZ2.out rfl (HR2.out _ hw2.out) (by omega) (by simp; omega) ?_; intro b2 c2' w2 q2 l2 V2 hb2 hg2; have Bp2 := ((HBp1.out.set 2 (.slice (some ⟨b1, 0, none⟩) P.length c1')).alloc (.cells #[] 48)).grown hg2 (by intro h; injection h; omega); have Br2 := ((HBr1.out.far (p := ⟨w.heap.size, 2, none⟩) (by simp) (.slice (some ⟨b1, 0, none⟩) P.length c1')).alloc (.cells #[] 48)).grown hg2 (by intro h; injection h; omega); have hw3 := hidI (hw2.out.trans hb2); have lp2 := Bp2.lt; have n0 := Bp2.cell 0; have n1 := Bp2.cell 1; have n2 := Bp2.cell 2; have n3 := Bp2.cell 3; have f3 := Bp2.frozen 3; simp at n0 n1 n2 n3; obtain ⟨y0, y1, y2, y3⟩ := Br2.four; have g0 := Br2.frozen 0; have g1 := Br2.frozen 1; have g2 := Br2.frozen 2; have g3 := Br2.frozen 3; have lr2 := Br2.lt; simp only [Nat.zero_add, List.nil_append] at V2; have HV22 := hidI V2; clear V2 Bp2 Br2))
  have V1 : EV w2 w.heap.size (.slice (some ⟨b1, 0, none⟩) P.length c1') P.length P :=
    EV.offb ((HV1.out.far (p := ⟨w.heap.size, 2, none⟩) (by simp; rcases q1 with h | h <;> ((try simp at h); omega)) _).alloc _) hg2 (by intro h; injection h; omega)
  have V2 := HV22.out
  have j1 : w.heap.size + 1 < b1 := by rcases q1 with h | h <;> ((try simp at h); omega)
  have j2 : b1 < b2 := by rcases q2 with h | h <;> ((try simp at h); omega)
  have hw := hw3.out
  refine bodyPost_ret (v := .agg #[.int .i64 id, .int .i64 ck, .slice (some ⟨b1, 0, none⟩) P.length c1', .slice (some ⟨b2, 0, none⟩) D.length c2']) (by simp (maxDischargeDepth := 8) [results, Try.results54, go_sem, *]) rfl ⟨_, rfl, ⟨b1, c1', b2, c2', rfl, by omega, ?_, ?_⟩, ?_⟩
  · repeat (refine EV.far ?_ (by simp; omega) _)
    exact V1
  · repeat (refine EV.far ?_ (by simp; omega) _)
    exact V2
  · go_grown
end Go.Proofs.Ytiecjkacbpbghaa
