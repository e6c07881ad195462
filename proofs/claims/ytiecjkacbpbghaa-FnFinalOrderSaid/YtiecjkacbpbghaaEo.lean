/- Contracts: a stamp is proposed by the reference. -/
import Derived.Test.YtiecjkacbpbghaaEn
import Derived.BigRegion
namespace Go.Proofs.Ytiecjkacbpbghaa
set_option linter.unusedVariables false
open Go.RowKit

/-- What a proposal hands back: a group of the call's own, hardly greater; a stamp; a bool. -/
def Prop_ (id ck : Int) (P D : List Ent) (w : World) (e : Ending) (w' : World) : Prop :=
  ∃ (v : Value) (x y ck' : Int) (ok : Bool) (P' : List Ent), e = .returned (.tuple #[v, .agg #[.int .i64 x, .int .i64 y], .bool ok]) ∧ OwnG id ck' P' D w.heap.size w' v ∧ ck ≤ ck' ∧ ck' ≤ ck + 1 ∧ P'.length ≤ P.length + 1 ∧ Below w.heap.size w w'

set_option maxHeartbeats 20000000 in
theorem l11Propose_c (id ck m : Int) (A1 A2 : Option Addr) (c1 c2 : Nat) (P D : List Ent) (w : World) (hck : 0 ≤ ck) (hck' : ck ≤ 1000000) (hn1 : P.length ≤ 1000) (hn2 : D.length ≤ 1000) (z1 : A1 = none → P = [] ∧ c1 = 0) (z2 : A2 = none → D = [] ∧ c2 = 0) (hr1 : RE w A1 P) (hr2 : RE w A2 D) :
    Calls Try.prog 49 #[.agg #[.int .i64 id, .int .i64 ck, .slice A1 P.length c1, .slice A2 D.length c2], .int .i64 m] w (Prop_ id ck P D w) := by
  obtain ⟨wx, hwx⟩ : ∃ x, ((w.alloc (.cells #[.int .i64 id, .int .i64 ck, .slice A1 P.length c1, .slice A2 D.length c2] 26)).alloc (.cells #[.int .i64 0, .int .i64 0, .slice none 0 0, .slice none 0 0] 26)).alloc (.cells #[.int .i64 0, .int .i64 0] 46) = x := ⟨_, rfl⟩
  have Bp : Box wx w.heap.size 26 #[.int .i64 id, .int .i64 ck, .slice A1 P.length c1, .slice A2 D.length c2] := by rw [← hwx]; exact ((Box.new w _ _).alloc _).alloc _
  have Br : Box wx (w.heap.size + 1) 26 #[.int .i64 0, .int .i64 0, .slice none 0 0, .slice none 0 0] := by rw [← hwx]; exact (by simpa using Box.new (w.alloc _) _ _ : Box _ _ _ _).alloc _
  have Bs : Box wx (w.heap.size + 1 + 1) 46 #[.int .i64 0, .int .i64 0] := by rw [← hwx]; simpa using Box.new ((w.alloc _).alloc _) _ _
  have hw : Below w.heap.size w wx := by rw [← hwx]; go_grown
  have hs : wx.heap.size = w.heap.size + 1 + 1 + 1 := by rw [← hwx]; simp
  have CC := hidI (l11Copy_c id ck A1 A2 P.length D.length c1 c2 P D wx rfl rfl (by omega) (by omega) z1 z2 (RE.below hr1 hw) (RE.below hr2 hw))
  have HR1 := hidI (fun W (h : Below w.heap.size w W) => RE.below hr1 h)
  have HR2 := hidI (fun W (h : Below w.heap.size w W) => RE.below hr2 h)
  have HX := hidI hwx
  clear hr1 hr2 hwx z1 z2
  go_enter Try.func49, Try.ntmps49
  go_wp2_with fail
  rw [HX.out]
  clear HX
  refine Calls.mono CC.out ?_
  rintro e w1 ⟨v, rfl, ⟨b1, d1, b2, d2, rfl, hne, V1, V2⟩, hb⟩
  have hw1 := bu hb hw
  replace Bp := Bp.below hb
  replace Br := Br.below hb
  replace Bs := Bs.below hb
  have q1 := V1.blk
  have q2 := V2.blk
  have hs1 := hb.size
  rw [hs] at q1 q2 hs1
  clear CC hb hw
  obtain ⟨q, hq⟩ : ∃ q, w1.heap.size = q := ⟨_, rfl⟩
  rw [hq] at q1 q2 hs1
  obtain ⟨wo, hwo⟩ : ∃ x, w1.alloc (.cells #[.int .i64 id, .int .i64 ck, .slice (some ⟨b1, 0, none⟩) P.length d1, .slice (some ⟨b2, 0, none⟩) D.length d2] 26) = x := ⟨_, rfl⟩
  have Bo : Box wo q 26 #[.int .i64 id, .int .i64 ck, .slice (some ⟨b1, 0, none⟩) P.length d1, .slice (some ⟨b2, 0, none⟩) D.length d2] := by rw [← hwo, ← hq]; exact Box.new w1 _ _
  have hso : wo.heap.size = q + 1 := by rw [← hwo, ← hq]; simp
  have hb1 : Below w1.heap.size w1 wo := by rw [← hwo]; go_grown
  have Bp' := Bp.below hb1
  replace Br := Br.below hb1
  replace Bs := Bs.below hb1
  replace V1 := V1.below hb1
  replace V2 := V2.below hb1
  have hwo2 := bt hw1 hb1
  have HY := hidI hwo
  obtain ⟨p0, p1, p2, p3⟩ := Bp.four
  have lp := Bp.lt
  have HQ := hidI hq
  rw [hs] at V1 V2
  have HV1 := hidI V1
  have HV2 := hidI V2
  clear hwo hb1 hw1 hq V1 V2
  go_wp2_with fail
  simp only [HQ.out] at HY lp ⊢
  rw [HY.out]
  clear HY p0 p1 p2 p3 Bp
  obtain ⟨p0, p1, p2, p3⟩ := Bp'.four
  have lp' := Bp'.lt
  obtain ⟨o0, o1, o2, o3⟩ := Bo.four
  have of1 := Bo.frozen 1
  have lo := Bo.lt
  obtain ⟨r0, r1, r2, r3⟩ := Br.four
  have lr := Br.lt
  have y0 := Br.frozen 0
  have y1 := Br.frozen 1
  have y2 := Br.frozen 2
  have y3 := Br.frozen 3
  have s0 := Bs.cell 0
  have s1 := Bs.cell 1
  have ls := Bs.lt
  have x0 := Bs.frozen 0
  have x1 := Bs.frozen 1
  simp only [List.getElem?_toArray, List.getElem?_cons_zero, List.getElem?_cons_succ] at s0 s1
  have HBo := hidI Bo
  have HBr := hidI Br
  have HBs := hidI Bs
  clear Bp' Br Bs Bo
  have C := hidI (l11Find_c A1 P P.length c1 m wo (by omega) rfl (HR1.out _ hwo2))
  by_cases hk : 0 ≤ fnd P m 0
  · obtain ⟨j, e, hj, he, hm⟩ := fnd_some (by omega) hk
    have hj' : fnd P m 0 = (j : Int) := by omega
    rw [hj'] at C
    clear hj hj' hk
    have hjl := (List.getElem?_eq_some_iff.1 he).1
    obtain ⟨b, o, rfl, hb0⟩ := Rd.base (HR1.out w (Below.refl _ _)) (by omega)
    obtain ⟨b', o', m', t, g, f, e9, hb, hx, d0, d1', d2', d3⟩ := (HR1.out _ hwo2).ent hjl
    simp only [Option.some.injEq, Addr.mk.injEq, and_true] at e9
    obtain ⟨rfl, rfl⟩ := e9
    have i1 : (0 : Int) ≤ (j : Int) := by omega
    have i2 : (j : Int) < (P.length : Int) := by omega
    refine Calls.mono C.out ?_
    rintro e w' ⟨rfl, rfl⟩
    clear C
    rcases f with _ | _
    · go_wp2_with fail
      go_region
      all_goals
        go_wp2_with fail
        refine bodyPost_ret (v := .tuple #[.agg #[.int .i64 id, .int .i64 ck, .slice (some ⟨b1, 0, none⟩) P.length d1, .slice (some ⟨b2, 0, none⟩) D.length d2], .agg #[.int .i64 t, .int .i64 g], .bool true]) (by simp (maxDischargeDepth := 8) [results, Try.results49, go_sem, *]) rfl ⟨_, _, _, ck, _, P, rfl, ⟨b1, d1, b2, d2, rfl, hne, ?_, ?_⟩, by omega, by omega, by omega, by go_grown⟩
        · refine EV.mono (B := w.heap.size + 1 + 1 + 1) ?_ (by omega)
          repeat (first | with_reducible refine EV.drew ?_ | (with_reducible refine EV.far ?_ (by simp; omega) _))
          with_reducible exact HV1.out
        · refine EV.mono (B := w.heap.size + 1 + 1 + 1) ?_ (by omega)
          repeat (first | with_reducible refine EV.drew ?_ | (with_reducible refine EV.far ?_ (by simp; omega) _))
          with_reducible exact HV2.out
    · go_wp2_with fail
      refine bodyPost_ret (v := .tuple #[.agg #[.int .i64 id, .int .i64 ck, .slice (some ⟨b1, 0, none⟩) P.length d1, .slice (some ⟨b2, 0, none⟩) D.length d2], .agg #[.int .i64 0, .int .i64 0], .bool false]) (by simp (maxDischargeDepth := 8) [results, Try.results49, go_sem, *]) rfl ⟨_, _, _, ck, _, P, rfl, ⟨b1, d1, b2, d2, rfl, hne, ?_, ?_⟩, by omega, by omega, by omega, by go_grown⟩
      · refine EV.mono (B := w.heap.size + 1 + 1 + 1) ?_ (by omega)
        repeat (first | with_reducible refine EV.drew ?_ | (with_reducible refine EV.far ?_ (by simp; omega) _))
        with_reducible exact HV1.out
      · refine EV.mono (B := w.heap.size + 1 + 1 + 1) ?_ (by omega)
        repeat (first | with_reducible refine EV.drew ?_ | (with_reducible refine EV.far ?_ (by simp; omega) _))
        with_reducible exact HV2.out
  · have hk' : fnd P m 0 = -1 := by have := fnd_ge (es := P) (m := m) (k := 0) (by omega); omega
    rw [hk'] at C
    clear hk hk'
    refine Calls.mono C.out ?_
    rintro e w' ⟨rfl, rfl⟩
    clear C
    go_wp2_with fail
    have C2 := hidI (l11Find_c A2 D D.length c2 m wo (by omega) rfl (HR2.out _ hwo2))
    by_cases hk : 0 ≤ fnd D m 0
    · refine Calls.mono C2.out ?_
      rintro e w' ⟨rfl, rfl⟩
      have hd : decide (0 ≤ fnd D m 0) = true := decide_eq_true hk
      go_wp2_with fail
      refine bodyPost_ret (v := .tuple #[.agg #[.int .i64 id, .int .i64 ck, .slice (some ⟨b1, 0, none⟩) P.length d1, .slice (some ⟨b2, 0, none⟩) D.length d2], .agg #[.int .i64 0, .int .i64 0], .bool false]) (by simp (maxDischargeDepth := 8) [results, Try.results49, go_sem, *]) rfl ⟨_, _, _, ck, _, P, rfl, ⟨b1, d1, b2, d2, rfl, hne, ?_, ?_⟩, by omega, by omega, by omega, by go_grown⟩
      · refine EV.mono (B := w.heap.size + 1 + 1 + 1) ?_ (by omega)
        repeat (first | with_reducible refine EV.drew ?_ | (with_reducible refine EV.far ?_ (by simp; omega) _))
        with_reducible exact HV1.out
      · refine EV.mono (B := w.heap.size + 1 + 1 + 1) ?_ (by omega)
        repeat (first | with_reducible refine EV.drew ?_ | (with_reducible refine EV.far ?_ (by simp; omega) _))
        with_reducible exact HV2.out
    · refine Calls.mono C2.out ?_
      rintro e w' ⟨rfl, rfl⟩
      have hd : decide (0 ≤ fnd D m 0) = false := decide_eq_false hk
      by_cases h9 : 999 ≤ ck
      · go_wp2_with fail
        refine bodyPost_ret (v := .tuple #[.agg #[.int .i64 id, .int .i64 ck, .slice (some ⟨b1, 0, none⟩) P.length d1, .slice (some ⟨b2, 0, none⟩) D.length d2], .agg #[.int .i64 0, .int .i64 0], .bool false]) (by simp (maxDischargeDepth := 8) [results, Try.results49, go_sem, *]) rfl ⟨_, _, _, ck, _, P, rfl, ⟨b1, d1, b2, d2, rfl, hne, ?_, ?_⟩, by omega, by omega, by omega, by go_grown⟩
        · refine EV.mono (B := w.heap.size + 1 + 1 + 1) ?_ (by omega)
          repeat (first | with_reducible refine EV.drew ?_ | (with_reducible refine EV.far ?_ (by simp; omega) _))
          with_reducible exact HV1.out
        · refine EV.mono (B := w.heap.size + 1 + 1 + 1) ?_ (by omega)
          repeat (first | with_reducible refine EV.drew ?_ | (with_reducible refine EV.far ?_ (by simp; omega) _))
          with_reducible exact HV2.out
      · obtain ⟨W, hW⟩ : ∃ W, ((wo.setCell ⟨q, 1, none⟩ (.int .i64 (ck + 1))).alloc (.cells #[.int .i64 (ck + 1), .int .i64 id] 46)).alloc (.cells #[.int .i64 m, .int .i64 (ck + 1), .int .i64 id, .bool false] 48) = W := ⟨_, rfl⟩
        have E1 : EV W (w.heap.size + 1 + 1 + 1) (.slice (some ⟨b1, 0, none⟩) P.length d1) P.length P := by rw [← hW]; exact ((HV1.out.far (p := ⟨q, 1, none⟩) (by simp; omega) _).alloc _).alloc _
        have E2 : EV W (w.heap.size + 1 + 1 + 1) (.slice (some ⟨b2, 0, none⟩) D.length d2) D.length D := by rw [← hW]; exact ((HV2.out.far (p := ⟨q, 1, none⟩) (by simp; omega) _).alloc _).alloc _
        have Go := ((HBo.out.set 1 (.int .i64 (ck + 1))).alloc (.cells #[.int .i64 (ck + 1), .int .i64 id] 46)).alloc (.cells #[.int .i64 m, .int .i64 (ck + 1), .int .i64 id, .bool false] 48)
        have Gr := ((HBr.out.far (p := ⟨q, 1, none⟩) (by simp; omega) (.int .i64 (ck + 1))).alloc (.cells #[.int .i64 (ck + 1), .int .i64 id] 46)).alloc (.cells #[.int .i64 m, .int .i64 (ck + 1), .int .i64 id, .bool false] 48)
        have Gs := ((HBs.out.far (p := ⟨q, 1, none⟩) (by simp; omega) (.int .i64 (ck + 1))).alloc (.cells #[.int .i64 (ck + 1), .int .i64 id] 46)).alloc (.cells #[.int .i64 m, .int .i64 (ck + 1), .int .i64 id, .bool false] 48)
        have Gt := (Box.new (wo.setCell ⟨q, 1, none⟩ (.int .i64 (ck + 1))) 46 #[.int .i64 (ck + 1), .int .i64 id]).alloc (.cells #[.int .i64 m, .int .i64 (ck + 1), .int .i64 id, .bool false] 48)
        have hN := Rd.box (cs := [.int .i64 m, .int .i64 (ck + 1), .int .i64 id, .bool false]) (Box.new ((wo.setCell ⟨q, 1, none⟩ (.int .i64 (ck + 1))).alloc (.cells #[.int .i64 (ck + 1), .int .i64 id] 46)) 48 #[.int .i64 m, .int .i64 (ck + 1), .int .i64 id, .bool false])
        have hW2 : Below w.heap.size w W := by rw [← hW]; go_grown
        have hWs : W.heap.size = q + 1 + 1 + 1 := by rw [← hW]; simp [hso]
        rw [World.size_setCell, hso] at Gt
        simp only [World.size_alloc, World.size_setCell, hso] at hN
        rw [hW] at Go Gr Gs Gt hN
        have H1 := hidI E1
        have H2 := hidI E2
        have H3 := hidI Go
        have H4 := hidI Gr
        have H5 := hidI Gs
        have H6 := hidI Gt
        have H7 := hidI hN
        have H8 := hidI hW
        clear E1 E2 Go Gr Gs Gt hN hW
        go_wp2_with (at_builtin; rw [H8.out]; refine wpList_append_ED [⟨m, ck + 1, id, false⟩] rfl _ _ rfl rfl H1.out rfl (fun e => by cases e) rfl H7.out (by omega) (by omega) ?_; intro b3 c3 w5 q5 l5 V5 hb5 hg5; have Go := H3.out.grown hg5 (by intro h; injection h; omega); have Gr := H4.out.grown hg5 (by intro h; injection h; omega); have Gs := H5.out.grown hg5 (by intro h; injection h; omega); have Gt := H6.out.grown hg5 (by intro h; injection h; omega); have g0 := Go.cell 0; have g1 := Go.cell 1; have g2 := Go.cell 2; have g3 := Go.cell 3; have gl := Go.lt; have gf := Go.frozen 2; simp at g0 g1 g2 g3; obtain ⟨a0, a1, a2, a3⟩ := Gr.four; have al := Gr.lt; have af0 := Gr.frozen 0; have af1 := Gr.frozen 1; have af2 := Gr.frozen 2; have af3 := Gr.frozen 3; have t0 := Gs.cell 0; have t1 := Gs.cell 1; have tl := Gs.lt; have tf0 := Gs.frozen 0; have tf1 := Gs.frozen 1; have u0 := Gt.cell 0; have u1 := Gt.cell 1; have ul := Gt.lt; simp only [List.getElem?_toArray, List.getElem?_cons_zero, List.getElem?_cons_succ] at t0 t1 u0 u1)
        go_region
        have hl : (P ++ [(⟨m, ck + 1, id, false⟩ : Ent)]).length = P.length + 1 := by simp
        have E2 := H2.out.offb hg5 (by intro h; injection h; omega)
        have jb3 : w.heap.size + 1 + 1 < b3 := by have := V5.blk; omega
        have jb2 : w.heap.size + 1 + 1 < b2 := by omega
        have j32 : b3 ≠ b2 := by rcases q5 with h | h <;> omega
        have j3q : b3 ≠ q := by rcases q5 with h | h <;> omega
        have hw5 : Below w.heap.size w w5 := hW2.trans (hb5.mono (by omega))
        have HV5 := hidI V5
        have HE2 := hidI E2
        clear V5 E2
        all_goals
          go_wp2_with fail
          refine bodyPost_ret (v := .tuple #[.agg #[.int .i64 id, .int .i64 (ck + 1), .slice (some ⟨b3, 0, none⟩) (P.length + 1) c3, .slice (some ⟨b2, 0, none⟩) D.length d2], .agg #[.int .i64 (ck + 1), .int .i64 id], .bool true]) (by simp (maxDischargeDepth := 8) [results, Try.results49, go_sem, *]) rfl ⟨_, _, _, ck + 1, _, P ++ [⟨m, ck + 1, id, false⟩], rfl, ⟨b3, c3, b2, d2, by rw [hl], j32, ?_, ?_⟩, by omega, by omega, by omega, by go_grown⟩
          · rw [hl]
            refine EV.mono (B := w.heap.size + 1 + 1 + 1) ?_ (by omega)
            repeat (first | with_reducible refine EV.drew ?_ | (with_reducible refine EV.far ?_ (by simp; omega) _))
            with_reducible exact HV5.out
          · refine EV.mono (B := w.heap.size + 1 + 1 + 1) ?_ (by omega)
            repeat (first | with_reducible refine EV.drew ?_ | (with_reducible refine EV.far ?_ (by simp; omega) _))
            with_reducible exact HE2.out
end Go.Proofs.Ytiecjkacbpbghaa
