/- Contracts: a group is drawn. -/
import Derived.Test.YtiecjkacbpbghaaEu
import Derived.Test.YtiecjkacbpbghaaEg
import Derived.Deep.CutBlock
import Derived.Deep.RegionLaw
namespace Go.Proofs.Ytiecjkacbpbghaa
set_option linter.unusedVariables false
open Go.RowKit

/-- A drawn group. -/
def DrawnG (g : Nat) (w : World) (e : Ending) (w' : World) : Prop :=
  ∃ (id ck : Int) (b1 c1 b2 c2 : Nat) (P D : List Ent), e = .returned (.agg #[.int .i64 id, .int .i64 ck, .slice (some ⟨b1, 0, none⟩) P.length c1, .slice (some ⟨b2, 0, none⟩) D.length c2]) ∧ P.length ≤ 14 ∧ D.length ≤ 14 ∧
    EV w' w.heap.size (.slice (some ⟨b1, 0, none⟩) P.length c1) P.length P ∧ EV w' w.heap.size (.slice (some ⟨b2, 0, none⟩) D.length c2) D.length D ∧ w.grownBy w' (some g)

/-- At the head of the loop, n rounds ahead of its end. -/
def GL (w : World) (g q : Nat) (id : Int) (m n : Nat) (s : Value) (wr : World) : Prop :=
  ∃ (j : Nat) (ck : Int) (b1 c1 b2 c2 : Nat) (P D : List Ent), j + n = 14 ∧ s = .int .i64 j ∧ 0 ≤ ck ∧ ck ≤ 3 * (j : Int) ∧ P.length + D.length ≤ j ∧ GS w g q id ck (m + 1 + 5 * j) b1 c1 b2 c2 P D wr

theorem pick_g {W : World} {g M : Nat} {n : Int} (h : Rdr W g M) (hM : M ≤ 200000) (h1 : 1 ≤ n) (hn : n ≤ 1000000) :
    Calls Try.prog 25 #[.pointer (some ⟨g, 0, none⟩), .int .i64 n] W fun e w' => ∃ k : Int, e = .returned (.int .i64 k) ∧ 0 ≤ k ∧ k < n ∧ Rdr w' g (M + 1) ∧ W.grownBy w' (some g) :=
  (pick_c g M n W h (by omega) hn (by omega)).mono fun e w' ⟨k, he, h2, _, hR, hg⟩ => ⟨k, he, (h2 h1).1, (h2 h1).2, hR, hg⟩

theorem held4 {w : World} {q : Nat} {t : TypeId} {a b c d : Value} (h : Box w q t #[a, b, c, d]) :
    (w.cell? ⟨q, 0, none⟩ = some a ∧ w.cell? ⟨q, 1, none⟩ = some b ∧ w.cell? ⟨q, 2, none⟩ = some c ∧ w.cell? ⟨q, 3, none⟩ = some d) ∧ Box w q t #[a, b, c, d] := ⟨h.four, h⟩
theorem Box.far4 {w : World} {g p : Nat} {t : TypeId} {cs : Array Value} (h : Box w g t cs) (hp : g ≠ p) (a b c d : Value) :
    Box ((((w.setCell ⟨p, 0, none⟩ a).setCell ⟨p, 1, none⟩ b).setCell ⟨p, 2, none⟩ c).setCell ⟨p, 3, none⟩ d) g t cs := (((h.far (by simpa using hp) _).far (by simpa using hp) _).far (by simpa using hp) _).far (by simpa using hp) _
theorem Box.set4 {w : World} {g : Nat} {t : TypeId} {x y z u : Value} (h : Box w g t #[x, y, z, u]) (a b c d : Value) :
    Box ((((w.setCell ⟨g, 0, none⟩ a).setCell ⟨g, 1, none⟩ b).setCell ⟨g, 2, none⟩ c).setCell ⟨g, 3, none⟩ d) g t #[a, b, c, d] := by
  simpa using (((h.set 0 a).set 1 b).set 2 c).set 3 d
theorem EV.far4 {w : World} {B n c b p : Nat} {es : List Ent} (h : EV w B (.slice (some ⟨b, 0, none⟩) n c) n es) (hp : b ≠ p) (x y z u : Value) :
    EV ((((w.setCell ⟨p, 0, none⟩ x).setCell ⟨p, 1, none⟩ y).setCell ⟨p, 2, none⟩ z).setCell ⟨p, 3, none⟩ u) B (.slice (some ⟨b, 0, none⟩) n c) n es :=
  (((h.far (by simpa using hp) _).far (by simpa using hp) _).far (by simpa using hp) _).far (by simpa using hp) _
theorem GS.far {w wr : World} {g q M b1 c1 b2 c2 : Nat} {id ck : Int} {P D : List Ent} (h : GS w g q id ck M b1 c1 b2 c2 P D wr) {p : Addr} (h1 : w.heap.size + 1 ≤ p.block) (h2 : q ≠ p.block) (h3 : b1 ≠ p.block) (h4 : b2 ≠ p.block) (u : Value) :
    GS w g q id ck M b1 c1 b2 c2 P D (wr.setCell p u) := by
  obtain ⟨B, R, E1, E2, hn, hr, ho, hl⟩ := h
  exact ⟨B.far h2 _, R.far (by omega) _, E1.far h3 _, E2.far h4 _, hn, hr.far (by omega) _, only_set ho (by omega) _, hl⟩
theorem GS.far4 {w wr : World} {g q M b1 c1 b2 c2 p : Nat} {id ck : Int} {P D : List Ent} (h : GS w g q id ck M b1 c1 b2 c2 P D wr) (h1 : w.heap.size + 1 ≤ p) (h2 : q ≠ p) (h3 : b1 ≠ p) (h4 : b2 ≠ p) (x y z u : Value) :
    GS w g q id ck M b1 c1 b2 c2 P D ((((wr.setCell ⟨p, 0, none⟩ x).setCell ⟨p, 1, none⟩ y).setCell ⟨p, 2, none⟩ z).setCell ⟨p, 3, none⟩ u) :=
  (((h.far (p := ⟨p, 0, none⟩) h1 h2 h3 h4 _).far (p := ⟨p, 1, none⟩) h1 h2 h3 h4 _).far (p := ⟨p, 2, none⟩) h1 h2 h3 h4 _).far (p := ⟨p, 3, none⟩) h1 h2 h3 h4 _

theorem EV.frozen {w : World} {B n c b : Nat} {es : List Ent} (h : EV w B (.slice (some ⟨b, 0, none⟩) n c) n es) (k : Nat) : w.frozen? ⟨b, k, none⟩ = false := by
  rcases h.2 with ⟨hv, _⟩ | ⟨b', cap, cur, hv, hb, hg, _⟩
  · cases hv
  · simp only [Value.slice.injEq, Option.some.injEq, Addr.mk.injEq] at hv
    obtain ⟨⟨rfl, _, _⟩, _, rfl⟩ := hv
    exact Box.frozen hg k
theorem GS.setP {w wr : World} {g q M b1 c1 b2 c2 k : Nat} {id ck : Int} {P P' D : List Ent} {u : Value} (h : GS w g q id ck M b1 c1 b2 c2 P D wr) (hl : P'.length = P.length) (hs : (P.flatMap ec).set k u = P'.flatMap ec) (hk : k < P.length * 4) :
    GS w g q id ck M b1 c1 b2 c2 P' D (wr.setCell ⟨b1, k, none⟩ u) := by
  obtain ⟨B, R, E1, E2, hn, hr, ho, hg⟩ := h
  have l1 := E1.blk
  refine ⟨by rw [hl]; exact B.far (by simp; omega) _, R.far (by simp; omega) _, by rw [hl]; exact E1.setAt hl hs hk, E2.far (by simp; omega) _, hn, hr.far (by simp; omega) _, only_set ho (by simp; omega) _, hg⟩
theorem GS.setD {w wr : World} {g q M b1 c1 b2 c2 k : Nat} {id ck : Int} {P D D' : List Ent} {u : Value} (h : GS w g q id ck M b1 c1 b2 c2 P D wr) (hl : D'.length = D.length) (hs : (D.flatMap ec).set k u = D'.flatMap ec) (hk : k < D.length * 4) :
    GS w g q id ck M b1 c1 b2 c2 P D' (wr.setCell ⟨b2, k, none⟩ u) := by
  obtain ⟨B, R, E1, E2, hn, hr, ho, hg⟩ := h
  have l1 := E2.blk
  refine ⟨by rw [hl]; exact B.far (by simp; omega) _, R.far (by simp; omega) _, E1.far (by simp; omega) _, by rw [hl]; exact E2.setAt hl hs hk, hn, hr.far (by simp; omega) _, only_set ho (by simp; omega) _, hg⟩
theorem GS.stampP {w wr : World} {g q M b1 c1 b2 c2 k : Nat} {id ck : Int} {P D : List Ent} (h : GS w g q id ck M b1 c1 b2 c2 P D wr) (hk : k < P.length) (x y : Int) :
    ∃ P' : List Ent, P'.length = P.length ∧ GS w g q id ck M b1 c1 b2 c2 P' D ((wr.setCell ⟨b1, k * 4 + 1, none⟩ (.int .i64 x)).setCell ⟨b1, k * 4 + 2, none⟩ (.int .i64 y)) := by
  have s1 := (flatE_set P (List.getElem?_eq_getElem hk) 0 x 0 false).2.1
  have h1 := h.setP (by simp) s1 (by omega)
  have hk' : k < (P.set k ⟨P[k].m, x, P[k].g, P[k].f⟩).length := by simpa using hk
  have s2 := (flatE_set _ (List.getElem?_eq_getElem hk') 0 0 y false).2.2.1
  exact ⟨_, by simp, h1.setP (by simp) s2 (by omega)⟩
theorem GS.finalP {w wr : World} {g q M b1 c1 b2 c2 k : Nat} {id ck : Int} {P D : List Ent} (h : GS w g q id ck M b1 c1 b2 c2 P D wr) (hk : k < P.length) (x : Bool) :
    ∃ P' : List Ent, P'.length = P.length ∧ GS w g q id ck M b1 c1 b2 c2 P' D (wr.setCell ⟨b1, k * 4 + 3, none⟩ (.bool x)) :=
  ⟨_, by simp, h.setP (by simp) (flatE_set P (List.getElem?_eq_getElem hk) 0 0 0 x).2.2.2 (by omega)⟩
theorem GS.msgD {w wr : World} {g q M b1 c1 b2 c2 k : Nat} {id ck : Int} {P D : List Ent} (h : GS w g q id ck M b1 c1 b2 c2 P D wr) (hk : k < D.length) (x : Int) :
    ∃ D' : List Ent, D'.length = D.length ∧ GS w g q id ck M b1 c1 b2 c2 P D' (wr.setCell ⟨b2, k * 4, none⟩ (.int .i64 x)) :=
  ⟨_, by simp, h.setD (by simp) (flatE_set D (List.getElem?_eq_getElem hk) x 0 0 false).1 (by omega)⟩

set_option maxRecDepth 100000 in
set_option maxHeartbeats 40000000 in
theorem l91Group_c (HF : Hid FinalC) (g m : Nat) (w : World) (hr : Rdr w g m) (hm : m ≤ 100000) : Calls Try.prog 42 #[.pointer (some ⟨g, 0, none⟩)] w (DrawnG g w) := by
  have lg := hr.lt
  go_enter Try.func42, Try.ntmps42
  go_wp2_with fail
  refine (pick_g (M := m) (n := 5) (hr.alloc _) (by omega) (by omega) (by omega)).mono ?_
  rintro e w1 ⟨k1, rfl, ka, kb, hR1, hg1⟩
  have Br := (Box.new w 26 #[.int .i64 0, .int .i64 0, .slice none 0 0, .slice none 0 0]).grown hg1 (by intro h; injection h; omega)
  have ho1 : w.grownBy w1 (some g) := only_trans (only_alloc (World.grownBy.refl _ _) _) hg1
  have hs1 : w.heap.size + 1 ≤ w1.heap.size := by have := hg1.size; simpa using this
  have hid : inB k1 0 4 = true := decide_eq_true (by omega)
  have HBr := hidI Br
  have HR1 := hidI hR1
  have HO1 := hidI ho1
  clear Br hg1 hr hR1 ho1
  go_wp2_with fail
  refine (specNewT_c k1 hid w1).mono ?_
  rintro e w2 ⟨rfl, E1, E2, hb⟩
  obtain ⟨q, hq⟩ : ∃ q, w2.heap.size = q := ⟨_, rfl⟩
  have hs2 : w1.heap.size ≤ q := by have := hb.size; omega
  have l1 := E1.blk
  have l2 := E2.blk
  rw [hq] at l1 l2
  obtain ⟨wx, hwx⟩ : ∃ x, w2.alloc (.cells #[.int .i64 k1, .int .i64 0, .slice (some ⟨w1.heap.size + 1, 0, none⟩) 0 0, .slice (some ⟨w1.heap.size + 2, 0, none⟩) 0 0] 26) = x := ⟨_, rfl⟩
  have HS : Hid (GS w g q k1 0 (m + 1 + 5 * 0) (w1.heap.size + 1) 0 (w1.heap.size + 2) 0 [] [] wx) := by
    have hb2 : Below w1.heap.size w1 wx := by rw [← hwx]; exact hb.alloc hb.size _
    refine ⟨?_, HBr.out.below hb2, ?_, ?_, ⟨by omega, by omega, by omega, by omega⟩, HR1.out.below hb2, only_trans HO1.out (only_below hb2), lg⟩
    · rw [← hwx, ← hq]
      exact Box.new w2 _ _
    · rw [← hwx]
      exact (E1.alloc _).mono (by omega)
    · rw [← hwx]
      exact (E2.alloc _).mono (by omega)
  have HX := hidI hwx
  have HQ := hidI hq
  have HP := hidI (show Below w1.heap.size w1 w2 from hb)
  clear E1 E2 hb hwx hq HBr HR1 HO1
  go_upto_block 0 with fail
  rw [HX.out, HQ.out]
  clear HX HQ HP hid
  go_cut [5] from 6 to 122 (fun s5 wx => ∃ (ck : Int) (b1 c1 b2 c2 : Nat) (P D : List Ent), P.length ≤ 14 ∧ D.length ≤ 14 ∧ GS w g q k1 ck (m + 80) b1 c1 b2 c2 P D wx)
  case first =>
    go_wp2_with fail
    go_loopg [5] 14 (fun n s wr => GL w g q k1 m n s wr)
    case atStart => exact ⟨0, 0, _, _, _, _, [], [], by omega, rfl, by omega, by omega, by simp, HS.out⟩
    case round =>
      obtain ⟨j, ck, b1, c1, b2, c2, P, D, hj, rfl, h0, h1, hl, hS⟩ := hrel
      have HS := hidI hS
      clear hS
      go_wp2_with fail
      refine (pick_g (M := m + 1 + 5 * j) (n := 14) HS.out.rdr (by omega) (by omega) (by omega)).mono ?_
      rintro e w3 ⟨k2, rfl, k2a, k2b, hR, hg⟩
      have HS := hidI (HS.out.pick hR hg)
      clear hR hg
      by_cases hlt : (j : Int) < k2
      rotate_left 1
      · have hd : decide ((j : Int) < k2) = false := decide_eq_false hlt
        go_wp2_with fail
        go_meet
        exact ⟨ck, b1, c1, b2, c2, P, D, by omega, by omega, HS.out.more (by omega)⟩
      have hd : decide ((j : Int) < k2) = true := decide_eq_true hlt
      have j13 : j < 13 := by omega
      go_wp2_with fail
      refine (pick_g (M := m + 1 + 5 * j + 1) (n := 8) HS.out.rdr (by omega) (by omega) (by omega)).mono ?_
      rintro e w4 ⟨km, rfl, kma, kmb, hR, hg⟩
      have HS := hidI (HS.out.pick hR hg)
      clear hR hg hd
      go_wp2_with fail
      refine (pick_g (M := m + 1 + 5 * j + 1 + 1) (n := 2) HS.out.rdr (by omega) (by omega) (by omega)).mono ?_
      rintro e w5 ⟨k3, rfl, k3a, k3b, hR, hg⟩
      have HS := hidI (HS.out.pick hR hg)
      clear hR hg
      by_cases h3 : k3 = 0
      ·
        --RB
        subst h3
        have C := hidI (l11Propose_c k1 ck km (some ⟨b1, 0, none⟩) (some ⟨b2, 0, none⟩) c1 c2 P D w5 h0 (by omega) (by omega) (by omega) HS.out.e1.z HS.out.e2.z HS.out.e1.rd HS.out.e2.rd)
        obtain ⟨q0, q1, q2, q3⟩ := HS.out.box.four
        have lq := HS.out.box.lt
        go_wp2_with fail
        refine Calls.mono C.out ?_
        clear C q0 q1 q2 q3 lq
        rintro e w6 ⟨v, x, y, ck', ok, P', rfl, ⟨x1, y1, x2, y2, rfl, hne, V1, V2⟩, hc1, hc2, hl2, hb⟩
        have hn := HS.out.ne
        have hlq := HS.out.box.lt
        have hlr := HS.out.res.lt
        have z1 := V1.blk
        have z2 := V2.blk
        have HS6 := hidI (HS.out.below hb)
        have HV1 := hidI V1
        have HV2 := hidI V2
        clear HS V1 V2 hb
        rcases ok with _ | _
        · go_wp2_with fail
          go_roundg (13 - j)
          case measure => omega
          case rel => exact ⟨j + 1, ck, b1, c1, b2, c2, P, D, by omega, by go_num, h0, by omega, by omega, ((HS6.out.alloc _).alloc _).more (by omega)⟩
        · have Bq := HS6.out.box
          obtain ⟨q0, q1, q2, q3⟩ := Bq.four
          have f0 := Bq.frozen 0
          have f1 := Bq.frozen 1
          have f2 := Bq.frozen 2
          have f3 := Bq.frozen 3
          have lq := Bq.lt
          clear Bq
          go_wp2_with fail
          go_roundg (13 - j)
          case measure => omega
          case rel => exact ⟨j + 1, ck', x1, y1, x2, y2, P', D, by omega, by go_num, by omega, by omega, by omega, ((GS.put (HS6.out.more (by omega)) (HV1.out.mono (by omega)) (HV2.out.mono (by omega)) hne (by omega) (by omega)).alloc _).alloc _⟩
        --RE
      · go_upto_region 10 with fail
        go_cut [10, 11, 12] from 19 to 56 (fun s10 s11 s12 wx => ∃ (qq : Nat) (ok : Bool) (ck' : Int) (x1 y1 x2 y2 : Nat) (P' D' : List Ent), s10 = .pointer (some ⟨qq, 0, none⟩) ∧ s12 = .bool ok ∧ ck ≤ ck' ∧ ck' ≤ ck + 3 ∧ P'.length + D'.length ≤ P.length + D.length ∧
          GS w g q k1 ck (m + 1 + 5 * j + 5) b1 c1 b2 c2 P D wx ∧ Box wx qq 26 #[.int .i64 k1, .int .i64 ck', .slice (some ⟨x1, 0, none⟩) P'.length y1, .slice (some ⟨x2, 0, none⟩) D'.length y2] ∧
          EV wx (w.heap.size + 1) (.slice (some ⟨x1, 0, none⟩) P'.length y1) P'.length P' ∧ EV wx (w.heap.size + 1) (.slice (some ⟨x2, 0, none⟩) D'.length y2) D'.length D' ∧ x1 ≠ x2 ∧ x1 ≠ q ∧ x2 ≠ q ∧ qq ≠ q)
        case first =>
          --RB
          have CF := hidI (fun (t' g' : Int) W (h1 : 0 ≤ t') (h2 : t' ≤ 1000000) (hr1 : RE W (some ⟨b1, 0, none⟩) P) (hr2 : RE W (some ⟨b2, 0, none⟩) D) => HF.out k1 ck km t' g' (some ⟨b1, 0, none⟩) (some ⟨b2, 0, none⟩) c1 c2 P D W h0 (by omega) h1 h2 (by omega) (by omega) HS.out.e1.cap.1 HS.out.e1.cap.2 HS.out.e1.z HS.out.e2.z hr1 hr2)
          unfold FinR at CF
          have lq := HS.out.box.lt
          have hn := HS.out.ne
          have hlr := HS.out.res.lt
          have lb1 := HS.out.e1.blk
          have lb2 := HS.out.e2.blk
          have s5 := HS.out.only.size
          have i7 : IntKind.i64.wrap (ck + 3) = ck + 3 := by rw [IntWalk.i64_in _ (by omega)] <;> omega
          go_region_held3 (fun w' => (w'.cell? ⟨q, 0, none⟩ = some (.int .i64 k1) ∧ w'.cell? ⟨q, 1, none⟩ = some (.int .i64 ck) ∧ w'.cell? ⟨q, 2, none⟩ = some (.slice (some ⟨b1, 0, none⟩) P.length c1) ∧ w'.cell? ⟨q, 3, none⟩ = some (.slice (some ⟨b2, 0, none⟩) D.length c2)) ∧ Box w' q 26 #[.int .i64 k1, .int .i64 ck, .slice (some ⟨b1, 0, none⟩) P.length c1, .slice (some ⟨b2, 0, none⟩) D.length c2])
            ((first
              | with_reducible exact held4 HS8.out.box
              | with_reducible exact held4 (Box.alloc HS8.out.box _)
              | exact held4 (Box.far4 HS8.out.box (by omega) _ _ _ _)
              | with_reducible exact held4 HS7.out.box
              | with_reducible exact held4 (Box.alloc HS7.out.box _)
              | with_reducible exact held4 HS6.out.box
              | with_reducible exact held4 (Box.alloc HS6.out.box _)
              | with_reducible exact held4 (Box.drew HS.out.box)
              | with_reducible exact held4 (Box.drew (Box.alloc HS.out.box _))
              | with_reducible exact held4 (Box.alloc (Box.drew HS.out.box) _)
              | fail))
            ((first
              | (go_at_call 50; refine (CF.out (1 + kt) kg (w7) (by omega) (by omega) (GS.e1 (HS7.out)).rd (GS.e2 (HS7.out)).rd).mono ?_; rintro e w8 ⟨v, T, nn, cc, ck', ok, P', D', rfl, ⟨x1, y1, x2, y2, rfl, hne, V1, V2⟩, hc1, hc2, hl2, hb⟩; have HS8 := hidI (GS.below (HS7.out) hb); have z1 := V1.blk; have z2 := V2.blk; have zs := hb.size; have HV1 := hidI V1; have HV2 := hidI V2; have lq8 := HS8.out.box.lt; (try (have NB8 := hidI (Box.below NB7.out hb); obtain ⟨n0, n1, n2, n3⟩ := NB8.out.four; have nf0 := NB8.out.frozen 0; have nf1 := NB8.out.frozen 1; have nf2 := NB8.out.frozen 2; have nf3 := NB8.out.frozen 3; have nl := NB8.out.lt)); clear V1 V2 hb)
              | (go_at_call 50; refine (CF.out (1 + kt) kg (w7.alloc _) (by omega) (by omega) (GS.e1 (HS7.out.alloc _)).rd (GS.e2 (HS7.out.alloc _)).rd).mono ?_; rintro e w8 ⟨v, T, nn, cc, ck', ok, P', D', rfl, ⟨x1, y1, x2, y2, rfl, hne, V1, V2⟩, hc1, hc2, hl2, hb⟩; have HS8 := hidI (GS.below (HS7.out.alloc _) hb); have z1 := V1.blk; have z2 := V2.blk; have zs := hb.size; have HV1 := hidI V1; have HV2 := hidI V2; have lq8 := HS8.out.box.lt; (have NB8 := hidI (Box.below (Box.new w7 _ _) hb); obtain ⟨n0, n1, n2, n3⟩ := NB8.out.four; have nf0 := NB8.out.frozen 0; have nf1 := NB8.out.frozen 1; have nf2 := NB8.out.frozen 2; have nf3 := NB8.out.frozen 3; have nl := NB8.out.lt); clear V1 V2 hb)
              | (go_at_call 25; refine (pick_g (M := m + 1 + 5 * j + 1 + 1 + 1 + 1) (n := 5) (GS.rdr (HS6.out)) (by omega) (by omega) (by omega)).mono ?_; rintro e w7 ⟨kg, rfl, kga, kgb, hR, hg⟩; have HS7 := hidI (GS.pick (HS6.out) hR hg); have sw7 := HS7.out.only.size; have lqw7 := HS7.out.box.lt; have lx7 := HS7.out.e1.blk; have ly7 := HS7.out.e2.blk; (try (have NB7 := hidI (Box.grown NB6.out hg (by intro h; injection h; omega)); have NL7 := NB7.out.lt)); clear hR hg)
              | (go_at_call 25; refine (pick_g (M := m + 1 + 5 * j + 1 + 1 + 1 + 1) (n := 5) (GS.rdr (HS6.out.alloc _)) (by omega) (by omega) (by omega)).mono ?_; rintro e w7 ⟨kg, rfl, kga, kgb, hR, hg⟩; have HS7 := hidI (GS.pick (HS6.out.alloc _) hR hg); have sw7 := HS7.out.only.size; have lqw7 := HS7.out.box.lt; have lx7 := HS7.out.e1.blk; have ly7 := HS7.out.e2.blk; (have NB7 := hidI (Box.grown (Box.new w6 _ _) hg (by intro h; injection h; omega)); have NL7 := NB7.out.lt); clear hR hg)
              | (go_at_call 25; refine (pick_g (M := m + 1 + 5 * j + 1 + 1 + 1) (n := ck + 3) (GS.rdr (HS.out.drew)) (by omega) (by omega) (by omega)).mono ?_; rintro e w6 ⟨kt, rfl, kta, ktb, hR, hg⟩; have HS6 := hidI (GS.pick (HS.out.drew) hR hg); have sw6 := HS6.out.only.size; have lqw6 := HS6.out.box.lt; have lx6 := HS6.out.e1.blk; have ly6 := HS6.out.e2.blk; have i8 : IntKind.i64.wrap (1 + kt) = 1 + kt := (by rw [IntWalk.i64_in _ (by omega)] <;> omega); skip; clear hR hg)
              | (go_at_call 25; refine (pick_g (M := m + 1 + 5 * j + 1 + 1 + 1) (n := ck + 3) (GS.rdr (GS.drew (HS.out.alloc _))) (by omega) (by omega) (by omega)).mono ?_; rintro e w6 ⟨kt, rfl, kta, ktb, hR, hg⟩; have HS6 := hidI (GS.pick (GS.drew (HS.out.alloc _)) hR hg); have sw6 := HS6.out.only.size; have lqw6 := HS6.out.box.lt; have lx6 := HS6.out.e1.blk; have ly6 := HS6.out.e2.blk; have i8 : IntKind.i64.wrap (1 + kt) = 1 + kt := (by rw [IntWalk.i64_in _ (by omega)] <;> omega); (have NB6 := hidI (Box.grown (Box.drew (Box.new w5 _ _)) hg (by intro h; injection h; omega)); have NL6 := NB6.out.lt); clear hR hg)
              | (go_at_call 25; refine (pick_g (M := m + 1 + 5 * j + 1 + 1 + 1) (n := ck + 3) (GS.rdr (GS.alloc HS.out.drew _)) (by omega) (by omega) (by omega)).mono ?_; rintro e w6 ⟨kt, rfl, kta, ktb, hR, hg⟩; have HS6 := hidI (GS.pick (GS.alloc HS.out.drew _) hR hg); have sw6 := HS6.out.only.size; have lqw6 := HS6.out.box.lt; have lx6 := HS6.out.e1.blk; have ly6 := HS6.out.e2.blk; have i8 : IntKind.i64.wrap (1 + kt) = 1 + kt := (by rw [IntWalk.i64_in _ (by omega)] <;> omega); (have NB6 := hidI (Box.grown (Box.new w5.drew _ _) hg (by intro h; injection h; omega)); have NL6 := NB6.out.lt); clear hR hg)
              | fail))
          all_goals
            clear CF
            (try simp only [World.size_alloc] at z1 z2)
            go_step
            go_step
            go_meet
            have HG := HS8.out.more (M' := m + 1 + 5 * j + 5) (by omega)
            have HE1 := HV1.out.mono (B' := w.heap.size + 1) (by first | omega | (simp; omega))
            have HE2 := HV2.out.mono (B' := w.heap.size + 1) (by first | omega | (simp; omega))
            refine ⟨_, ok, ck', x1, y1, x2, y2, P', D', rfl, rfl, hc1, ?_, hl2, ?_, ?_, ?_, ?_, hne, ?_, ?_, ?_⟩
            · omega
            · first | with_reducible exact GS.alloc HG _ | (with_reducible refine GS.far4 HG ?_ ?_ ?_ ?_ _ _ _ _) <;> omega
            · first | with_reducible exact Box.new w8 _ _ | with_reducible exact Box.set4 NB8.out _ _ _ _
            · first | with_reducible exact EV.alloc HE1 _ | (with_reducible refine EV.far4 HE1 ?_ _ _ _ _) <;> omega
            · first | with_reducible exact EV.alloc HE2 _ | (with_reducible refine EV.far4 HE2 ?_ _ _ _ _) <;> omega
            · omega
            · omega
            · omega
          --RE
        case rest =>
          obtain ⟨qq, ok, ck', x1, y1, x2, y2, P', D', rfl, rfl, hc1, hc2, hl2, hS, Bq, V1, V2, n1, n2, n3, n4⟩ := hcut
          have HS8 := hidI hS
          have HBq := hidI Bq
          have HV1 := hidI V1
          have HV2 := hidI V2
          obtain ⟨w8, rfl⟩ : ∃ x, x = wc := ⟨_, rfl⟩
          clear hS Bq V1 V2 HS
          rcases ok with _ | _
          · 
            --RB
            go_wp2_with fail
            go_roundg (13 - j)
            case measure => omega
            case rel => exact ⟨j + 1, ck, b1, c1, b2, c2, P, D, by omega, by go_num, h0, by omega, by omega, HS8.out.more (by omega)⟩
            --RE
          · 
            --RB
            have Bq := HS8.out.box
            obtain ⟨q0, q1, q2, q3⟩ := Bq.four
            have f0 := Bq.frozen 0
            have f1 := Bq.frozen 1
            have f2 := Bq.frozen 2
            have f3 := Bq.frozen 3
            have lq := Bq.lt
            clear Bq
            obtain ⟨y0, y1', y2', y3⟩ := HBq.out.four
            have ly := HBq.out.lt
            go_wp2_with fail
            go_roundg (13 - j)
            case measure => omega
            case rel => exact ⟨j + 1, ck', x1, y1, x2, y2, P', D', by omega, by go_num, by omega, by omega, by omega, GS.put (HS8.out.more (by omega)) HV1.out HV2.out n1 n2 n3⟩
            --RE
  case rest =>
    obtain ⟨ck, b1, c1, b2, c2, P, D, hl1, hl2, hS⟩ := hcut
    obtain ⟨w3, rfl⟩ : ∃ x, x = wc := ⟨_, rfl⟩
    have HS3 := hidI hS
    clear hS HS
    go_wp2_with fail
    refine (pick_g (M := m + 80) (n := 18) HS3.out.rdr (by omega) (by omega) (by omega)).mono ?_
    rintro e w4 ⟨ks, rfl, ksa, ksb, hR, hg⟩
    have HS4 := hidI (HS3.out.pick hR hg)
    clear hR hg HS3
    go_upto_block 2 with fail
    go_cut [] from 59 to 121 (fun wx => ∃ (id ck : Int) (b1 c1 b2 c2 : Nat) (P D : List Ent), P.length ≤ 14 ∧ D.length ≤ 14 ∧ GS w g q id ck (m + 90) b1 c1 b2 c2 P D wx)
    case first =>
      by_cases h0 : ks = 0
      · --RB
        subst h0
        go_wp2_with fail
        refine (pick_g (M := m + 80 + 1) (n := 4) (GS.rdr (HS4.out.alloc _)) (by omega) (by omega) (by omega)).mono ?_
        rintro e w5 ⟨kc, rfl, kca, kcb, hR, hg⟩
        have s4 := HS4.out.only.size
        have NB := Box.grown (Box.new w4 _ _) hg (by intro h; injection h; omega)
        have hcell := quad_cell (fun _ => rfl) NB kca kcb
        have HS5 := hidI (GS.pick (HS4.out.alloc _) hR hg)
        obtain ⟨q0, q1, q2, q3⟩ := HS5.out.box.four
        have f1 := HS5.out.box.frozen 1
        have lq := HS5.out.box.lt
        clear NB hR hg
        go_wp2_with fail
        go_meet
        exact ⟨_, _, _, _, _, _, P, D, hl1, hl2, (GS.setCk HS5.out _).more (by omega)⟩
        --RE
      by_cases h1 : ks = 1
      · --RB
        subst h1
        obtain ⟨q0, q1, q2, q3⟩ := HS4.out.box.four
        have lq := HS4.out.box.lt
        by_cases hz : P.length = 0
        · have z1 : decide (0 < P.length) = false := decide_eq_false (by omega)
          have z2 : ¬ (0 : Int) < (P.length : Int) := by omega
          clear hz
          go_wp2_with fail
          go_meet
          exact ⟨_, _, _, _, _, _, P, D, hl1, hl2, HS4.out.more (by omega)⟩
        · have z1 : decide (0 < P.length) = true := decide_eq_true (by omega)
          have z2 : (0 : Int) < (P.length : Int) := by omega
          clear hz
          go_upto_region 18 with fail
          have hn := HS4.out.ne
          have s4 := HS4.out.only.size
          clear q0 q1 q2 q3
          go_region_held3 (fun w' => (w'.cell? ⟨q, 0, none⟩ = some (.int .i64 k1) ∧ w'.cell? ⟨q, 1, none⟩ = some (.int .i64 ck) ∧ w'.cell? ⟨q, 2, none⟩ = some (.slice (some ⟨b1, 0, none⟩) P.length c1) ∧ w'.cell? ⟨q, 3, none⟩ = some (.slice (some ⟨b2, 0, none⟩) D.length c2)) ∧ Box w' q 26 #[.int .i64 k1, .int .i64 ck, .slice (some ⟨b1, 0, none⟩) P.length c1, .slice (some ⟨b2, 0, none⟩) D.length c2])
            ((first
              | with_reducible exact held4 HS6.out.box
              | exact held4 (Box.far (Box.far HS6.out.box (by simp; omega) _) (by simp; omega) _)
              | with_reducible exact held4 HS5.out.box
              | with_reducible exact held4 (Box.drew HS4.out.box)
              | fail))
            ((first
              | (go_at_call 51; refine (l91Stamp_c g (m + 80 + 1 + 1) w5 HS5.out.rdr (by omega)).mono ?_; rintro e w6 ⟨sx, sy, rfl, sa, sb, sc, sd, hR, hg⟩; have HS6 := hidI (GS.pick HS5.out hR hg); obtain ⟨_, _, m', t', g', f', e9, hb', hx, d0, d1, d2, d3⟩ := Rd.ent (k := kn) HS6.out.e1.rd (by omega); simp only [Option.some.injEq, Addr.mk.injEq, and_true] at e9; obtain ⟨rfl, rfl⟩ := e9; simp only [Nat.zero_add] at d0 d1 d2 d3; have nf1 := HS6.out.e1.frozen (kn * 4 + 1); have nf2 := HS6.out.e1.frozen (kn * 4 + 2); clear hx d0 d3 hR hg)
              | (go_at_call 25; refine (pick_g (M := m + 80 + 1) (n := (P.length : Int)) (GS.rdr HS4.out.drew) (by omega) (by omega) (by omega)).mono ?_; rintro e w5 ⟨kp, rfl, kpa, kpb, hR, hg⟩; obtain ⟨kn, rfl⟩ : ∃ n : Nat, kp = n := ⟨kp.toNat, by omega⟩; have HS5 := hidI (GS.pick HS4.out.drew hR hg); clear hR hg)
              | fail))
          all_goals
            go_step
            go_step
            go_meet
            obtain ⟨P', hp, HG⟩ := GS.stampP HS6.out (k := kn) (by omega) sx sy
            exact ⟨_, _, _, _, _, _, P', D, by omega, hl2, HG.more (by omega)⟩
        --RE
      by_cases h2 : ks = 2
      · --RB
        subst h2
        obtain ⟨q0, q1, q2, q3⟩ := HS4.out.box.four
        have lq := HS4.out.box.lt
        by_cases hz : P.length = 0
        · have z1 : decide (0 < P.length) = false := decide_eq_false (by omega)
          have z2 : ¬ (0 : Int) < (P.length : Int) := by omega
          clear hz
          go_wp2_with fail
          go_meet
          exact ⟨_, _, _, _, _, _, P, D, hl1, hl2, HS4.out.more (by omega)⟩
        · have z1 : decide (0 < P.length) = true := decide_eq_true (by omega)
          have z2 : (0 : Int) < (P.length : Int) := by omega
          clear hz
          go_upto_region 21 with fail
          have hn := HS4.out.ne
          have s4 := HS4.out.only.size
          clear q0 q1 q2 q3
          go_region_held3 (fun w' => (w'.cell? ⟨q, 0, none⟩ = some (.int .i64 k1) ∧ w'.cell? ⟨q, 1, none⟩ = some (.int .i64 ck) ∧ w'.cell? ⟨q, 2, none⟩ = some (.slice (some ⟨b1, 0, none⟩) P.length c1) ∧ w'.cell? ⟨q, 3, none⟩ = some (.slice (some ⟨b2, 0, none⟩) D.length c2)) ∧ Box w' q 26 #[.int .i64 k1, .int .i64 ck, .slice (some ⟨b1, 0, none⟩) P.length c1, .slice (some ⟨b2, 0, none⟩) D.length c2])
            ((first
              | with_reducible exact held4 HS5.out.box
              | exact held4 (Box.far HS5.out.box (by simp; omega) _)
              | with_reducible exact held4 (Box.drew HS4.out.box)
              | fail))
            ((first
              | (go_at_call 25; refine (pick_g (M := m + 80 + 1) (n := (P.length : Int)) (GS.rdr HS4.out.drew) (by omega) (by omega) (by omega)).mono ?_; rintro e w5 ⟨kp, rfl, kpa, kpb, hR, hg⟩; obtain ⟨kn, rfl⟩ : ∃ n : Nat, kp = n := ⟨kp.toNat, by omega⟩; have HS5 := hidI (GS.pick HS4.out.drew hR hg); obtain ⟨_, _, m', t', g', f', e9, hb', hx, d0, d1, d2, d3⟩ := Rd.ent (k := kn) HS5.out.e1.rd (by omega); simp only [Option.some.injEq, Addr.mk.injEq, and_true] at e9; obtain ⟨rfl, rfl⟩ := e9; simp only [Nat.zero_add] at d0 d1 d2 d3; have nf3 := HS5.out.e1.frozen (kn * 4 + 3); clear hx d0 d1 d2; clear hR hg)
              | fail))
          all_goals
            go_step
            go_step
            go_meet
            obtain ⟨P', hp, HG⟩ := GS.finalP HS5.out (k := kn) (by omega) true
            exact ⟨_, _, _, _, _, _, P', D, by omega, hl2, HG.more (by omega)⟩
        --RE
      by_cases h3 : ks = 3
      · --RB
        subst h3
        obtain ⟨q0, q1, q2, q3⟩ := HS4.out.box.four
        have lq := HS4.out.box.lt
        by_cases hz : D.length = 0
        · have z1 : decide (0 < D.length) = false := decide_eq_false (by omega)
          have z2 : ¬ (0 : Int) < (D.length : Int) := by omega
          clear hz
          go_wp2_with fail
          go_meet
          exact ⟨_, _, _, _, _, _, P, D, hl1, hl2, HS4.out.more (by omega)⟩
        · have z1 : decide (0 < D.length) = true := decide_eq_true (by omega)
          have z2 : (0 : Int) < (D.length : Int) := by omega
          clear hz
          go_upto_region 24 with fail
          have hn := HS4.out.ne
          have s4 := HS4.out.only.size
          clear q0 q1 q2 q3
          go_region_held3 (fun w' => (w'.cell? ⟨q, 0, none⟩ = some (.int .i64 k1) ∧ w'.cell? ⟨q, 1, none⟩ = some (.int .i64 ck) ∧ w'.cell? ⟨q, 2, none⟩ = some (.slice (some ⟨b1, 0, none⟩) P.length c1) ∧ w'.cell? ⟨q, 3, none⟩ = some (.slice (some ⟨b2, 0, none⟩) D.length c2)) ∧ Box w' q 26 #[.int .i64 k1, .int .i64 ck, .slice (some ⟨b1, 0, none⟩) P.length c1, .slice (some ⟨b2, 0, none⟩) D.length c2])
            ((first
              | with_reducible exact held4 HS6.out.box
              | exact held4 (Box.far HS6.out.box (by simp; omega) _)
              | with_reducible exact held4 HS5.out.box
              | with_reducible exact held4 (Box.drew HS4.out.box)
              | fail))
            ((first
              | (go_at_call 25; refine (pick_g (M := m + 80 + 1 + 1) (n := 8) (GS.rdr HS5.out) (by omega) (by omega) (by omega)).mono ?_; rintro e w6 ⟨kx, rfl, kxa, kxb, hR, hg⟩; have HS6 := hidI (GS.pick HS5.out hR hg); obtain ⟨_, _, m', t', g', f', e9, hb', hx, d0, d1, d2, d3⟩ := Rd.ent (k := kn) HS6.out.e2.rd (by omega); simp only [Option.some.injEq, Addr.mk.injEq, and_true] at e9; obtain ⟨rfl, rfl⟩ := e9; simp only [Nat.zero_add] at d0 d1 d2 d3; have nf0 := HS6.out.e2.frozen (kn * 4); clear hx d1 d2 d3 hR hg)
              | (go_at_call 25; refine (pick_g (M := m + 80 + 1) (n := (D.length : Int)) (GS.rdr HS4.out.drew) (by omega) (by omega) (by omega)).mono ?_; rintro e w5 ⟨kp, rfl, kpa, kpb, hR, hg⟩; obtain ⟨kn, rfl⟩ : ∃ n : Nat, kp = n := ⟨kp.toNat, by omega⟩; have HS5 := hidI (GS.pick HS4.out.drew hR hg); clear hR hg)
              | fail))
          all_goals
            go_step
            go_step
            go_meet
            obtain ⟨D', hp, HG⟩ := GS.msgD HS6.out (k := kn) (by omega) kx
            exact ⟨_, _, _, _, _, _, P, D', hl1, by omega, HG.more (by omega)⟩
        --RE
      by_cases h4 : ks = 4
      · --RB
        subst h4
        go_wp2_with fail
        refine (pick_g (M := m + 80 + 1) (n := 7) (GS.rdr HS4.out) (by omega) (by omega) (by omega)).mono ?_
        rintro e w5 ⟨kc, rfl, kca, kcb, hR, hg⟩
        have HS5 := hidI (GS.pick HS4.out hR hg)
        obtain ⟨q0, q1, q2, q3⟩ := HS5.out.box.four
        have f0 := HS5.out.box.frozen 0
        have lq := HS5.out.box.lt
        clear hR hg
        go_wp2_with fail
        go_meet
        exact ⟨_, _, _, _, _, _, P, D, hl1, hl2, (GS.setId HS5.out _).more (by omega)⟩
        --RE
      --RB
      go_wp2_with fail
      go_meet
      exact ⟨_, _, _, _, _, _, P, D, hl1, hl2, HS4.out.more (by omega)⟩
      --RE
    case rest =>
      --RB
      obtain ⟨id, ck', x1, y1, x2, y2, P', D', hp, hd, hS⟩ := hcut
      obtain ⟨w9, rfl⟩ : ∃ x, x = wc := ⟨_, rfl⟩
      have HS9 := hidI hS
      clear hS HS4
      obtain ⟨q0, q1, q2, q3⟩ := HS9.out.box.four
      have lq := HS9.out.box.lt
      obtain ⟨r0, r1, r2, r3⟩ := HS9.out.res.four
      have lr := HS9.out.res.lt
      have f0 := HS9.out.res.frozen 0
      have f1 := HS9.out.res.frozen 1
      have f2 := HS9.out.res.frozen 2
      have f3 := HS9.out.res.frozen 3
      have lx := HS9.out.e1.blk
      have ly := HS9.out.e2.blk
      go_wp2_with fail
      refine bodyPost_ret (v := .agg #[.int .i64 id, .int .i64 ck', .slice (some ⟨x1, 0, none⟩) P'.length y1, .slice (some ⟨x2, 0, none⟩) D'.length y2]) (by simp (maxDischargeDepth := 8) [results, Try.results42, go_sem, *]) rfl ⟨id, ck', x1, y1, x2, y2, P', D', rfl, hp, hd, ?_, ?_, ?_⟩
      · exact (EV.far4 HS9.out.e1 (by omega) _ _ _ _).mono (by omega)
      · exact (EV.far4 HS9.out.e2 (by omega) _ _ _ _).mono (by omega)
      · exact only_set (only_set (only_set (only_set HS9.out.only (by simp) _) (by simp) _) (by simp) _) (by simp) _
      --RE
end Go.Proofs.Ytiecjkacbpbghaa
