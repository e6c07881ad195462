/- Contracts: the program's iterator over batches. -/
import Derived.RangeFuncBox
import Derived.RangeFuncLeaves
import Derived.Shelf.Abstract
import Derived.OwnWalkIn
import Derived.TacticsInMore
import Derived.LoopNIn
import Derived.LoopIn
import Derived.Maps.AppendAt
import Derived.Test.YtelapagdbmlnhaaIb
import Derived.Test.YtelapagdbmlnhaaAp
namespace Go.Proofs.Ytelapagdbmlnhaa
set_option linter.unusedVariables false
open Go.RowKit Go.Shelf
attribute [local go_sem] Oper.semAt_some

/-- Below g nothing has turned, nor from lo to B. -/
def KpB (g lo B : Nat) (W W' : World) : Prop := Below g W W' ∧ ∀ k, lo ≤ k → k < B → W'.heap[k]? = W.heap[k]?
theorem KpB.refl (g lo B : Nat) (W : World) : KpB g lo B W W := ⟨Below.refl _ _, fun _ _ _ => rfl⟩
theorem kpB_t {g lo B : Nat} {a b c : World} (h : KpB g lo B a b) (k : KpB g lo B b c) : KpB g lo B a c := ⟨h.1.trans k.1, fun i h1 h2 => (k.2 i h1 h2).trans (h.2 i h1 h2)⟩
theorem kpB_b {g lo B : Nat} {w : World} (hg : g ≤ w.heap.size) (hn : B ≤ w.heap.size) (W : World) (l : Nat) (o o' : Obj) (hl : w.heap.size ≤ l) (h : W.heap[l]? = some o) (h1 : o.isCells = false) (h2 : o.isWalk = false) : KpB g lo B W (W.putObj l o') := by
  refine ⟨belowK_b hg W l o o' hl h h1 h2, fun k k1 k2 => ?_⟩
  exact (grownBy_putObj' W l o').block k (by have := (Array.getElem?_eq_some_iff.1 h).1; omega) (fun e => by cases e; omega)
theorem KpB.at_ {g lo B : Nat} {W W' : World} (h : KpB g lo B W W') {k : Nat} (h1 : lo ≤ k) (h2 : k < B) {v : Value} (hc : W.cell? ⟨k, 0, none⟩ = some v) : W'.cell? ⟨k, 0, none⟩ = some v :=
  (World.cell?_of_block (a := ⟨k, 0, none⟩) (h.2 k h1 h2)).trans hc

/-- The slice v holds pre: in a block from B on; or it is a literal without elements. -/
def OF (w : World) (B0 B : Nat) (v : Value) (pre : List Int) : Prop := w.ownsRow B 3 1 v pre.length (pre.map (Value.int .i64)) ∨ (pre = [] ∧ (∃ g, v = .slice (some ⟨g, 0, none⟩) 0 0) ∧ w.ownsRow B0 3 1 v 0 [])
theorem own_cells {w w' : World} {B n : Nat} {v : Value} {xs : List Value} {row : Option Nat} (h : w.ownsRow B 3 1 v n xs) (hg : w.grownBy w' row) (hr : ∀ r, row = some r → ∃ o : Obj, w.heap[r]? = some o ∧ o.isCells = false) : w'.ownsRow B 3 1 v n xs := by
  refine h.kept hg ?_
  rcases h.2 with ⟨rfl, _⟩ | ⟨g, cap, cur, rfl, _, hgb, _⟩
  · exact .inl rfl
  · refine .inr fun e => ?_
    obtain ⟨o, ho, hc⟩ := hr g e.symm
    rw [hgb] at ho
    cases ho
    cases hc
theorem OF.cells {w w' : World} {B0 B : Nat} {v : Value} {pre : List Int} {row : Option Nat} (h : OF w B0 B v pre) (hg : w.grownBy w' row) (hr : ∀ r, row = some r → ∃ o : Obj, w.heap[r]? = some o ∧ o.isCells = false) : OF w' B0 B v pre :=
  h.elim (fun h => .inl (own_cells h hg hr)) (fun h => .inr ⟨h.1, h.2.1, own_cells h.2.2 hg hr⟩)
theorem OF.alloc {w : World} {B0 B : Nat} {v : Value} {pre : List Int} (h : OF w B0 B v pre) (o : Obj) : OF (w.alloc o) B0 B v pre :=
  h.cells (World.grownBy_alloc w o none) (fun r e => by cases e)
theorem OF.open_ {w : World} {B0 B : Nat} {v : Value} {pre : List Int} (h : OF w B0 B v pre) (hB : B0 ≤ B) : ∃ A c, v = .slice A pre.length c ∧ IS w B0 A pre.length c pre := by
  rcases h with h | ⟨rfl, ⟨g, rfl⟩, h⟩
  · obtain ⟨A, c, rfl, S⟩ := IV.open_ (show IV w B v pre.length pre from h)
    exact ⟨A, c, rfl, S.mono hB⟩
  · exact ⟨_, _, rfl, h⟩

theorem run_append_OF {w : World} {B0 B : Nat} {v : Value} {pre : List Int} (ty : TypeId) (h : OF w B0 B v pre) (g : Nat) (y : Int) (hg : w.cell? ⟨g, 0, none⟩ = some (.int .i64 y)) (hn : pre.length ≤ 1000) (hB : B ≤ w.heap.size) :
    ∃ g' c' w', (Builtin.append_ #[23, 23] ty #[v, .slice (some ⟨g, 0, none⟩) 1 1]).run Try.prog w = .ok (.slice (some ⟨g', 0, none⟩) (pre.length + 1) c') w' ∧
      w'.ownsRow B 3 1 (.slice (some ⟨g', 0, none⟩) (pre.length + 1) c') (pre ++ [y]).length ((pre ++ [y]).map (Value.int .i64)) ∧ Below B w w' ∧ KeepsOthers w w' := by
  obtain ⟨i0, hi, hz0, hz1, hz2⟩ := info_parts infoInt
  have hc : ∀ j u, [Value.int .i64 y][j]? = some u → w.cell? ((⟨g, 0, none⟩ : Addr).add j) = some u := by
    intro j u hj
    match j, hj with
    | 0, hj =>
      simp at hj
      subst hj
      simpa [Addr.add] using hg
  have e0 : (pre ++ [y]).length = pre.length + 1 := by simp
  rw [e0, List.map_append]
  rcases h with h | ⟨rfl, ⟨g0, rfl⟩, _⟩
  · obtain ⟨v', w', hr, h1, h2, _⟩ := run_append_own (P := Try.prog) w B 23 ty 3 i0 (.int .i64 0) 1 8 Try.underlying23 hi hz0 hz1 hz2 rfl (by decide) v pre.length _ h ⟨g, 0, none⟩ 1 1 [.int .i64 y] rfl hc (by simp [Value.oneCell']) (by unfold maxLen; omega) (by omega) hB
    obtain ⟨g', c', rfl⟩ := ownsRow_succ h1
    refine ⟨g', c', w', hr, h1, (Below.refl _ _).grown h2 hB (fun k e => (World.ownsRow.lt h k e).1), KeepsOthers.of_grownBy h2 fun j o ej hj => ?_⟩
    rcases h.2 with ⟨rfl, _⟩ | ⟨g2, cap, cur, rfl, _, hgb, _⟩
    · simp [Value.ownBlock] at ej
    · obtain rfl : g2 = j := by simpa [Value.ownBlock] using ej
      rw [hgb] at hj
      cases hj
      rfl
  · have hge := grownCap_ge w 1 0 3
    have hr := run_append_grow (P := Try.prog) w 23 ty 3 i0 (.int .i64 0) Try.underlying23 hi hz0 ⟨g0, 0, none⟩ 0 0 [] (by simp) (by simp) ⟨g, 0, none⟩ 1 1 [.int .i64 y] (by rw [hz1]; rfl) hc (by omega) (by omega) (by rw [hz2, Nat.zero_add, nextslicecap_zero (by omega)]; omega)
    refine ⟨w.heap.size, grownCap w 1 0 3, _, by simpa using hr, ⟨by simp, .inr ⟨w.heap.size, grownCap w 1 0 3, _, rfl, hB, heap_alloc_new w.drew _, by simpa using hge, grownCap_le_maxLen w 1 0 _ (by unfold maxLen; omega), ?_, ?_⟩⟩, ?_, ?_⟩
    · simp [Value.cells, size_zeroCells]
      omega
    · simp
    · exact (Below.refl B w).drew.alloc hB _
    · exact KeepsOthers.of_grownBy (W := w) (row := none) ⟨rfl, rfl, rfl, by simp, fun k hk _ => heap_alloc_old w.drew _ k hk⟩ (fun j o e _ => by cases e)

theorem wpListIn_append_OF {F : Fence} {n : Nat} {w : World} {ops : Array Oper} {rest : List Oper} {o : Oper} {a : Act} {Q : Exit → Act → World → Prop} (y : Int)
    (hgd : o.guard = none) (s x : Operand) (hop : o.op = Op.call { callee := Callee.builtin Builtin.append, args := #[s, x], argTypes := #[23, 23] })
    {B0 B g : Nat} {v : Value} {pre : List Int} (hs : a.eval s = v) (h : OF w B0 B v pre) (hx : a.eval x = .slice (some ⟨g, 0, none⟩) 1 1) (hg : w.cell? ⟨g, 0, none⟩ = some (.int .i64 y)) (hn : pre.length ≤ 1000) (hB : B ≤ w.heap.size)
    (hK : ∀ g' c' w', w'.ownsRow B 3 1 (.slice (some ⟨g', 0, none⟩) (pre.length + 1) c') (pre ++ [y]).length ((pre ++ [y]).map (Value.int .i64)) → Below B w w' → KeepsOthers w w' → wpListIn F n Try.prog ops Q rest (a.put o.dst (.slice (some ⟨g', 0, none⟩) (pre.length + 1) c')) w') :
    wpListIn F n Try.prog ops Q (o :: rest) a w := by
  refine wpListIn_plain hgd fun K hK' => ?_
  obtain ⟨g', c', w', hrun, r1, r2, r3⟩ := run_append_OF o.type h g y hg hn hB
  unfold Oper.wpIn
  refine ⟨?_, ?_⟩
  · simp [Oper.about, hop, resolve, Target.leads, Sem.run_pure]
  · rw [Oper.semAt_plain F _ _ (by rw [hop]; intro c hc'; cases hc')]
    simp [execOp, hop, resolve, invoke, builtin, hs, hx, hrun, Result.andThen]
    exact hK' _ _ (hK g' c' w' r1 r2 r3)

set_option maxRecDepth 100000 in
set_option maxHeartbeats 2000000 in
theorem batches1_in (F : Fence) (n : Nat) (hf : F.fn 27) (hro : F.round = none) (hn : 1 ≤ n) (l Bs Bm Bb g lo B : Nat) (A : Option Addr) (xs : List Int) (c : Nat) (b m : Int)
    (s1 : lo ≤ Bs) (s2 : Bs < B) (m1 : lo ≤ Bm) (m2 : Bm < B) (b1 : lo ≤ Bb) (b2 : Bb < B) (hv : bvB xs b m = true) (J Jx : List Int → World → Prop)
    (hY : ∀ pre x W, J pre W → pre.length < (cutB xs b m).length → YieldAt F (n - 1) Try.prog l #[.int .i64 x] W fun e W' =>
      (e = .returned (.bool true) ∧ J (pre ++ [x]) W' ∧ KpB g lo B W W') ∨ (e = .returned (.bool false) ∧ Jx (pre ++ [x]) W'))
    (W : World) (hBs : W.cell? ⟨Bs, 0, none⟩ = some (.slice A xs.length c)) (hBm : W.cell? ⟨Bm, 0, none⟩ = some (.int .i64 m)) (hBb : W.cell? ⟨Bb, 0, none⟩ = some (.int .i64 b)) (hr : Rd W g A (xs.map (Value.int .i64))) (h0 : J [] W) :
    CallsIn F n Try.prog 27 #[.func (.yield l) #[] #[], .pointer (some ⟨Bs, 0, none⟩), .pointer (some ⟨Bm, 0, none⟩), .pointer (some ⟨Bb, 0, none⟩)] W fun e W' => (∃ v, e = .returned v) ∧
      ((∃ ys, ys = cutB xs b m ∧ J ys W') ∨ (∃ pre, pre <+: cutB xs b m ∧ Jx pre W')) := by
  obtain ⟨q1, q2, q3, q4, q5, q6⟩ := bvB_iff.1 hv
  have e0 : Hid (cutB xs b m = cutG b m 0 0 xs) := by simp [Hid, cutB, hv]
  have Q1 : Hid (∀ x ∈ xs, 1 ≤ x ∧ x ≤ b) := q1
  clear q1 hv
  refine callsIn_of_wp Try.func27 rfl hf ?_ hro
  simp only [Try.ntmps27, List.size_toArray, List.length_cons, List.length_nil, Nat.reduceAdd, Nat.reduceSub, Array.replicate_succ, Array.replicate_zero, List.push_toArray, List.append_toArray, List.nil_append, List.cons_append]
  gi_wp2
  gi_loopw [5, 6, 11] (fun cnt s i wr => ∃ (k : Nat) (cn sm : Int) (pre : List Int), k ≤ xs.length ∧ i = .int .i64 k ∧ cnt = .int .i64 cn ∧ s = .int .i64 sm ∧ 0 ≤ cn ∧ cn ≤ k ∧ 0 ≤ sm ∧ sm ≤ 99 * k ∧
      Hid (cutB xs b m = pre ++ cutG b m cn sm (xs.drop k)) ∧ J pre wr ∧ KpB g lo B W wr)
    (fun _ _ i _ => xs.length - (intOf i).toNat)
  case atStart => exact ⟨0, 0, 0, [], Nat.zero_le _, rfl, rfl, rfl, by omega, by omega, by omega, by omega, by simpa using e0, h0, KpB.refl _ _ _ _⟩
  case round =>
    obtain ⟨k, cn, sm, pre, hk, rfl, rfl, rfl, n0, n1, z0, z1, HC, hJ, hKp⟩ := hrel
    have cM := hKp.at_ m1 m2 hBm
    have cB := hKp.at_ b1 b2 hBb
    by_cases hlt : k < xs.length
    · obtain ⟨b', o, x, rfl, hb', hx, d0⟩ := (hr.below hKp.1).int' hlt
      obtain ⟨x0, x1⟩ := Q1.out x (mem_at hx.out)
      by_cases hc : cn = m ∨ b < sm + x
      · have e1 : Hid (cutB xs b m = (pre ++ [cn]) ++ cutG b m 1 x (xs.drop (k + 1))) := by
          unfold Hid
          rw [HC.out, drop_at hx.out, cutG_yes hc]
          simp
        have hN : pre.length < (cutB xs b m).length := by rw [e1.out]; simp
        obtain ⟨fn, tmps, assign, body, hy, hR⟩ := hY pre cn wr hJ hN
        clear hN
        have HX : Hid _ := hx
        clear hx HC
        by_cases hcm : cn = m
        · have t1 : (cn == m) = true := by simpa using hcm
          have HM : Hid (cn = m) := hcm
          clear hcm hc
          gi_wp2
          refine hR.mono ?_
          rintro e W3 (⟨rfl, hJ3, hk3⟩ | ⟨rfl, hJx3⟩)
          · gi_wp2
            go_roundw
            case rel => exact ⟨k + 1, 1, x, pre ++ [cn], by omega, by simp, by simp, by simp, by omega, by omega, by omega, by omega, e1, hJ3, kpB_t hKp hk3⟩
            case measure => simp [intOf]; omega
          · gi_wp2
            refine bodyPost_ret (results_none rfl _ _ _) rfl ?_
            exact ⟨⟨_, rfl⟩, .inr ⟨pre ++ [cn], ⟨_, e1.out.symm⟩, hJx3⟩⟩
        · have t1 : (cn == m) = false := by simpa using hcm
          have t2 : b < sm + x := by omega
          clear hcm hc
          gi_wp2
          refine hR.mono ?_
          rintro e W3 (⟨rfl, hJ3, hk3⟩ | ⟨rfl, hJx3⟩)
          · gi_wp2
            go_roundw
            case rel => exact ⟨k + 1, 1, x, pre ++ [cn], by omega, by simp, by simp, by simp, by omega, by omega, by omega, by omega, e1, hJ3, kpB_t hKp hk3⟩
            case measure => simp [intOf]; omega
          · gi_wp2
            refine bodyPost_ret (results_none rfl _ _ _) rfl ?_
            exact ⟨⟨_, rfl⟩, .inr ⟨pre ++ [cn], ⟨_, e1.out.symm⟩, hJx3⟩⟩
      · have e1 : Hid (cutB xs b m = pre ++ cutG b m (cn + 1) (sm + x) (xs.drop (k + 1))) := by
          unfold Hid
          rw [HC.out, drop_at hx.out, cutG_no hc]
        have t1 : (cn == m) = false := by simp; omega
        have t2 : ¬ b < sm + x := by omega
        clear hx HC hc
        gi_wp2
        go_roundw
        case rel => exact ⟨k + 1, cn + 1, sm + x, pre, by omega, by simp, by simp, by simp, by omega, by omega, by omega, by omega, e1, hJ, hKp⟩
        case measure => simp [intOf]; omega
    · obtain rfl : k = xs.length := by omega
      by_cases hp : 0 < cn
      · have e1 : Hid (cutB xs b m = pre ++ [cn]) := by
          unfold Hid
          rw [HC.out, List.drop_length]
          simp [cutG, hp]
        have hN : pre.length < (cutB xs b m).length := by rw [e1.out]; simp
        obtain ⟨fn, tmps, assign, body, hy, hR⟩ := hY pre cn wr hJ hN
        clear hN HC
        gi_wp2
        refine hR.mono ?_
        rintro e W3 (⟨rfl, hJ3, hk3⟩ | ⟨rfl, hJx3⟩)
        · gi_wp2
          go_end0
          exact ⟨⟨_, rfl⟩, .inl ⟨pre ++ [cn], e1.out.symm, hJ3⟩⟩
        · gi_wp2
          go_end0
          exact ⟨⟨_, rfl⟩, .inr ⟨pre ++ [cn], ⟨[], by rw [e1.out]; simp⟩, hJx3⟩⟩
      · have e1 : Hid (cutB xs b m = pre) := by
          unfold Hid
          rw [HC.out, List.drop_length]
          simp [cutG, hp]
        clear HC
        gi_wp2
        go_end0
        have hJ' : J (cutB xs b m) wr := by rw [e1.out]; exact hJ
        first | exact ⟨⟨_, rfl⟩, .inl ⟨_, rfl, hJ'⟩⟩ | exact ⟨⟨_, rfl⟩, .inl hJ'⟩

set_option maxHeartbeats 1000000 in
theorem batches_in (F : Fence) (n : Nat) (hf : F.fn 23) (hro : F.round = none) (A : Option Addr) (l c : Nat) (b m : Int) (w : World) :
    CallsIn F n Try.prog 23 #[.slice A l c, .int .i64 b, .int .i64 m] w fun e w' => e = .returned (.func (.func 27) #[] #[.pointer (some ⟨w.heap.size, 0, none⟩), .pointer (some ⟨w.heap.size + 1 + 1, 0, none⟩), .pointer (some ⟨w.heap.size + 1, 0, none⟩)]) ∧
      w' = ((w.alloc (.cells #[.slice A l c] 23)).alloc (.cells #[.int .i64 b] 3)).alloc (.cells #[.int .i64 m] 3) := by
  refine callsIn_of_wp Try.func23 rfl hf ?_ hro
  simp only [Try.ntmps23, List.size_toArray, List.length_cons, List.length_nil, Nat.reduceAdd, Nat.reduceSub, Array.replicate_succ, Array.replicate_zero, List.push_toArray, List.append_toArray, List.nil_append, List.cons_append]
  gi_wp2
  go_ret
  exact ⟨rfl, rfl⟩

theorem batches_stops (F : Fence) (n : Nat) (hf : F.fn 27) (hro : F.round = none) (hn : 1 ≤ n) (Bs Bm Bb g lo B : Nat) (A : Option Addr) (xs : List Int) (c : Nat) (b m : Int)
    (s1 : lo ≤ Bs) (s2 : Bs < B) (m1 : lo ≤ Bm) (m2 : Bm < B) (b1 : lo ≤ Bb) (b2 : Bb < B) (hv : bvB xs b m = true) (w : World) (hB : B ≤ w.heap.size) (hgB : g ≤ B)
    (hBs : w.cell? ⟨Bs, 0, none⟩ = some (.slice A xs.length c)) (hBm : w.cell? ⟨Bm, 0, none⟩ = some (.int .i64 m)) (hBb : w.cell? ⟨Bb, 0, none⟩ = some (.int .i64 b)) (hr : Rd w g A (xs.map (Value.int .i64))) :
    SeqStopsK F n Try.prog 27 #[.pointer (some ⟨Bs, 0, none⟩), .pointer (some ⟨Bm, 0, none⟩), .pointer (some ⟨Bb, 0, none⟩)] (fun x : Int => #[Value.int .i64 x]) (KpB g lo B) (fun ys => ys = cutB xs b m) (fun pre => pre <+: cutB xs b m) (cutB xs b m).length w := fun l J Jx W hW _ _ hY h0 =>
  batches1_in F n hf hro hn l Bs Bm Bb g lo B A xs c b m s1 s2 m1 m2 b1 b2 hv J Jx hY W ((hW.cell (p := ⟨Bs, 0, none⟩) (by show Bs < _; omega)).trans hBs) ((hW.cell (p := ⟨Bm, 0, none⟩) (by show Bm < _; omega)).trans hBm) ((hW.cell (p := ⟨Bb, 0, none⟩) (by show Bb < _; omega)).trans hBb) (hr.below (hW.mono (by omega))) h0

set_option maxRecDepth 100000 in
set_option maxHeartbeats 2000000 in
theorem implCut_c (A : Option Addr) (xs : List Int) (c : Nat) (b m : Int) (w : World) (hn : (xs.length : Int) ≤ 9223372036854775807) (hr : Rd w w.heap.size A (xs.map (Value.int .i64))) :
    Calls Try.prog 12 #[.slice A xs.length c, .int .i64 b, .int .i64 m] w (NewI (cutB xs b m) w) := by
  rcases hv : bvB xs b m with _ | _
  · have e0 : Hid (cutB xs b m = []) := by simp [Hid, cutB, hv]
    go_enter Try.func12, Try.ntmps12
    go_wp2_with ((go_at_call 22; refine (implBV_c _ _ _ _ _ _ hn hr).mono ?_; rintro e w' ⟨rfl, rfl⟩))
    go_ret
    unfold NewI
    rw [e0.out]
    exact ⟨none, 0, rfl, IS.nil _ _, by go_grown⟩
  · obtain ⟨q1, q2, q3, q4, q5, q6⟩ := bvB_iff.1 hv
    obtain ⟨i0, hi, hz0, hz1, hz2⟩ := info_parts infoInt
    refine (callsIn_wide (n := 8)).1 ?_
    refine callsIn_of_wp_marks Try.func12 rfl trivial ?_ rfl
    simp only [Try.ntmps12, List.size_toArray, List.length_cons, List.length_nil, Nat.reduceAdd, Nat.reduceSub, Array.replicate_succ, Array.replicate_zero, List.push_toArray, List.append_toArray, List.nil_append, List.cons_append]
    gi_wp2_with (first
      | (refine ⟨trivial, ?_⟩; gi_at_call 22; refine (callsIn_wide.2 (implBV_c _ _ _ _ _ _ hn hr)).mono ?_; rintro e w' ⟨rfl, rfl⟩)
      | (refine ⟨trivial, ?_⟩; gi_at_call 23; refine (batches_in _ _ trivial rfl _ _ _ _ _ _).mono ?_; rintro e w' ⟨rfl, rfl⟩))
    have bO := (((Boxed.new (w.alloc (.cells #[] 3)) 23 (.slice (some ⟨w.heap.size, 0, none⟩) 0 0)).alloc (.cells #[.slice A xs.length c] 23)).alloc (.cells #[.int .i64 b] 3)).alloc (.cells #[.int .i64 m] 3)
    have bS := ((Boxed.new ((w.alloc (.cells #[] 3)).alloc (.cells #[.slice (some ⟨w.heap.size, 0, none⟩) 0 0] 23)) 23 (.slice A xs.length c)).alloc (.cells #[.int .i64 b] 3)).alloc (.cells #[.int .i64 m] 3)
    have bB := (Boxed.new (((w.alloc (.cells #[] 3)).alloc (.cells #[.slice (some ⟨w.heap.size, 0, none⟩) 0 0] 23)).alloc (.cells #[.slice A xs.length c] 23)) 3 (.int .i64 b)).alloc (.cells #[.int .i64 m] 3)
    have bM := Boxed.new ((((w.alloc (.cells #[] 3)).alloc (.cells #[.slice (some ⟨w.heap.size, 0, none⟩) 0 0] 23)).alloc (.cells #[.slice A xs.length c] 23)).alloc (.cells #[.int .i64 b] 3)) 3 (.int .i64 m)
    simp only [World.size_alloc] at bO bS bB bM
    have hw : Below w.heap.size w (((((w.alloc (.cells #[] 3)).alloc (.cells #[.slice (some ⟨w.heap.size, 0, none⟩) 0 0] 23)).alloc (.cells #[.slice A xs.length c] 23)).alloc (.cells #[.int .i64 b] 3)).alloc (.cells #[.int .i64 m] 3)) := by go_grown
    have hO : (((((w.alloc (.cells #[] 3)).alloc (.cells #[.slice (some ⟨w.heap.size, 0, none⟩) 0 0] 23)).alloc (.cells #[.slice A xs.length c] 23)).alloc (.cells #[.int .i64 b] 3)).alloc (.cells #[.int .i64 m] 3)).ownsRow w.heap.size 3 1 (.slice (some ⟨w.heap.size, 0, none⟩) 0 0) 0 [] := (((((World.ownsRow_made w #[] 0 (Nat.le_refl _) (Nat.zero_le _) rfl).alloc _).alloc _).alloc _).alloc _)
    have hwz : (((((w.alloc (.cells #[] 3)).alloc (.cells #[.slice (some ⟨w.heap.size, 0, none⟩) 0 0] 23)).alloc (.cells #[.slice A xs.length c] 23)).alloc (.cells #[.int .i64 b] 3)).alloc (.cells #[.int .i64 m] 3)).heap.size = w.heap.size + 1 + 1 + 1 + 1 + 1 := by simp
    generalize (((((w.alloc (.cells #[] 3)).alloc (.cells #[.slice (some ⟨w.heap.size, 0, none⟩) 0 0] 23)).alloc (.cells #[.slice A xs.length c] 23)).alloc (.cells #[.int .i64 b] 3)).alloc (.cells #[.int .i64 m] 3)) = wl at *
    have hl20 := (cutB_sum hv).2.2
    refine wpIn_rangeFunc_ownG rfl (by omega) (gf := 27) (lb := #[.pointer (some ⟨w.heap.size + 1 + 1, 0, none⟩), .pointer (some ⟨w.heap.size + 1 + 1 + 1 + 1, 0, none⟩), .pointer (some ⟨w.heap.size + 1 + 1 + 1, 0, none⟩)]) rfl trivial (enters_of Try.func27 (by kernel_rfl) rfl)
      (batches_stops _ _ trivial rfl (by omega) (w.heap.size + 1 + 1) (w.heap.size + 1 + 1 + 1 + 1) (w.heap.size + 1 + 1 + 1) w.heap.size (w.heap.size + 1 + 1) wl.heap.size A xs c b m (by omega) (by omega) (by omega) (by omega) (by omega) (by omega) hv wl (Nat.le_refl _) (by omega) bS.cell bM.cell bB.cell (hr.below hw))
      kpB_t (kpB_b (by omega) (Nat.le_refl _)) (Below.refl _ _) (fun _ => rfl)
      (fun pre W => (∃ v, Boxed W (w.heap.size + 1) 23 v ∧ OF W w.heap.size wl.heap.size v pre) ∧ Below w.heap.size w W ∧ wl.heap.size ≤ W.heap.size)
      (fun _ _ _ => False)
      ?hI (fun _ _ _ _ _ hs _ _ => hs)
      ⟨⟨_, bO, .inr ⟨rfl, ⟨_, rfl⟩, hO⟩⟩, hw, Nat.le_refl _⟩
      (fun x => { tmps := #[.slice A xs.length c, .int .i64 b, .int .i64 m, undef, undef, undef, .slice none 0 0, .pointer (some ⟨w.heap.size + 1, 0, none⟩), .int .i64 x, .slice A xs.length c, .int .i64 b, .int .i64 m, .bool true, .bool false, .slice (some ⟨w.heap.size, 0, none⟩) 0 0, .slice A xs.length c, .int .i64 b, .int .i64 m, .func (.func 27) #[] #[.pointer (some ⟨w.heap.size + 1 + 1, 0, none⟩), .pointer (some ⟨w.heap.size + 1 + 1 + 1 + 1, 0, none⟩), .pointer (some ⟨w.heap.size + 1 + 1 + 1, 0, none⟩)], .int .i64 x, undef, undef, undef, undef, undef], defers := [] }) ?assign ?body ?done ?stop
    case hI =>
      rintro pre X Y row ⟨⟨v, hb, ho⟩, hB, hz⟩ hg hr
      refine ⟨⟨v, hb.kept hg (fun e => by have := (hr _ e.symm).1; omega), ho.cells hg (fun r e => (hr r e).2)⟩, hB.grown hg hB.size (fun k e => by have := (hr k e).1; omega), Nat.le_trans hz hg.size⟩
    case assign =>
      intro l x W K hK
      gi_wp2
      exact hK
    case body =>
      rintro l pre x W ⟨⟨v, hb, ho⟩, hB, hz⟩ hlt
      have hc := hb.cell
      gi_wp2_with (gi_at_builtin; refine wpListIn_append_OF x rfl _ _ rfl rfl (ho.alloc _) rfl (cell_one_new _ _ _ 0 _ rfl) (by omega) (by simp; omega) ?_; intro g' c' w1 h1 hb1 hk1; have hb' : Boxed w1 (w.heap.size + 1) 23 v := (hb1.block (w.heap.size + 1) (by omega)).trans (hb.alloc _); have hc1 := hb'.cell; have hf1 := hb'.frozen)
      have hs1 := hb1.size
      simp only [World.size_alloc] at hs1
      refine ⟨(((KeepsOthers.alloc W _).trans hk1).trans (KeepsOthers.setCell _ _ _)).from _, ⟨?_, fun k k1 k2 => ?_⟩, ⟨⟨_, hb'.set _, .inl (ownsRow_setCell_below h1 (by show w.heap.size + 1 < _; omega) _)⟩, ?_, by simp; omega⟩⟩
      · exact (((Below.refl _ W).alloc (by omega) _).trans (hb1.mono (by omega))).setCell (by show w.heap.size ≤ w.heap.size + 1; omega) _
      · exact (Below.heap_setCell w1 _ _ k (by show k ≠ w.heap.size + 1; omega)).trans ((hb1.block k k2).trans (Below.heap_alloc W _ k (by omega)))
      · exact ((hB.alloc (by omega) _).trans (hb1.mono (by omega))).setCell (by show w.heap.size ≤ w.heap.size + 1; omega) _
    case done =>
      rintro D ys W hD rfl ⟨⟨v, hb, ho⟩, hB, hz⟩ hK
      have hc := hb.cell
      gi_wp2
      refine ⟨by simp, .inl ⟨_, _, rfl, run_takeDeferred hK, ?_⟩⟩
      refine ⟨_, results_tmp rfl _ _ _, ?_⟩
      obtain ⟨A', c', rfl, S⟩ := ho.open_ (by omega)
      have hg := grownBy_putObj' W D (.deferred none)
      refine ⟨A', c', rfl, ?_, hB.grown hg hB.size (fun k e => by cases e; omega)⟩
      exact own_cells S hg (fun r e => by cases e; exact ⟨_, hK, rfl⟩)
    case stop =>
      rintro D c' pre W _ _ h _
      exact h.elim
end Go.Proofs.Ytelapagdbmlnhaa
