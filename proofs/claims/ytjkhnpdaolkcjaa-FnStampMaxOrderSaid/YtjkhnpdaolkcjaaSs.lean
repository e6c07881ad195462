/- Memory words: a slice of stamps of the call's own, at whatever capacity; a stamp is appended to it. -/
import Derived.Test.YtjkhnpdaolkcjaaCe
import Derived.Test.YtjkhnpdaolkcjaaDraw4
namespace Go.Proofs.Ytjkhnpdaolkcjaa
set_option linter.unusedVariables false
open Go.RowKit

theorem hidS {p : Prop} (h : p) : Hid p := h

/-- The slice value v, made from block B on, reads as the stamps ss. -/
def PV (w : World) (B : Nat) (v : Value) (n : Nat) (ss : List (Int × Int)) : Prop := w.ownsRow B 31 2 v n (ss.flatMap pc)

section
variable {w w' : World} {B n : Nat} {v : Value} {ss : List (Int × Int)}

theorem PV.open_ (h : PV w B v n ss) : ∃ A c, v = .slice A n c := by
  rcases h.2 with ⟨hv, hn⟩ | ⟨g, cap, cur, hv, _⟩
  · subst hv hn
    exact ⟨none, 0, rfl⟩
  · exact ⟨_, _, hv⟩
theorem PV.len (h : PV w B v n ss) : ss.length = n := by
  have h1 := h.1
  rw [flat_length] at h1
  omega
theorem PV.rd {A : Option Addr} {c : Nat} (h : PV w B (.slice A n c) n ss) : Rd w w.heap.size A (ss.flatMap pc) := Rd.own h
theorem PV.grown {row : Option Nat} (h : PV w B v n ss) (hg : w.grownBy w' row) (hne : ∀ k, row = some k → k < B) : PV w' B v n ss := by
  refine World.ownsRow.kept h hg ?_
  cases e : v.ownBlock with
  | none => exact .inl rfl
  | some k =>
    refine .inr fun e2 => ?_
    have := hne k e2.symm
    have := (World.ownsRow.lt h k e).1
    omega
theorem PV.below (h : PV w B v n ss) (hb : Below w.heap.size w w') : PV w' B v n ss :=
  h.grown (row := none) ⟨hb.os, hb.tape, hb.output, hb.size, fun i hi _ => hb.block i hi⟩ (fun k e => by cases e)
theorem PV.alloc (h : PV w B v n ss) (o : Obj) : PV (w.alloc o) B v n ss := h.below ((Below.refl _ _).alloc (Nat.le_refl _) o)
theorem PV.mono {B' : Nat} (h : PV w B v n ss) (hB : B' ≤ B) : PV w B' v n ss := by
  refine ⟨h.1, ?_⟩
  rcases h.2 with h2 | ⟨g, cap, cur, hv, hb, hr⟩
  · exact .inl h2
  · exact .inr ⟨g, cap, cur, hv, by omega, hr⟩
/-- Its block lies below K, and below K nothing has turned. -/
theorem PV.apart {K m c : Nat} {a : Addr} (h : PV w B (.slice (some a) m c) n ss) (hk : a.block < K) (hb : Below K w w') : PV w' B (.slice (some a) m c) n ss := by
  refine ⟨h.1, ?_⟩
  rcases h.2 with h2 | ⟨g, cap, cur, hv, hg, hh, r⟩
  · exact .inl h2
  · refine .inr ⟨g, cap, cur, hv, hg, (hb.block g ?_).trans hh, r⟩
    injection hv with e1 e2 e3
    injection e1 with e1
    subst e1
    exact hk
theorem PV.start (w : World) : PV (w.alloc (.cells #[] 31)) w.heap.size (.slice (some ⟨w.heap.size, 0, none⟩) 0 0) 0 [] := by
  refine ⟨rfl, .inr ⟨w.heap.size, 0, #[], rfl, Nat.le_refl _, Box.new w _ _, Nat.le_refl _, Nat.zero_le _, by simp, by simp⟩⟩
end

theorem wpList_append_PV {ops : Array Oper} {rest : List Oper} {o : Oper} {a : Act} {Q : Exit → Act → World → Prop} {w : World} (x y : Int) (hgd : o.guard = none) (s z : Operand)
    (ho : o.op = .call { callee := .builtin .append, args := #[s, z], argTypes := #[37, 37] })
    {B n g : Nat} {v : Value} {ss : List (Int × Int)}
    (hs : a.eval s = v) (h : PV w B v n ss) (hx : a.eval z = .slice (some ⟨g, 0, none⟩) 1 1) (hg0 : w.cell? ⟨g, 0, none⟩ = some (.int .i64 x)) (hg1 : w.cell? ⟨g, 1, none⟩ = some (.int .i64 y)) (hn : n ≤ 1000000) (hB : B ≤ w.heap.size)
    (k : ∀ v' w', PV w' B v' (n + 1) (ss ++ [(x, y)]) → Below B w w' → w.grownBy w' v.ownBlock → wpList Try.prog ops Q rest (a.put o.dst v') w') : wpList Try.prog ops Q (o :: rest) a w := by
  obtain ⟨i0, hi, hz0, hz1, hz2⟩ := info_parts infoStamp
  refine wpList_append_own _ hgd s z 37 ho B 31 i0 (.agg #[.int .i64 0, .int .i64 0]) 2 16 Try.underlying37 hi hz0 hz1 hz2 rfl (by decide) _ n (ss.flatMap pc) hs h ⟨g, 0, none⟩ 1 1 (pc (x, y)) hx rfl ?_ ?_ (by unfold maxLen; omega) (by omega) hB ?_
  · intro j u hj
    match j, hj with
    | 0, hj =>
      simp [pc] at hj
      subst hj
      simpa [Addr.add] using hg0
    | 1, hj =>
      simp [pc] at hj
      subst hj
      simpa [Addr.add] using hg1
  · intro u hu
    simp [pc] at hu
    rcases hu with rfl | rfl <;> rfl
  · intro v' w' h1 h2 _
    refine k v' w' ?_ ((Below.refl _ _).grown h2 hB (fun g' e => (World.ownsRow.lt h g' e).1)) h2
    unfold PV
    rw [List.flatMap_append]
    simpa using h1

/-- Stamps drawn out of a code. -/
def DrewPs (w : World) (e : Ending) (w' : World) : Prop :=
  ∃ (ss : List (Int × Int)) (A : Option Addr) (c : Nat), e = .returned (.slice A ss.length c) ∧ ss.length ≤ 13 ∧ (∀ s ∈ ss, -1 ≤ s.1 ∧ s.1 ≤ 1000 ∧ -1 ≤ s.2 ∧ s.2 ≤ 1000) ∧ PV w' w.heap.size (.slice A ss.length c) ss.length ss ∧ Below w.heap.size w w'

theorem ps_snoc {ss : List (Int × Int)} {x y : Int} (h : ∀ s ∈ ss, -1 ≤ s.1 ∧ s.1 ≤ 1000 ∧ -1 ≤ s.2 ∧ s.2 ≤ 1000) (h1 : -1 ≤ x) (h2 : x ≤ 1000) (h3 : -1 ≤ y) (h4 : y ≤ 1000) : ∀ s ∈ ss ++ [(x, y)], -1 ≤ s.1 ∧ s.1 ≤ 1000 ∧ -1 ≤ s.2 ∧ s.2 ≤ 1000 := by
  intro s hs
  rcases List.mem_append.1 hs with hs | hs
  · exact h s hs
  · obtain rfl : s = (x, y) := by simpa using hs
    exact ⟨h1, h2, h3, h4⟩

set_option maxHeartbeats 4000000 in
theorem drawSM_c (A : Option Addr) (bs : List Int) (c : Nat) (w : World) (hm : (bs.length : Int) ≤ 9223372036854775807) (hlc : bs.length ≤ c) (hcm : (c : Int) ≤ 9223372036854775807) (hr : Rd w w.heap.size A (bs.map (Value.int .u8))) (hf : ∀ x ∈ bs, FitB x) :
    Calls Try.prog 17 #[.slice A bs.length c] w (DrewPs w) := by
  go_enter Try.func17, Try.ntmps17
  go_wp2_with fail
  refine (l6Open_c A bs c _ hm hlc hcm hr hf).mono ?_
  rintro e w1 ⟨rfl, hR, hb⟩
  clear hr hf
  have lg := hR.lt
  have hs1 := hb.size
  have V := PV.start w1
  have hR1 := hR.alloc (.cells #[] 31)
  have hw1 : Below w.heap.size w (w1.alloc (.cells #[] 31)) := by go_grown
  have hz := hw1.size
  clear hR hb
  go_wp2_with fail
  obtain ⟨g, hg⟩ : ∃ g, g = w.heap.size := ⟨_, rfl⟩
  refine (pick_c w.heap.size 0 6 _ hR1 (by omega) (by omega) (by omega)).mono ?_
  rintro e w2 ⟨k2, rfl, h2, _, hR2, hg2⟩
  obtain ⟨h2a, h2b⟩ := h2 (by omega)
  have hw2 := below_only hw1 hg2 (Nat.le_refl _) (by omega)
  have V2 := V.grown hg2 (fun k e => by cases e; omega)
  have hs2 := hg2.size
  simp only [World.size_alloc] at hs2
  clear V hw1 hg2 h2 hR1
  go_wp2_with fail
  refine (pick_c w.heap.size 1 16 _ hR2 (by omega) (by omega) (by omega)).mono ?_
  rintro e w3 ⟨k3, rfl, h3, _, hR3, hg3⟩
  obtain ⟨h3a, h3b⟩ := h3 (by omega)
  have hw3 := below_only hw2 hg3 (Nat.le_refl _) (by omega)
  have V3 := V2.grown hg3 (fun k e => by cases e; omega)
  have hs3 := hg3.size
  clear V2 hw2 hg3 h3 hR2
  by_cases h0 : k3 = 0
  · subst h0
    go_wp2_with fail
    refine (pick_c w.heap.size 2 3 _ hR3 (by omega) (by omega) (by omega)).mono ?_
    rintro e w4 ⟨k4, rfl, h4, _, hR4, hg4⟩
    obtain ⟨h4a, h4b⟩ := h4 (by omega)
    have hw4 := below_only hw3 hg4 (Nat.le_refl _) (by omega)
    have V4 := V3.grown hg4 (fun k e => by cases e; omega)
    have hs4 := hg4.size
    clear V3 hw3 hg4 h4 hR3
    obtain ⟨N4, rfl⟩ := Int.eq_ofNat_of_zero_le h4a
    obtain ⟨N, hN⟩ : ∃ N, N = 11 + N4 := ⟨_, rfl⟩
    have hN13 : N ≤ 13 := by omega
    have eN : (11 : Int) + (N4 : Int) = (N : Int) := by omega
    clear hN
    go_wp2_with fail
    go_loopw [4, 6] (fun o i wr => ∃ (k : Nat) (v : Value) (ss : List (Int × Int)), k ≤ N ∧ i = .int .i64 k ∧ o = v ∧ PV wr w1.heap.size v k ss ∧ Hid (∀ s ∈ ss, -1 ≤ s.1 ∧ s.1 ≤ 1000 ∧ -1 ≤ s.2 ∧ s.2 ≤ 1000) ∧ Rdr wr w.heap.size (3 + 4 * k) ∧ Below w.heap.size w wr ∧ w1.heap.size ≤ wr.heap.size)
      (fun _ i _ => N - (intOf i).toNat)
    case atStart => exact ⟨0, _, [], Nat.zero_le _, rfl, rfl, V4, by simp [Hid], hR4, hw4, by omega⟩
    case round =>
      clear V4 hR4 hw4
      obtain ⟨k, v, ss, hk, rfl, rfl, V, HB, hR, hw, hsz⟩ := hrel
      by_cases hlt : k < N
      · go_wp2_with fail
        refine (l91Stamp_c w.heap.size (3 + 4 * k) _ hR (by omega)).mono ?_
        rintro e w5 ⟨x, y, rfl, x1, x2, y1, y2, hR5, hg5⟩
        have hw5 := below_only hw hg5 (Nat.le_refl _) hw.size
        have V5 := V.grown hg5 (fun k e => by cases e; omega)
        have hs5 := hg5.size
        clear V hw hg5 hR
        go_wp2_with (at_builtin; refine wpList_append_PV x y rfl _ _ rfl rfl (V5.alloc _) rfl (by simp) (by simp) (by omega) (by simp; omega) ?_; intro v6 w6 V6 hb6 hg6)
        have hw6 : Below w.heap.size w w6 := (hw5.alloc hw5.size _).trans (hb6.mono (by omega))
        have hR6 : Rdr w6 w.heap.size (3 + 4 * (k + 1)) := by
          obtain ⟨A', bs', c', p', r1, r2, r3, r4, r5⟩ := hR5.alloc (Obj.cells #[.int .i64 x, .int .i64 y] 31)
          exact ⟨A', bs', c', p', (hb6.block _ (by omega)).trans r1, r2.below (hb6.mono (by omega)), r3, r4, by omega⟩
        have hs6 := hb6.size
        go_roundw
        case rel => exact ⟨k + 1, _, _, by omega, by go_num, rfl, V6, ps_snoc HB.out x1 x2 y1 y2, hR6, hw6, by simp at hs6; omega⟩
        case measure => simp [intOf]; omega
      · obtain rfl : k = N := by omega
        have hl := V.len
        obtain ⟨A8, c8, rfl⟩ := V.open_
        go_wp2_with fail
        go_ret
        exact ⟨ss, A8, c8, by rw [hl]; rfl, by omega, HB.out, by rw [hl]; exact V.mono (by omega), hw⟩
  · have h0' : (k3 == 0) = false := by simpa using h0
    obtain ⟨N, rfl⟩ := Int.eq_ofNat_of_zero_le h2a
    have hN13 : N ≤ 13 := by omega
    have V4 := V3
    have hR4 := hR3.more (m' := 3) (by omega)
    have hw4 := hw3
    have hs4 := hs3
    clear V3 hR3 hw3
    go_wp2_with fail
    go_loopw [4, 6] (fun o i wr => ∃ (k : Nat) (v : Value) (ss : List (Int × Int)), k ≤ N ∧ i = .int .i64 k ∧ o = v ∧ PV wr w1.heap.size v k ss ∧ Hid (∀ s ∈ ss, -1 ≤ s.1 ∧ s.1 ≤ 1000 ∧ -1 ≤ s.2 ∧ s.2 ≤ 1000) ∧ Rdr wr w.heap.size (3 + 4 * k) ∧ Below w.heap.size w wr ∧ w1.heap.size ≤ wr.heap.size)
      (fun _ i _ => N - (intOf i).toNat)
    case atStart => exact ⟨0, _, [], Nat.zero_le _, rfl, rfl, V4, by simp [Hid], hR4, hw4, by omega⟩
    case round =>
      clear V4 hR4 hw4
      obtain ⟨k, v, ss, hk, rfl, rfl, V, HB, hR, hw, hsz⟩ := hrel
      by_cases hlt : k < N
      · go_wp2_with fail
        refine (l91Stamp_c w.heap.size (3 + 4 * k) _ hR (by omega)).mono ?_
        rintro e w5 ⟨x, y, rfl, x1, x2, y1, y2, hR5, hg5⟩
        have hw5 := below_only hw hg5 (Nat.le_refl _) hw.size
        have V5 := V.grown hg5 (fun k e => by cases e; omega)
        have hs5 := hg5.size
        clear V hw hg5 hR
        go_wp2_with (at_builtin; refine wpList_append_PV x y rfl _ _ rfl rfl (V5.alloc _) rfl (by simp) (by simp) (by omega) (by simp; omega) ?_; intro v6 w6 V6 hb6 hg6)
        have hw6 : Below w.heap.size w w6 := (hw5.alloc hw5.size _).trans (hb6.mono (by omega))
        have hR6 : Rdr w6 w.heap.size (3 + 4 * (k + 1)) := by
          obtain ⟨A', bs', c', p', r1, r2, r3, r4, r5⟩ := hR5.alloc (Obj.cells #[.int .i64 x, .int .i64 y] 31)
          exact ⟨A', bs', c', p', (hb6.block _ (by omega)).trans r1, r2.below (hb6.mono (by omega)), r3, r4, by omega⟩
        have hs6 := hb6.size
        go_roundw
        case rel => exact ⟨k + 1, _, _, by omega, by go_num, rfl, V6, ps_snoc HB.out x1 x2 y1 y2, hR6, hw6, by simp at hs6; omega⟩
        case measure => simp [intOf]; omega
      · obtain rfl : k = N := by omega
        have hl := V.len
        obtain ⟨A8, c8, rfl⟩ := V.open_
        go_wp2_with fail
        go_ret
        exact ⟨ss, A8, c8, by rw [hl]; rfl, by omega, HB.out, by rw [hl]; exact V.mono (by omega), hw⟩
end Go.Proofs.Ytjkhnpdaolkcjaa
