/- Contracts: entries and groups are copied and compared. -/
import Derived.Test.YtiecjkacbpbghaaEf
namespace Go.Proofs.Ytiecjkacbpbghaa
set_option linter.unusedVariables false
open Go.RowKit

/-- Stores into one cell of an entry. -/
theorem flatE_set (l : List Ent) : ∀ {k : Nat} {e : Ent}, l[k]? = some e → ∀ m t g f,
    (l.flatMap ec).set (k * 4) (.int .i64 m) = (l.set k ⟨m, e.t, e.g, e.f⟩).flatMap ec ∧
    (l.flatMap ec).set (k * 4 + 1) (.int .i64 t) = (l.set k ⟨e.m, t, e.g, e.f⟩).flatMap ec ∧
    (l.flatMap ec).set (k * 4 + 2) (.int .i64 g) = (l.set k ⟨e.m, e.t, g, e.f⟩).flatMap ec ∧
    (l.flatMap ec).set (k * 4 + 3) (.bool f) = (l.set k ⟨e.m, e.t, e.g, f⟩).flatMap ec := by
  induction l with
  | nil => intro k e h; simp at h
  | cons a r ih =>
    intro k e h m t g f
    cases k with
    | zero =>
      simp at h
      subst h
      simp [ec]
    | succ k =>
      simp at h
      obtain ⟨i1, i2, i3, i4⟩ := ih h m t g f
      have e1 : (k + 1) * 4 = k * 4 + 1 + 1 + 1 + 1 := by omega
      rw [e1]
      simp only [List.flatMap_cons, List.set_cons_succ, ← i1, ← i2, ← i3, ← i4]
      simp [ec]

/-- The first k entries are in. -/
def fillE (es : List Ent) (k : Nat) : List Ent := es.take k ++ List.replicate (es.length - k) ⟨0, 0, 0, false⟩
theorem fillE_full (es : List Ent) : fillE es es.length = es := by simp [fillE]
theorem fillE_length (es : List Ent) (k : Nat) (hk : k ≤ es.length) : (fillE es k).length = es.length := by
  simp [fillE]; omega
theorem fillE_at {es : List Ent} {k : Nat} (hk : k < es.length) : (fillE es k)[k]? = some ⟨0, 0, 0, false⟩ := by
  unfold fillE
  rw [List.getElem?_append_right (by simp; omega), List.length_take, Nat.min_eq_left (by omega), Nat.sub_self]
  simp [List.getElem?_replicate]
  omega
theorem fillE_step {es : List Ent} {k : Nat} {e : Ent} (h : es[k]? = some e) : (fillE es k).set k e = fillE es (k + 1) := by
  have hk := (List.getElem?_eq_some_iff.1 h).1
  unfold fillE
  obtain ⟨m, hm⟩ : ∃ m, es.length - k = m + 1 := ⟨es.length - k - 1, by omega⟩
  have e2 : es.length - (k + 1) = m := by omega
  have hl : (es.take k).length = k := by rw [List.length_take]; omega
  rw [hm, e2, List.replicate_succ, take_at h, List.set_append_right _ _ (by omega), hl, Nat.sub_self]
  simp
theorem fillE_cells {es : List Ent} {k : Nat} {m t g : Int} {f : Bool} (h : es[k]? = some ⟨m, t, g, f⟩) :
    (((((fillE es k).flatMap ec).set (k * 4) (.int .i64 m)).set (k * 4 + 1) (.int .i64 t)).set (k * 4 + 2) (.int .i64 g)).set (k * 4 + 3) (.bool f) = (fillE es (k + 1)).flatMap ec := by
  have hk := (List.getElem?_eq_some_iff.1 h).1
  have h0 := fillE_at hk
  have hl := fillE_length es k (by omega)
  have at_ : ∀ x : Ent, ((fillE es k).set k x)[k]? = some x := fun x => List.getElem?_set_self (by omega)
  have s1 := (flatE_set _ h0 m t g f).1
  have s2 := (flatE_set _ (at_ ⟨m, 0, 0, false⟩) m t g f).2.1
  have s3 := (flatE_set ((fillE es k).set k ⟨m, t, 0, false⟩) (at_ ⟨m, t, 0, false⟩) m t g f).2.2.1
  have s4 := (flatE_set ((fillE es k).set k ⟨m, t, g, false⟩) (at_ ⟨m, t, g, false⟩) m t g f).2.2.2
  simp only [List.set_set] at s2 s3 s4
  rw [s1, s2, s3, s4, fillE_step h]

theorem made_ents (n : Nat) : madeCells #[.int .i64 0, .int .i64 0, .int .i64 0, .bool false] (n * 4) = ((List.replicate n (⟨0, 0, 0, false⟩ : Ent)).flatMap ec).toArray := by
  apply Array.ext
  · simp only [madeCells, Array.size_map, Array.size_range, List.size_toArray]
    rw [flatE_length, List.length_replicate]
  · intro i h1 h2
    have hi : i < n * 4 := by simpa [madeCells] using h1
    have hr : (List.replicate n (⟨0, 0, 0, false⟩ : Ent))[i / 4]? = some ⟨0, 0, 0, false⟩ := by
      rw [List.getElem?_replicate, if_pos (by omega)]
    obtain ⟨p0, p1, p2, p3⟩ := flat_ec hr
    simp only [madeCells, Array.getElem_map, Array.getElem_range, List.getElem_toArray]
    rw [← Option.some_inj, ← List.getElem?_eq_getElem]
    rcases (show i % 4 = 0 ∨ i % 4 = 1 ∨ i % 4 = 2 ∨ i % 4 = 3 by omega) with hm | hm | hm | hm
    · rw [show i / 4 * 4 = i by omega] at p0
      rw [p0]
      simp [hm]
    · rw [show i / 4 * 4 + 1 = i by omega] at p1
      rw [p1]
      simp [hm]
    · rw [show i / 4 * 4 + 2 = i by omega] at p2
      rw [p2]
      simp [hm]
    · rw [show i / 4 * 4 + 3 = i by omega] at p3
      rw [p3]
      simp [hm]

theorem mkEnts (es : List Ent) (hn : es.length ≤ 1048576) (W : World) :
    (Instr.makeSlice 24 (.int .i64 (es.length : Int)) (.int .i64 (es.length : Int))).run Try.prog W = .ok (.slice (some ⟨W.heap.size, 0, none⟩) es.length es.length) (W.alloc (.cells ((fillE es 0).flatMap ec).toArray 48)) := by
  obtain ⟨i0, hi, hz0, hz1, hz2⟩ := info_parts infoEnt
  have h := run_make (P := Try.prog) W 24 48 i0 _ Try.underlying24 hi hz0 .i64 .i64 es.length es.length (by omega) (by omega) (by rw [hz2]; omega) (by omega)
  rw [hz1] at h
  have e0 : fillE es 0 = List.replicate es.length ⟨0, 0, 0, false⟩ := by simp [fillE]
  rw [e0, ← made_ents]
  simpa [Value.cells] using h

set_option maxHeartbeats 400000 in
theorem toEntry_c (m t g : Int) (f : Bool) (w : World) : Calls Try.prog 48 #[.agg #[.int .i64 m, .int .i64 t, .int .i64 g, .bool f]] w fun e w' => e = .returned (.agg #[.int .i64 m, .int .i64 t, .int .i64 g, .bool f]) ∧ Below w.heap.size w w' := by
  go_enter Try.func48, Try.ntmps48
  go_wp2_with (first | (go_at_call 53; refine (toStamp_c _ _ _).mono ?_; rintro e w1 ⟨rfl, hb⟩; have hK := bt (by first | with_reducible assumption | exact Below.refl _ _) hb; have hc := bcell hK; have hf := bfrozen hK; have hs := bsize hK; clear hb; (try simp only [World.size_drew, World.cell?_drew, World.frozen?_drew] at hc hf hs); (try (refine bw (w := w) hK ?_ ?_; (focus (first | exact HW.out | (have hq := HW.out; go_grown; done) | (go_grown; done))); intro hw hwz; have hK := hK)); (try (refine bz hK (w.heap.size) ?_ ?_; (focus (first | omega | (simp; done) | (simp; omega))); intro hz0 hd0 hg0)); (try (refine bz hK (w.heap.size + 1) ?_ ?_; (focus (first | omega | (simp; done) | (simp; omega))); intro hz1 hd1 hg1)); (try (refine bz hK (w.heap.size + 2) ?_ ?_; (focus (first | omega | (simp; done) | (simp; omega))); intro hz2 hd2 hg2)); (try (refine bz hK (w.heap.size + 3) ?_ ?_; (focus (first | omega | (simp; done) | (simp; omega))); intro hz3 hd3 hg3)); (try (refine bz hK g ?_ ?_; (focus (first | omega | (simp; done) | (simp; omega))); intro hzg hdg hgg)); (try (refine bz hK g1 ?_ ?_; (focus (first | omega | (simp; done) | (simp; omega))); intro hzg hdg hgg)); (try (refine bz hK g2 ?_ ?_; (focus (first | omega | (simp; done) | (simp; omega))); intro hzg hdg hgg))))
  refine bodyPost_ret (v := .agg #[.int .i64 m, .int .i64 t, .int .i64 g, .bool f]) (by simp (maxDischargeDepth := 8) [results, Try.results48, go_sem, *]) rfl ⟨rfl, ?_⟩
  go_grown

/-- A new slice of entries, its block known. -/
def MadeE (es : List Ent) (w : World) (e : Ending) (w' : World) : Prop :=
  ∃ g, e = .returned (.slice (some ⟨g, 0, none⟩) es.length es.length) ∧ Box w' g 48 (es.flatMap ec).toArray ∧ w.heap.size ≤ g ∧ Below w.heap.size w w'

set_option maxHeartbeats 1000000 in
theorem toEntryS_c (A : Option Addr) (es : List Ent) (c : Nat) (w : World) (hn : es.length ≤ 1048576) (hr : RE w A es) :
    Calls Try.prog 41 #[.slice A es.length c] w (MadeE es w) := by
  have hmk := mkEnts es hn
  go_enter Try.func41, Try.ntmps41
  go_wp2
  go_loopw [4] (fun i wr => ∃ k : Nat, k ≤ es.length ∧ i = .int .i64 k ∧ Box wr w.heap.size 48 ((fillE es k).flatMap ec).toArray ∧ Below w.heap.size w wr)
    (fun i _ => es.length - (intOf i).toNat)
  case atStart => exact ⟨0, Nat.zero_le _, rfl, Box.new _ _ _, by go_grown⟩
  case round =>
    obtain ⟨k, hk, rfl, B0, hw⟩ := hrel
    have l0 := B0.lt
    by_cases hlt : k < es.length
    · obtain ⟨b, o, m, t, g, f, rfl, hb, hx, d0, d1, d2, d3⟩ := (hr.below hw).ent hlt
      have hl : ((fillE es k).flatMap ec).length = es.length * 4 := by rw [flatE_length, fillE_length _ _ hk]
      have Q : ∀ j, j < 4 → ∃ u, wr.cell? ⟨w.heap.size, k * 4 + j, none⟩ = some u := fun j hj => ⟨_, (B0.cell _).trans (by simp only [List.getElem?_toArray]; exact List.getElem?_eq_getElem (by omega))⟩
      obtain ⟨u0, q0⟩ := Q 0 (by omega)
      obtain ⟨u1, q1⟩ := Q 1 (by omega)
      obtain ⟨u2, q2⟩ := Q 2 (by omega)
      obtain ⟨u3, q3⟩ := Q 3 (by omega)
      rw [Nat.add_zero] at q0
      have z0 := B0.frozen (k * 4)
      have z1 := B0.frozen (k * 4 + 1)
      have z2 := B0.frozen (k * 4 + 2)
      have z3 := B0.frozen (k * 4 + 3)
      have hbw : b < wr.heap.size := by have := hw.size; omega
      have HW : Hid _ := hw
      have HL : Hid _ := hl
      clear hw hl Q
      go_wp2_with (first | (go_at_call 48; refine (toEntry_c _ _ _ _ _).mono ?_; rintro e w1 ⟨rfl, hb⟩; have hK := bt (by first | with_reducible assumption | exact Below.refl _ _) hb; have hc := bcell hK; have hf := bfrozen hK; have hs := bsize hK; clear hb; (try simp only [World.size_drew, World.cell?_drew, World.frozen?_drew] at hc hf hs); (try (refine bw (w := w) hK ?_ ?_; (focus (first | exact HW.out | (have hq := HW.out; go_grown; done) | (go_grown; done))); intro hw hwz; have hK := hK)); (try (refine bz hK (w.heap.size) ?_ ?_; (focus (first | omega | (simp; done) | (simp; omega))); intro hz0 hd0 hg0)); (try (refine bz hK (w.heap.size + 1) ?_ ?_; (focus (first | omega | (simp; done) | (simp; omega))); intro hz1 hd1 hg1)); (try (refine bz hK (w.heap.size + 2) ?_ ?_; (focus (first | omega | (simp; done) | (simp; omega))); intro hz2 hd2 hg2)); (try (refine bz hK (w.heap.size + 3) ?_ ?_; (focus (first | omega | (simp; done) | (simp; omega))); intro hz3 hd3 hg3)); (try (refine bz hK g ?_ ?_; (focus (first | omega | (simp; done) | (simp; omega))); intro hzg hdg hgg)); (try (refine bz hK g1 ?_ ?_; (focus (first | omega | (simp; done) | (simp; omega))); intro hzg hdg hgg)); (try (refine bz hK g2 ?_ ?_; (focus (first | omega | (simp; done) | (simp; omega))); intro hzg hdg hgg))))
      go_roundw
      case rel =>
        refine ⟨k + 1, by omega, by go_num, ?_, ?_⟩
        · have := ((((B0.below hK).list_set (k * 4) (.int .i64 m)).list_set (k * 4 + 1) (.int .i64 t)).list_set (k * 4 + 2) (.int .i64 g)).list_set (k * 4 + 3) (.bool f)
          rw [fillE_cells hx.out] at this
          exact this
        · have hw := bt HW.out hK
          go_grown
      case measure => simp [intOf]; omega
    · obtain rfl : k = es.length := by omega
      rw [fillE_full] at B0
      go_wp2
      go_ret
      exact ⟨w.heap.size, rfl, B0, Nat.le_refl _, hw⟩

set_option maxHeartbeats 400000 in
theorem eqStamp_c (a b : Int) (w : World) : Calls Try.prog 52 #[.agg #[.int .i64 a, .int .i64 b], .agg #[.int .i64 a, .int .i64 b]] w fun e w' => e = .returned (.bool true) ∧ Below w.heap.size w w' := by
  go_enter Try.func52, Try.ntmps52
  go_wp2
  go_ret
  exact ⟨rfl, by go_grown⟩

set_option maxHeartbeats 400000 in
theorem eqEntry_c (m t g : Int) (f : Bool) (w : World) : Calls Try.prog 45 #[.agg #[.int .i64 m, .int .i64 t, .int .i64 g, .bool f], .agg #[.int .i64 m, .int .i64 t, .int .i64 g, .bool f]] w fun e w' => e = .returned (.bool true) ∧ Below w.heap.size w w' := by
  go_enter Try.func45, Try.ntmps45
  go_wp2_with (first | (go_at_call 52; refine (eqStamp_c _ _ _).mono ?_; rintro e w1 ⟨rfl, hb⟩; have hK := bt (by first | with_reducible assumption | exact Below.refl _ _) hb; have hc := bcell hK; have hf := bfrozen hK; have hs := bsize hK; clear hb; (try simp only [World.size_drew, World.cell?_drew, World.frozen?_drew] at hc hf hs); (try (refine bw (w := w) hK ?_ ?_; (focus (first | exact HW.out | (have hq := HW.out; go_grown; done) | (go_grown; done))); intro hw hwz; have hK := hK)); (try (refine bz hK (w.heap.size) ?_ ?_; (focus (first | omega | (simp; done) | (simp; omega))); intro hz0 hd0 hg0)); (try (refine bz hK (w.heap.size + 1) ?_ ?_; (focus (first | omega | (simp; done) | (simp; omega))); intro hz1 hd1 hg1)); (try (refine bz hK (w.heap.size + 2) ?_ ?_; (focus (first | omega | (simp; done) | (simp; omega))); intro hz2 hd2 hg2)); (try (refine bz hK (w.heap.size + 3) ?_ ?_; (focus (first | omega | (simp; done) | (simp; omega))); intro hz3 hd3 hg3)); (try (refine bz hK g ?_ ?_; (focus (first | omega | (simp; done) | (simp; omega))); intro hzg hdg hgg)); (try (refine bz hK g1 ?_ ?_; (focus (first | omega | (simp; done) | (simp; omega))); intro hzg hdg hgg)); (try (refine bz hK g2 ?_ ?_; (focus (first | omega | (simp; done) | (simp; omega))); intro hzg hdg hgg))))
  go_ret
  exact ⟨rfl, bu (by assumption) (by go_grown)⟩

set_option maxHeartbeats 1000000 in
theorem eqEntryS_c (A A' : Option Addr) (es : List Ent) (c c' : Nat) (w : World) (hn : es.length ≤ 1048576) (hr : RE w A es) (hr' : RE w A' es) :
    Calls Try.prog 33 #[.slice A es.length c, .slice A' es.length c'] w fun e w' => e = .returned (.bool true) ∧ Below w.heap.size w w' := by
  go_enter Try.func33, Try.ntmps33
  go_wp2
  go_loopw [5] (fun i wr => ∃ k : Nat, k ≤ es.length ∧ i = .int .i64 k ∧ Below w.heap.size w wr)
    (fun i _ => es.length - (intOf i).toNat)
  case atStart => exact ⟨0, Nat.zero_le _, rfl, by go_grown⟩
  case round =>
    obtain ⟨k, hk, rfl, hw⟩ := hrel
    by_cases hlt : k < es.length
    · obtain ⟨b, o, m, t, g, f, rfl, hb, hx, d0, d1, d2, d3⟩ := (hr.below hw).ent hlt
      obtain ⟨b', o', m', t', g', f', rfl, hb', hx', q0, q1, q2, q3⟩ := (hr'.below hw).ent hlt
      obtain ⟨rfl, rfl, rfl, rfl⟩ : m = m' ∧ t = t' ∧ g = g' ∧ f = f' := by
        have := hx.out.symm.trans hx'.out
        simpa using this
      clear hx hx'
      have hbw : b < wr.heap.size := by have := hw.size; omega
      have hbw' : b' < wr.heap.size := by have := hw.size; omega
      have i1 : (0 : Int) ≤ (k : Int) := by omega
      have i2 : (k : Int) < (es.length : Int) := by omega
      have HW : Hid _ := hw
      clear hw
      go_wp2_with fail
      refine wp_region_ext (by first | with_reducible assumption | exact Below.refl _ _) (by kernel_rfl) (by kernel_rfl) ?_
      intro hx hx2
      repeat (go_big_quiet_step ((first | (go_at_call 45; exact ext_call (eqEntry_c _ _ _ _ _)))))
      refine wpQuiet_nil ?_
      clear hx hx2
      rintro _ ⟨⟨w1, hb⟩, rfl⟩
      have hK := bt (by first | with_reducible assumption | exact Below.refl _ _) hb
      have hc := bcell hK
      have hf := bfrozen hK
      have hs := bsize hK
      clear hb
      (try (refine bw (w := w) hK ?_ ?_; (focus (first | exact HW.out | (have hq := HW.out; go_grown; done) | (go_grown; done))); intro hw hwz; have hK := hK))
      (try (refine bz hK (w.heap.size) ?_ ?_; (focus (first | omega | (simp; done) | (simp; omega))); intro hz0 hd0 hg0))
      (try (refine bz hK (w.heap.size + 1) ?_ ?_; (focus (first | omega | (simp; done) | (simp; omega))); intro hz1 hd1 hg1))
      (try (refine bz hK (w.heap.size + 2) ?_ ?_; (focus (first | omega | (simp; done) | (simp; omega))); intro hz2 hd2 hg2))
      (try (refine bz hK (w.heap.size + 3) ?_ ?_; (focus (first | omega | (simp; done) | (simp; omega))); intro hz3 hd3 hg3))
      (try (refine bz hK g ?_ ?_; (focus (first | omega | (simp; done) | (simp; omega))); intro hzg hdg hgg))
      (try (refine bz hK g1 ?_ ?_; (focus (first | omega | (simp; done) | (simp; omega))); intro hzg hdg hgg))
      (try (refine bz hK g2 ?_ ?_; (focus (first | omega | (simp; done) | (simp; omega))); intro hzg hdg hgg))
      go_wp2
      go_roundw
      case rel => exact ⟨k + 1, by omega, by go_num, bt HW.out hK⟩
      case measure => simp [intOf]; omega
    · obtain rfl : k = es.length := by omega
      go_wp2
      go_ret
      exact ⟨rfl, hw⟩

theorem szEntryS_c (A : Option Addr) (n : Nat) (c : Nat) (left : Int) (w : World) (hn : (n : Int) ≤ 9223372036854775807) (h0 : 0 ≤ left) (h1 : left ≤ 1048576) :
    Calls Try.prog 36 #[.slice A n c, .int .i64 left] w fun e w' => e = .returned (.int .i64 (if (n : Int) ≤ left then left - (n : Int) else -1)) ∧ w = w' := by
  by_cases h : (n : Int) ≤ left
  all_goals
    go_enter Try.func36, Try.ntmps36
    go_wp2
    go_ret
    exact ⟨ret_int (by simp [*]), rfl⟩
end Go.Proofs.Ytiecjkacbpbghaa
