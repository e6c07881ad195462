/- Contracts: slices of slices of ints are measured, copied, compared, marked. -/
import Derived.Test.YtbdboekjcgefhaaRa
namespace Go.Proofs.Ytbdboekjcgefhaa
set_option linter.unusedVariables false
open Go.RowKit

/-- What is left of L. -/
def szV (L t : Nat) : Int := if t ≤ L then (L : Int) - (t : Int) else -1
theorem szV_yes {L t : Nat} (h : t ≤ L) : szV L t = (L : Int) - (t : Int) := if_pos h
theorem szV_no {L t : Nat} (h : L < t) : szV L t = -1 := if_neg (by omega)

set_option maxHeartbeats 400000 in
theorem szIntS_c (A : Option Addr) (n c L : Nat) (w : World) (hL : L ≤ 1048576) (hn : (n : Int) ≤ 9223372036854775807) :
    Calls Try.prog 27 #[.slice A n c, .int .i64 L] w fun e w' => e = .returned (.int .i64 (szV L n)) ∧ w = w' := by
  by_cases h : n ≤ L
  · have e0 := hidI (szV_yes h)
    go_enter Try.func27, Try.ntmps27
    go_wp2
    go_ret
    exact ⟨ret_int e0.out.symm, rfl⟩
  · have e0 := hidI (szV_no (show L < n by omega))
    go_enter Try.func27, Try.ntmps27
    go_wp2
    go_ret
    exact ⟨ret_int e0.out.symm, rfl⟩

set_option maxHeartbeats 1000000 in
theorem szIntSS_c (A : Option Addr) (hs : List Hnd) (c L : Nat) (w : World) (hL : L ≤ 1048576) (hn : (hs.length : Int) ≤ 9223372036854775807) (hl : Hid (∀ h ∈ hs, (h.xs.length : Int) ≤ 9223372036854775807)) (hr : Hid (RR w A hs)) :
    Calls Try.prog 11 #[.slice A hs.length c, .int .i64 L] w fun e w' => e = .returned (.int .i64 (szV L (hs.length + sumLen hs))) ∧ w = w' := by
  by_cases h : hs.length ≤ L
  · go_enter Try.func11, Try.ntmps11
    go_wp2
    go_loop [1, 5] (fun q i => ∃ (k m : Nat), k ≤ hs.length ∧ i = .int .i64 k ∧ q = .int .i64 (m : Int) ∧ Hid (hs.length + sumLen (hs.take k) + m = L) ∧ m ≤ L)
      (fun _ i => hs.length - (intOf i).toNat)
    case atStart => exact ⟨0, L - hs.length, Nat.zero_le _, rfl, by congr 1; omega, by show _ = _; simp [sumLen]; omega, by omega⟩
    case round =>
      obtain ⟨k, m, hk, rfl, rfl, HM, hm⟩ := hrel
      by_cases hlt : k < hs.length
      · obtain ⟨b, o, A1, c1, xs, rfl, hb, hx, d0, _⟩ := hr.out.at_ hlt
        have hx1 := hl.out _ (mem_at hx.out)
        simp only at hx1
        have HT := sumLen_take hx.out
        have hT := sumLen_take_le hs (k + 1)
        have CZ := szIntS_c A1 xs.length c1 m w (by omega) hx1
        by_cases hf : xs.length ≤ m
        · rw [szV_yes hf] at CZ
          have HC := hidI CZ
          have HTT := hidI HT
          have hm2 : (xs.length : Int) ≤ m := by omega
          clear CZ HT hT
          go_wp2_with fail
          refine Calls.mono HC.out ?_
          rintro e w' ⟨rfl, rfl⟩
          go_wp2_with fail
          go_round
          case rel => exact ⟨k + 1, m - xs.length, by omega, by go_num, by congr 1; omega, by have h1 := HM.out; have h2 : sumLen (hs.take (k + 1)) = sumLen (hs.take k) + xs.length := HTT.out; show _ = _; omega, by omega⟩
          case measure => simp [intOf]; omega
        · rw [szV_no (by omega)] at CZ
          have HC := hidI CZ
          have E := hidI (szV_no (L := L) (t := hs.length + sumLen hs) (by have := HM.out; simp only at *; omega))
          clear CZ HT hT
          go_wp2_with fail
          refine Calls.mono HC.out ?_
          rintro e w' ⟨rfl, rfl⟩
          go_wp2_with fail
          go_ret
          exact ⟨ret_int E.out.symm, rfl⟩
      · obtain rfl : k = hs.length := by omega
        have E := hidI (show (m : Int) = szV L (hs.length + sumLen hs) by
          have h1 := HM.out
          rw [List.take_length] at h1
          rw [szV_yes (by omega)]
          omega)
        go_wp2
        go_ret
        exact ⟨ret_int E.out, rfl⟩
  · have E := hidI (szV_no (L := L) (t := hs.length + sumLen hs) (by omega))
    go_enter Try.func11, Try.ntmps11
    go_wp2
    go_ret
    exact ⟨ret_int E.out.symm, rfl⟩

theorem made_rows (n : Nat) : madeCells #[.slice none 0 0] (n * 1) = (List.replicate n (Value.slice none 0 0)).toArray := by
  rw [Nat.mul_one]
  exact made_const _ _ _ (by simp) (fun i hi => by
    obtain rfl : i = 0 := by simpa using hi
    rfl)
theorem mkRows (n : Nat) (hn : n ≤ 1048576) (W : World) :
    (Instr.makeSlice 22 (.int .i64 (n : Int)) (.int .i64 (n : Int))).run Try.prog W = .ok (.slice (some ⟨W.heap.size, 0, none⟩) n n) (W.alloc (.cells (List.replicate n (Value.slice none 0 0)).toArray 24)) := by
  obtain ⟨i0, hi, hz0, hz1, hz2⟩ := info_parts infoRow
  have h := run_make (P := Try.prog) W 22 24 i0 _ Try.underlying22 hi hz0 .i64 .i64 n n (by omega) (by omega) (by rw [hz2]; omega) (by omega)
  rw [hz1] at h
  rw [← made_rows]
  simpa [Value.cells] using h

/-- A copy of rows. -/
def MadeR (hs : List Hnd) (w : World) (e : Ending) (w' : World) : Prop :=
  ∃ g hs', e = .returned (.slice (some ⟨g, 0, none⟩) hs'.length hs'.length) ∧ rowsOf hs' = rowsOf hs ∧ RI w' g hs' ∧ w.heap.size ≤ g ∧ Below w.heap.size w w'

/-- The first rows are in. -/
def fillR (hs : List Hnd) (n : Nat) : List Value := hs.map hv ++ List.replicate (n - hs.length) (.slice none 0 0)
theorem fillR_snoc {hs : List Hnd} {n : Nat} (h : Hnd) (hn : hs.length < n) : (fillR hs n).set hs.length (hv h) = fillR (hs ++ [h]) n := by
  obtain ⟨m, hm⟩ : ∃ m, n - hs.length = m + 1 := ⟨n - hs.length - 1, by omega⟩
  have e := set_mid (hs.map hv) (List.replicate m (.slice none 0 0)) (.slice none 0 0) (hv h)
  rw [List.length_map] at e
  have e2 : n - (hs ++ [h]).length = m := by simp; omega
  unfold fillR
  rw [hm, List.replicate_succ, e, e2]
  simp
theorem fillR_length {hs : List Hnd} {n : Nat} (hn : hs.length ≤ n) : (fillR hs n).length = n := by
  simp [fillR]; omega

set_option maxHeartbeats 2000000 in
theorem toIntSS_c (A : Option Addr) (hs : List Hnd) (c : Nat) (w : World) (hn : hs.length ≤ 1048576) (hl : Hid (∀ h ∈ hs, h.xs.length ≤ 1048576)) (hr : Hid (RR w A hs)) :
    Calls Try.prog 13 #[.slice A hs.length c] w (MadeR hs w) := by
  have hmk := mkRows hs.length hn
  go_enter Try.func13, Try.ntmps13
  go_wp2
  go_loopw [4] (fun i wr => ∃ (k : Nat) (ts : List Hnd), k ≤ hs.length ∧ i = .int .i64 k ∧ ts.length = k ∧ Hid (rowsOf ts = rowsOf (hs.take k)) ∧ Box wr w.heap.size 24 (fillR ts hs.length).toArray ∧ Hid (∀ h ∈ ts, IS wr (w.heap.size + 1) h.A h.xs.length h.c h.xs) ∧
      Hid (ts.Pairwise (fun h k => ∀ a a', h.A = some a → k.A = some a' → a.block < a'.block)) ∧ Below w.heap.size w wr)
    (fun i _ => hs.length - (intOf i).toNat)
  case atStart => exact ⟨0, [], Nat.zero_le _, rfl, rfl, rfl, by simpa [fillR] using Box.new w 24 _, by simp [Hid], by simp [Hid], by go_grown⟩
  case round =>
    obtain ⟨k, ts, hk, rfl, hts, HE, B, HI, HP, hw⟩ := hrel
    subst hts
    have l0 := B.lt
    by_cases hlt : ts.length < hs.length
    · obtain ⟨b, o, A1, c1, xs, rfl, hb, hx, d0, hrow⟩ := (hr.out.below hw).at_ hlt
      have hx1 := hl.out _ (mem_at hx.out)
      simp only at hx1
      have hbw : b < w.heap.size := by
        have := hr.out.1.lit (by simp; omega)
        obtain ⟨b', o', e, hb', _⟩ := this
        cases e
        exact hb'
      have HC := hidI (toIntS_c A1 xs c1 wr hx1 hrow)
      have hfl := fillR_length (hs := ts) (n := hs.length) (by omega)
      have HW := hidI hw
      have HR := hidI hrow
      have HB := hidI B
      have HF := hidI hfl
      have hws := hw.size
      clear hw hrow B hfl hx1
      go_wp2_with fail
      refine Calls.mono HC.out ?_
      rintro e w1 ⟨A2, c2, rfl, S2, hb1⟩
      have B1 := HB.out.below hb1
      have l1 := B1.lt
      have q0 : ∃ u, w1.cell? ⟨w.heap.size, ts.length, none⟩ = some u := ⟨_, (B1.cell _).trans (by simp only [List.getElem?_toArray]; exact List.getElem?_eq_getElem (by rw [HF.out]; exact hlt))⟩
      obtain ⟨u0, q0⟩ := q0
      have z0 := B1.frozen ts.length
      have HB1 := hidI B1
      have HS2 := hidI S2
      have HW1 := hidI (bt HW.out hb1)
      have HI1 := hidI (fun (h : Hnd) (m : h ∈ ts) => (HI.out h m).below hb1)
      have HL1 := hidI (fun (h : Hnd) (m : h ∈ ts) => (HI.out h m).lt)
      have hs1 := hb1.size
      clear B1 S2 hb1 HC
      go_wp2_with fail
      go_roundw
      case rel =>
        have hb2 : ∀ h ∈ ts ++ [⟨A2, c2, xs⟩], IS (w1.setCell ⟨w.heap.size, ts.length, none⟩ (.slice A2 xs.length c2)) (w.heap.size + 1) h.A h.xs.length h.c h.xs := fun h m => by
          rcases List.mem_append.1 m with m | m
          · exact (HI1.out h m).far (IS.off_below (HI1.out h m) (by simp)) _
          · obtain rfl : h = ⟨A2, c2, xs⟩ := by simpa using m
            have S := HS2.out.mono (B' := w.heap.size + 1) (by omega)
            exact S.far (S.off_below (by simp)) _
        refine ⟨ts.length + 1, ts ++ [⟨A2, c2, xs⟩], by omega, by go_num, by simp, ?_, ?_, hidI hb2, ?_, ?_⟩
        · show _ = _
          rw [take_at hx.out]
          unfold rowsOf
          rw [List.map_append, List.map_append]
          have := HE.out
          unfold rowsOf at this
          rw [this]
          rfl
        · have := HB1.out.list_set ts.length (hv ⟨A2, c2, xs⟩)
          rw [fillR_snoc _ hlt] at this
          exact this
        · show List.Pairwise _ _
          rw [List.pairwise_append]
          refine ⟨HP.out, by simp, fun h m k mk a a' e e' => ?_⟩
          obtain rfl : k = ⟨A2, c2, xs⟩ := by simpa using mk
          have h1 := (HL1.out h m a e).2
          have h2 := (HS2.out.lt a' e').1
          omega
        · have hw := HW1.out
          go_grown
      case measure => simp [intOf]; omega
    · have hk2 : ts.length = hs.length := by omega
      have e1 : fillR ts hs.length = ts.map hv := by simp [fillR, hk2]
      rw [e1] at B
      have HE2 := HE.out
      rw [hk2, List.take_length] at HE2
      have HB := hidI B
      have HE3 := hidI HE2
      have HK := hidI hk2
      have HW := hidI hw
      clear B HE2 hk2 hw e1
      go_wp2
      go_ret
      refine ⟨w.heap.size, ts, by rw [HK.out]; rfl, HE3.out, ⟨HB.out, HI.out, HP.out⟩, Nat.le_refl _, HW.out⟩

set_option maxHeartbeats 2000000 in
theorem eqIntSS_c (A A' : Option Addr) (hs ts : List Hnd) (c c' : Nat) (w : World) (hn : hs.length ≤ 1048576) (hl : Hid (∀ h ∈ hs, h.xs.length ≤ 1048576)) (he : Hid (rowsOf ts = rowsOf hs)) (hr : Hid (RR w A hs)) (hr' : Hid (RR w A' ts)) :
    Calls Try.prog 16 #[.slice A hs.length c, .slice A' ts.length c'] w fun e w' => e = .returned (.bool true) ∧ Below w.heap.size w w' := by
  have hlen : ts.length = hs.length := by
    have := congrArg List.length he.out
    simpa [rowsOf] using this
  rw [hlen]
  have HLEN := hidI hlen
  clear hlen
  go_enter Try.func16, Try.ntmps16
  go_wp2
  go_loopw [5] (fun i wr => ∃ k : Nat, k ≤ hs.length ∧ i = .int .i64 k ∧ Below w.heap.size w wr)
    (fun i _ => hs.length - (intOf i).toNat)
  case atStart => exact ⟨0, Nat.zero_le _, rfl, by go_grown⟩
  case round =>
    obtain ⟨k, hk, rfl, hw⟩ := hrel
    by_cases hlt : k < hs.length
    · obtain ⟨b, o, A1, c1, xs, rfl, hb, hx, d0, hrow⟩ := (hr.out.below hw).at_ hlt
      obtain ⟨b', o', A2, c2, ys, rfl, hb', hy, e0, hrow'⟩ := (hr'.out.below hw).at_ (k := k) (by rw [HLEN.out]; exact hlt)
      have hx1 := hl.out _ (mem_at hx.out)
      simp only at hx1
      obtain rfl : ys = xs := by
        have h1 := rowsOf_at hx.out
        have h2 := rowsOf_at hy.out
        rw [he.out, h1] at h2
        simpa using h2.symm
      have i1 : (0 : Int) ≤ (k : Int) := by omega
      have i2 : (k : Int) < (hs.length : Int) := by omega
      have HC := hidI (fun (n : Ext wr) => eqIntS_c A1 A2 ys c1 c2 n.at_ (by omega) (hrow.ext n) (hrow'.ext n))
      have HW := hidI hw
      clear hw hx hy hrow hrow' hx1
      go_wp2_with fail
      refine wp_region_ext (by first | with_reducible assumption | exact Below.refl _ _) (by kernel_rfl) (by kernel_rfl) ?_
      intro hx hx2
      repeat (go_big_quiet_step ((first | (go_at_call 15; exact ext_call (HC.out _)))))
      refine wpQuiet_nil ?_
      clear hx hx2
      rintro _ ⟨⟨w1, hb⟩, rfl⟩
      have hK := bt (by first | with_reducible assumption | exact Below.refl _ _) hb
      have hc := bcell hK
      have hf := bfrozen hK
      have hs := bsize hK
      clear hb
      (try (refine bw (w := w) hK ?_ ?_; (focus (first | exact HW.out | (have hq := HW.out; go_grown; done) | (go_grown; done))); intro hw hwz; have hK := hK))
      (try (refine bz hK (w.heap.size) ?_ ?_; (focus (first | omega | (simp; done) | (simp; omega))); intro hz0 hd0 hg0))
      (try (refine bz hK (w.heap.size + 1) ?_ ?_; (focus (first | omega | (simp; done) | (simp; omega))); intro hz1 hd1 hg1))
      (try (refine bz hK (w.heap.size + 2) ?_ ?_; (focus (first | omega | (simp; done) | (simp; omega))); intro hz2 hd2 hg2))
      (try (refine bz hK (w.heap.size + 3) ?_ ?_; (focus (first | omega | (simp; done) | (simp; omega))); intro hz3 hd3 hg3))
      (try (refine bz hK g ?_ ?_; (focus (first | omega | (simp; done) | (simp; omega))); intro hzg hdg hgg))
      (try (refine bz hK g1 ?_ ?_; (focus (first | omega | (simp; done) | (simp; omega))); intro hzg hdg hgg))
      (try (refine bz hK g2 ?_ ?_; (focus (first | omega | (simp; done) | (simp; omega))); intro hzg hdg hgg))
      go_wp2
      go_roundw
      case rel => exact ⟨k + 1, by omega, by go_num, bt HW.out hK⟩
      case measure => simp [intOf]; omega
    · obtain rfl : k = hs.length := by omega
      go_wp2
      go_ret
      exact ⟨rfl, hw⟩

set_option maxHeartbeats 2000000 in
theorem markIntSS_c (g hi : Nat) (hs : List Hnd) (c : Nat) (m : Int) (w : World) (hn : hs.length ≤ 1048576) (hl : sumLen hs ≤ 1048576) (h0 : 0 ≤ m) (hm : m ≤ 1000000) (hhi : Hid (∀ h ∈ hs, ∀ a, h.A = some a → a.block < hi)) (hr : Hid (RI w g hs)) :
    Calls Try.prog 17 #[.slice (some ⟨g, 0, none⟩) hs.length c, .int .i64 m] w fun e w' => e = .returned (.int .i64 (m + (sumLen hs : Int))) ∧ Mid (g + 1) hi w w' := by
  go_enter Try.func17, Try.ntmps17
  go_wp2
  go_loopw [1, 5] (fun q i wr => ∃ (k n : Nat), k ≤ hs.length ∧ i = .int .i64 k ∧ q = .int .i64 (m + (n : Int)) ∧ Hid (n = sumLen (hs.take k)) ∧ n ≤ 1048576 ∧ Hid (∀ h ∈ hs, ∃ ys, IS wr (g + 1) h.A h.xs.length h.c ys) ∧ Hid (Box wr g 24 (hs.map hv).toArray) ∧ Hid (Mid (g + 1) hi w wr))
    (fun _ i _ => hs.length - (intOf i).toNat)
  case atStart => exact ⟨0, 0, Nat.zero_le _, rfl, by simp, by simp [Hid, sumLen], by omega, hidI (fun h mh => ⟨_, hr.out.row h mh⟩), hidI hr.out.outer, hidI (Mid.refl _ _ _)⟩
  case round =>
    obtain ⟨k, n, hk, rfl, rfl, HN, hn1, HI, HB, HM⟩ := hrel
    by_cases hlt : k < hs.length
    · obtain ⟨h, hx⟩ : ∃ h, hs[k]? = some h := ⟨_, List.getElem?_eq_getElem hlt⟩
      have d0 : wr.cell? ⟨g, k, none⟩ = some (.slice h.A h.xs.length h.c) := by
        rw [HB.out.cell k]
        simp [hx, hv]
      have lg := HB.out.lt
      obtain ⟨ys, S⟩ := HI.out h (mem_at hx)
      have hT := sumLen_take hx
      have hTl := sumLen_take_le hs (k + 1)
      have hnn := HN.out
      have hxl : h.xs.length ≤ 1048576 := by omega
      have hb2 : n + h.xs.length ≤ 1048576 := by omega
      have HC := hidI (markIntS_c h.A ys h.xs.length h.c (m + (n : Int)) (g + 1) wr hxl (by omega) (by omega) S)
      have HX := hidI hx
      have HT := hidI hT
      have HS := hidI S
      clear hx S hT hTl hnn
      go_wp2_with fail
      refine Calls.mono HC.out ?_
      rintro e w1 ⟨rfl, S1, hg⟩
      have HI1 : Hid (∀ h' ∈ hs, ∃ ys, IS w1 (g + 1) h'.A h'.xs.length h'.c ys) := fun h' mh => by
        by_cases hsame : (h'.A.map (·.block)) = (h.A.map (·.block)) ∧ h.A ≠ none
        · obtain ⟨hs1, hs2⟩ := hsame
          have heq : h' = h := by
            obtain ⟨i, hi1, rfl⟩ := List.getElem_of_mem mh
            have hkk := HX.out
            obtain ⟨hk2, hk3⟩ := List.getElem?_eq_some_iff.1 hkk
            have hp := List.pairwise_iff_getElem.1 hr.out.apart
            obtain ⟨a, ha⟩ := Option.ne_none_iff_exists'.1 hs2
            rw [ha] at hs1
            obtain ⟨a', ha', hab⟩ := Option.map_eq_some_iff.1 hs1
            have hab : a'.block = a.block := hab
            rcases Nat.lt_trichotomy i k with hlt | rfl | hlt
            · have := hp i k hi1 hk2 hlt a' a ha' (by rw [hk3]; exact ha)
              omega
            · exact hk3
            · have := hp k i hk2 hi1 hlt a a' (by rw [hk3]; exact ha) ha'
              omega
          subst heq
          exact ⟨_, S1⟩
        · obtain ⟨zs, Z⟩ := HI.out h' mh
          refine ⟨zs, Z.apart hg fun a a' ea ea' hab => hsame ⟨by rw [ea, ea']; simp [hab], by rw [ea']; simp⟩⟩
      have hB1 : Box w1 g 24 (hs.map hv).toArray := HB.out.grown hg (by
        intro e
        obtain ⟨a, ea, eb⟩ := Option.map_eq_some_iff.1 e.symm
        have := (HS.out.lt a ea).1
        omega)
      have HM1 := hidI (HM.out.grown hg (fun a ea => ⟨(HS.out.lt a ea).1, hhi.out h (mem_at HX.out) a ea⟩))
      have HB1 := hidI hB1
      clear hg S1 hB1 HC
      go_wp2_with fail
      go_roundw
      case rel => exact ⟨k + 1, n + h.xs.length, by omega, by go_num, by congr 1; omega, by have h1 := HT.out; have h2 := HN.out; show _ = _; omega, hb2, HI1, HB1, HM1⟩
      case measure => simp [intOf]; omega
    · obtain rfl : k = hs.length := by omega
      have HE := hidI (show n = sumLen hs by have := HN.out; rwa [List.take_length] at this)
      go_wp2
      go_ret
      exact ⟨by rw [HE.out]; rfl, HM.out⟩
end Go.Proofs.Ytbdboekjcgefhaa
