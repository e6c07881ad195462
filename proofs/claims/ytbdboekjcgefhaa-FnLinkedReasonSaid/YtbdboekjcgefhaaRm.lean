/- The law FnLinkedReason: its call hands back true, whatever the code. -/
import Derived.Test.YtbdboekjcgefhaaRk
import Derived.Test.YtbdboekjcgefhaaRd
namespace Go.Proofs.Ytbdboekjcgefhaa
set_option linter.unusedVariables false
open Go.RowKit
attribute [local go_sem ↓] Go.wp_at_zero Go.wp_at_succ

/-- Found: at the start, or a set among the first j that has x and lies in R. -/
noncomputable def foundB (sets : List (List Int)) (R : List Int) (x : Int) (f0 : Bool) (j : Nat) : Bool := f0 || (sets.take j).any (fun s => hasB s x && decide ((comL R s).length = s.length))
theorem found_zero (sets : List (List Int)) (R : List Int) (x : Int) (f0 : Bool) : foundB sets R x f0 0 = f0 := by simp [foundB]
theorem found_step {sets : List (List Int)} {R : List Int} {x : Int} {f0 : Bool} {j : Nat} {s : List Int} (h : sets[j]? = some s) : foundB sets R x f0 (j + 1) = (foundB sets R x f0 j || (hasB s x && decide ((comL R s).length = s.length))) := by
  unfold foundB
  rw [take_at h, List.any_append, Bool.or_assoc]
  simp
theorem link_reason {sets : List (List Int)} {g : Int} : ∀ x ∈ linkB sets g, (∀ s ∈ sets, gvB s = true) ∧ ∀ f0, (x == g) = f0 → foundB sets (linkB sets g) x f0 sets.length = true := fun x hx => by
  have hset := link_set (sets := sets) (g := g) (by have := List.length_pos_of_mem hx; omega)
  have K := link_is hset
  have hv := (setsB_iff.1 hset).1
  refine ⟨hv, fun f0 hf => ?_⟩
  rcases K.reason x hx with e | ⟨s, m, h1, h2⟩
  · have : f0 = true := by rw [← hf, e]; simp
    simp [foundB, this]
  · unfold foundB
    rw [List.take_length, Bool.or_eq_true]
    right
    refine List.any_eq_true.2 ⟨s, m, ?_⟩
    rw [Bool.and_eq_true]
    refine ⟨hasB_iff.2 h1, decide_eq_true ?_⟩
    exact com_sub_len' K.valid (hv s m) h2

set_option maxHeartbeats 8000000 in
theorem rReason_walk (A : Option Addr) (bs : List Int) (c : Nat) (w : World) (hm : (bs.length : Int) ≤ 9223372036854775807) (hlc : bs.length ≤ c) (hcm : (c : Int) ≤ 9223372036854775807) (hr : Rd w w.heap.size A (bs.map (Value.int .u8))) (hf : ∀ x ∈ bs, FitB x) :
    Calls Try.prog 9 #[.slice A bs.length c] w fun e w' => e = .returned (.bool true) ∧ Below w.heap.size w w' := by
  by_cases hn : (1048576 : Int) < bs.length
  · clear hr hf
    go_enter Try.func9, Try.ntmps9
    go_wp2
    go_ret
    exact ⟨rfl, by go_grown⟩
  · have hn' : (bs.length : Int) ≤ 1048576 := by omega
    have hw := Below.refl w.heap.size w
    go_enter Try.func9, Try.ntmps9
    go_wp2_with fail
    refine (drawRL_c A bs c _ hm hlc hcm hr hf).mono ?_
    rintro e w1 ⟨hs, A1, c1, n, rfl, h1, h2, n0, n1, R1, hb⟩
    have hK : Below w.heap.size w w1 := bu hb (by go_grown)
    replace hw := hK
    clear hb hK hr hf
    have hn1 : hs.length ≤ 1048576 := by omega
    have H6 := hidI h2
    have H7 : Hid (∀ h ∈ hs, h.xs.length ≤ 1048576) := fun h m => Nat.le_trans (h2 h m) (by omega)
    clear h2
    have CI := fun W (h : RR W A1 hs) => implLink_c A1 hs c1 n W hn1 H7 (hidI h)
    have CS := fun W (h : RR W A1 hs) => specLink_c A1 hs c1 n W hn1 H7 (hidI h)
    have hR0 := link_le (rowsOf hs) n
    obtain ⟨R, hR⟩ : ∃ R, linkB (rowsOf hs) n = R := ⟨_, rfl⟩
    rw [hR] at hR0
    simp only [hR] at CI CS
    unfold NewI at CI CS
    have HR := hidI hR
    have HCI := hidI CI
    have HCS := hidI CS
    clear hR CI CS
    have hRl : R.length ≤ 1048576 := by omega
    have hRm : (R.length : Int) ≤ 9223372036854775807 := by omega
    go_wp2_with fail
    refine (HCI.out _ R1.rr).mono ?_
    rintro e w2 ⟨A2, c2, rfl, S2, hb⟩
    have hK : Below w1.heap.size w1 w2 := bu hb (by go_grown)
    replace R1 := R1.below hK
    replace hw := bt hw hK
    have zzw2 := hK.size
    clear hb hK
    go_wp2_with fail
    refine (HCS.out _ R1.rr).mono ?_
    rintro e w3 ⟨A3, c3, rfl, S3, hb⟩
    have hK : Below w2.heap.size w2 w3 := bu hb (by go_grown)
    replace R1 := R1.below hK
    replace S2 := S2.below hK
    replace hw := bt hw hK
    have zzw3 := hK.size
    clear hb hK
    go_wp2_with fail
    refine (sameInts_c _ _ R _ _ _ hRm S2.rd S3.rd).mono ?_
    rintro e w4 ⟨rfl, hb⟩
    have hK : Below w3.heap.size w3 w4 := bu hb (by go_grown)
    replace R1 := R1.below hK
    replace S2 := S2.below hK
    replace S3 := S3.below hK
    replace hw := bt hw hK
    have zzw4 := hK.size
    clear hb hK
    have RS := hidI (link_reason (sets := rowsOf hs) (g := n))
    rw [HR.out] at RS
    clear HCI HCS S3
    go_wp2_with fail
    go_loopw [7] (fun i wr => ∃ k : Nat, k ≤ R.length ∧ i = .int .i64 k ∧ RV wr w.heap.size (.slice A1 hs.length c1) hs.length hs ∧ IS wr w1.heap.size A2 R.length c2 R ∧ Below w.heap.size w wr) (fun i _ => R.length - (intOf i).toNat)
    case atStart => exact ⟨0, Nat.zero_le _, rfl, R1.mono (by omega), S2, hw⟩
    case round =>
      clear R1 S2 hw
      obtain ⟨k, hk, rfl, R1, S2, hw⟩ := hrel
      obtain ⟨wo, rfl⟩ : ∃ wo : World, wo = wr := ⟨_, rfl⟩
      by_cases hlt : k < R.length
      · have dk : decide (k < R.length) = true := decide_eq_true hlt
        have dk' : decide ((k : Int) < (R.length : Int)) = true := decide_eq_true (by omega)
        obtain ⟨b2, o2, x, rfl, hb2, hx2, e0⟩ := S2.rd.int' hlt
        have RSx := RS.out x (mem_at hx2.out)
        have i1 : (0 : Int) ≤ (k : Int) := by omega
        have i2 : (k : Int) < (R.length : Int) := by omega
        have hsl : hs.length ≤ 13 := h1
        -- what has been found among the first j sets
        obtain ⟨f0, hf0⟩ : ∃ f0, (x == n) = f0 := ⟨_, rfl⟩
        have HF0 := hidI hf0
        have HRX := hidI (RSx.2 f0 hf0)
        have HVX := hidI RSx.1
        clear RSx
        go_wp2_with fail
        go_loopw [8, 9] (fun f i wr => ∃ (j : Nat) (fb : Bool), j ≤ hs.length ∧ i = .int .i64 j ∧ f = .bool fb ∧ Hid (fb = foundB (rowsOf hs) R x f0 j) ∧ RV wr w.heap.size (.slice A1 hs.length c1) hs.length hs ∧ IS wr w1.heap.size (some ⟨b2, o2, none⟩) R.length c2 R ∧ Below w.heap.size w wr) (fun _ i _ => hs.length - (intOf i).toNat)
        case atStart => exact ⟨0, f0, Nat.zero_le _, rfl, rfl, (found_zero _ _ _ _).symm, R1, S2, hw⟩
        case round =>
          clear R1 S2 hw
          obtain ⟨j, fb, hj, rfl, rfl, HFB, R1, S2, hw⟩ := hrel
          by_cases hjt : j < hs.length
          · obtain ⟨b, o, Ar, cr, xs, rfl, hb, hx, d0, hrow⟩ := R1.rr.at_ hjt
            have hx6 := H7.out _ (mem_at hx.out)
            simp only at hx6
            have FS := found_step (R := R) (x := x) (f0 := f0) (rowsOf_at hx.out)
            rw [← HFB.out] at FS
            have i3 : (0 : Int) ≤ (j : Int) := by omega
            have i4 : (j : Int) < (hs.length : Int) := by omega
            obtain ⟨b2', o2', x', e2, hb2', hx2', e5⟩ := S2.rd.int' hlt
            cases e2
            obtain rfl : x' = x := by
              have h1 := hx2.out
              rw [hx2'.out] at h1
              simpa using h1
            have HW := hidI hw
            have hws := hw.size
            rcases fb with _ | _
            · have CH := fun (W : World) (hW : Below wr.heap.size wr W) => hasInt_c Ar xs cr x' W (by omega) (hrow.below hW).low
              have CC := fun (W : World) (hW : Below wr.heap.size wr W) => implCom_c (some ⟨b2, o2, none⟩) R c2 Ar xs cr W hRl hx6 (S2.below hW).rd (hrow.below hW).low
              rcases e : hasB xs x' with _ | _
              · rw [e] at CH FS
                have HE := hidI (show false = foundB (rowsOf hs) R x' f0 (j + 1) by rw [FS]; rfl)
                have H1 := hidI (fun m : Ext wr => CH m.at_ m.below)
                clear CC CH FS e hrow hw hx hx2'
                go_wp2_with fail
                refine wp_region_ext (by first | with_reducible assumption | exact Below.refl _ _) (by kernel_rfl) (by kernel_rfl) ?_
                intro hx hx2
                repeat (go_big_quiet_step ((first | (go_at_call 22; exact ext_call_same (H1.out _)))))
                refine wpQuiet_nil ?_
                clear hx hx2
                rintro _ ⟨⟨w1, hb⟩, rfl⟩
                have hK := bt (by first | with_reducible assumption | exact Below.refl _ _) hb
                have hc := bcell hK
                have hf := bfrozen hK
                have hs := bsize hK
                clear hb
                (try (refine bw (w := w) hK ?_ ?_; (focus (first | exact HW.out | (have hq := HW.out; go_grown; done) | (go_grown; done))); intro hw hwz; have hK := hK))
                (try (refine bz hK (w.heap.size) ?_ ?_; (focus (first | omega | (simp; done) | (simp; omega))); intro hz0 hd0 hg0))
                (try (refine bz hK (w.heap.size + 1) ?_ ?_; (focus (first | omega | (simp; done) | (simp; omega))); intro hz1 hd1 hg1))
                (try (refine bz hK (w.heap.size + 2) ?_ ?_; (focus (first | omega | (simp; done) | (simp; omega))); intro hz2 hd2 hg2))
                (try (refine bz hK (w.heap.size + 3) ?_ ?_; (focus (first | omega | (simp; done) | (simp; omega))); intro hz3 hd3 hg3))
                (try (refine bz hK g ?_ ?_; (focus (first | omega | (simp; done) | (simp; omega))); intro hzg hdg hgg))
                (try (refine bz hK g1 ?_ ?_; (focus (first | omega | (simp; done) | (simp; omega))); intro hzg hdg hgg))
                (try (refine bz hK g2 ?_ ?_; (focus (first | omega | (simp; done) | (simp; omega))); intro hzg hdg hgg))
                go_wp2
                go_roundw
                case rel => exact ⟨j + 1, false, by omega, by go_num, rfl, HE, R1.below hK, S2.below hK, bt HW.out hK⟩
                case measure => simp [intOf]; omega
              · rw [e] at CH FS
                have HH : Hid (∀ W, Below wr.heap.size wr W → Calls Try.prog 22 #[.slice Ar xs.length cr, .int .i64 x'] W fun e w1 => e = .returned (.bool true) ∧ w1 = W) := fun W hW =>
                  (CH W hW).mono fun e w1 ⟨he, hh⟩ => ⟨he, hh.symm⟩
                by_cases hl : (comL R xs).length = xs.length
                · have HE := hidI (show true = foundB (rowsOf hs) R x' f0 (j + 1) by rw [FS, hl]; simp)
                  have HC : Hid (∀ W, Below wr.heap.size wr W → Calls Try.prog 26 #[.slice (some ⟨b2, o2, none⟩) R.length c2, .slice Ar xs.length cr] W fun e w1 => ∃ A3 c3, e = .returned (.slice A3 xs.length c3) ∧ (w1.cell? ⟨b, o + j, none⟩ = some (.slice Ar xs.length cr) ∧ w1.cell? ⟨b2, o2 + k, none⟩ = some (.int .i64 x')) ∧ Below wr.heap.size wr w1) := fun W hW =>
                    (CC W hW).mono fun e w1 ⟨A3, c3, he, _, hb1⟩ => ⟨A3, c3, by rw [he, hl], ⟨((bt hW hb1).cell (p := ⟨b, o + j, none⟩) hb).trans d0, ((bt hW hb1).cell (p := ⟨b2, o2 + k, none⟩) hb2').trans e5⟩, bt hW hb1⟩
                  clear CC CH FS e hrow hw hx hx2' hl
                  go_wp2_with fail
                  go_region_held3 (fun w' => w'.cell? ⟨b, o + j, none⟩ = some (.slice Ar xs.length cr) ∧ w'.cell? ⟨b2, o2 + k, none⟩ = some (.int .i64 x'))
                    ((first | assumption | exact ⟨d0, e5⟩ | (simp (maxDischargeDepth := 4) [*]; done) | (go_keep; done)))
                    ((first
                      | (go_at_call 22; refine (HH.out _ (by go_grown)).mono ?_; rintro e w1 ⟨rfl, rfl⟩)
                      | (go_at_call 26; refine (HC.out _ (by go_grown)).mono ?_; rintro e w1 ⟨A3, c3, rfl, k3, hb1⟩)))
                  have HB := hidI hb1
                  have R5 := R1.below hb1
                  have S5 := S2.below hb1
                  clear hb1
                  go_wp2_with fail
                  go_roundw
                  case rel => exact ⟨j + 1, true, by omega, by go_num, rfl, HE, R5, S5, bt HW.out HB.out⟩
                  case measure => simp [intOf]; omega
                · obtain ⟨C0, hC0⟩ : ∃ C0, (comL R xs).length = C0 := ⟨_, rfl⟩
                  rw [hC0] at hl FS
                  have HE := hidI (show false = foundB (rowsOf hs) R x' f0 (j + 1) by rw [FS]; simp [hl])
                  have HC : Hid (∀ W, Below wr.heap.size wr W → Calls Try.prog 26 #[.slice (some ⟨b2, o2, none⟩) R.length c2, .slice Ar xs.length cr] W fun e w1 => ∃ A3 c3, e = .returned (.slice A3 C0 c3) ∧ (w1.cell? ⟨b, o + j, none⟩ = some (.slice Ar xs.length cr) ∧ w1.cell? ⟨b2, o2 + k, none⟩ = some (.int .i64 x')) ∧ Below wr.heap.size wr w1) := fun W hW =>
                    (CC W hW).mono fun e w1 ⟨A3, c3, he, _, hb1⟩ => ⟨A3, c3, by rw [he, hC0], ⟨((bt hW hb1).cell (p := ⟨b, o + j, none⟩) hb).trans d0, ((bt hW hb1).cell (p := ⟨b2, o2 + k, none⟩) hb2').trans e5⟩, bt hW hb1⟩
                  have t1 : ((C0 : Int) == (xs.length : Int)) = false := by simp; omega
                  have t2 : (C0 == xs.length) = false := by simpa using hl
                  clear CC CH FS e hrow hw hx hx2' hC0
                  go_wp2_with fail
                  go_region_held3 (fun w' => w'.cell? ⟨b, o + j, none⟩ = some (.slice Ar xs.length cr) ∧ w'.cell? ⟨b2, o2 + k, none⟩ = some (.int .i64 x'))
                    ((first | assumption | exact ⟨d0, e5⟩ | (simp (maxDischargeDepth := 4) [*]; done) | (go_keep; done)))
                    ((first
                      | (go_at_call 22; refine (HH.out _ (by go_grown)).mono ?_; rintro e w1 ⟨rfl, rfl⟩)
                      | (go_at_call 26; refine (HC.out _ (by go_grown)).mono ?_; rintro e w1 ⟨A3, c3, rfl, k3, hb1⟩)))
                  have HB := hidI hb1
                  have R5 := R1.below hb1
                  have S5 := S2.below hb1
                  clear hb1
                  go_wp2_with fail
                  go_roundw
                  case rel => exact ⟨j + 1, false, by omega, by go_num, rfl, HE, R5, S5, bt HW.out HB.out⟩
                  case measure => simp [intOf]; omega
            · have HE := hidI (show true = foundB (rowsOf hs) R x' f0 (j + 1) by rw [FS]; rfl)
              clear FS hrow hw hx hx2'
              go_wp2_with fail
              refine wp_region_ext (by first | with_reducible assumption | exact Below.refl _ _) (by kernel_rfl) (by kernel_rfl) ?_
              intro hx hx2
              repeat (go_big_quiet_step (fail))
              refine wpQuiet_nil ?_
              clear hx hx2
              rintro _ ⟨⟨w1, hb⟩, rfl⟩
              have hK := bt (by first | with_reducible assumption | exact Below.refl _ _) hb
              have hc := bcell hK
              have hf := bfrozen hK
              have hs := bsize hK
              clear hb
              (try (refine bw (w := w) hK ?_ ?_; (focus (first | exact HW.out | (have hq := HW.out; go_grown; done) | (go_grown; done))); intro hw hwz; have hK := hK))
              (try (refine bz hK (w.heap.size) ?_ ?_; (focus (first | omega | (simp; done) | (simp; omega))); intro hz0 hd0 hg0))
              (try (refine bz hK (w.heap.size + 1) ?_ ?_; (focus (first | omega | (simp; done) | (simp; omega))); intro hz1 hd1 hg1))
              (try (refine bz hK (w.heap.size + 2) ?_ ?_; (focus (first | omega | (simp; done) | (simp; omega))); intro hz2 hd2 hg2))
              (try (refine bz hK (w.heap.size + 3) ?_ ?_; (focus (first | omega | (simp; done) | (simp; omega))); intro hz3 hd3 hg3))
              (try (refine bz hK g ?_ ?_; (focus (first | omega | (simp; done) | (simp; omega))); intro hzg hdg hgg))
              (try (refine bz hK g1 ?_ ?_; (focus (first | omega | (simp; done) | (simp; omega))); intro hzg hdg hgg))
              (try (refine bz hK g2 ?_ ?_; (focus (first | omega | (simp; done) | (simp; omega))); intro hzg hdg hgg))
              go_wp2
              go_roundw
              case rel => exact ⟨j + 1, true, by omega, by go_num, rfl, HE, R1.below hK, S2.below hK, bt HW.out hK⟩
              case measure => simp [intOf]; omega
          · obtain rfl : j = hs.length := by omega
            have HT := hidI (show fb = true by rw [HFB.out, ← rowsOf_length]; exact HRX.out)
            have HTT := HT.out
            subst HTT
            go_wp2_with fail
            go_roundw
            case rel => exact ⟨k + 1, by omega, by go_num, R1, S2, hw⟩
            case measure => simp [intOf]; omega
      · obtain rfl : k = R.length := by omega
        go_wp2
        go_ret
        exact ⟨rfl, hw⟩
end Go.Proofs.Ytbdboekjcgefhaa
