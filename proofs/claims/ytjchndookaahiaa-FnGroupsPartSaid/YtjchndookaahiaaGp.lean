/- The law FnGroupsPart: its call hands back true, whatever the codes. -/
import Derived.Test.YtjchndookaahiaaGb
import Derived.Test.YtjchndookaahiaaGd
import Derived.Deep.RegionHeld3
import Derived.Deep.AppendLies
import Derived.Deep.DrawnRows
namespace Go.Proofs.Ytjchndookaahiaa
set_option linter.unusedVariables false
open Go.RowKit
attribute [local go_sem ↓] Go.wp_at_zero Go.wp_at_succ

theorem step_append_IVs {ops : Array Oper} {o : Oper} {a : Act} {K : Act → World → Prop} {Q : Exit → Act → World → Prop} {E : Prop} {w : World} (ys : List Int) (hgd : o.guard = none) (s x : Operand)
    (ho : o.op = .call { callee := .builtin .append, args := #[s, x], argTypes := #[22, 22] })
    {B Bx n m c : Nat} {v : Value} {ad : Addr} {xs : List Int}
    (hs : a.eval s = v) (h : IV w B v n xs) (hx : a.eval x = .slice (some ad) m c) (hl : ys.length = m) (hr : Rd w Bx (some ad) (ys.map (Value.int .i64))) (hn : n + m ≤ 10000000) (hB : B ≤ w.heap.size)
    (k : ∀ v' w', IV w' B v' (n + m) (xs ++ ys) → Below B w w' → w.grownBy w' v.ownBlock → K (a.put o.dst v') w') :
    if Region.wanted o (yielded ops a.tmps) = true then Oper.wp Try.prog o a w K Q else E := by
  obtain ⟨i0, hi, hz0, hz1, hz2⟩ := info_parts infoInt
  have hw : Region.wanted o (yielded ops a.tmps) = true := by simp [Region.wanted, hgd]
  rw [if_pos hw]
  obtain ⟨v', w', hrun, h2, h3, _, _⟩ := run_append_own_at (P := Try.prog) w B 22 o.type 3 i0 (.int .i64 0) 1 8 Try.underlying22 hi hz0 hz1 hz2 rfl (by decide) v n (xs.map (Value.int .i64)) h ad m c (ys.map (Value.int .i64)) (by simp [hl])
    (fun j u hj => by
      obtain ⟨ad', e, _, hc⟩ := hr j u hj
      cases e
      exact hc)
    (fun u hu => by
      obtain ⟨y, _, rfl⟩ := List.mem_map.1 hu
      rfl) (by unfold maxLen; omega) (by omega) hB
  unfold Oper.wp execOp
  simp only [ho, resolve, invoke, builtin, Sem.run_bind, Sem.run_pure, Result.andThen_ok, List.map_toArray, List.map_cons, List.map_nil, hs, hx, hrun]
  refine k v' w' ?_ ((Below.refl _ _).grown h3 hB (fun g' e => (World.ownsRow.lt h g' e).1)) h3
  unfold IV
  rw [List.map_append]
  exact h2

theorem IV.drew {w : World} {B n : Nat} {v : Value} {xs : List Int} (h : IV w B v n xs) : IV w.drew B v n xs := h

/-- A slice's rest reads as the list's rest. -/
theorem IS.rd_drop {w : World} {B n c g : Nat} {xs : List Int} (h : IS w B (some ⟨g, 0, none⟩) n c xs) (m : Nat) : Rd w w.heap.size (some ⟨g, m, none⟩) ((xs.drop m).map (Value.int .i64)) := fun j u hu => by
  have hj := (List.getElem?_eq_some_iff.1 hu).1
  rw [List.length_map, List.length_drop] at hj
  have hln := h.len
  obtain ⟨g', e, _, hlt, hc⟩ := h.at_ (by omega)
  cases e
  refine ⟨_, rfl, hlt, ?_⟩
  rw [Addr.add_lit]
  have hx : xs[m + j]? = some xs[m + j] := List.getElem?_eq_getElem (by omega)
  rw [hc _ _ hx]
  rw [List.getElem?_map, List.getElem?_drop, hx] at hu
  exact hu
theorem IS.rd_take {w : World} {B n c : Nat} {A : Option Addr} {xs : List Int} (h : IS w B A n c xs) (m : Nat) : Rd w w.heap.size A ((xs.take m).map (Value.int .i64)) := by
  rw [List.map_take]
  exact h.rd.take m

theorem part_sub (L : List Int) (k : Nat) : (L.take k ++ L.drop (k + 1)).Sublist L := by
  have e : L.drop (k + 1) = (L.drop k).drop 1 := by rw [List.drop_drop]
  have h : (L.take k ++ (L.drop k).drop 1).Sublist (L.take k ++ L.drop k) := List.Sublist.append (List.Sublist.refl _) (List.drop_sublist 1 _)
  rw [List.take_append_drop] at h
  rw [e]
  exact h
theorem part_less {L : List Int} (h : gvB L = true) {k : Nat} (hk : k < L.length) : gvB (L.take k ++ L.drop (k + 1)) = decide (1 < L.length) := by
  obtain ⟨h1, h2, h3⟩ := gvB_iff.1 h
  have hl : (L.take k ++ L.drop (k + 1)).length = L.length - 1 := by simp; omega
  by_cases h1' : 1 < L.length
  · rw [decide_eq_true h1']
    refine gvB_iff.2 ⟨by omega, pair_asc ((asc_pair h2).sublist (part_sub L k)), fun x hx => h3 x ((part_sub L k).subset hx)⟩
  · rw [decide_eq_false h1']
    rcases e : gvB (L.take k ++ L.drop (k + 1)) with _ | _
    · rfl
    · have := (gvB_iff.1 e).1
      omega
theorem part_twice {L : List Int} {k : Nat} (hk : k < L.length) : gvB (L.take (k + 1) ++ L.drop k) = false := by
  refine gv_bad_asc (asc_no (k := k) (x := L[k]) (y := L[k]) ?_ ?_ (Int.le_refl _))
  · rw [List.getElem?_append_left (by simp; omega), List.getElem?_take, if_pos (by omega), List.getElem?_eq_getElem hk]
  · have hl : (L.take (k + 1)).length = k + 1 := by simp; omega
    rw [List.getElem?_append_right (by omega), hl, Nat.sub_self, List.getElem?_drop]
    simp [hk]

set_option maxRecDepth 100000 in
set_option maxHeartbeats 8000000 in
theorem gPart_walk (A : Option Addr) (bs : List Int) (c : Nat) (A2 : Option Addr) (ms : List Int) (c2 : Nat) (w : World) (hm : (bs.length : Int) ≤ 9223372036854775807) (hlc : bs.length ≤ c) (hcm : (c : Int) ≤ 9223372036854775807) (hr : Rd w w.heap.size A (bs.map (Value.int .u8))) (hf : ∀ x ∈ bs, FitB x)
    (hm2 : (ms.length : Int) ≤ 9223372036854775807) :
    Calls Try.prog 4 #[.slice A bs.length c, .slice A2 ms.length c2] w fun e w' => e = .returned (.bool true) ∧ Below w.heap.size w w' := by
  by_cases hn : (1048576 : Int) < bs.length
  · go_enter Try.func4, Try.ntmps4
    go_wp2
    go_ret
    exact ⟨rfl, by go_grown⟩
  · have hn' : (bs.length : Int) ≤ 1048576 := by omega
    by_cases hn2 : (1048576 : Int) < ms.length
    · go_enter Try.func4, Try.ntmps4
      go_wp2
      go_ret
      exact ⟨rfl, by go_grown⟩
    have hn2' : (ms.length : Int) ≤ 1048576 := by omega
    have hw := Below.refl w.heap.size w
    go_enter Try.func4, Try.ntmps4
    go_wp2_with fail
    refine (drawGV_c A bs c _ hm hlc hcm hr hf).mono ?_
    rintro e w1 ⟨L, A1, c1, rfl, h1, h2, S1, hb⟩
    have hK : Below w.heap.size w w1 := bu hb (by go_grown)
    replace hw := hK
    clear hb hK h2 hr hf
    have hL : L.length ≤ 1048576 := by omega
    have hLm : (L.length : Int) ≤ 9223372036854775807 := by omega
    have CI := fun w h => implGV_c A1 L c1 w hL h
    have CS := fun w h => specGV_c A1 L c1 w hL h
    rcases e1 : gvB L with _ | _
    · rw [e1] at CI CS
      have HCI := hidI CI
      have HCS := hidI CS
      clear CI CS e1
      go_wp2_with fail
      refine (HCI.out _ S1.rd).mono ?_
      rintro e w2 ⟨rfl, hb⟩
      have hK : Below w1.heap.size w1 w2 := bu hb (by go_grown)
      replace S1 := S1.below hK
      replace hw := bt hw hK
      have zzw2 := hK.size
      clear hb hK
      go_wp2_with fail
      refine (HCS.out _ S1.rd).mono ?_
      rintro e w3 ⟨rfl, hb⟩
      have hK : Below w2.heap.size w2 w3 := bu hb (by go_grown)
      replace S1 := S1.below hK
      replace hw := bt hw hK
      have zzw3 := hK.size
      clear hb hK
      go_wp2_with fail
      go_ret
      exact ⟨rfl, hw⟩
    · have hp := (gvB_iff.1 e1).1
      have PL := fun k hk => part_less (k := k) e1 hk
      rw [e1] at CI CS
      have HCI := hidI CI
      have HCS := hidI CS
      have HPL := hidI PL
      clear CI CS e1 PL
      go_wp2_with fail
      refine (HCI.out _ S1.rd).mono ?_
      rintro e w2 ⟨rfl, hb⟩
      have hK : Below w1.heap.size w1 w2 := bu hb (by go_grown)
      replace S1 := S1.below hK
      replace hw := bt hw hK
      have zzw2 := hK.size
      clear hb hK
      go_wp2_with fail
      refine (HCS.out _ S1.rd).mono ?_
      rintro e w3 ⟨rfl, hb⟩
      have hK : Below w2.heap.size w2 w3 := bu hb (by go_grown)
      replace S1 := S1.below hK
      replace hw := bt hw hK
      have zzw3 := hK.size
      clear hb hK
      obtain ⟨k, hk⟩ : ∃ k, k = ms.length % L.length := ⟨_, rfl⟩
      have hkl : k < L.length := by have := Nat.mod_lt ms.length (show 0 < L.length by omega); omega
      have e1 : (ms.length : Int) % (L.length : Int) = (k : Int) := by
        rw [hk, Int.natCast_emod]
      have hz : ¬ (L.length : Int) = 0 := by omega
      clear hk
      obtain ⟨g1, rfl, hBg, l1, _⟩ := S1.at_ (by omega)
      have k0 := S1.cap.1
      have k1 : (c1 : Int) ≤ 9223372036854775807 := by have := S1.cap.2; unfold maxLen at this; omega
      have i1 : (0 : Int) ≤ (k : Int) := by omega
      have i2 : (k : Int) ≤ (c1 : Int) := by omega
      have i3 : (k : Int) ≤ (L.length : Int) := by omega
      have i4 : IntKind.i64.wrap ((k : Int) + 1) = (k : Int) + 1 := IntWalk.i64_in _ (by omega)
      have i5 : (0 : Int) ≤ (k : Int) + 1 := by omega
      have i6 : (k : Int) + 1 ≤ (L.length : Int) := by omega
      have i7 : (k : Int) + 1 ≤ (c1 : Int) := by omega
      have i8 : ((k : Int) + 1).toNat = k + 1 := by omega
      have V0 : IV (w3.alloc (.cells #[] 3)) w3.heap.size (.slice (some ⟨w3.heap.size, 0, none⟩) 0 0) 0 [] := (IS.full (xs := []) (Box.new w3 _ _) (Nat.le_refl _) (Nat.zero_le _)).iv
      have R1 := S1.rd_take k
      have R2 := S1.rd_drop (k + 1)
      have z1 : (L.take k).length = k := by rw [List.length_take]; omega
      have z2 : (L.drop (k + 1)).length = L.length - (k + 1) := List.length_drop
      have HS1 := hidI S1
      have HV0 := hidI V0
      have HR1 := hidI R1
      have HR2 := hidI R2
      have HZ1 := hidI z1
      have HZ2 := hidI z2
      have HW := hidI hw
      have hs3 := hw.size
      clear V0 R1 R2 z1 z2 S1 hw
      go_wp2_with fail
      simp only [e1]
      clear e1
      by_cases hc : c1 = k + 1
      · subst hc
        have hd : L.drop (k + 1) = [] := List.drop_eq_nil_of_le (by omega)
        have HR2 := hidI (show Rd w3 w3.heap.size (some ⟨g1, 0, none⟩) ((L.drop (k + 1)).map (Value.int .i64)) by rw [hd]; exact Rd.nil)
        clear hd
        have i2' : (k : Int) ≤ (k : Int) + 1 := by omega
        have k1' : (k : Int) + 1 ≤ 9223372036854775807 := by omega
        clear i2 i7 k1 k0
        go_region_held3 (fun _ => True) (trivial)
          ((first
            | (refine step_append_IVs _ (by rfl) _ _ (by rfl) (by rfl) HV0.out.drew (by rfl) HZ1.out ((HR1.out.below (by go_grown)).drew) (by omega) (by simp) ?_; intro v4 w4 V4 hb4 hg4; have hK4 := hidI (Below.trans (Below.drew (Below.alloc (Below.refl _ _) (Nat.le_refl _) _)) hb4); have q4 := Below.size hK4.out)
            | (refine step_append_IVs _ (by rfl) _ _ (by rfl) (by rfl) V4 (by rfl) HZ2.out (HR2.out.below hK4.out) (by omega) q4 ?_; intro v5 w5 V5 hb5 hg5)))
        have hw5 : Below w3.heap.size w3 w5 := hK4.out.trans hb5
        have q5 := hw5.size
        have S1 := HS1.out.below hw5
        obtain ⟨A5, c5, rfl, S5⟩ := V5.open_
        clear V5 V4 hb4 hb5 hg4 hg5 hK4 q4 HV0 HR1 HR2 HZ1 HZ2 HS1
        have V0 : IV (w5.alloc (.cells #[] 3)) w5.heap.size (.slice (some ⟨w5.heap.size, 0, none⟩) 0 0) 0 [] := (IS.full (xs := []) (Box.new w5 _ _) (Nat.le_refl _) (Nat.zero_le _)).iv
        have R1 := S1.rd_take (k + 1)
        have R2 := S1.rd_drop k
        have z1 : (L.take (k + 1)).length = k + 1 := by rw [List.length_take]; omega
        have z2 : (L.drop k).length = L.length - k := List.length_drop
        have HV0 := hidI V0
        have HR1 := hidI R1
        have HR2 := hidI R2
        have HZ1 := hidI z1
        have HZ2 := hidI z2
        have HW5 := hidI (bt HW.out hw5)
        have HS5 := hidI S5
        clear V0 R1 R2 z1 z2 S1 S5 hw5 HW
        have j1 : ¬ ((k + 1 : Nat) : Int) = (k : Int) := by omega
        have j2 : ¬ k + 1 = k := by omega
        go_wp2_with fail
        go_region_held3 (fun _ => True) (trivial)
          ((first
            | (refine step_append_IVs _ (by rfl) _ _ (by rfl) (by rfl) HV0.out.drew (by rfl) HZ1.out ((HR1.out.below (by go_grown)).drew) (by omega) (by simp) ?_; intro v6 w6 V6 hb6 hg6; have hK6 := hidI (Below.trans (Below.drew (Below.alloc (Below.refl _ _) (Nat.le_refl _) _)) hb6); have q6 := Below.size hK6.out)
            | (refine step_append_IVs _ (by rfl) _ _ (by rfl) (by rfl) V6 (by rfl) HZ2.out (HR2.out.below hK6.out) (by omega) q6 ?_; intro v7 w7 V7 hb7 hg7)))
        have hw7 : Below w5.heap.size w5 w7 := hK6.out.trans hb7
        have S5 := HS5.out.below hw7
        obtain ⟨A7, c7, rfl, S7⟩ := V7.open_
        have HW7 := hidI (bt HW5.out hw7)
        clear V7 V6 hb6 hb7 hg6 hg7 hK6 q6 HV0 HR1 HR2 HZ1 HZ2 HS5 HW5 hw7
        have l5 := S5.len
        have l7 := S7.len
        simp only [List.nil_append, Nat.zero_add] at S5 S7 l5 l7
        have PL := HPL.out k hkl
        have PT := part_twice hkl
        obtain ⟨X1, hX1⟩ : ∃ X, L.take k ++ L.drop (k + 1) = X := ⟨_, rfl⟩
        obtain ⟨X2, hX2⟩ : ∃ X, L.take (k + 1) ++ L.drop k = X := ⟨_, rfl⟩
        rw [hX1] at S5 l5 PL
        rw [hX2] at S7 l7 PT
        clear hX1 hX2 HPL
        have C5 := implGV_c A5 X1 c5 w7 (by omega) S5.rd
        have C7 := fun w h => implGV_c A7 X2 c7 w (by omega) h
        rw [PL, l5] at C5
        rw [PT] at C7
        have HC5 := hidI C5
        have HC7 := hidI C7
        clear C5 C7 PL PT
        have HS7 := hidI S7
        clear S7 S5 l5
        have HL7 := hidI l7
        clear l7
        by_cases h1L : 1 < L.length
        · have d1 : decide ((1 : Int) < (L.length : Int)) = true := decide_eq_true (by omega)
          have HC := HC5.out
          rw [decide_eq_true h1L] at HC
          have HC5 := hidI HC
          clear HC
          go_wp2_with fail
          refine Calls.mono HC5.out ?_
          rintro e w8 ⟨rfl, hb⟩
          have HW8 := hidI (bt HW7.out hb)
          have HS8 := hidI (HS7.out.below hb)
          clear hb HC5 HS7
          go_wp2_with fail
          have C8 := HC7.out w8 HS8.out.rd
          rw [HL7.out] at C8
          refine C8.mono ?_
          rintro e w9 ⟨rfl, hb⟩
          have hw9 := bt HW8.out hb
          clear hb C8
          go_wp2_with fail
          go_ret
          exact ⟨rfl, hw9⟩
        · have d1 : decide ((1 : Int) < (L.length : Int)) = false := decide_eq_false (by omega)
          have HC := HC5.out
          rw [decide_eq_false h1L] at HC
          have HC5 := hidI HC
          clear HC
          go_wp2_with fail
          refine Calls.mono HC5.out ?_
          rintro e w8 ⟨rfl, hb⟩
          have HW8 := hidI (bt HW7.out hb)
          have HS8 := hidI (HS7.out.below hb)
          clear hb HC5 HS7
          go_wp2_with fail
          have C8 := HC7.out w8 HS8.out.rd
          rw [HL7.out] at C8
          refine C8.mono ?_
          rintro e w9 ⟨rfl, hb⟩
          have hw9 := bt HW8.out hb
          clear hb C8
          go_wp2_with fail
          go_ret
          exact ⟨rfl, hw9⟩
      · have hc' : ¬ (c1 : Int) = (k : Int) + 1 := by omega
        go_region_held3 (fun _ => True) (trivial)
          ((first
            | (refine step_append_IVs _ (by rfl) _ _ (by rfl) (by rfl) HV0.out.drew (by rfl) HZ1.out ((HR1.out.below (by go_grown)).drew) (by omega) (by simp) ?_; intro v4 w4 V4 hb4 hg4; have hK4 := hidI (Below.trans (Below.drew (Below.alloc (Below.refl _ _) (Nat.le_refl _) _)) hb4); have q4 := Below.size hK4.out)
            | (refine step_append_IVs _ (by rfl) _ _ (by rfl) (by rfl) V4 (by rfl) HZ2.out (HR2.out.below hK4.out) (by omega) q4 ?_; intro v5 w5 V5 hb5 hg5)))
        have hw5 : Below w3.heap.size w3 w5 := hK4.out.trans hb5
        have q5 := hw5.size
        have S1 := HS1.out.below hw5
        obtain ⟨A5, c5, rfl, S5⟩ := V5.open_
        clear V5 V4 hb4 hb5 hg4 hg5 hK4 q4 HV0 HR1 HR2 HZ1 HZ2 HS1
        have V0 : IV (w5.alloc (.cells #[] 3)) w5.heap.size (.slice (some ⟨w5.heap.size, 0, none⟩) 0 0) 0 [] := (IS.full (xs := []) (Box.new w5 _ _) (Nat.le_refl _) (Nat.zero_le _)).iv
        have R1 := S1.rd_take (k + 1)
        have R2 := S1.rd_drop k
        have z1 : (L.take (k + 1)).length = k + 1 := by rw [List.length_take]; omega
        have z2 : (L.drop k).length = L.length - k := List.length_drop
        have HV0 := hidI V0
        have HR1 := hidI R1
        have HR2 := hidI R2
        have HZ1 := hidI z1
        have HZ2 := hidI z2
        have HW5 := hidI (bt HW.out hw5)
        have HS5 := hidI S5
        clear V0 R1 R2 z1 z2 S1 S5 hw5 HW
        have j1 : ¬ (c1 : Int) = (k : Int) := by omega
        have j2 : ¬ c1 = k := by omega
        go_wp2_with fail
        go_region_held3 (fun _ => True) (trivial)
          ((first
            | (refine step_append_IVs _ (by rfl) _ _ (by rfl) (by rfl) HV0.out.drew (by rfl) HZ1.out ((HR1.out.below (by go_grown)).drew) (by omega) (by simp) ?_; intro v6 w6 V6 hb6 hg6; have hK6 := hidI (Below.trans (Below.drew (Below.alloc (Below.refl _ _) (Nat.le_refl _) _)) hb6); have q6 := Below.size hK6.out)
            | (refine step_append_IVs _ (by rfl) _ _ (by rfl) (by rfl) V6 (by rfl) HZ2.out (HR2.out.below hK6.out) (by omega) q6 ?_; intro v7 w7 V7 hb7 hg7)))
        have hw7 : Below w5.heap.size w5 w7 := hK6.out.trans hb7
        have S5 := HS5.out.below hw7
        obtain ⟨A7, c7, rfl, S7⟩ := V7.open_
        have HW7 := hidI (bt HW5.out hw7)
        clear V7 V6 hb6 hb7 hg6 hg7 hK6 q6 HV0 HR1 HR2 HZ1 HZ2 HS5 HW5 hw7
        have l5 := S5.len
        have l7 := S7.len
        simp only [List.nil_append, Nat.zero_add] at S5 S7 l5 l7
        have PL := HPL.out k hkl
        have PT := part_twice hkl
        obtain ⟨X1, hX1⟩ : ∃ X, L.take k ++ L.drop (k + 1) = X := ⟨_, rfl⟩
        obtain ⟨X2, hX2⟩ : ∃ X, L.take (k + 1) ++ L.drop k = X := ⟨_, rfl⟩
        rw [hX1] at S5 l5 PL
        rw [hX2] at S7 l7 PT
        clear hX1 hX2 HPL
        have C5 := implGV_c A5 X1 c5 w7 (by omega) S5.rd
        have C7 := fun w h => implGV_c A7 X2 c7 w (by omega) h
        rw [PL, l5] at C5
        rw [PT] at C7
        have HC5 := hidI C5
        have HC7 := hidI C7
        clear C5 C7 PL PT
        have HS7 := hidI S7
        clear S7 S5 l5
        have HL7 := hidI l7
        clear l7
        by_cases h1L : 1 < L.length
        · have d1 : decide ((1 : Int) < (L.length : Int)) = true := decide_eq_true (by omega)
          have HC := HC5.out
          rw [decide_eq_true h1L] at HC
          have HC5 := hidI HC
          clear HC
          go_wp2_with fail
          refine Calls.mono HC5.out ?_
          rintro e w8 ⟨rfl, hb⟩
          have HW8 := hidI (bt HW7.out hb)
          have HS8 := hidI (HS7.out.below hb)
          clear hb HC5 HS7
          go_wp2_with fail
          have C8 := HC7.out w8 HS8.out.rd
          rw [HL7.out] at C8
          refine C8.mono ?_
          rintro e w9 ⟨rfl, hb⟩
          have hw9 := bt HW8.out hb
          clear hb C8
          go_wp2_with fail
          go_ret
          exact ⟨rfl, hw9⟩
        · have d1 : decide ((1 : Int) < (L.length : Int)) = false := decide_eq_false (by omega)
          have HC := HC5.out
          rw [decide_eq_false h1L] at HC
          have HC5 := hidI HC
          clear HC
          go_wp2_with fail
          refine Calls.mono HC5.out ?_
          rintro e w8 ⟨rfl, hb⟩
          have HW8 := hidI (bt HW7.out hb)
          have HS8 := hidI (HS7.out.below hb)
          clear hb HC5 HS7
          go_wp2_with fail
          have C8 := HC7.out w8 HS8.out.rd
          rw [HL7.out] at C8
          refine C8.mono ?_
          rintro e w9 ⟨rfl, hb⟩
          have hw9 := bt HW8.out hb
          clear hb C8
          go_wp2_with fail
          go_ret
          exact ⟨rfl, hw9⟩
end Go.Proofs.Ytjchndookaahiaa
