/- The law FnLinkedGrow: its call hands back true, whatever the code. -/
import Derived.Test.YtbdboekjcgefhaaRk
import Derived.Test.YtbdboekjcgefhaaRd
namespace Go.Proofs.Ytbdboekjcgefhaa
set_option linter.unusedVariables false
open Go.RowKit

theorem run_append_nil_own {P : Program} (w : World) (base : Nat) (t ty e : TypeId) (i : TypeInfo) (size : Nat) (ht : P.underlying t = some (.slice e)) (hi : P.info? e = some i)
    (v : Value) (n : Nat) (xs : List Value) (hown : w.ownsRow base e size v n xs) (c : Nat) : (Builtin.append_ #[t, t] ty #[v, .slice none 0 c]).run P w = .ok v w := by
  rcases hown.2 with ⟨rfl, rfl⟩ | ⟨g, cap, cur, rfl, _, _, hnc, _⟩
  · simp [Builtin.append_, run_underlying ht, sizeOf, typeInfo, hi, Builtin.lenOf, Builtin.firstCells]
  · simp [Builtin.append_, run_underlying ht, sizeOf, typeInfo, hi, Builtin.lenOf, Builtin.firstCells, hnc, storeCells]

/-- Rows are appended to rows of the call's own; the source nil, empty or not. -/
theorem wpList_append_RVs {ops : Array Oper} {rest : List Oper} {o : Oper} {a : Act} {Q : Exit → Act → World → Prop} {w : World} (hgd : o.guard = none) (s z : Operand)
    (ho : o.op = .call { callee := .builtin .append, args := #[s, z], argTypes := #[22, 22] })
    {B n m c : Nat} {v : Value} {A : Option Addr} {ts hs : List Hnd}
    (hs0 : a.eval s = v) (h : RV w B v n ts) (hx : a.eval z = .slice A m c) (hl : hs.length = m) (hr : RR w A hs) (hrow : ∀ h ∈ hs, IS w B h.A h.xs.length h.c h.xs) (hn : n + m ≤ 1000000) (hB : B ≤ w.heap.size)
    (k : ∀ v' w', RV w' B v' (n + m) (ts ++ hs) → Below B w w' → w.grownBy w' v.ownBlock → wpList Try.prog ops Q rest (a.put o.dst v') w') : wpList Try.prog ops Q (o :: rest) a w := by
  obtain ⟨i0, hi, hz0, hz1, hz2⟩ := info_parts infoRow
  cases A with
  | none =>
    have hm : hs = [] := by
      cases hs with
      | nil => rfl
      | cons x r =>
        obtain ⟨ad, e, _⟩ := hr.1 0 _ (by simp; rfl)
        cases e
    subst hm
    obtain rfl : m = 0 := by simpa using hl.symm
    refine wpList_plain hgd fun K hK => ?_
    have hrun := run_append_nil_own (P := Try.prog) w B 22 o.type 24 i0 1 Try.underlying22 hi v n _ h.outer c
    unfold Oper.wp
    simp [execOp, ho, resolve, invoke, builtin, hs0, hx, hrun, Result.andThen]
    exact hK _ _ (k v w (by simpa using h) (Below.refl _ _) (World.grownBy.refl _ _))
  | some ad =>
    refine wpList_append_own _ hgd s z 22 ho B 24 i0 (.slice none 0 0) 1 24 Try.underlying22 hi hz0 hz1 hz2 rfl (by decide) _ n (ts.map hv) hs0 h.outer ad m c (hs.map hv) hx (by simp [hl]) ?_ ?_ (by unfold maxLen; omega) (by omega) hB ?_
    · intro j u hj
      obtain ⟨ad', e, _, hc⟩ := hr.1 j u hj
      cases e
      exact hc
    · intro u hu
      obtain ⟨y, _, rfl⟩ := List.mem_map.1 hu
      rfl
    · intro v' w' e1 e2 _
      refine k v' w' ⟨?_, fun r hr' => ?_⟩ ((Below.refl _ _).grown e2 hB (fun g' e => (World.ownsRow.lt h.outer g' e).1)) e2
      · rw [List.map_append]
        exact e1
      · rcases List.mem_append.1 hr' with hr' | hr'
        · exact (h.row r hr').grown e2 ((h.row r hr').not_outer h.outer)
        · exact (hrow r hr').grown e2 ((hrow r hr').not_outer h.outer)
theorem grow_gv1 : gvB [4] = true := gvB_iff.2 ⟨by simp, asc_short (by simp), fun x hx => by simp at hx; omega⟩
theorem grow_gv2 {a : Int} (h0 : 0 ≤ a) (h4 : a < 4) : gvB [a, 4] = true := gvB_iff.2 ⟨by simp, pair_asc (by simp; omega), fun x hx => by simp at hx; omega⟩
theorem grow_len {sets : List (List Int)} {g : Int} {s : List Int} (h : setsB sets g = true) (hs : gvB s = true) (hl : sets.length < 12) : (comL (linkB sets g) (linkB (sets ++ [s]) g)).length = (linkB sets g).length := by
  obtain ⟨a, b, c⟩ := setsB_iff.1 h
  have h2 : setsB (sets ++ [s]) g = true := setsB_iff.2 ⟨fun t m => by
    rcases List.mem_append.1 m with m | m
    · exact a t m
    · obtain rfl : t = s := by simpa using m
      exact hs, by simp; omega, c⟩
  exact com_sub_len (link_is h).valid (link_is h2).valid (link_more (link_is h) (link_is h2) fun t m => List.mem_append.2 (.inl m))
theorem rows_snoc (hs : List Hnd) (h : Hnd) : rowsOf (hs ++ [h]) = rowsOf hs ++ [h.xs] := by simp [rowsOf]

set_option maxHeartbeats 8000000 in
theorem rGrow_walk (A : Option Addr) (bs : List Int) (c : Nat) (A9 : Option Addr) (ms : List Int) (c9 : Nat) (w : World) (hm : (bs.length : Int) ≤ 9223372036854775807) (hlc : bs.length ≤ c) (hcm : (c : Int) ≤ 9223372036854775807) (hr : Rd w w.heap.size A (bs.map (Value.int .u8))) (hf : ∀ x ∈ bs, FitB x) (hm9 : (ms.length : Int) ≤ 9223372036854775807) :
    Calls Try.prog 5 #[.slice A bs.length c, .slice A9 ms.length c9] w fun e w' => e = .returned (.bool true) ∧ Below w.heap.size w w' := by
  by_cases hn : (1048576 : Int) < bs.length
  · clear hr hf
    go_enter Try.func5, Try.ntmps5
    go_wp2
    go_ret
    exact ⟨rfl, by go_grown⟩
  · have hn' : (bs.length : Int) ≤ 1048576 := by omega
    by_cases hn2 : (1048576 : Int) < ms.length
    · clear hr hf
      go_enter Try.func5, Try.ntmps5
      go_wp2
      go_ret
      exact ⟨rfl, by go_grown⟩
    have hn2' : (ms.length : Int) ≤ 1048576 := by omega
    have hw := Below.refl w.heap.size w
    go_enter Try.func5, Try.ntmps5
    go_wp2_with fail
    refine (drawRL_c A bs c _ hm hlc hcm hr hf).mono ?_
    rintro e w1 ⟨hs, A1, c1, n, rfl, h1, h2, n0, n1, R1, hb⟩
    have hK : Below w.heap.size w w1 := bu hb (by go_grown)
    replace hw := hK
    clear hb hK hr hf
    have hn1 : hs.length ≤ 1048576 := by omega
    have H6 := hidI h2
    have H7 : Hid (∀ h ∈ hs, h.xs.length ≤ 1048576) := fun h m => Nat.le_trans (h2 h m) (by omega)
    clear h2
    have CI := fun W (h : RR W A1 hs) => implLink_c A1 hs c1 n W hn1 H7 (hidI h)
    have CS := fun W (h : RR W A1 hs) => specLink_c A1 hs c1 n W hn1 H7 (hidI h)
    have hR0 := link_le (rowsOf hs) n
    obtain ⟨R, hR⟩ : ∃ R, linkB (rowsOf hs) n = R := ⟨_, rfl⟩
    rw [hR] at hR0
    simp only [hR] at CI CS
    unfold NewI at CI CS
    have HR := hidI hR
    have HCI := hidI CI
    have HCS := hidI CS
    clear hR CI CS
    have hRl : R.length ≤ 1048576 := by omega
    have hRm : (R.length : Int) ≤ 9223372036854775807 := by omega
    go_wp2_with fail
    refine (HCI.out _ R1.rr).mono ?_
    rintro e w2 ⟨A2, c2, rfl, S2, hb⟩
    have hK : Below w1.heap.size w1 w2 := bu hb (by go_grown)
    replace R1 := R1.below hK
    replace hw := bt hw hK
    have zzw2 := hK.size
    clear hb hK
    go_wp2_with fail
    refine (HCS.out _ R1.rr).mono ?_
    rintro e w3 ⟨A3, c3, rfl, S3, hb⟩
    have hK : Below w2.heap.size w2 w3 := bu hb (by go_grown)
    replace R1 := R1.below hK
    replace S2 := S2.below hK
    replace hw := bt hw hK
    have zzw3 := hK.size
    clear hb hK
    go_wp2_with fail
    refine (sameInts_c _ _ R _ _ _ hRm S2.rd S3.rd).mono ?_
    rintro e w4 ⟨rfl, hb⟩
    have hK : Below w3.heap.size w3 w4 := bu hb (by go_grown)
    replace R1 := R1.below hK
    replace S2 := S2.below hK
    replace S3 := S3.below hK
    replace hw := bt hw hK
    have zzw4 := hK.size
    clear hb hK
    by_cases h0 : R.length = 0
    · have hz : ((R.length : Int) == 0) = true := by rw [h0]; rfl
      clear h0
      go_wp2_with fail
      refine (sameInts_c _ _ R _ _ _ hRm S2.rd S3.rd).mono ?_
      rintro e w5 ⟨rfl, hb⟩
      have hK : Below w4.heap.size w4 w5 := bu hb (by go_grown)
      replace hw := bt hw hK
      have zzw5 := hK.size
      clear hb hK
      go_wp2_with fail
      go_ret
      exact ⟨rfl, hw⟩
    have hz : ((R.length : Int) == 0) = false := by simp; intro h; exact h0 (by simp [h])
    by_cases h12 : hs.length = 12
    · have hz2 : ((hs.length : Int) == 12) = true := by rw [h12]; rfl
      clear h12 h0
      go_wp2_with fail
      refine (sameInts_c _ _ R _ _ _ hRm S2.rd S3.rd).mono ?_
      rintro e w5 ⟨rfl, hb⟩
      have hK : Below w4.heap.size w4 w5 := bu hb (by go_grown)
      replace hw := bt hw hK
      have zzw5 := hK.size
      clear hb hK
      go_wp2_with fail
      go_ret
      exact ⟨rfl, hw⟩
    have hz2 : ((hs.length : Int) == 12) = false := by simp; omega
    have hset := link_set (sets := rowsOf hs) (g := n) (by rw [HR.out]; exact h0)
    have hl12 : hs.length ≤ 12 := by have := (setsB_iff.1 hset).2.1; rwa [rowsOf_length] at this
    obtain ⟨k, hk⟩ : ∃ k, k = ms.length % 5 := ⟨_, rfl⟩
    have hk5 : k < 5 := by omega
    have e1 : (ms.length : Int) % 5 = (k : Int) := by omega
    have hws := hw.size
    have RL := hidI R1.bound
    have SL := hidI (fun a e => (S2.lt a e).2)
    clear hk h0 HCI HCS S3
    by_cases hk4 : k < 4
    · have d4 : decide ((k : Int) < 4) = true := decide_eq_true (by omega)
      have GL := grow_len (sets := rowsOf hs) (g := n) (s := [(k : Int)] ++ [4]) hset (grow_gv2 (by omega) (by omega)) (by rw [rowsOf_length]; omega)
      rw [HR.out] at GL
      have HGL := hidI GL
      clear GL hset
      have S0 : IS (w4.alloc (.cells #[.int .i64 (k : Int)] 3)) w.heap.size (some ⟨w4.heap.size, 0, none⟩) 1 1 [(k : Int)] := IS.full (xs := [(k : Int)]) (Box.new w4 _ _) hws (by simp [maxLen])
      have R4 := (R1.mono (B' := w.heap.size) (by omega)).alloc (.cells #[.int .i64 (k : Int)] 3)
      have SR4 := S2.alloc (.cells #[.int .i64 (k : Int)] 3)
      have hw4 : Below w.heap.size w (w4.alloc (.cells #[.int .i64 (k : Int)] 3)) := hw.alloc hws _
      have hws4 := hw4.size
      go_wp2_with (first
        | (at_builtin; refine wpList_append_IV 4 rfl _ _ rfl rfl (S0.iv.alloc _) rfl (by simp) (by omega) (by simp; omega) ?_; intro v5 w5 V5 hb5 hg5; obtain ⟨As, cs5, rfl, SS⟩ := V5.open_; have hw5 := (hw4.alloc hws4 (.cells #[.int .i64 4] 3)).trans hb5; have RR5 := (R4.alloc (.cells #[.int .i64 4] 3)).past RL.out hg5 (fun j e => by have e1 : some w4.heap.size = some j := e; injection e1 with e1; omega); have SRR := (SR4.alloc (.cells #[.int .i64 4] 3)).grown hg5 (fun j e a ea hab => by have e1 : some w4.heap.size = some j := e; injection e1 with e1; have q := SL.out a ea; omega); have hs5 := hw5.size; have V0 := (RV.start w5).mono (B' := w.heap.size) hs5; have R5 := RR5.alloc (.cells #[] 24); have S5 := SS.alloc (.cells #[] 24); have SR5 := SRR.alloc (.cells #[] 24); have hw6 := hw5.alloc hs5 (.cells #[] 24); have hs6 := hw6.size; have HRR := hidI R5.rr; have HROW := hidI R5.row)
        | (at_builtin; refine wpList_append_RVs (A := A1) (m := hs.length) (c := c1) (hs := hs) rfl _ _ rfl rfl V0 rfl rfl HRR.out HROW.out (by omega) (by omega) ?_; intro v6 w6 V6 hb6 hg6; have hw7 := hidI (hw6.trans hb6); have S6 := S5.grown hg6 (fun j e => S5.not_outer V0.outer j e); have SR6 := SR5.grown hg6 (fun j e => SR5.not_outer V0.outer j e); have q6 := hb6.size)
        | (at_builtin; refine wpList_append_RV As 2 cs5 ([(k : Int)] ++ [4]) rfl _ _ rfl rfl (V6.alloc _) (S6.alloc _) rfl (by simp) (by omega) (by simp; omega) ?_; intro v7 w7 V7 hb7 hg7; have hw8 := hidI ((hw7.out.alloc hw7.out.size (.cells #[.slice As 2 cs5] 24)).trans hb7); have SR7 := (SR6.alloc (.cells #[.slice As 2 cs5] 24)).grown hg7 (fun j e => (SR6.alloc (.cells #[.slice As 2 cs5] 24)).not_outer (V6.alloc (.cells #[.slice As 2 cs5] 24)).outer j e); obtain ⟨A7, c7, rfl⟩ := V7.open_))
      simp only [Nat.zero_add, List.nil_append] at V7 ⊢
      have hl7 : (hs ++ [(⟨As, cs5, ([(k : Int)] ++ [4])⟩ : Hnd)]).length = hs.length + 1 := by simp
      have H77 : Hid (∀ h ∈ hs ++ [(⟨As, cs5, ([(k : Int)] ++ [4])⟩ : Hnd)], h.xs.length ≤ 1048576) := fun h m => by
        rcases List.mem_append.1 m with m | m
        · exact H7.out h m
        · obtain rfl : h = ⟨As, cs5, ([(k : Int)] ++ [4])⟩ := by simpa using m
          simp
      have CX := implLink_c A7 (hs ++ [(⟨As, cs5, ([(k : Int)] ++ [4])⟩ : Hnd)]) c7 n w7 (by rw [hl7]; omega) H77 (hidI (by have := V7.rr; exact this))
      rw [rows_snoc, hl7] at CX
      have hXl := link_le (rowsOf hs ++ [([(k : Int)] ++ [4])]) n
      obtain ⟨X, hX⟩ : ∃ X, linkB (rowsOf hs ++ [([(k : Int)] ++ [4])]) n = X := ⟨_, rfl⟩
      have GL := HGL.out
      simp only [hX] at CX GL
      rw [hX] at hXl
      have HGL2 := hidI GL
      have HCX := hidI CX
      have HSR := hidI SR7
      clear CX hX V7 hl7 H77 hb7 hg7 SR7 HGL GL
      refine Calls.mono HCX.out ?_
      rintro e w8 ⟨A8, c8, rfl, S8, hb8⟩
      have SR8 := HSR.out.below hb8
      have hw9 := hidI (bt hw8.out hb8)
      have HCM := hidI (implCom_c A2 R c2 A8 X c8 w8 (by omega) (by omega) SR8.rd S8.rd)
      clear hb8 HCX SR8 S8
      go_wp2_with fail
      refine Calls.mono HCM.out ?_
      rintro e w9 ⟨A9', c9', rfl, S9, hb9⟩
      rw [HGL2.out]
      have hw10 := bt hw9.out hb9
      clear hb9 S9
      go_wp2_with fail
      go_ret
      exact ⟨rfl, hw10⟩
    · obtain rfl : k = 4 := by omega
      have e1 : (ms.length : Int) % 5 = 4 := by omega
      have GL := grow_len (sets := rowsOf hs) (g := n) (s := [4]) hset grow_gv1 (by rw [rowsOf_length]; omega)
      rw [HR.out] at GL
      have HGL := hidI GL
      clear GL hset
      have S0 : IS (w4.alloc (.cells #[.int .i64 4] 3)) w.heap.size (some ⟨w4.heap.size, 0, none⟩) 1 1 [4] := IS.full (xs := [4]) (Box.new w4 _ _) hws (by simp [maxLen])
      have R4 := (R1.mono (B' := w.heap.size) (by omega)).alloc (.cells #[.int .i64 4] 3)
      have SR4 := S2.alloc (.cells #[.int .i64 4] 3)
      have hw4 : Below w.heap.size w (w4.alloc (.cells #[.int .i64 4] 3)) := hw.alloc hws _
      have hws4 := hw4.size
      have V0 := (RV.start (w4.alloc (.cells #[.int .i64 4] 3))).mono (B' := w.heap.size) hws4
      have R5 := R4.alloc (.cells #[] 24)
      have S5 := S0.alloc (.cells #[] 24)
      have SR5 := SR4.alloc (.cells #[] 24)
      have hw6 := hw4.alloc hws4 (.cells #[] 24)
      have hs6 := hw6.size
      have HRR := hidI R5.rr
      have HROW := hidI R5.row
      simp only [World.size_alloc] at V0
      go_wp2_with (first
        | (at_builtin; refine wpList_append_RVs (A := A1) (m := hs.length) (c := c1) (hs := hs) rfl _ _ rfl rfl V0 rfl rfl HRR.out HROW.out (by omega) (by omega) ?_; intro v6 w6 V6 hb6 hg6; have hw7 := hidI (hw6.trans hb6); have S6 := S5.grown hg6 (fun j e => S5.not_outer V0.outer j e); have SR6 := SR5.grown hg6 (fun j e => SR5.not_outer V0.outer j e); have q6 := hb6.size)
        | (at_builtin; refine wpList_append_RV (some ⟨w4.heap.size, 0, none⟩) 1 1 [4] rfl _ _ rfl rfl (V6.alloc _) (S6.alloc _) rfl (by simp) (by omega) (by simp; omega) ?_; intro v7 w7 V7 hb7 hg7; have hw8 := hidI ((hw7.out.alloc hw7.out.size (.cells #[.slice (some ⟨w4.heap.size, 0, none⟩) 1 1] 24)).trans hb7); have SR7 := (SR6.alloc (.cells #[.slice (some ⟨w4.heap.size, 0, none⟩) 1 1] 24)).grown hg7 (fun j e => (SR6.alloc (.cells #[.slice (some ⟨w4.heap.size, 0, none⟩) 1 1] 24)).not_outer (V6.alloc (.cells #[.slice (some ⟨w4.heap.size, 0, none⟩) 1 1] 24)).outer j e); obtain ⟨A7, c7, rfl⟩ := V7.open_))
      simp only [Nat.zero_add, List.nil_append] at V7 ⊢
      have hl7 : (hs ++ [(⟨(some ⟨w4.heap.size, 0, none⟩), 1, [4]⟩ : Hnd)]).length = hs.length + 1 := by simp
      have H77 : Hid (∀ h ∈ hs ++ [(⟨(some ⟨w4.heap.size, 0, none⟩), 1, [4]⟩ : Hnd)], h.xs.length ≤ 1048576) := fun h m => by
        rcases List.mem_append.1 m with m | m
        · exact H7.out h m
        · obtain rfl : h = ⟨(some ⟨w4.heap.size, 0, none⟩), 1, [4]⟩ := by simpa using m
          simp
      have CX := implLink_c A7 (hs ++ [(⟨(some ⟨w4.heap.size, 0, none⟩), 1, [4]⟩ : Hnd)]) c7 n w7 (by rw [hl7]; omega) H77 (hidI (by have := V7.rr; exact this))
      rw [rows_snoc, hl7] at CX
      have hXl := link_le (rowsOf hs ++ [[4]]) n
      obtain ⟨X, hX⟩ : ∃ X, linkB (rowsOf hs ++ [[4]]) n = X := ⟨_, rfl⟩
      have GL := HGL.out
      simp only [hX] at CX GL
      rw [hX] at hXl
      have HGL2 := hidI GL
      have HCX := hidI CX
      have HSR := hidI SR7
      clear CX hX V7 hl7 H77 hb7 hg7 SR7 HGL GL
      refine Calls.mono HCX.out ?_
      rintro e w8 ⟨A8, c8, rfl, S8, hb8⟩
      have SR8 := HSR.out.below hb8
      have hw9 := hidI (bt hw8.out hb8)
      have HCM := hidI (implCom_c A2 R c2 A8 X c8 w8 (by omega) (by omega) SR8.rd S8.rd)
      clear hb8 HCX SR8 S8
      go_wp2_with fail
      refine Calls.mono HCM.out ?_
      rintro e w9 ⟨A9', c9', rfl, S9, hb9⟩
      rw [HGL2.out]
      have hw10 := bt hw9.out hb9
      clear hb9 S9
      go_wp2_with fail
      go_ret
      exact ⟨rfl, hw10⟩
end Go.Proofs.Ytbdboekjcgefhaa
