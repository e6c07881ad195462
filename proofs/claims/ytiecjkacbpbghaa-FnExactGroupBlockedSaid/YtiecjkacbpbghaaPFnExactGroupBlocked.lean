/-
  The call of laws.FnExactGroupBlocked returns true, whatever its arguments; each argument reads afterwards as it read before. No condition.
-/
import Derived.Test.YtiecjkacbpbghaaEj
import Derived.Test.YtiecjkacbpbghaaOg
namespace Go.Proofs.Ytiecjkacbpbghaa.pFnExactGroupBlocked
open Go.ChangeShapes Go.WideShapes Go.ChangeAt Go.RowKit
set_option linter.unusedVariables false

theorem own : ownKnob Try.prog.godebug = none := by kernel_rfl
theorem laidOut : laidOutB Try.prog = true := by kernel_rfl

theorem cells39 : Try.prog.cellsOf 39 = 4 := by kernel_rfl
theorem cells68 : Try.prog.cellsOf 68 = 4 := by kernel_rfl
theorem cells66 : Try.prog.cellsOf 66 = 2 := by kernel_rfl
theorem cells3 : Try.prog.cellsOf 3 = 1 := by kernel_rfl
theorem cells4 : Try.prog.cellsOf 4 = 1 := by kernel_rfl

set_option maxRecDepth 100000 in
set_option maxHeartbeats 400000 in
theorem lifted (os : Os) (started : os.Started) (H : Type) (enc : TypeId × Value → H) :
    ReturnsInHanded {} Try.checked os 6 .any (Rows.fnExactGroupBlockedSpec.pre6 enc Try.prog Try.f6 Rows.fnExactGroupBlockedRow.domain false) (Rows.fnExactGroupBlockedSpec.post enc Try.prog Try.f6 false true false false) := by
  refine returnsInHanded_of_change (C := Try.checked) own started (by kernel_rfl) Try.func6
    (ChangeSpec.witness6 (enc := enc) (C := Try.checked) false ⟨#[], #[.agg #[.int .i64 0, .int .i64 0, .slice none 0 0, .slice none 0 0]], []⟩ 8 (by kernel_rfl) (by kernel_rfl) (by kernel_rfl) (by kernel_rfl)) ?_
  intro W base args ds gs before hval0 hW hcnd _
  have hval : ∀ (j : Nat) t v, Try.f6.params[j]? = some t → args[j]? = some v → Value.okWide Try.prog W .any base t v := hval0
  have hW' := hW
  obtain ⟨p, q, hA0, hV, rfl, hfz, hnd⟩ := hW
  have hA : DataW.TrodAll enc Try.prog W 0 (fun _ => true) true Try.f6.params.toList args.toList ds p := hA0
  rw [Try.params6] at hA hval
  obtain ⟨v0, vs0, d0, ds0, p0, q0, hargs, rfl, rfl, h0, t0⟩ := trodAll_cons hA
  obtain ⟨rfl, rfl, rfl⟩ := trodAll_nil t0
  obtain rfl : args = #[v0] := by cases args; simp_all
  obtain ⟨rfl, rfl⟩ := trodVars_none hV
  obtain ⟨a0, b0, A0, x0, c0, B0, y0, e0, rfl, l0, m0, r0, k0, n0, s0⟩ := open_group Try.underlying39 (by kernel_rfl) cells39 Try.underlying3 Try.underlying3 Try.underlying37 Try.underlying37 Try.underlying68 ⟨rfl, rfl, rfl⟩ cells68 cells3 cells66 cells4 Try.underlying3 Try.underlying66 (by kernel_rfl) Try.underlying3 Try.underlying3 Try.underlying4 (hval 0 39 v0 rfl rfl) h0
  clear hA0 hval0
  refine (xBl_walk a0 b0 A0 B0 x0 y0 c0 e0 W (by have := m0; unfold maxLen at this; omega) (by have := n0; unfold maxLen at this; omega) r0 s0).mono fun e W' ⟨he, hg⟩ => ?_
  subst he
  exact ⟨_, rfl, law_post laidOut (by kernel_rfl) rfl hW' rfl Try.underlying4 rfl hg⟩

/-- The statement. -/
theorem proved : Rows.FnExactGroupBlockedSaid :=
  OpenClaim.holds_of_wide 6 Try.f6 rfl rfl rfl rfl rfl rfl rfl ⟨rfl, rfl, rfl, rfl, rfl⟩ rfl rfl rfl rfl rfl (by kernel_rfl) Try.func6 (by kernel_rfl)
    (of_decide_eq_true (by kernel_rfl)) (by unfold Func.isWrapper; first | (rw [if_pos (by decide +kernel)]; kernel_rfl) | (rw [if_neg (by decide +kernel)]; exact ⟨rfl, rfl⟩))
    (fun os started H enc _ => lifted os started H enc)
#print axioms proved
end Go.Proofs.Ytiecjkacbpbghaa.pFnExactGroupBlocked
