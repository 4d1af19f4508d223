/- 'vivariumlaw24.PlanStays' answers true at every input, and its arguments read behind the call as they read before it. No condition is laid on the input. -/
import Derived.Test.YteljibjbndpncaaPsLiftPlanStays
namespace Go.Proofs.Yteljibjbndpncaa.PlanStaysLaw
open Go.ChangeShapes Go.WideShapes Go.ChangeAt Go.RowKit

set_option maxRecDepth 100000 in
set_option maxHeartbeats 4000000 in
theorem closed : joinedFacts Try.pinned.checked.prog 3 Try.f3 Rows.planStaysSpec Rows.planStaysRow = true := by
  delta joinedFacts
  repeat' (with_reducible refine Bool.and_eq_true_iff.2 ⟨?_, ?_⟩)
  all_goals (as_aux_lemma => kernel_rfl)

theorem over : Rows.planStaysRow.holds Try.pinned (OpenSpec.ofChange Rows.planStaysSpec) :=
  OpenClaim.holds_of_wide 3 Try.f3 rfl rfl rfl rfl rfl rfl rfl ⟨rfl, rfl, rfl, rfl, rfl⟩ rfl rfl rfl rfl rfl (by kernel_rfl) Try.func3 closed
    (of_decide_eq_true (by kernel_rfl)) (by unfold Func.isWrapper; first | (rw [if_pos (by decide +kernel)]; kernel_rfl) | (rw [if_neg (by decide +kernel)]; exact ⟨rfl, rfl⟩))
    (fun os started H enc _ => lifted os started H enc)

end PlanStaysLaw
/-- The statement. -/
theorem planStays_holds : Rows.PlanStaysSaid := PlanStaysLaw.over
end Go.Proofs.Yteljibjbndpncaa
