/- 'vivariumlaw33.JudgeBacks' answers true at every input, and its arguments read behind the call as they read before it. No condition is laid on the input. -/
import Derived.Test.YteljibjbndpncaaJbG35
namespace Go.Proofs.Yteljibjbndpncaa.JudgeBacksLaw
open Go.ChangeShapes Go.WideShapes Go.ChangeAt Go.RowKit

set_option maxRecDepth 100000 in
set_option maxHeartbeats 4000000 in
theorem closed : joinedFacts Try.pinned.checked.prog 5 Try.f5 Rows.judgeBacksSpec Rows.judgeBacksRow = true := by
  delta joinedFacts
  repeat' (with_reducible refine Bool.and_eq_true_iff.2 ⟨?_, ?_⟩)
  all_goals (as_aux_lemma => kernel_rfl)

theorem over : Rows.judgeBacksRow.holds Try.pinned (OpenSpec.ofChange Rows.judgeBacksSpec) :=
  OpenClaim.holds_of_wide 5 Try.f5 rfl rfl rfl rfl rfl rfl rfl ⟨rfl, rfl, rfl, rfl, rfl⟩ rfl rfl rfl rfl rfl (by kernel_rfl) Try.func5 closed
    (of_decide_eq_true (by kernel_rfl)) (by unfold Func.isWrapper; first | (rw [if_pos (by decide +kernel)]; kernel_rfl) | (rw [if_neg (by decide +kernel)]; exact ⟨rfl, rfl⟩))
    (fun os started H enc _ => lifted os started H enc)

end JudgeBacksLaw
/-- The statement. -/
theorem judgeBacks_holds : Rows.JudgeBacksSaid := JudgeBacksLaw.over
end Go.Proofs.Yteljibjbndpncaa
