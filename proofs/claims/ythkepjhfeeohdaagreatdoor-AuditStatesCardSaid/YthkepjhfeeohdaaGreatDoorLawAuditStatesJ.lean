/- 'vivariumlaw34.AuditStates' answers true at every input, and its arguments read behind the call as they read before it. No condition is laid on the input. -/
import Derived.Test.YthkepjhfeeohdaaGreatDoorAuG6
import Derived.Test.YthkepjhfeeohdaaGreatDoorCards
import Derived.Test.YthkepjhfeeohdaaGreatDoorTie
import Derived.SevenTiedAt
namespace Go.Proofs.YthkepjhfeeohdaaGreatDoor.AuditStatesLaw
open Go.ChangeShapes Go.WideShapes Go.ChangeAt Go.RowKit

set_option maxRecDepth 100000 in
set_option maxHeartbeats 4000000 in
theorem closed : joinedFacts Tryz.pinned.checked.prog 3 Tryz.f3 Rows.auditStatesSpec Rows.auditStatesRow = true := by
  delta joinedFacts
  repeat' (with_reducible refine Bool.and_eq_true_iff.2 ⟨?_, ?_⟩)
  all_goals (as_aux_lemma => kernel_rfl)

theorem over : Rows.auditStatesRow.holds Tryz.pinned (OpenSpec.ofChange Rows.auditStatesSpec) :=
  OpenClaim.holds_of_wide 3 Tryz.f3 rfl rfl rfl rfl rfl rfl rfl ⟨rfl, rfl, rfl, rfl, rfl⟩ rfl rfl rfl rfl rfl (by kernel_rfl) Tryz.func3 closed
    (of_decide_eq_true (by kernel_rfl)) (by unfold Func.isWrapper; first | (rw [if_pos (by decide +kernel)]; kernel_rfl) | (rw [if_neg (by decide +kernel)]; exact ⟨rfl, rfl⟩))
    (fun os started H enc _ => lifted os started H enc)

end AuditStatesLaw
/-- The row's statement. -/
theorem auditStates_row : Rows.AuditStatesSaid := AuditStatesLaw.over
/-- The statement, tied to the program's text. -/
theorem auditStates_holds : Rows.AuditStatesCardSaid :=
  Claim7.holds_tied_plain_at .later [] [.data] true (true, "c134bea73f91b34fe545dca50966d0ff776d74d12e83854eb24f40e73644b35e") true
    auditStates_row (fun _ h => by cases h) (by kernel_rfl) (fun _ h => by cases h) auditStates_row_tie rfl ⟨rfl, rfl⟩ (by kernel_rfl) rfl
    (fun f fn hf hfn => by
      obtain rfl : f = 3 := Option.some.inj ((show Tryz.prog.funcNamed "vivarium/vivariumlaw34.AuditStates" = some 3 by kernel_rfl).symm.trans hf) |>.symm
      obtain rfl : fn = Tryz.f3 := (Option.some.inj (Tryz.func3.symm.trans hfn)).symm
      exact ⟨by kernel_rfl, fun j t ht => by
        rw [Tryz.params3] at ht
        rcases j with _ | _ | j
        · obtain rfl : t = 24 := by simpa using ht.symm
          exact (show Tryz.prog.wantsStandIn 24 = false by kernel_rfl)
        · obtain rfl : t = 28 := by simpa using ht.symm
          exact (show Tryz.prog.wantsStandIn 28 = false by kernel_rfl)
        · simp at ht⟩)
    (by kernel_rfl)
end Go.Proofs.YthkepjhfeeohdaaGreatDoor
