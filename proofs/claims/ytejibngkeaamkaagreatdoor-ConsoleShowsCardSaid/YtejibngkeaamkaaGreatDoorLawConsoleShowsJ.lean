/- 'vivariumlaw39.ConsoleShows' answers true at every input, and its arguments read behind the call as they read before it. No condition is laid on the input. -/
import Derived.Test.YtejibngkeaamkaaGreatDoorCoG8
import Derived.Test.YtejibngkeaamkaaGreatDoorCards
import Derived.Test.YtejibngkeaamkaaGreatDoorTie
import Derived.SevenTiedAt
namespace Go.Proofs.YtejibngkeaamkaaGreatDoor.ConsoleShowsLaw
open Go.ChangeShapes Go.WideShapes Go.ChangeAt Go.RowKit

set_option maxRecDepth 100000 in
set_option maxHeartbeats 4000000 in
theorem closed : joinedFacts Tryz.pinned.checked.prog 3 Tryz.f3 Rows.consoleShowsSpec Rows.consoleShowsRow = true := by
  delta joinedFacts
  repeat' (with_reducible refine Bool.and_eq_true_iff.2 ⟨?_, ?_⟩)
  all_goals (as_aux_lemma => kernel_rfl)

theorem over : Rows.consoleShowsRow.holds Tryz.pinned (OpenSpec.ofChange Rows.consoleShowsSpec) :=
  OpenClaim.holds_of_wide 3 Tryz.f3 rfl rfl rfl rfl rfl rfl rfl ⟨rfl, rfl, rfl, rfl, rfl⟩ rfl rfl rfl rfl rfl (by kernel_rfl) Tryz.func3 closed
    (of_decide_eq_true (by kernel_rfl)) (by unfold Func.isWrapper; first | (rw [if_pos (by decide +kernel)]; kernel_rfl) | (rw [if_neg (by decide +kernel)]; exact ⟨rfl, rfl⟩))
    (fun os started H enc _ => lifted os started H enc)

end ConsoleShowsLaw
/-- The row's statement. -/
theorem consoleShows_row : Rows.ConsoleShowsSaid := ConsoleShowsLaw.over
/-- The statement, tied to the program's text. -/
theorem consoleShows_holds : Rows.ConsoleShowsCardSaid :=
  Claim7.holds_tied_plain_at .later [] [.data, .data, .data, .data, .sentinel, .sentinel, .pinned] true (true, "ae61a79f2bceda880943a233aebf0dcb565e0023b82353a0e3b0bc1ee8a1b696") true
    consoleShows_row (fun _ h => by cases h) (by kernel_rfl) (fun _ h => by cases h) consoleShows_row_tie rfl ⟨rfl, rfl⟩ (by kernel_rfl) rfl
    (fun f fn hf hfn => by
      obtain rfl : f = 3 := Option.some.inj ((show Tryz.prog.funcNamed "vivarium/vivariumlaw39.ConsoleShows" = some 3 by kernel_rfl).symm.trans hf) |>.symm
      obtain rfl : fn = Tryz.f3 := (Option.some.inj (Tryz.func3.symm.trans hfn)).symm
      exact ⟨by kernel_rfl, fun j t ht => by
        rw [Tryz.params3] at ht
        rcases j with _ | _ | j
        · obtain rfl : t = 24 := by simpa using ht.symm
          exact (show Tryz.prog.wantsStandIn 24 = false by kernel_rfl)
        · obtain rfl : t = 35 := by simpa using ht.symm
          exact (show Tryz.prog.wantsStandIn 35 = false by kernel_rfl)
        · simp at ht⟩)
    (by kernel_rfl)
end Go.Proofs.YtejibngkeaamkaaGreatDoor
