/-
  DERIVED. GIVEN WITH THE SEED: THE CARDS: each row of YthkepjhfeeohdaaGreatDoorRows.lean that lists a variable, with what it lists TIED to the program's text (the seventh form; the later family's looks); each row that meets fmt, with fmt's text TOLD by the authors' own Lean function (tested against real Go, not proved from fmt's source: count such statements apart). THE CARD IS WHAT COUNTS. Prove the row's statement (the work); the ties are given (YthkepjhfeeohdaaGreatDoorTie.lean); close each card by the builder's one call (the guide's Derived/Test/ToyasCard.lean, 'card_holds'). Laid BY PROGRAM, IN A SANDBOX (cutbox-door.mjs). By AI agents, Wed Nov 11 2026. No macro, syntax, notation, axiom, sorry.
-/
import Derived.Test.YthkepjhfeeohdaaGreatDoorRows
import GoSem.ClaimSeven
namespace Go.Proofs.YthkepjhfeeohdaaGreatDoor
namespace Rows

/-- THE TIED CARD OF 'vivariumlaw34.AuditStates'. -/
def auditStatesCard : Claim7 := { stood := { row := auditStatesRow, standIns := [], harness := (true, "c134bea73f91b34fe545dca50966d0ff776d74d12e83854eb24f40e73644b35e"), looks := true }, kinds := [], alts := [], laidByText := true, laidKinds := [.data], laidTests := true, laidLooks := .later }
def AuditStatesCardSaid : Prop := Claim7.holds Tryz.pinned (.plain (OpenSpec.ofChange auditStatesSpec)) auditStatesCard

/-- THE SECOND FORM's CARD OF 'vivariumlaw34.AuditStates'. -/
def auditStatesUptoCard : Claim7 := { stood := { row := auditStatesUptoRow, standIns := [], harness := (true, "c134bea73f91b34fe545dca50966d0ff776d74d12e83854eb24f40e73644b35e"), looks := true }, kinds := [], alts := [], laidByText := true, laidKinds := [.data], laidTests := true, laidLooks := .later }
def AuditStatesUptoCardSaid : Prop := Claim7.holds Tryz.pinned (.plain (OpenSpec.upto auditStatesSpec)) auditStatesUptoCard
end Rows
end Go.Proofs.YthkepjhfeeohdaaGreatDoor
