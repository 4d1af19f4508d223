/-
  No cell of these rows narrows 'for every input' (looked for: loops, veiled, ifaces, maps, wideKeys, modest, calm, conditions, laid).
  DERIVED. THE GIVEN ROWS OF THIS SEAT. 4 by the template 'for every input the law returns true; each argument reads behind the call as it read before'; 0 by the template 'total and deterministic' (their statements: YteljibjbndpncaaTotals.lean).
  GIVEN WITH THE SEED: the statements are not yours to turn. If you find one false, say at which input.
  Laid BY PROGRAM, IN A SANDBOX (cutbox-rows.mjs): the forced cells as the released guide's own fill.sh prints them over the translation 4a02790839d3d8dd… (all of the seat's roots in one cut). By AI agents, Wed Nov 11 2026. No macro, syntax, notation, axiom, sorry.
-/
import Derived.Test.YteljibjbndpncaaChecked
import GoSem.Claim
import GoSem.ClaimJoined
import GoSem.ClaimMapViews
import Derived.JoinedTies
import Derived.KernelRfl
namespace Go.Proofs.Yteljibjbndpncaa
/- THE CELL 'sum', in the pinned program and in every row, IS THE sha256 OF THE DUMP (.gsa) THAT YteljibjbndpncaaProg.lean LOADS. Nothing in Lean hashes anything: it is a label: what it is worth is what the hold of that sum in a sandbox is worth. -/
noncomputable def Try.pinned : Pinned := { name := "yteljibjbndpncaa", sum := "4a02790839d3d8ddd99b405ed5ec8058eb3278605763148075510eb12ba602d1", checked := Try.checked }
namespace Rows
def none {H : Type} : Left H := { results := [], args := [] }

/-- 'vivariumlaw24.PlanStays': WHATEVER THE INPUT: true; the input reads as it did. -/
def planStaysSpec : ChangeSpec := { name := "planStays", fn := fun _ => fun
  | [d1, d2] => { results := [.lit (.bool true)], args := [d1, d2] }
  | _ => none }
def planStaysRow : OpenClaim := { program := "yteljibjbndpncaa", sum := "4a02790839d3d8ddd99b405ed5ec8058eb3278605763148075510eb12ba602d1", func := "vivarium/vivariumlaw24.PlanStays", spec := "planStays", unfollowed := true, recurses := true, apart := false }
def PlanStaysSaid : Prop := planStaysRow.holds Try.pinned (OpenSpec.ofChange planStaysSpec)

/-- ITS FALSE NEIGHBOUR: 'it returns false'. Refute it at one input. -/
def planStaysWrong : ChangeSpec := { name := "planStays", fn := fun _ => fun
  | [d1, d2] => { results := [.lit (.bool false)], args := [d1, d2] }
  | _ => none }
def PlanStaysWrongFalsely : Prop := planStaysRow.holds Try.pinned (OpenSpec.ofChange planStaysWrong)

/-- 'vivariumlaw19.WalFinds': WHATEVER THE INPUT: true; the input reads as it did. -/
def walFindsSpec : ChangeSpec := { name := "walFinds", fn := fun _ => fun
  | [d1, d2, d3, d4, d5] => { results := [.lit (.bool true)], args := [d1, d2, d3, d4, d5] }
  | _ => none }
def walFindsRow : OpenClaim := { program := "yteljibjbndpncaa", sum := "4a02790839d3d8ddd99b405ed5ec8058eb3278605763148075510eb12ba602d1", func := "vivarium/vivariumlaw19.WalFinds", spec := "walFinds", unfollowed := true, recurses := true, apart := false }
def WalFindsSaid : Prop := walFindsRow.holds Try.pinned (OpenSpec.ofChange walFindsSpec)

/-- ITS FALSE NEIGHBOUR: 'it returns false'. Refute it at one input. -/
def walFindsWrong : ChangeSpec := { name := "walFinds", fn := fun _ => fun
  | [d1, d2, d3, d4, d5] => { results := [.lit (.bool false)], args := [d1, d2, d3, d4, d5] }
  | _ => none }
def WalFindsWrongFalsely : Prop := walFindsRow.holds Try.pinned (OpenSpec.ofChange walFindsWrong)

/-- 'vivariumlaw33.JudgeBacks': WHATEVER THE INPUT: true; the input reads as it did. -/
def judgeBacksSpec : ChangeSpec := { name := "judgeBacks", fn := fun _ => fun
  | [d1, d2, d3, d4, d5] => { results := [.lit (.bool true)], args := [d1, d2, d3, d4, d5] }
  | _ => none }
def judgeBacksRow : OpenClaim := { program := "yteljibjbndpncaa", sum := "4a02790839d3d8ddd99b405ed5ec8058eb3278605763148075510eb12ba602d1", func := "vivarium/vivariumlaw33.JudgeBacks", spec := "judgeBacks", unfollowed := true, recurses := true, apart := false }
def JudgeBacksSaid : Prop := judgeBacksRow.holds Try.pinned (OpenSpec.ofChange judgeBacksSpec)

/-- ITS FALSE NEIGHBOUR: 'it returns false'. Refute it at one input. -/
def judgeBacksWrong : ChangeSpec := { name := "judgeBacks", fn := fun _ => fun
  | [d1, d2, d3, d4, d5] => { results := [.lit (.bool false)], args := [d1, d2, d3, d4, d5] }
  | _ => none }
def JudgeBacksWrongFalsely : Prop := judgeBacksRow.holds Try.pinned (OpenSpec.ofChange judgeBacksWrong)

/-- 'vivariumlaw33.JudgeStates': WHATEVER THE INPUT: true; the input reads as it did. -/
def judgeStatesSpec : ChangeSpec := { name := "judgeStates", fn := fun _ => fun
  | [d1, d2, d3, d4] => { results := [.lit (.bool true)], args := [d1, d2, d3, d4] }
  | _ => none }
def judgeStatesRow : OpenClaim := { program := "yteljibjbndpncaa", sum := "4a02790839d3d8ddd99b405ed5ec8058eb3278605763148075510eb12ba602d1", func := "vivarium/vivariumlaw33.JudgeStates", spec := "judgeStates", unfollowed := true, recurses := true, apart := false }
def JudgeStatesSaid : Prop := judgeStatesRow.holds Try.pinned (OpenSpec.ofChange judgeStatesSpec)

/-- ITS FALSE NEIGHBOUR: 'it returns false'. Refute it at one input. -/
def judgeStatesWrong : ChangeSpec := { name := "judgeStates", fn := fun _ => fun
  | [d1, d2, d3, d4] => { results := [.lit (.bool false)], args := [d1, d2, d3, d4] }
  | _ => none }
def JudgeStatesWrongFalsely : Prop := judgeStatesRow.holds Try.pinned (OpenSpec.ofChange judgeStatesWrong)

/- THE SECOND FORM. 'bulk': how many values and letters a reading holds, each counted each time it is reached (what is shared counts as often as it is met; a slice's spare places count too). A statement '..UptoSaid' is the law's where the arguments, and the package variables that the reading takes, are together of bulk at most 1048576: NARROWER than '..Said'. Prove '..Said' where nothing that the law and all that it calls make is longer than what came in: it says more and counts as full. Else prove '..UptoSaid'. A law counts once. -/
mutual
def uptoBulk {H : Type} : DataW H → Nat
  | .lit (.string bytes) => bytes.length + 1
  | .lit _ => 1
  | .nil => 1
  | .ptr d => uptoBulk d + 1
  | .slice elems spare => uptoBulkAll elems + uptoBulkAll spare + 1
  | .agg parts => uptoBulkAll parts + 1
  | .iface _ d => uptoBulk d + 1
  | .map entries => uptoBulkEntries entries + 1
  | .held _ => 1
def uptoBulkAll {H : Type} : List (DataW H) → Nat
  | [] => 0
  | d :: r => uptoBulk d + uptoBulkAll r
def uptoBulkEntries {H : Type} : List (Lit × DataW H) → Nat
  | [] => 0
  | x :: r => uptoBulkEntry x + uptoBulkEntries r
def uptoBulkEntry {H : Type} : Lit × DataW H → Nat
  | (.string bytes, d) => bytes.length + uptoBulk d + 1
  | (_, d) => uptoBulk d + 1
 end
def uptoSmall : (H : Type) → List (DataW H) → Bool := fun _ ds => decide (uptoBulkAll ds ≤ 1048576)
def OpenSpec.upto (s : _root_.Go.ChangeSpec) : _root_.Go.OpenSpec := { _root_.Go.OpenSpec.ofChange s with cond := some uptoSmall }

/-- 'vivariumlaw24.PlanStays', WHERE WHAT IT READS IS OF BULK AT MOST 1048576: true; the input reads as it did. -/
def planStaysUptoRow : OpenClaim := { program := "yteljibjbndpncaa", sum := "4a02790839d3d8ddd99b405ed5ec8058eb3278605763148075510eb12ba602d1", func := "vivarium/vivariumlaw24.PlanStays", spec := "planStays", unfollowed := true, recurses := true, apart := false, narrowed := true }
def PlanStaysUptoSaid : Prop := planStaysUptoRow.holds Try.pinned (OpenSpec.upto planStaysSpec)

/-- 'vivariumlaw19.WalFinds', WHERE WHAT IT READS IS OF BULK AT MOST 1048576: true; the input reads as it did. -/
def walFindsUptoRow : OpenClaim := { program := "yteljibjbndpncaa", sum := "4a02790839d3d8ddd99b405ed5ec8058eb3278605763148075510eb12ba602d1", func := "vivarium/vivariumlaw19.WalFinds", spec := "walFinds", unfollowed := true, recurses := true, apart := false, narrowed := true }
def WalFindsUptoSaid : Prop := walFindsUptoRow.holds Try.pinned (OpenSpec.upto walFindsSpec)

/-- 'vivariumlaw33.JudgeBacks', WHERE WHAT IT READS IS OF BULK AT MOST 1048576: true; the input reads as it did. -/
def judgeBacksUptoRow : OpenClaim := { program := "yteljibjbndpncaa", sum := "4a02790839d3d8ddd99b405ed5ec8058eb3278605763148075510eb12ba602d1", func := "vivarium/vivariumlaw33.JudgeBacks", spec := "judgeBacks", unfollowed := true, recurses := true, apart := false, narrowed := true }
def JudgeBacksUptoSaid : Prop := judgeBacksUptoRow.holds Try.pinned (OpenSpec.upto judgeBacksSpec)

/-- 'vivariumlaw33.JudgeStates', WHERE WHAT IT READS IS OF BULK AT MOST 1048576: true; the input reads as it did. -/
def judgeStatesUptoRow : OpenClaim := { program := "yteljibjbndpncaa", sum := "4a02790839d3d8ddd99b405ed5ec8058eb3278605763148075510eb12ba602d1", func := "vivarium/vivariumlaw33.JudgeStates", spec := "judgeStates", unfollowed := true, recurses := true, apart := false, narrowed := true }
def JudgeStatesUptoSaid : Prop := judgeStatesUptoRow.holds Try.pinned (OpenSpec.upto judgeStatesSpec)

end Rows
end Go.Proofs.Yteljibjbndpncaa
