/-
  No cell of these rows narrows 'for every input' (looked for: loops, veiled, ifaces, maps, wideKeys, modest, calm, conditions, laid).
  DERIVED. THE GIVEN ROWS OF THIS SEAT. 12 by the template 'for every input the law returns true; each argument reads behind the call as it read before'; 0 by the template 'total and deterministic' (their statements: YtecdbfbaclgejaaTotals.lean).
  GIVEN WITH THE SEED: the statements are not yours to turn. If you find one false, say at which input.
  Laid BY PROGRAM, IN A SANDBOX (cutbox-rows.mjs): the forced cells as the released guide's own fill.sh prints them over the translation fd7379a1abf78c2a… (all of the seat's roots in one cut). By AI agents, Wed Nov 11 2026. No macro, syntax, notation, axiom, sorry.
-/
import Derived.Test.YtecdbfbaclgejaaChecked
import GoSem.Claim
import GoSem.ClaimJoined
import GoSem.ClaimMapViews
import Derived.JoinedTies
import Derived.KernelRfl
namespace Go.Proofs.Ytecdbfbaclgejaa
/- THE CELL 'sum', in the pinned program and in every row, IS THE sha256 OF THE DUMP (.gsa) THAT YtecdbfbaclgejaaProg.lean LOADS. Nothing in Lean hashes anything: it is a label: what it is worth is what the hold of that sum in a sandbox is worth. -/
noncomputable def Try.pinned : Pinned := { name := "ytecdbfbaclgejaa", sum := "fd7379a1abf78c2a5dfa5206a652c42a2434c117cd1a5c8bd65728c7ace58303", checked := Try.checked }
namespace Rows
def none {H : Type} : Left H := { results := [], args := [] }

/-- 'vivariumlaw20.PageCuts': WHATEVER THE INPUT: true; the input reads as it did. -/
def pageCutsSpec : ChangeSpec := { name := "pageCuts", fn := fun _ => fun
  | [d1, d2] => { results := [.lit (.bool true)], args := [d1, d2] }
  | _ => none }
def pageCutsRow : OpenClaim := { program := "ytecdbfbaclgejaa", sum := "fd7379a1abf78c2a5dfa5206a652c42a2434c117cd1a5c8bd65728c7ace58303", func := "vivarium/vivariumlaw20.PageCuts", spec := "pageCuts", unfollowed := true, recurses := true, apart := false }
def PageCutsSaid : Prop := pageCutsRow.holds Try.pinned (OpenSpec.ofChange pageCutsSpec)

/-- ITS FALSE NEIGHBOUR: 'it returns false'. Refute it at one input. -/
def pageCutsWrong : ChangeSpec := { name := "pageCuts", fn := fun _ => fun
  | [d1, d2] => { results := [.lit (.bool false)], args := [d1, d2] }
  | _ => none }
def PageCutsWrongFalsely : Prop := pageCutsRow.holds Try.pinned (OpenSpec.ofChange pageCutsWrong)

/-- 'vivariumlaw35.ViewAsks': WHATEVER THE INPUT: true; the input reads as it did. -/
def viewAsksSpec : ChangeSpec := { name := "viewAsks", fn := fun _ => fun
  | [d1, d2, d3, d4] => { results := [.lit (.bool true)], args := [d1, d2, d3, d4] }
  | _ => none }
def viewAsksRow : OpenClaim := { program := "ytecdbfbaclgejaa", sum := "fd7379a1abf78c2a5dfa5206a652c42a2434c117cd1a5c8bd65728c7ace58303", func := "vivarium/vivariumlaw35.ViewAsks", spec := "viewAsks", inPlace := ["internal/bytealg.Compare"], unfollowed := true, recurses := true, apart := false }
def ViewAsksSaid : Prop := viewAsksRow.holds Try.pinned (OpenSpec.ofChange viewAsksSpec)

/-- ITS FALSE NEIGHBOUR: 'it returns false'. Refute it at one input. -/
def viewAsksWrong : ChangeSpec := { name := "viewAsks", fn := fun _ => fun
  | [d1, d2, d3, d4] => { results := [.lit (.bool false)], args := [d1, d2, d3, d4] }
  | _ => none }
def ViewAsksWrongFalsely : Prop := viewAsksRow.holds Try.pinned (OpenSpec.ofChange viewAsksWrong)

/-- 'vivariumlaw25.DirGets': WHATEVER THE INPUT: true; the input reads as it did. -/
def dirGetsSpec : ChangeSpec := { name := "dirGets", fn := fun _ => fun
  | [d] => { results := [.lit (.bool true)], args := [d] }
  | _ => none }
def dirGetsRow : OpenClaim := { program := "ytecdbfbaclgejaa", sum := "fd7379a1abf78c2a5dfa5206a652c42a2434c117cd1a5c8bd65728c7ace58303", func := "vivarium/vivariumlaw25.DirGets", spec := "dirGets", unfollowed := true, recurses := true, apart := false }
def DirGetsSaid : Prop := dirGetsRow.holds Try.pinned (OpenSpec.ofChange dirGetsSpec)

/-- ITS FALSE NEIGHBOUR: 'it returns false'. Refute it at one input. -/
def dirGetsWrong : ChangeSpec := { name := "dirGets", fn := fun _ => fun
  | [d] => { results := [.lit (.bool false)], args := [d] }
  | _ => none }
def DirGetsWrongFalsely : Prop := dirGetsRow.holds Try.pinned (OpenSpec.ofChange dirGetsWrong)

/-- 'vivariumlaw24.PlanStays': WHATEVER THE INPUT: true; the input reads as it did. -/
def planStaysSpec : ChangeSpec := { name := "planStays", fn := fun _ => fun
  | [d1, d2] => { results := [.lit (.bool true)], args := [d1, d2] }
  | _ => none }
def planStaysRow : OpenClaim := { program := "ytecdbfbaclgejaa", sum := "fd7379a1abf78c2a5dfa5206a652c42a2434c117cd1a5c8bd65728c7ace58303", func := "vivarium/vivariumlaw24.PlanStays", spec := "planStays", unfollowed := true, recurses := true, apart := false }
def PlanStaysSaid : Prop := planStaysRow.holds Try.pinned (OpenSpec.ofChange planStaysSpec)

/-- ITS FALSE NEIGHBOUR: 'it returns false'. Refute it at one input. -/
def planStaysWrong : ChangeSpec := { name := "planStays", fn := fun _ => fun
  | [d1, d2] => { results := [.lit (.bool false)], args := [d1, d2] }
  | _ => none }
def PlanStaysWrongFalsely : Prop := planStaysRow.holds Try.pinned (OpenSpec.ofChange planStaysWrong)

/-- 'vivariumlaw25.DirFlows': WHATEVER THE INPUT: true; the input reads as it did. -/
def dirFlowsSpec : ChangeSpec := { name := "dirFlows", fn := fun _ => fun
  | [d1, d2] => { results := [.lit (.bool true)], args := [d1, d2] }
  | _ => none }
def dirFlowsRow : OpenClaim := { program := "ytecdbfbaclgejaa", sum := "fd7379a1abf78c2a5dfa5206a652c42a2434c117cd1a5c8bd65728c7ace58303", func := "vivarium/vivariumlaw25.DirFlows", spec := "dirFlows", unfollowed := true, recurses := true, apart := false }
def DirFlowsSaid : Prop := dirFlowsRow.holds Try.pinned (OpenSpec.ofChange dirFlowsSpec)

/-- ITS FALSE NEIGHBOUR: 'it returns false'. Refute it at one input. -/
def dirFlowsWrong : ChangeSpec := { name := "dirFlows", fn := fun _ => fun
  | [d1, d2] => { results := [.lit (.bool false)], args := [d1, d2] }
  | _ => none }
def DirFlowsWrongFalsely : Prop := dirFlowsRow.holds Try.pinned (OpenSpec.ofChange dirFlowsWrong)

/-- 'vivariumlaw28.PolicyCounts': WHATEVER THE INPUT: true; the input reads as it did. -/
def policyCountsSpec : ChangeSpec := { name := "policyCounts", fn := fun _ => fun
  | [d] => { results := [.lit (.bool true)], args := [d] }
  | _ => none }
def policyCountsRow : OpenClaim := { program := "ytecdbfbaclgejaa", sum := "fd7379a1abf78c2a5dfa5206a652c42a2434c117cd1a5c8bd65728c7ace58303", func := "vivarium/vivariumlaw28.PolicyCounts", spec := "policyCounts", apart := false }
def PolicyCountsSaid : Prop := policyCountsRow.holds Try.pinned (OpenSpec.ofChange policyCountsSpec)

/-- ITS FALSE NEIGHBOUR: 'it returns false'. Refute it at one input. -/
def policyCountsWrong : ChangeSpec := { name := "policyCounts", fn := fun _ => fun
  | [d] => { results := [.lit (.bool false)], args := [d] }
  | _ => none }
def PolicyCountsWrongFalsely : Prop := policyCountsRow.holds Try.pinned (OpenSpec.ofChange policyCountsWrong)

/-- 'vivariumlaw20.PagePuts': WHATEVER THE INPUT: true; the input reads as it did. -/
def pagePutsSpec : ChangeSpec := { name := "pagePuts", fn := fun _ => fun
  | [d1, d2, d3, d4, d5] => { results := [.lit (.bool true)], args := [d1, d2, d3, d4, d5] }
  | _ => none }
def pagePutsRow : OpenClaim := { program := "ytecdbfbaclgejaa", sum := "fd7379a1abf78c2a5dfa5206a652c42a2434c117cd1a5c8bd65728c7ace58303", func := "vivarium/vivariumlaw20.PagePuts", spec := "pagePuts", unfollowed := true, recurses := true, apart := false }
def PagePutsSaid : Prop := pagePutsRow.holds Try.pinned (OpenSpec.ofChange pagePutsSpec)

/-- ITS FALSE NEIGHBOUR: 'it returns false'. Refute it at one input. -/
def pagePutsWrong : ChangeSpec := { name := "pagePuts", fn := fun _ => fun
  | [d1, d2, d3, d4, d5] => { results := [.lit (.bool false)], args := [d1, d2, d3, d4, d5] }
  | _ => none }
def PagePutsWrongFalsely : Prop := pagePutsRow.holds Try.pinned (OpenSpec.ofChange pagePutsWrong)

/-- 'vivariumlaw28.PolicyDues': WHATEVER THE INPUT: true; the input reads as it did. -/
def policyDuesSpec : ChangeSpec := { name := "policyDues", fn := fun _ => fun
  | [d1, d2, d3, d4] => { results := [.lit (.bool true)], args := [d1, d2, d3, d4] }
  | _ => none }
def policyDuesRow : OpenClaim := { program := "ytecdbfbaclgejaa", sum := "fd7379a1abf78c2a5dfa5206a652c42a2434c117cd1a5c8bd65728c7ace58303", func := "vivarium/vivariumlaw28.PolicyDues", spec := "policyDues", apart := false }
def PolicyDuesSaid : Prop := policyDuesRow.holds Try.pinned (OpenSpec.ofChange policyDuesSpec)

/-- ITS FALSE NEIGHBOUR: 'it returns false'. Refute it at one input. -/
def policyDuesWrong : ChangeSpec := { name := "policyDues", fn := fun _ => fun
  | [d1, d2, d3, d4] => { results := [.lit (.bool false)], args := [d1, d2, d3, d4] }
  | _ => none }
def PolicyDuesWrongFalsely : Prop := policyDuesRow.holds Try.pinned (OpenSpec.ofChange policyDuesWrong)

/-- 'vivariumlaw19.WalLoads': WHATEVER THE INPUT: true; the input reads as it did. -/
def walLoadsSpec : ChangeSpec := { name := "walLoads", fn := fun _ => fun
  | [d1, d2, d3] => { results := [.lit (.bool true)], args := [d1, d2, d3] }
  | _ => none }
def walLoadsRow : OpenClaim := { program := "ytecdbfbaclgejaa", sum := "fd7379a1abf78c2a5dfa5206a652c42a2434c117cd1a5c8bd65728c7ace58303", func := "vivarium/vivariumlaw19.WalLoads", spec := "walLoads", unfollowed := true, recurses := true, apart := false }
def WalLoadsSaid : Prop := walLoadsRow.holds Try.pinned (OpenSpec.ofChange walLoadsSpec)

/-- ITS FALSE NEIGHBOUR: 'it returns false'. Refute it at one input. -/
def walLoadsWrong : ChangeSpec := { name := "walLoads", fn := fun _ => fun
  | [d1, d2, d3] => { results := [.lit (.bool false)], args := [d1, d2, d3] }
  | _ => none }
def WalLoadsWrongFalsely : Prop := walLoadsRow.holds Try.pinned (OpenSpec.ofChange walLoadsWrong)

/-- 'vivariumlaw37.WatchEvents': WHATEVER THE INPUT: true; the input reads as it did. -/
def watchEventsSpec : ChangeSpec := { name := "watchEvents", fn := fun _ => fun
  | [d1, d2, d3, d4, d5] => { results := [.lit (.bool true)], args := [d1, d2, d3, d4, d5] }
  | _ => none }
def watchEventsRow : OpenClaim := { program := "ytecdbfbaclgejaa", sum := "fd7379a1abf78c2a5dfa5206a652c42a2434c117cd1a5c8bd65728c7ace58303", func := "vivarium/vivariumlaw37.WatchEvents", spec := "watchEvents", unfollowed := true, recurses := true, apart := false }
def WatchEventsSaid : Prop := watchEventsRow.holds Try.pinned (OpenSpec.ofChange watchEventsSpec)

/-- ITS FALSE NEIGHBOUR: 'it returns false'. Refute it at one input. -/
def watchEventsWrong : ChangeSpec := { name := "watchEvents", fn := fun _ => fun
  | [d1, d2, d3, d4, d5] => { results := [.lit (.bool false)], args := [d1, d2, d3, d4, d5] }
  | _ => none }
def WatchEventsWrongFalsely : Prop := watchEventsRow.holds Try.pinned (OpenSpec.ofChange watchEventsWrong)

/-- 'vivariumlaw04.DiskSafe': WHATEVER THE INPUT: true; the input reads as it did. -/
def diskSafeSpec : ChangeSpec := { name := "diskSafe", fn := fun _ => fun
  | [d1, d2, d3, d4] => { results := [.lit (.bool true)], args := [d1, d2, d3, d4] }
  | _ => none }
def diskSafeRow : OpenClaim := { program := "ytecdbfbaclgejaa", sum := "fd7379a1abf78c2a5dfa5206a652c42a2434c117cd1a5c8bd65728c7ace58303", func := "vivarium/vivariumlaw04.DiskSafe", spec := "diskSafe", recurses := true, apart := false }
def DiskSafeSaid : Prop := diskSafeRow.holds Try.pinned (OpenSpec.ofChange diskSafeSpec)

/-- ITS FALSE NEIGHBOUR: 'it returns false'. Refute it at one input. -/
def diskSafeWrong : ChangeSpec := { name := "diskSafe", fn := fun _ => fun
  | [d1, d2, d3, d4] => { results := [.lit (.bool false)], args := [d1, d2, d3, d4] }
  | _ => none }
def DiskSafeWrongFalsely : Prop := diskSafeRow.holds Try.pinned (OpenSpec.ofChange diskSafeWrong)

/-- 'vivariumlaw19.WalFinds': WHATEVER THE INPUT: true; the input reads as it did. -/
def walFindsSpec : ChangeSpec := { name := "walFinds", fn := fun _ => fun
  | [d1, d2, d3, d4, d5] => { results := [.lit (.bool true)], args := [d1, d2, d3, d4, d5] }
  | _ => none }
def walFindsRow : OpenClaim := { program := "ytecdbfbaclgejaa", sum := "fd7379a1abf78c2a5dfa5206a652c42a2434c117cd1a5c8bd65728c7ace58303", func := "vivarium/vivariumlaw19.WalFinds", spec := "walFinds", unfollowed := true, recurses := true, apart := false }
def WalFindsSaid : Prop := walFindsRow.holds Try.pinned (OpenSpec.ofChange walFindsSpec)

/-- ITS FALSE NEIGHBOUR: 'it returns false'. Refute it at one input. -/
def walFindsWrong : ChangeSpec := { name := "walFinds", fn := fun _ => fun
  | [d1, d2, d3, d4, d5] => { results := [.lit (.bool false)], args := [d1, d2, d3, d4, d5] }
  | _ => none }
def WalFindsWrongFalsely : Prop := walFindsRow.holds Try.pinned (OpenSpec.ofChange walFindsWrong)

/- THE SECOND FORM. 'bulk': how many values and letters a reading holds, each counted each time it is reached (what is shared counts as often as it is met; a slice's spare places count too). A statement '..UptoSaid' is the law's where the arguments, and the package variables that the reading takes, are together of bulk at most 1048576: NARROWER than '..Said'. Prove '..Said' where nothing that the law and all that it calls make is longer than what came in: it says more and counts as full. Else prove '..UptoSaid'. A law counts once. -/
mutual
def uptoBulk {H : Type} : DataW H → Nat
  | .lit (.string bytes) => bytes.length + 1
  | .lit _ => 1
  | .nil => 1
  | .ptr d => uptoBulk d + 1
  | .slice elems spare => uptoBulkAll elems + uptoBulkAll spare + 1
  | .agg parts => uptoBulkAll parts + 1
  | .iface _ d => uptoBulk d + 1
  | .map entries => uptoBulkEntries entries + 1
  | .held _ => 1
def uptoBulkAll {H : Type} : List (DataW H) → Nat
  | [] => 0
  | d :: r => uptoBulk d + uptoBulkAll r
def uptoBulkEntries {H : Type} : List (Lit × DataW H) → Nat
  | [] => 0
  | x :: r => uptoBulkEntry x + uptoBulkEntries r
def uptoBulkEntry {H : Type} : Lit × DataW H → Nat
  | (.string bytes, d) => bytes.length + uptoBulk d + 1
  | (_, d) => uptoBulk d + 1
 end
def uptoSmall : (H : Type) → List (DataW H) → Bool := fun _ ds => decide (uptoBulkAll ds ≤ 1048576)
def OpenSpec.upto (s : _root_.Go.ChangeSpec) : _root_.Go.OpenSpec := { _root_.Go.OpenSpec.ofChange s with cond := some uptoSmall }

/-- 'vivariumlaw20.PageCuts', WHERE WHAT IT READS IS OF BULK AT MOST 1048576: true; the input reads as it did. -/
def pageCutsUptoRow : OpenClaim := { program := "ytecdbfbaclgejaa", sum := "fd7379a1abf78c2a5dfa5206a652c42a2434c117cd1a5c8bd65728c7ace58303", func := "vivarium/vivariumlaw20.PageCuts", spec := "pageCuts", unfollowed := true, recurses := true, apart := false, narrowed := true }
def PageCutsUptoSaid : Prop := pageCutsUptoRow.holds Try.pinned (OpenSpec.upto pageCutsSpec)

/-- 'vivariumlaw35.ViewAsks', WHERE WHAT IT READS IS OF BULK AT MOST 1048576: true; the input reads as it did. -/
def viewAsksUptoRow : OpenClaim := { program := "ytecdbfbaclgejaa", sum := "fd7379a1abf78c2a5dfa5206a652c42a2434c117cd1a5c8bd65728c7ace58303", func := "vivarium/vivariumlaw35.ViewAsks", spec := "viewAsks", inPlace := ["internal/bytealg.Compare"], unfollowed := true, recurses := true, apart := false, narrowed := true }
def ViewAsksUptoSaid : Prop := viewAsksUptoRow.holds Try.pinned (OpenSpec.upto viewAsksSpec)

/-- 'vivariumlaw25.DirGets', WHERE WHAT IT READS IS OF BULK AT MOST 1048576: true; the input reads as it did. -/
def dirGetsUptoRow : OpenClaim := { program := "ytecdbfbaclgejaa", sum := "fd7379a1abf78c2a5dfa5206a652c42a2434c117cd1a5c8bd65728c7ace58303", func := "vivarium/vivariumlaw25.DirGets", spec := "dirGets", unfollowed := true, recurses := true, apart := false, narrowed := true }
def DirGetsUptoSaid : Prop := dirGetsUptoRow.holds Try.pinned (OpenSpec.upto dirGetsSpec)

/-- 'vivariumlaw24.PlanStays', WHERE WHAT IT READS IS OF BULK AT MOST 1048576: true; the input reads as it did. -/
def planStaysUptoRow : OpenClaim := { program := "ytecdbfbaclgejaa", sum := "fd7379a1abf78c2a5dfa5206a652c42a2434c117cd1a5c8bd65728c7ace58303", func := "vivarium/vivariumlaw24.PlanStays", spec := "planStays", unfollowed := true, recurses := true, apart := false, narrowed := true }
def PlanStaysUptoSaid : Prop := planStaysUptoRow.holds Try.pinned (OpenSpec.upto planStaysSpec)

/-- 'vivariumlaw25.DirFlows', WHERE WHAT IT READS IS OF BULK AT MOST 1048576: true; the input reads as it did. -/
def dirFlowsUptoRow : OpenClaim := { program := "ytecdbfbaclgejaa", sum := "fd7379a1abf78c2a5dfa5206a652c42a2434c117cd1a5c8bd65728c7ace58303", func := "vivarium/vivariumlaw25.DirFlows", spec := "dirFlows", unfollowed := true, recurses := true, apart := false, narrowed := true }
def DirFlowsUptoSaid : Prop := dirFlowsUptoRow.holds Try.pinned (OpenSpec.upto dirFlowsSpec)

/-- 'vivariumlaw28.PolicyCounts', WHERE WHAT IT READS IS OF BULK AT MOST 1048576: true; the input reads as it did. -/
def policyCountsUptoRow : OpenClaim := { program := "ytecdbfbaclgejaa", sum := "fd7379a1abf78c2a5dfa5206a652c42a2434c117cd1a5c8bd65728c7ace58303", func := "vivarium/vivariumlaw28.PolicyCounts", spec := "policyCounts", apart := false, narrowed := true }
def PolicyCountsUptoSaid : Prop := policyCountsUptoRow.holds Try.pinned (OpenSpec.upto policyCountsSpec)

/-- 'vivariumlaw20.PagePuts', WHERE WHAT IT READS IS OF BULK AT MOST 1048576: true; the input reads as it did. -/
def pagePutsUptoRow : OpenClaim := { program := "ytecdbfbaclgejaa", sum := "fd7379a1abf78c2a5dfa5206a652c42a2434c117cd1a5c8bd65728c7ace58303", func := "vivarium/vivariumlaw20.PagePuts", spec := "pagePuts", unfollowed := true, recurses := true, apart := false, narrowed := true }
def PagePutsUptoSaid : Prop := pagePutsUptoRow.holds Try.pinned (OpenSpec.upto pagePutsSpec)

/-- 'vivariumlaw28.PolicyDues', WHERE WHAT IT READS IS OF BULK AT MOST 1048576: true; the input reads as it did. -/
def policyDuesUptoRow : OpenClaim := { program := "ytecdbfbaclgejaa", sum := "fd7379a1abf78c2a5dfa5206a652c42a2434c117cd1a5c8bd65728c7ace58303", func := "vivarium/vivariumlaw28.PolicyDues", spec := "policyDues", apart := false, narrowed := true }
def PolicyDuesUptoSaid : Prop := policyDuesUptoRow.holds Try.pinned (OpenSpec.upto policyDuesSpec)

/-- 'vivariumlaw19.WalLoads', WHERE WHAT IT READS IS OF BULK AT MOST 1048576: true; the input reads as it did. -/
def walLoadsUptoRow : OpenClaim := { program := "ytecdbfbaclgejaa", sum := "fd7379a1abf78c2a5dfa5206a652c42a2434c117cd1a5c8bd65728c7ace58303", func := "vivarium/vivariumlaw19.WalLoads", spec := "walLoads", unfollowed := true, recurses := true, apart := false, narrowed := true }
def WalLoadsUptoSaid : Prop := walLoadsUptoRow.holds Try.pinned (OpenSpec.upto walLoadsSpec)

/-- 'vivariumlaw37.WatchEvents', WHERE WHAT IT READS IS OF BULK AT MOST 1048576: true; the input reads as it did. -/
def watchEventsUptoRow : OpenClaim := { program := "ytecdbfbaclgejaa", sum := "fd7379a1abf78c2a5dfa5206a652c42a2434c117cd1a5c8bd65728c7ace58303", func := "vivarium/vivariumlaw37.WatchEvents", spec := "watchEvents", unfollowed := true, recurses := true, apart := false, narrowed := true }
def WatchEventsUptoSaid : Prop := watchEventsUptoRow.holds Try.pinned (OpenSpec.upto watchEventsSpec)

/-- 'vivariumlaw04.DiskSafe', WHERE WHAT IT READS IS OF BULK AT MOST 1048576: true; the input reads as it did. -/
def diskSafeUptoRow : OpenClaim := { program := "ytecdbfbaclgejaa", sum := "fd7379a1abf78c2a5dfa5206a652c42a2434c117cd1a5c8bd65728c7ace58303", func := "vivarium/vivariumlaw04.DiskSafe", spec := "diskSafe", recurses := true, apart := false, narrowed := true }
def DiskSafeUptoSaid : Prop := diskSafeUptoRow.holds Try.pinned (OpenSpec.upto diskSafeSpec)

/-- 'vivariumlaw19.WalFinds', WHERE WHAT IT READS IS OF BULK AT MOST 1048576: true; the input reads as it did. -/
def walFindsUptoRow : OpenClaim := { program := "ytecdbfbaclgejaa", sum := "fd7379a1abf78c2a5dfa5206a652c42a2434c117cd1a5c8bd65728c7ace58303", func := "vivarium/vivariumlaw19.WalFinds", spec := "walFinds", unfollowed := true, recurses := true, apart := false, narrowed := true }
def WalFindsUptoSaid : Prop := walFindsUptoRow.holds Try.pinned (OpenSpec.upto walFindsSpec)

end Rows
end Go.Proofs.Ytecdbfbaclgejaa
