/-
  No cell of these rows narrows 'for every input' (looked for: loops, veiled, ifaces, maps, wideKeys, modest, calm, conditions, laid).
  DERIVED. THE GIVEN ROWS OF THIS SEAT. 4 by the template 'for every input the law returns true; each argument reads behind the call as it read before'; 0 by the template 'total and deterministic' (their statements: YtghbfbohnoebiaaGreatTotals.lean).
  GIVEN WITH THE SEED: the statements are not yours to turn. If you find one false, say at which input.
  Laid BY PROGRAM, IN A SANDBOX (cutbox-rows.mjs): the forced cells as the released guide's own fill.sh prints them over the translation ea90535a3a41d25d… (all of the seat's roots in one cut). By AI agents, Wed Nov 11 2026. No macro, syntax, notation, axiom, sorry.
-/
import Derived.Test.YtghbfbohnoebiaaGreatChecked
import GoSem.Claim
import GoSem.ClaimJoined
import GoSem.ClaimMapViews
import Derived.JoinedTies
import Derived.KernelRfl
namespace Go.Proofs.YtghbfbohnoebiaaGreat
/- THE CELL 'sum', in the pinned program and in every row, IS THE sha256 OF THE DUMP (.gsa) THAT YtghbfbohnoebiaaGreatProg.lean LOADS. Nothing in Lean hashes anything: it is a label: what it is worth is what the hold of that sum in a sandbox is worth. -/
noncomputable def Tryz.pinned : Pinned := { name := "ytghbfbohnoebiaagreat", sum := "ea90535a3a41d25d42f78cae8c09a7490ebe294c60d56f051bf6e9bd66ff3267", checked := Tryz.checked }
namespace Rows
def none {H : Type} : Left H := { results := [], args := [] }

/-- 'vivariumlaw27.StoreRooms': WHATEVER THE INPUT: true; the input reads as it did. -/
def storeRoomsSpec : ChangeSpec := { name := "storeRooms", fn := fun _ => fun
  | [d1, d2, d3] => { results := [.lit (.bool true)], args := [d1, d2, d3] }
  | _ => none }
def storeRoomsRow : OpenClaim := { program := "ytghbfbohnoebiaagreat", sum := "ea90535a3a41d25d42f78cae8c09a7490ebe294c60d56f051bf6e9bd66ff3267", func := "vivarium/vivariumlaw27.StoreRooms", spec := "storeRooms", unfollowed := true, recurses := true, apart := false }
def StoreRoomsSaid : Prop := storeRoomsRow.holds Tryz.pinned (OpenSpec.ofChange storeRoomsSpec)

/-- ITS FALSE NEIGHBOUR: 'it returns false'. Refute it at one input. -/
def storeRoomsWrong : ChangeSpec := { name := "storeRooms", fn := fun _ => fun
  | [d1, d2, d3] => { results := [.lit (.bool false)], args := [d1, d2, d3] }
  | _ => none }
def StoreRoomsWrongFalsely : Prop := storeRoomsRow.holds Tryz.pinned (OpenSpec.ofChange storeRoomsWrong)

/-- 'vivariumlaw27.StoreNils': WHATEVER THE INPUT: true; the input reads as it did. -/
def storeNilsSpec : ChangeSpec := { name := "storeNils", fn := fun _ => fun
  | [d] => { results := [.lit (.bool true)], args := [d] }
  | _ => none }
def storeNilsRow : OpenClaim := { program := "ytghbfbohnoebiaagreat", sum := "ea90535a3a41d25d42f78cae8c09a7490ebe294c60d56f051bf6e9bd66ff3267", func := "vivarium/vivariumlaw27.StoreNils", spec := "storeNils", unfollowed := true, recurses := true, apart := false }
def StoreNilsSaid : Prop := storeNilsRow.holds Tryz.pinned (OpenSpec.ofChange storeNilsSpec)

/-- ITS FALSE NEIGHBOUR: 'it returns false'. Refute it at one input. -/
def storeNilsWrong : ChangeSpec := { name := "storeNils", fn := fun _ => fun
  | [d] => { results := [.lit (.bool false)], args := [d] }
  | _ => none }
def StoreNilsWrongFalsely : Prop := storeNilsRow.holds Tryz.pinned (OpenSpec.ofChange storeNilsWrong)

/-- 'vivariumlaw27.StoreCrashes': WHATEVER THE INPUT: true; the input reads as it did. -/
def storeCrashesSpec : ChangeSpec := { name := "storeCrashes", fn := fun _ => fun
  | [d1, d2, d3, d4, d5, d6] => { results := [.lit (.bool true)], args := [d1, d2, d3, d4, d5, d6] }
  | _ => none }
def storeCrashesRow : OpenClaim := { program := "ytghbfbohnoebiaagreat", sum := "ea90535a3a41d25d42f78cae8c09a7490ebe294c60d56f051bf6e9bd66ff3267", func := "vivarium/vivariumlaw27.StoreCrashes", spec := "storeCrashes", unfollowed := true, recurses := true, apart := false }
def StoreCrashesSaid : Prop := storeCrashesRow.holds Tryz.pinned (OpenSpec.ofChange storeCrashesSpec)

/-- ITS FALSE NEIGHBOUR: 'it returns false'. Refute it at one input. -/
def storeCrashesWrong : ChangeSpec := { name := "storeCrashes", fn := fun _ => fun
  | [d1, d2, d3, d4, d5, d6] => { results := [.lit (.bool false)], args := [d1, d2, d3, d4, d5, d6] }
  | _ => none }
def StoreCrashesWrongFalsely : Prop := storeCrashesRow.holds Tryz.pinned (OpenSpec.ofChange storeCrashesWrong)

/-- 'vivariumlaw27.StoreSteps': WHATEVER THE INPUT: true; the input reads as it did. -/
def storeStepsSpec : ChangeSpec := { name := "storeSteps", fn := fun _ => fun
  | [d1, d2, d3, d4] => { results := [.lit (.bool true)], args := [d1, d2, d3, d4] }
  | _ => none }
def storeStepsRow : OpenClaim := { program := "ytghbfbohnoebiaagreat", sum := "ea90535a3a41d25d42f78cae8c09a7490ebe294c60d56f051bf6e9bd66ff3267", func := "vivarium/vivariumlaw27.StoreSteps", spec := "storeSteps", unfollowed := true, recurses := true, apart := false }
def StoreStepsSaid : Prop := storeStepsRow.holds Tryz.pinned (OpenSpec.ofChange storeStepsSpec)

/-- ITS FALSE NEIGHBOUR: 'it returns false'. Refute it at one input. -/
def storeStepsWrong : ChangeSpec := { name := "storeSteps", fn := fun _ => fun
  | [d1, d2, d3, d4] => { results := [.lit (.bool false)], args := [d1, d2, d3, d4] }
  | _ => none }
def StoreStepsWrongFalsely : Prop := storeStepsRow.holds Tryz.pinned (OpenSpec.ofChange storeStepsWrong)

/- THE SECOND FORM. 'bulk': how many values and letters a reading holds, each counted each time it is reached (what is shared counts as often as it is met; a slice's spare places count too). A statement '..UptoSaid' is the law's where the arguments, and the package variables that the reading takes, are together of bulk at most 1048576: NARROWER than '..Said'. Prove '..Said' where nothing that the law and all that it calls make is longer than what came in: it says more and counts as full. Else prove '..UptoSaid'. A law counts once. -/
mutual
def uptoBulk {H : Type} : DataW H → Nat
  | .lit (.string bytes) => bytes.length + 1
  | .lit _ => 1
  | .nil => 1
  | .ptr d => uptoBulk d + 1
  | .slice elems spare => uptoBulkAll elems + uptoBulkAll spare + 1
  | .agg parts => uptoBulkAll parts + 1
  | .iface _ d => uptoBulk d + 1
  | .map entries => uptoBulkEntries entries + 1
  | .held _ => 1
def uptoBulkAll {H : Type} : List (DataW H) → Nat
  | [] => 0
  | d :: r => uptoBulk d + uptoBulkAll r
def uptoBulkEntries {H : Type} : List (Lit × DataW H) → Nat
  | [] => 0
  | x :: r => uptoBulkEntry x + uptoBulkEntries r
def uptoBulkEntry {H : Type} : Lit × DataW H → Nat
  | (.string bytes, d) => bytes.length + uptoBulk d + 1
  | (_, d) => uptoBulk d + 1
 end
def uptoSmall : (H : Type) → List (DataW H) → Bool := fun _ ds => decide (uptoBulkAll ds ≤ 1048576)
def OpenSpec.upto (s : _root_.Go.ChangeSpec) : _root_.Go.OpenSpec := { _root_.Go.OpenSpec.ofChange s with cond := some uptoSmall }

/-- 'vivariumlaw27.StoreRooms', WHERE WHAT IT READS IS OF BULK AT MOST 1048576: true; the input reads as it did. -/
def storeRoomsUptoRow : OpenClaim := { program := "ytghbfbohnoebiaagreat", sum := "ea90535a3a41d25d42f78cae8c09a7490ebe294c60d56f051bf6e9bd66ff3267", func := "vivarium/vivariumlaw27.StoreRooms", spec := "storeRooms", unfollowed := true, recurses := true, apart := false, narrowed := true }
def StoreRoomsUptoSaid : Prop := storeRoomsUptoRow.holds Tryz.pinned (OpenSpec.upto storeRoomsSpec)

/-- 'vivariumlaw27.StoreNils', WHERE WHAT IT READS IS OF BULK AT MOST 1048576: true; the input reads as it did. -/
def storeNilsUptoRow : OpenClaim := { program := "ytghbfbohnoebiaagreat", sum := "ea90535a3a41d25d42f78cae8c09a7490ebe294c60d56f051bf6e9bd66ff3267", func := "vivarium/vivariumlaw27.StoreNils", spec := "storeNils", unfollowed := true, recurses := true, apart := false, narrowed := true }
def StoreNilsUptoSaid : Prop := storeNilsUptoRow.holds Tryz.pinned (OpenSpec.upto storeNilsSpec)

/-- 'vivariumlaw27.StoreCrashes', WHERE WHAT IT READS IS OF BULK AT MOST 1048576: true; the input reads as it did. -/
def storeCrashesUptoRow : OpenClaim := { program := "ytghbfbohnoebiaagreat", sum := "ea90535a3a41d25d42f78cae8c09a7490ebe294c60d56f051bf6e9bd66ff3267", func := "vivarium/vivariumlaw27.StoreCrashes", spec := "storeCrashes", unfollowed := true, recurses := true, apart := false, narrowed := true }
def StoreCrashesUptoSaid : Prop := storeCrashesUptoRow.holds Tryz.pinned (OpenSpec.upto storeCrashesSpec)

/-- 'vivariumlaw27.StoreSteps', WHERE WHAT IT READS IS OF BULK AT MOST 1048576: true; the input reads as it did. -/
def storeStepsUptoRow : OpenClaim := { program := "ytghbfbohnoebiaagreat", sum := "ea90535a3a41d25d42f78cae8c09a7490ebe294c60d56f051bf6e9bd66ff3267", func := "vivarium/vivariumlaw27.StoreSteps", spec := "storeSteps", unfollowed := true, recurses := true, apart := false, narrowed := true }
def StoreStepsUptoSaid : Prop := storeStepsUptoRow.holds Tryz.pinned (OpenSpec.upto storeStepsSpec)

end Rows
end Go.Proofs.YtghbfbohnoebiaaGreat
