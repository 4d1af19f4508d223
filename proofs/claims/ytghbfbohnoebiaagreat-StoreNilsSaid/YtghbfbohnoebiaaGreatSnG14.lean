/- Texts on which the proofs stand: FrameBytes. No condition is laid on any input. -/
import Derived.Test.YtghbfbohnoebiaaGreatSnG6
import Derived.Test.YtghbfbohnoebiaaGreatSnG11
namespace Go.Proofs.YtghbfbohnoebiaaGreat
open Go.RowKit

theorem crc_i64 (l : List UInt8) : IntKind.i64.wrap ((crcOf l : Nat) : Int) = (crcOf l : Nat) := by
  have := crcOf_lt l
  exact IntWalk.i64_in _ ⟨by omega, by omega⟩

end Go.Proofs.YtghbfbohnoebiaaGreat
