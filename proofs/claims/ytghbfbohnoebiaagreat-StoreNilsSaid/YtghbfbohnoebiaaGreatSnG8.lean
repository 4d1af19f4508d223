/- Texts on which the proofs stand: Text. No condition is laid on any input. -/
import Derived.Test.YtghbfbohnoebiaaGreatSnG5
import Derived.Lib.AppendStr
import Derived.Lib.ConvBytes
import Derived.Laws.IdiomStrings
namespace Go.Proofs.YtghbfbohnoebiaaGreat
open Go.RowKit

theorem wf_i64 {n : Int} (h1 : -9223372036854775808 ≤ n) (h2 : n ≤ 9223372036854775807) : (Lit.int .i64 n).wf = true := by
  simp [Lit.wf, IntKind.min, IntKind.max, IntKind.signed, IntKind.bits]; omega
end Go.Proofs.YtghbfbohnoebiaaGreat
