/- Texts on which the proofs stand, part 8: RGo. No condition is laid on any input. -/
import Derived.Test.YtcfgckpjgihcgaaDskARGoS
import Derived.Test.YtcfgckpjgihcgaaDskARGoW
import Derived.Test.YtcfgckpjgihcgaaDskARGoR
/- One step of the reference's device. -/
namespace Go.Proofs.Ytcfgckpjgihcgaa
open Go.RowKit

/-- ref04.Go -/
theorem rgo_calls {Q Q' : Nat → Prop} {w : World} {v u : Value} {d : DDisk} {x : DStep} (hx : rDisk.val Q w v d) (hy : rStep.val Q' w u x) (hq : ∀ b, Q b → b < w.heap.size) (hq' : ∀ b, Q' b → b < w.heap.size) (hn : d.wait.length ≤ 100000000) (hs : d.safe.length ≤ 100000000) (hk : ∀ y ∈ d.wait, 0 ≤ y.pos ∧ y.pos < d.safe.length) :
    Calls Try.prog 70 #[v, u] w (GoPost Q w (goW d x)) := by
  by_cases h3 : x.act = 3
  · exact rgo_fuse hx hy hq hq' hn hs hk h3
  by_cases h4 : x.act = 4
  · exact rgo_crash hx hy hq hq' hn hs hk h3 h4
  by_cases h2 : x.act = 2
  · exact rgo_sync hx hy hq hq' hn hs hk h3 h4 h2
  by_cases hr : x.pos < 0 ∨ (d.safe.length : Int) ≤ x.pos
  · exact rgo_range hx hy hq hq' hn hs hk h3 h4 h2 hr
  by_cases h1 : x.act = 1
  · exact rgo_write hx hy hq hq' hn hs hk h3 h4 h2 hr h1
  · exact rgo_read hx hy hq hq' hn hs hk h3 h4 h2 hr h1
end Go.Proofs.Ytcfgckpjgihcgaa
