/- Texts on which the proofs stand: Pages. No condition is laid on any input. -/
import Derived.Test.YtghbfbohnoebiaaGreatSnG18
import Derived.Test.YtghbfbohnoebiaaGreatSnG25
namespace Go.Proofs.YtghbfbohnoebiaaGreat
open Go.RowKit

def pageBytes (epoch p : Int) (b : List UInt8) : List UInt8 := sealBytes ⟨epoch, p, 2, b⟩
set_option maxRecDepth 100000 in
set_option maxHeartbeats 1000000 in
/-- page.Put -/
theorem pagePut_calls {Q : Nat → Prop} {w : World} {v : Value} {epoch p : Int} {b : List UInt8} (h0 : (Lit.int .i64 epoch).wf = true) (h1 : (Lit.int .i64 p).wf = true) (hx : Rep.byte.list.val Q w v b) :
    Calls Tryz.prog 203 #[.int .i64 epoch, .int .i64 p, v] w (Res Rep.byte.list (fun k => w.heap.size ≤ k) w (pageBytes epoch p b)) := by
  obtain ⟨A, c, rfl, hs⟩ := Rep.val_sl hx
  have HV := Lib.hid (rSeal_agg (x := ⟨epoch, p, 2, b⟩) h0 h1 rfl hs)
  clear hx hs
  go_enter Tryz.func203, Tryz.ntmps203
  go_wp2_with fail
  refine (sealPut_calls HV.out).mono ?_
  rintro e w1 ⟨u, rfl, hu, hb⟩
  go_wp2_with fail
  go_ret
  exact ⟨_, rfl, hu, hb⟩

end Go.Proofs.YtghbfbohnoebiaaGreat
