/- Texts on which the proofs stand: IDs. No condition is laid on any input. -/
import Derived.Test.YtghbfbohnoebiaaGreatSnG8
import Derived.Laws.StructEq
import Derived.Laws.Externs
import Derived.Lib.Bytealg
namespace Go.Proofs.YtghbfbohnoebiaaGreat
open Go.RowKit

/-- bytes.Equal -/
theorem bytesEqual {Q Q' : Nat → Prop} {w : World} {v u : Value} {xs ys : List UInt8} (hx : Rep.byte.list.val Q w v xs) (hy : Rep.byte.list.val Q' w u ys) :
    Calls Tryz.prog 227 #[v, u] w fun e w' => e = .returned (.bool (decide (xs = ys))) ∧ w' = w := by
  obtain ⟨A, c, rfl, hc1, hc2, hA⟩ := Rep.val_list hx
  obtain ⟨B, d, rfl, hd1, hd2, hB⟩ := Rep.val_list hy
  have h1 := hA.toText (P := Tryz.prog) Tryz.underlying71 Tryz.underlying5 Tryz.underlying9 c
  have h2 := hB.toText (P := Tryz.prog) Tryz.underlying71 Tryz.underlying5 Tryz.underlying9 d
  clear hx hy hA hB hc1 hc2 hd1 hd2
  go_enter Tryz.func227, Tryz.ntmps227
  go_wp2_with fail
  go_ret
  exact ⟨by simp [Bool.beq_eq_decide_eq], rfl⟩

end Go.Proofs.YtghbfbohnoebiaaGreat
