/- Texts on which the proofs stand: Live25. No condition is laid on any input. -/
import Derived.Test.YtghbfbohnoebiaaGreatSnG21
import Derived.Laws.StructEq
namespace Go.Proofs.YtghbfbohnoebiaaGreat
open Go.RowKit

/-- A slice literal of values that have cells of their own. -/
theorem lit_list {α : Type} {r : Rep α} {e : Nat} {w : World} {cs : List Value} {xs : List α} {n : Nat} (hn : n = xs.length) (hm : n ≤ maxLen) {Q : Nat → Prop} (hb : Q w.heap.size) (hr : r.row Q (w.alloc (.cells cs.toArray e)) cs xs) :
    r.list.val Q (w.alloc (.cells cs.toArray e)) (.slice (some ⟨w.heap.size, 0, none⟩) n n) xs :=
  Rep.list_val hn (Nat.le_refl _) hm ⟨cs, hr, fun _ => ⟨w.heap.size, 0, rfl, hb, ⟨_, _, _, heap_alloc_new w _⟩, fun j u hj => by
    rw [cell_of_row _ _ _ _ _ _ (heap_alloc_new w _), Nat.zero_add, ← hj]; simp⟩⟩
end Go.Proofs.YtghbfbohnoebiaaGreat
