/- Texts on which the proofs stand: DirGet. No condition is laid on any input. -/
import Derived.Test.YtghbfbohnoebiaaGreatSnG20
import Derived.Deep.RegionLaw
namespace Go.Proofs.YtghbfbohnoebiaaGreat
open Go.RowKit

theorem RdrAt.grown {w w' : World} {p : Nat} {A : Option Addr} {c : Nat} {b : List UInt8} {at_ : Nat} {bad : Bool} {row : Option Nat} (h : RdrAt w p A c b at_ bad) (hg : w.grownBy w' row) (hr : ∀ x, row = some x → p < x) : RdrAt w' p A c b at_ bad :=
  ⟨(hg.block p h.lt (fun e => by have := hr p e.symm; omega)).trans h.blk, h.sl.keep fun x hx hl => ⟨hx, hg.block x hl.lt (fun e => by have := hr x e.symm; omega)⟩, h.le⟩

/-- In the midst of a round: since the world w0 only the reader's block and new ones have changed; the entry lies in block bx. -/
structure Mid (w0 : World) (p bx : Nat) (A : Option Addr) (c : Nat) (b : List UInt8) (w : World) (at_ : Nat) (bad : Bool) (cs : Array Value) : Prop where
  g : w0.grownBy w (some p)
  x : w.heap[bx]? = some (.cells cs 160 (0, 0))
  r : RdrAt w p A c b at_ bad
theorem Mid.num {w0 : World} {p bx : Nat} {A : Option Addr} {c : Nat} {b : List UInt8} {w : World} {at_ : Nat} {bad : Bool} {cs : Array Value} (h : Mid w0 p bx A c b w at_ bad cs) (hne : bx ≠ p) {r : Int × Nat × Bool} {w' : World}
    (h1 : RdrAt w' p A c b r.2.1 r.2.2) (h2 : w.grownBy w' (some p)) : Mid w0 p bx A c b w' r.2.1 r.2.2 cs :=
  ⟨h.g.trans h2, (h2.block bx (IsC.lt ⟨_, _, _, h.x⟩) (fun e => hne (Option.some.inj e))).trans h.x, h1⟩
theorem Mid.put {w0 : World} {p bx : Nat} {A : Option Addr} {c : Nat} {b : List UInt8} {w : World} {at_ : Nat} {bad : Bool} {cs : Array Value} (h : Mid w0 p bx A c b w at_ bad cs) (hne : bx ≠ p) (hbx : w0.heap.size ≤ bx) (hs : Rep.byte.Sl (fun x => x < p) w0 A c b) (i : Nat) (v : Value) : Mid w0 p bx A c b (w.setCell ⟨bx, i, none⟩ v) at_ bad (cs.setIfInBounds i v) :=
  ⟨⟨h.g.os, h.g.tape, h.g.output, by simpa using h.g.size, fun k hk hr => (Below.heap_setCell _ _ _ _ (show k ≠ bx by omega)).trans (h.g.block k hk hr)⟩, heap_setRow h.x,
   ⟨(Below.heap_setCell _ _ _ _ (show p ≠ bx from fun e => hne e.symm)).trans h.r.blk, hs.keep fun x hx hl => ⟨hx, (Below.heap_setCell _ _ _ _ (show x ≠ bx by have := hl.lt; omega)).trans (h.g.block x hl.lt (fun e => Nat.ne_of_lt hx (Option.some.inj e)))⟩, h.r.le⟩⟩
/-- An entry's parts, as0 so far read. -/
theorem Mid.grown {w0 : World} {p bx : Nat} {A : Option Addr} {c : Nat} {b : List UInt8} {w w' : World} {at_ : Nat} {bad : Bool} {cs : Array Value} {row : Option Nat} (h : Mid w0 p bx A c b w at_ bad cs) (hg : w.grownBy w' row) (hr : ∀ k, row = some k → bx < k) (hp : p < bx) (hbx : w0.heap.size ≤ bx) (hs : Rep.byte.Sl (fun x => x < p) w0 A c b) : Mid w0 p bx A c b w' at_ bad cs := by
  have hk : ∀ k, k ≤ bx → k < w.heap.size → w'.heap[k]? = w.heap[k]? := fun k h1 h2 => hg.block k h2 (fun e => by have := hr k e.symm; omega)
  have hxl : bx < w.heap.size := IsC.lt ⟨_, _, _, h.x⟩
  refine ⟨⟨hg.os.trans h.g.os, hg.tape.trans h.g.tape, hg.output.trans h.g.output, Nat.le_trans h.g.size hg.size, fun k hl hne => (hk k (by omega) (by have := h.g.size; omega)).trans (h.g.block k hl hne)⟩, (hk bx (Nat.le_refl _) hxl).trans h.x, ⟨(hk p (by omega) (by omega)).trans h.r.blk, hs.keep fun x hx hl => ⟨hx, (hk x (by have := hl.lt; omega) (by have := hl.lt; omega)).trans (h.g.block x hl.lt (fun e => Nat.ne_of_lt hx (Option.some.inj e)))⟩, h.r.le⟩⟩

end Go.Proofs.YtghbfbohnoebiaaGreat
