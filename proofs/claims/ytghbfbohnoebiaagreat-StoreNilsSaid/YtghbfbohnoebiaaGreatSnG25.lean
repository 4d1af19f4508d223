/- Texts on which the proofs stand: SealGet. No condition is laid on any input. -/
import Derived.Test.YtghbfbohnoebiaaGreatSnG19
import Derived.Test.YtghbfbohnoebiaaGreatSnG21
import Derived.Deep.RegionHeld
import Derived.Laws.Cover3
namespace Go.Proofs.YtghbfbohnoebiaaGreat
open Go.RowKit
open Extern.Stop (cell)

/-- What stands while a sector is read: the reader p, the seal's box X, the result's R. -/
structure GetAt (w W : World) (R p X : Nat) (A : Option Addr) (c : Nat) (b : List UInt8) (a : Nat) (cs : Array Value) : Prop where
  bel : Below w.heap.size w W
  rdr : RdrAt W p A c b a false
  xb : W.heap[X]? = some (.cells cs 194 (0, 0))
  rb : W.heap[R]? = some (.cells #[.int .i64 0, .int .i64 0, .int .i64 0, .slice none 0 0] 194 (0, 0))
  ok : w.heap.size ≤ R ∧ R < p ∧ p < X
theorem GetAt.num {w W W' : World} {R p X : Nat} {A : Option Addr} {c : Nat} {b : List UInt8} {a a' : Nat} {cs : Array Value} (h : GetAt w W R p X A c b a cs) (r : RdrAt W' p A c b a' false) (g : W.grownBy W' (some p)) : GetAt w W' R p X A c b a' cs :=
  ⟨h.bel.grown g h.bel.size (fun k hk => by have := Option.some.inj hk; have := h.ok; omega), r,
   (g.block X (IsC.lt ⟨_, _, _, h.xb⟩) (fun e => by have := Option.some.inj e; have := h.ok; omega)).trans h.xb,
   (g.block R (IsC.lt ⟨_, _, _, h.rb⟩) (fun e => by have := Option.some.inj e; have := h.ok; omega)).trans h.rb, h.ok⟩
theorem GetAt.put {w W : World} {R p X : Nat} {A : Option Addr} {c : Nat} {b : List UInt8} {a : Nat} {cs : Array Value} (h : GetAt w W R p X A c b a cs) (i : Nat) (v : Value) : GetAt w (W.setCell ⟨X, i, none⟩ v) R p X A c b a (cs.setIfInBounds i v) := by
  have ok := h.ok
  refine ⟨⟨h.bel.os, h.bel.tape, h.bel.output, by simpa using h.bel.size, fun k hk => (Below.heap_setCell _ _ _ _ (show k ≠ X by omega)).trans (h.bel.block k hk)⟩,
    ⟨(Below.heap_setCell _ _ _ _ (show p ≠ X by omega)).trans h.rdr.blk, h.rdr.sl.keep fun x hx _ => ⟨hx, Below.heap_setCell _ _ _ _ (show x ≠ X by have : x < p := hx; omega)⟩, h.rdr.le⟩,
    heap_setRow h.xb, (Below.heap_setCell _ _ _ _ (show R ≠ X by omega)).trans h.rb, ok⟩
theorem below_set {B k : Nat} {w W : World} (h : Below B w W) (hk : B ≤ k) {i : Nat} {v : Value} : Below B w (W.setCell ⟨k, i, none⟩ v) :=
  ⟨h.os, h.tape, h.output, by simpa using h.size, fun x hx => (Below.heap_setCell _ _ _ _ (show x ≠ k by omega)).trans (h.block x hx)⟩
end Go.Proofs.YtghbfbohnoebiaaGreat
