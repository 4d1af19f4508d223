/- Walk of the reference's directory out of bytes. -/
import Derived.Test.YtfpmkenobphfnaaWeG6
import Derived.Test.YtfpmkenobphfnaaWeG7
namespace Go.Proofs.Ytfpmkenobphfnaa
open Go.RowKit

/-- A call that returns a value that reads as0 x, and a number. -/
def ResN {α : Type} (r : Rep α) (Q : Nat → Prop) (w : World) (x : α) (n : Int) (e : Ending) (w' : World) : Prop := ∃ u, e = .returned (.tuple #[u, .int .i64 n]) ∧ r.val Q w' u x ∧ Below w.heap.size w w'

theorem u64_i64of (n : Nat) (h : n < 18446744073709551616) : IntKind.u64.wrap (i64of n) = n := by rw [wrap_u64, i64of_emod n h]
theorem natAt8_lt (b : List UInt8) (at_ : Nat) : natAt b at_ 8 < 18446744073709551616 := natAt_lt b at_ 8
theorem natAt_wf (b : List UInt8) (at_ w : Nat) (h : w ≤ 7) : (Lit.int .i64 (natAt b at_ w : Int)).wf = true := by rw [← i64of_natAt b at_ w h]; exact i64of_wf _
theorem u64_wf (n : Nat) (h : n < 18446744073709551616) : (Lit.int .u64 (n : Int)).wf = true := by
  simp [Lit.wf, IntKind.min, IntKind.max, IntKind.signed, IntKind.bits]; omega
theorem entAt_wf (b : List UInt8) (at_ : Nat) : (Lit.int .i64 (entAt b at_).key.kind).wf = true ∧ (Lit.int .u64 (entAt b at_).key.sig).wf = true ∧ (Lit.int .i64 (entAt b at_).key.comp).wf = true ∧ (Lit.int .i64 (entAt b at_).long).wf = true :=
  ⟨natAt_wf _ _ _ (by decide), u64_wf _ (natAt8_lt _ _), natAt_wf _ _ _ (by decide), natAt_wf _ _ _ (by decide)⟩

theorem cell_row {w : World} {b e : Nat} {cs : Array Value} {f : Nat × Nat} (h : w.heap[b]? = some (.cells cs e f)) (i : Nat) : w.cell? ⟨b, i, none⟩ = cs[i]? := by simp [World.cell?, h]
theorem frozen_row {w : World} {b e : Nat} {cs : Array Value} (h : w.heap[b]? = some (.cells cs e (0, 0))) (i : Nat) : w.frozen? ⟨b, i, none⟩ = false := by simp [World.frozen?, h]
theorem dirGet_short {b : List UInt8} (h : b.length < 2) : dirGet b = ([], 12) := by rw [dirGet, if_pos h]
theorem dirGet_none {b : List UInt8} (h : ¬ b.length < 2) (hp : parseDir b (natAt b 0 2) = none) : dirGet b = ([], 12) := by rw [dirGet, if_neg h, hp]
theorem dirGet_form {b : List UInt8} {l : List DEntry} {e : Nat} (h : ¬ b.length < 2) (hp : parseDir b (natAt b 0 2) = some (l, e)) (he : e ≠ b.length) : dirGet b = ([], 11) := by
  rw [dirGet, if_neg h, hp]; simp only [if_neg he]
theorem dirGet_ok {b : List UInt8} {l : List DEntry} {e : Nat} (h : ¬ b.length < 2) (hp : parseDir b (natAt b 0 2) = some (l, e)) (he : e = b.length) : dirGet b = (l, 0) := by
  rw [dirGet, if_neg h, hp]; simp only [if_pos he]
theorem parse_fail {b : List UInt8} {i N at_ : Nat} {l : List DEntry} (hi : i < N) (h : parseDir b i = some (l, at_)) (h2 : parseEnt b at_ = none) : parseDir b N = none := by
  refine parseDir_none (n := i + 1) ?_ N hi
  rw [parseDir, h]; simp only [h2]
theorem parse_step {b : List UInt8} {i at_ : Nat} {l : List DEntry} (h : parseDir b i = some (l, at_)) (h1 : at_ + 16 ≤ b.length) (h2 : at_ + 16 + 2 * countAt b at_ ≤ b.length) : parseDir b (i + 1) = some (l ++ [entAt b at_], at_ + 16 + 2 * countAt b at_) := by
  rw [parseDir, h]; simp only [parseEnt, if_pos (And.intro h1 h2)]
theorem parseEnt_none {b : List UInt8} {at_ : Nat} (h : ¬ (at_ + 16 ≤ b.length ∧ at_ + 16 + 2 * countAt b at_ ≤ b.length)) : parseEnt b at_ = none := by rw [parseEnt, if_neg h]

end Go.Proofs.Ytfpmkenobphfnaa
