/- The boxes of a step of the reference's device. -/
import Derived.Test.YtfpmkenobphfnaaPstCutTo
import Derived.Test.YtfpmkenobphfnaaPstG19
import Derived.Test.YtfpmkenobphfnaaPstRCrash
namespace Go.Proofs.Ytfpmkenobphfnaa
open Go.RowKit

theorem row6_set {W : World} {n t : Nat} {a0 a1 a2 a3 a4 a5 x0 x1 x2 x3 x4 x5 : Value} (h : W.heap[n]? = some (.cells #[a0, a1, a2, a3, a4, a5] t (0, 0))) :
    ((((((W.setCell ⟨n, 0, none⟩ x0).setCell ⟨n, 1, none⟩ x1).setCell ⟨n, 2, none⟩ x2).setCell ⟨n, 3, none⟩ x3).setCell ⟨n, 4, none⟩ x4).setCell ⟨n, 5, none⟩ x5).heap[n]? = some (.cells #[x0, x1, x2, x3, x4, x5] t (0, 0)) :=
  heap_setRow (i := 5) (v := x5) (heap_setRow (i := 4) (v := x4) (heap_setRow (i := 3) (v := x3) (heap_setRow (i := 2) (v := x2) (heap_setRow (i := 1) (v := x1) (heap_setRow (i := 0) (v := x0) h)))))
/-- A world that differs in one block. -/
structure But (n : Nat) (W W' : World) : Prop where
  os : W'.os = W.os
  tape : W'.tape = W.tape
  output : W'.output = W.output
  size : W'.heap.size = W.heap.size
  block : ∀ b, b ≠ n → W'.heap[b]? = W.heap[b]?
theorem But.refl (n : Nat) (W : World) : But n W W := ⟨rfl, rfl, rfl, rfl, fun _ _ => rfl⟩
theorem But.set {n : Nat} {W W' : World} (h : But n W W') (i : Nat) (v : Value) : But n W (W'.setCell ⟨n, i, none⟩ v) :=
  ⟨h.os, h.tape, h.output, by simp [h.size], fun b hb => (Below.heap_setCell _ _ _ _ hb).trans (h.block b hb)⟩
theorem But.below {B n : Nat} {w W W' : World} (h : But n W W') (hb : Below B w W) (hn : B ≤ n) : Below B w W' :=
  ⟨h.os.trans hb.os, h.tape.trans hb.tape, h.output.trans hb.output, by rw [h.size]; exact hb.size, fun b hl => (h.block b (by omega)).trans (hb.block b hl)⟩

/-- What lay lies as0 it lay, but for one block. -/
def Alike (n : Nat) (W W' : World) : Prop := ∀ b, b < W.heap.size → b ≠ n → W'.heap[b]? = W.heap[b]?
theorem Alike.of {n : Nat} {W W' : World} (h : Below W.heap.size W W') : Alike n W W' := fun b hb _ => h.block b hb
theorem Alike.set {n : Nat} {W W' : World} (h : Alike n W W') (i : Nat) (v : Value) : Alike n W (W'.setCell ⟨n, i, none⟩ v) := fun b hb hn => (Below.heap_setCell _ _ _ _ hn).trans (h b hb hn)
theorem Alike.cell {n : Nat} {W W' : World} (h : Alike n W W') {b i : Nat} {v : Value} (hv : W.cell? ⟨b, i, none⟩ = some v) (hb : b < W.heap.size) (hn : b ≠ n) : W'.cell? ⟨b, i, none⟩ = some v := (World.cell?_of_block (h b hb hn)).trans hv
def dcells (d : DDisk) (A0 : Option Addr) (c0 : Nat) (A1 : Option Addr) (c1 : Nat) : Array Value := #[.slice A0 d.safe.length c0, .slice A1 d.wait.length c1, .int .i64 d.fuse, .bool d.off, .int .i64 d.reads, .int .i64 d.writes]
def scells (x : DStep) (A2 : Option Addr) (c2 : Nat) (A3 : Option Addr) (c3 : Nat) : Array Value := #[.int .i64 x.act, .int .i64 x.pos, .slice A2 x.b.length c2, .slice A3 x.fates.length c3]
def zcells : Array Value := #[.slice none 0 0, .slice none 0 0, .int .i64 0, .bool false, .int .i64 0, .int .i64 0]
/-- The three boxes of a step: the disk's, the step's, the result's. -/
structure GoBox (Q Q' : Nat → Prop) (w W : World) (d : DDisk) (x : DStep) (A0 : Option Addr) (c0 : Nat) (A1 : Option Addr) (c1 : Nat) (A2 : Option Addr) (c2 : Nat) (A3 : Option Addr) (c3 : Nat) : Prop where
  dblk : W.heap[w.heap.size]? = some (.cells (dcells d A0 c0 A1 c1) 33 (0, 0))
  sblk : W.heap[w.heap.size + 1]? = some (.cells (scells x A2 c2 A3 c3) 41 (0, 0))
  rblk : W.heap[w.heap.size + 1 + 1]? = some (.cells zcells 33 (0, 0))
  bel : Below w.heap.size w W
  big : w.heap.size + 3 ≤ W.heap.size
  safe : Rep.byte.list.Sl (fun b => Q b ∨ w.heap.size + 3 ≤ b) W A0 c0 d.safe
  wait : rWrite.Sl (fun b => Q b ∨ w.heap.size + 3 ≤ b) W A1 c1 d.wait
  fuse : (Lit.int .i64 d.fuse).wf = true
  reads : (Lit.int .i64 d.reads).wf = true
  writes : (Lit.int .i64 d.writes).wf = true
  b : Rep.byte.Sl Q' W A2 c2 x.b
  fates : rFate.Sl Q' W A3 c3 x.fates
def GoPost (Q : Nat → Prop) (w : World) (r : DDisk × List UInt8 × Int) (e : Ending) (w' : World) : Prop :=
  ∃ z u, e = .returned (.tuple #[z, u, .int .i64 r.2.2]) ∧ rDisk.val (fun b => Q b ∨ w.heap.size ≤ b) w' z r.1 ∧ Rep.byte.list.val (fun b => Q b ∨ w.heap.size ≤ b) w' u r.2.1 ∧ Below w.heap.size w w'
section
variable {Q Q' : Nat → Prop} {w W W' : World} {d : DDisk} {x : DStep} {A0 A1 A2 A3 : Option Addr} {c0 c1 c2 c3 : Nat}
theorem GoBox.below (h : GoBox Q Q' w W d x A0 c0 A1 c1 A2 c2 A3 c3) (hb : Below W.heap.size W W') : GoBox Q Q' w W' d x A0 c0 A1 c1 A2 c2 A3 c3 := by
  have hs := h.big
  refine ⟨(hb.block _ (by omega)).trans h.dblk, (hb.block _ (by omega)).trans h.sblk, (hb.block _ (by omega)).trans h.rblk, h.bel.trans (hb.mono (by omega)), Nat.le_trans hs hb.size,
    h.safe.keep fun b hq hl => ⟨hq, hb.block b hl.lt⟩, h.wait.keep fun b hq hl => ⟨hq, hb.block b hl.lt⟩, h.fuse, h.reads, h.writes, h.b.keep fun b hq hl => ⟨hq, hb.block b hl.lt⟩, h.fates.keep fun b hq hl => ⟨hq, hb.block b hl.lt⟩⟩
/-- The disk's box is written. -/
theorem GoBox.turn (h : GoBox Q Q' w W d x A0 c0 A1 c1 A2 c2 A3 c3) (hq : ∀ b, Q b → b < w.heap.size) (hq' : ∀ b, Q' b → b < w.heap.size) (hb : But w.heap.size W W') {d' : DDisk} {B0 B1 : Option Addr} {e0 e1 : Nat}
    (hd : W'.heap[w.heap.size]? = some (.cells (dcells d' B0 e0 B1 e1) 33 (0, 0))) (hs : Rep.byte.list.Sl (fun b => Q b ∨ w.heap.size + 3 ≤ b) W B0 e0 d'.safe) (hw : rWrite.Sl (fun b => Q b ∨ w.heap.size + 3 ≤ b) W B1 e1 d'.wait)
    (f2 : (Lit.int .i64 d'.fuse).wf = true) (f3 : (Lit.int .i64 d'.reads).wf = true) (f4 : (Lit.int .i64 d'.writes).wf = true) : GoBox Q Q' w W' d' x B0 e0 B1 e1 A2 c2 A3 c3 := by
  have k : ∀ b, (Q b ∨ w.heap.size + 3 ≤ b) → IsC W b → (Q b ∨ w.heap.size + 3 ≤ b) ∧ W'.heap[b]? = W.heap[b]? := fun b hb' _ => ⟨hb', hb.block b (fun e => by rcases hb' with h' | h'; (· have := hq b h'; omega); omega)⟩
  have k' : ∀ b, Q' b → IsC W b → Q' b ∧ W'.heap[b]? = W.heap[b]? := fun b hb' _ => ⟨hb', hb.block b (fun e => by have := hq' b hb'; omega)⟩
  exact ⟨hd, (hb.block _ (by omega)).trans h.sblk, (hb.block _ (by omega)).trans h.rblk, hb.below h.bel (Nat.le_refl _), by rw [hb.size]; exact h.big, hs.keep k, hw.keep k, f2, f3, f4, h.b.keep k', h.fates.keep k'⟩
theorem GoBox.val (h : GoBox Q Q' w W d x A0 c0 A1 c1 A2 c2 A3 c3) : rDisk.val (fun b => Q b ∨ w.heap.size + 3 ≤ b) W (.agg (dcells d A0 c0 A1 c1)) d := rDisk_agg h.safe h.wait h.fuse h.reads h.writes
theorem GoBox.valIn (h : GoBox Q Q' w W d x A0 c0 A1 c1 A2 c2 A3 c3) : rDisk.val (fun b => (Q b ∨ w.heap.size + 3 ≤ b) ∧ b < W.heap.size) W (.agg (dcells d A0 c0 A1 c1)) d := Rep.val_mono (fun _ hb hl => ⟨hb, hl.lt⟩) h.val
theorem GoBox.fin (h : GoBox Q Q' w W d x A0 c0 A1 c1 A2 c2 A3 c3) (hq : ∀ b, Q b → b < w.heap.size) (hb : But (w.heap.size + 1 + 1) W W') {z u : Value} {r : DDisk} {l : List UInt8} {k : Int} (hz : rDisk.val (fun b => Q b ∨ w.heap.size + 3 ≤ b) W z r) (hu : Rep.byte.list.val (fun b => Q b ∨ w.heap.size + 3 ≤ b) W u l) :
    GoPost Q w (r, l, k) (.returned (.tuple #[z, u, .int .i64 k])) W' := by
  have kk : ∀ b, (Q b ∨ w.heap.size + 3 ≤ b) → IsC W b → (Q b ∨ w.heap.size ≤ b) ∧ W'.heap[b]? = W.heap[b]? := fun b hb' _ => ⟨hb'.imp id (by omega), hb.block b (fun e => by rcases hb' with h' | h'; (· have := hq b h'; omega); omega)⟩
  exact ⟨_, _, rfl, Rep.val_keep kk hz, Rep.val_keep kk hu, hb.below h.bel (by omega)⟩
/-- The result's box is written, and returned. -/
theorem GoBox.done (h : GoBox Q Q' w W d x A0 c0 A1 c1 A2 c2 A3 c3) (hq : ∀ b, Q b → b < w.heap.size) (hb : But (w.heap.size + 1 + 1) W W') {u : Value} {l : List UInt8} {k : Int} (hu : Rep.byte.list.val (fun b => Q b ∨ w.heap.size + 3 ≤ b) W u l) :
    GoPost Q w (d, l, k) (.returned (.tuple #[.agg (dcells d A0 c0 A1 c1), u, .int .i64 k])) W' := by
  have kk : ∀ b, (Q b ∨ w.heap.size + 3 ≤ b) → IsC W b → (Q b ∨ w.heap.size ≤ b) ∧ W'.heap[b]? = W.heap[b]? := fun b hb' _ => ⟨hb'.imp id (by omega), hb.block b (fun e => by rcases hb' with h' | h'; (· have := hq b h'; omega); omega)⟩
  exact ⟨_, _, rfl, Rep.val_keep kk h.val, Rep.val_keep kk hu, hb.below h.bel (by omega)⟩
theorem GoBox.setFuse (h : GoBox Q Q' w W d x A0 c0 A1 c1 A2 c2 A3 c3) (hq : ∀ b, Q b → b < w.heap.size) (hq' : ∀ b, Q' b → b < w.heap.size) {n : Int} (hn : (Lit.int .i64 n).wf = true) : GoBox Q Q' w (W.setCell ⟨w.heap.size, 2, none⟩ (.int .i64 n)) { d with fuse := n } x A0 c0 A1 c1 A2 c2 A3 c3 :=
  h.turn hq hq' ((But.refl _ _).set _ _) (by rw [heap_setRow h.dblk]; rfl) h.safe h.wait hn h.reads h.writes
theorem GoBox.setReads (h : GoBox Q Q' w W d x A0 c0 A1 c1 A2 c2 A3 c3) (hq : ∀ b, Q b → b < w.heap.size) (hq' : ∀ b, Q' b → b < w.heap.size) {n : Int} (hn : (Lit.int .i64 n).wf = true) : GoBox Q Q' w (W.setCell ⟨w.heap.size, 4, none⟩ (.int .i64 n)) { d with reads := n } x A0 c0 A1 c1 A2 c2 A3 c3 :=
  h.turn hq hq' ((But.refl _ _).set _ _) (by rw [heap_setRow h.dblk]; rfl) h.safe h.wait h.fuse hn h.writes
theorem GoBox.setWrites (h : GoBox Q Q' w W d x A0 c0 A1 c1 A2 c2 A3 c3) (hq : ∀ b, Q b → b < w.heap.size) (hq' : ∀ b, Q' b → b < w.heap.size) {n : Int} (hn : (Lit.int .i64 n).wf = true) : GoBox Q Q' w (W.setCell ⟨w.heap.size, 5, none⟩ (.int .i64 n)) { d with writes := n } x A0 c0 A1 c1 A2 c2 A3 c3 :=
  h.turn hq hq' ((But.refl _ _).set _ _) (by rw [heap_setRow h.dblk]; rfl) h.safe h.wait h.fuse h.reads hn
theorem GoBox.setSafe (h : GoBox Q Q' w W d x A0 c0 A1 c1 A2 c2 A3 c3) (hq : ∀ b, Q b → b < w.heap.size) (hq' : ∀ b, Q' b → b < w.heap.size) {l : List (List UInt8)} {B0 : Option Addr} {e0 : Nat} (hl : Rep.byte.list.Sl (fun b => Q b ∨ w.heap.size + 3 ≤ b) W B0 e0 l) : GoBox Q Q' w (W.setCell ⟨w.heap.size, 0, none⟩ (.slice B0 l.length e0)) { d with safe := l } x B0 e0 A1 c1 A2 c2 A3 c3 :=
  h.turn hq hq' ((But.refl _ _).set _ _) (by rw [heap_setRow h.dblk]; rfl) hl h.wait h.fuse h.reads h.writes
theorem GoBox.setWait (h : GoBox Q Q' w W d x A0 c0 A1 c1 A2 c2 A3 c3) (hq : ∀ b, Q b → b < w.heap.size) (hq' : ∀ b, Q' b → b < w.heap.size) {l : List DWrite} {B1 : Option Addr} {e1 : Nat} (hl : rWrite.Sl (fun b => Q b ∨ w.heap.size + 3 ≤ b) W B1 e1 l) : GoBox Q Q' w (W.setCell ⟨w.heap.size, 1, none⟩ (.slice B1 l.length e1)) { d with wait := l } x A0 c0 B1 e1 A2 c2 A3 c3 :=
  h.turn hq hq' ((But.refl _ _).set _ _) (by rw [heap_setRow h.dblk]; rfl) h.safe hl h.fuse h.reads h.writes
theorem GoBox.setAll (h : GoBox Q Q' w W d x A0 c0 A1 c1 A2 c2 A3 c3) (hq : ∀ b, Q b → b < w.heap.size) (hq' : ∀ b, Q' b → b < w.heap.size) {d' : DDisk} {B0 B1 : Option Addr} {e0 e1 : Nat} (hs : Rep.byte.list.Sl (fun b => Q b ∨ w.heap.size + 3 ≤ b) W B0 e0 d'.safe) (hw : rWrite.Sl (fun b => Q b ∨ w.heap.size + 3 ≤ b) W B1 e1 d'.wait)
    (f2 : (Lit.int .i64 d'.fuse).wf = true) (f3 : (Lit.int .i64 d'.reads).wf = true) (f4 : (Lit.int .i64 d'.writes).wf = true) :
    GoBox Q Q' w ((((((W.setCell ⟨w.heap.size, 0, none⟩ (.slice B0 d'.safe.length e0)).setCell ⟨w.heap.size, 1, none⟩ (.slice B1 d'.wait.length e1)).setCell ⟨w.heap.size, 2, none⟩ (.int .i64 d'.fuse)).setCell ⟨w.heap.size, 3, none⟩ (.bool d'.off)).setCell ⟨w.heap.size, 4, none⟩ (.int .i64 d'.reads)).setCell ⟨w.heap.size, 5, none⟩ (.int .i64 d'.writes)) d' x B0 e0 B1 e1 A2 c2 A3 c3 :=
  h.turn hq hq' (((((((But.refl _ _).set _ _).set _ _).set _ _).set _ _).set _ _).set _ _) (row6_set h.dblk) hs hw f2 f3 f4
theorem syncTail_succ (s : List (List UInt8)) {l : List DWrite} {j : Nat} {y : DWrite} (h : l[j]? = some y) : syncTail s (l.take (j + 1)) = (syncTail s (l.take j)).set y.pos.toNat y.b := by
  obtain ⟨hj, rfl⟩ := List.getElem?_eq_some_iff.1 h
  unfold syncTail
  rw [List.take_succ_eq_append_getElem hj, List.foldl_append]
  rfl
theorem burnW_same (d : DDisk) : (burnW d).1.safe = d.safe ∧ (burnW d).1.wait = d.wait := by
  unfold burnW; split
  · exact ⟨rfl, rfl⟩
  · split <;> exact ⟨rfl, rfl⟩
theorem nil_bytes (u : Nat → Prop) (W : World) : Rep.byte.list.val u W (.slice none 0 0) ([] : List UInt8) := Rep.val_nil (by simp [maxLen])
theorem GoBox.dcell (h : GoBox Q Q' w W d x A0 c0 A1 c1 A2 c2 A3 c3) : W.cell? ⟨w.heap.size, 0, none⟩ = some (.slice A0 d.safe.length c0) ∧ W.cell? ⟨w.heap.size, 1, none⟩ = some (.slice A1 d.wait.length c1) ∧ W.cell? ⟨w.heap.size, 2, none⟩ = some (.int .i64 d.fuse) ∧ W.cell? ⟨w.heap.size, 3, none⟩ = some (.bool d.off) ∧ W.cell? ⟨w.heap.size, 4, none⟩ = some (.int .i64 d.reads) ∧ W.cell? ⟨w.heap.size, 5, none⟩ = some (.int .i64 d.writes) ∧ W.frozen? ⟨w.heap.size, 0, none⟩ = false ∧ W.frozen? ⟨w.heap.size, 1, none⟩ = false ∧ W.frozen? ⟨w.heap.size, 2, none⟩ = false ∧ W.frozen? ⟨w.heap.size, 3, none⟩ = false ∧ W.frozen? ⟨w.heap.size, 4, none⟩ = false ∧ W.frozen? ⟨w.heap.size, 5, none⟩ = false :=
  ⟨cell_row h.dblk 0, cell_row h.dblk 1, cell_row h.dblk 2, cell_row h.dblk 3, cell_row h.dblk 4, cell_row h.dblk 5, frozen_row h.dblk 0, frozen_row h.dblk 1, frozen_row h.dblk 2, frozen_row h.dblk 3, frozen_row h.dblk 4, frozen_row h.dblk 5⟩
theorem GoBox.scell (h : GoBox Q Q' w W d x A0 c0 A1 c1 A2 c2 A3 c3) : W.cell? ⟨w.heap.size + 1, 0, none⟩ = some (.int .i64 x.act) ∧ W.cell? ⟨w.heap.size + 1, 1, none⟩ = some (.int .i64 x.pos) ∧ W.cell? ⟨w.heap.size + 1, 2, none⟩ = some (.slice A2 x.b.length c2) ∧ W.cell? ⟨w.heap.size + 1, 3, none⟩ = some (.slice A3 x.fates.length c3) :=
  ⟨cell_row h.sblk 0, cell_row h.sblk 1, cell_row h.sblk 2, cell_row h.sblk 3⟩
theorem GoBox.rcell (h : GoBox Q Q' w W d x A0 c0 A1 c1 A2 c2 A3 c3) : W.cell? ⟨w.heap.size + 1 + 1, 0, none⟩ = some (.slice none 0 0) ∧ W.cell? ⟨w.heap.size + 1 + 1, 1, none⟩ = some (.slice none 0 0) ∧ W.cell? ⟨w.heap.size + 1 + 1, 2, none⟩ = some (.int .i64 0) ∧ W.cell? ⟨w.heap.size + 1 + 1, 3, none⟩ = some (.bool false) ∧ W.cell? ⟨w.heap.size + 1 + 1, 4, none⟩ = some (.int .i64 0) ∧ W.cell? ⟨w.heap.size + 1 + 1, 5, none⟩ = some (.int .i64 0) ∧ W.frozen? ⟨w.heap.size + 1 + 1, 0, none⟩ = false ∧ W.frozen? ⟨w.heap.size + 1 + 1, 1, none⟩ = false ∧ W.frozen? ⟨w.heap.size + 1 + 1, 2, none⟩ = false ∧ W.frozen? ⟨w.heap.size + 1 + 1, 3, none⟩ = false ∧ W.frozen? ⟨w.heap.size + 1 + 1, 4, none⟩ = false ∧ W.frozen? ⟨w.heap.size + 1 + 1, 5, none⟩ = false :=
  ⟨cell_row h.rblk 0, cell_row h.rblk 1, cell_row h.rblk 2, cell_row h.rblk 3, cell_row h.rblk 4, cell_row h.rblk 5, frozen_row h.rblk 0, frozen_row h.rblk 1, frozen_row h.rblk 2, frozen_row h.rblk 3, frozen_row h.rblk 4, frozen_row h.rblk 5⟩
/-- What the boxes hold, in any later world. -/
theorem GoBox.cond (h : GoBox Q Q' w W d x A0 c0 A1 c1 A2 c2 A3 c3) : ∀ W' : World, Below W.heap.size W W' → W'.cell? ⟨w.heap.size, 0, none⟩ = some (.slice A0 d.safe.length c0) ∧ W'.cell? ⟨w.heap.size, 1, none⟩ = some (.slice A1 d.wait.length c1) ∧ W'.cell? ⟨w.heap.size, 2, none⟩ = some (.int .i64 d.fuse) ∧ W'.cell? ⟨w.heap.size, 3, none⟩ = some (.bool d.off) ∧ W'.cell? ⟨w.heap.size, 4, none⟩ = some (.int .i64 d.reads) ∧ W'.cell? ⟨w.heap.size, 5, none⟩ = some (.int .i64 d.writes) ∧ W'.frozen? ⟨w.heap.size, 0, none⟩ = false ∧ W'.frozen? ⟨w.heap.size, 1, none⟩ = false ∧ W'.frozen? ⟨w.heap.size, 2, none⟩ = false ∧ W'.frozen? ⟨w.heap.size, 3, none⟩ = false ∧ W'.frozen? ⟨w.heap.size, 4, none⟩ = false ∧ W'.frozen? ⟨w.heap.size, 5, none⟩ = false ∧ W'.cell? ⟨w.heap.size + 1, 0, none⟩ = some (.int .i64 x.act) ∧ W'.cell? ⟨w.heap.size + 1, 1, none⟩ = some (.int .i64 x.pos) ∧ W'.cell? ⟨w.heap.size + 1, 2, none⟩ = some (.slice A2 x.b.length c2) ∧ W'.cell? ⟨w.heap.size + 1, 3, none⟩ = some (.slice A3 x.fates.length c3) ∧ W'.cell? ⟨w.heap.size + 1 + 1, 0, none⟩ = some (.slice none 0 0) ∧ W'.cell? ⟨w.heap.size + 1 + 1, 1, none⟩ = some (.slice none 0 0) ∧ W'.cell? ⟨w.heap.size + 1 + 1, 2, none⟩ = some (.int .i64 0) ∧ W'.cell? ⟨w.heap.size + 1 + 1, 3, none⟩ = some (.bool false) ∧ W'.cell? ⟨w.heap.size + 1 + 1, 4, none⟩ = some (.int .i64 0) ∧ W'.cell? ⟨w.heap.size + 1 + 1, 5, none⟩ = some (.int .i64 0) ∧ W'.frozen? ⟨w.heap.size + 1 + 1, 0, none⟩ = false ∧ W'.frozen? ⟨w.heap.size + 1 + 1, 1, none⟩ = false ∧ W'.frozen? ⟨w.heap.size + 1 + 1, 2, none⟩ = false ∧ W'.frozen? ⟨w.heap.size + 1 + 1, 3, none⟩ = false ∧ W'.frozen? ⟨w.heap.size + 1 + 1, 4, none⟩ = false ∧ W'.frozen? ⟨w.heap.size + 1 + 1, 5, none⟩ = false := fun W' hb => by
  obtain ⟨d0, d1, d2, d3, d4, d5, z0, z1, z2, z3, z4, z5⟩ := (h.below hb).dcell
  obtain ⟨s0, s1, s2, s3⟩ := (h.below hb).scell
  obtain ⟨r0, r1, r2, r3, r4, r5, y0, y1, y2, y3, y4, y5⟩ := (h.below hb).rcell
  exact ⟨d0, d1, d2, d3, d4, d5, z0, z1, z2, z3, z4, z5, s0, s1, s2, s3, r0, r1, r2, r3, r4, r5, y0, y1, y2, y3, y4, y5⟩
theorem GoBox.condA (h : GoBox Q Q' w W d x A0 c0 A1 c1 A2 c2 A3 c3) : ∀ W' : World, Alike (w.heap.size + 1 + 1) W W' → W'.cell? ⟨w.heap.size, 0, none⟩ = some (.slice A0 d.safe.length c0) ∧ W'.cell? ⟨w.heap.size, 1, none⟩ = some (.slice A1 d.wait.length c1) ∧ W'.cell? ⟨w.heap.size, 2, none⟩ = some (.int .i64 d.fuse) ∧ W'.cell? ⟨w.heap.size, 3, none⟩ = some (.bool d.off) ∧ W'.cell? ⟨w.heap.size, 4, none⟩ = some (.int .i64 d.reads) ∧ W'.cell? ⟨w.heap.size, 5, none⟩ = some (.int .i64 d.writes) ∧ W'.cell? ⟨w.heap.size + 1, 0, none⟩ = some (.int .i64 x.act) ∧ W'.cell? ⟨w.heap.size + 1, 1, none⟩ = some (.int .i64 x.pos) ∧ W'.cell? ⟨w.heap.size + 1, 2, none⟩ = some (.slice A2 x.b.length c2) ∧ W'.cell? ⟨w.heap.size + 1, 3, none⟩ = some (.slice A3 x.fates.length c3) := fun W' hb => by
  obtain ⟨d0, d1, d2, d3, d4, d5, _⟩ := h.dcell
  obtain ⟨s0, s1, s2, s3⟩ := h.scell
  have hs := h.big
  exact ⟨hb.cell d0 (by omega) (by omega), hb.cell d1 (by omega) (by omega), hb.cell d2 (by omega) (by omega), hb.cell d3 (by omega) (by omega), hb.cell d4 (by omega) (by omega), hb.cell d5 (by omega) (by omega), hb.cell s0 (by omega) (by omega), hb.cell s1 (by omega) (by omega), hb.cell s2 (by omega) (by omega), hb.cell s3 (by omega) (by omega)⟩
end

/-- 'append(s, xs...)' as0 a step of a region that draws its order. -/
theorem step_spread {α : Type} {r : Rep α} {e base : Nat} {Q Q' : Nat → Prop} {P : Program} {w : World} {ops : Array Oper} {o : Oper} {a : Act} {K : Act → World → Prop} {R : Exit → Act → World → Prop} {E : Prop} (hg : o.guard = none) (s x : Operand) (t : TypeId)
    (ho : o.op = .call { callee := .builtin .append, args := #[s, x], argTypes := #[t, t] })
    (z : Value) (size bytes : Nat) (ht : P.underlying t = some (.slice e)) (hi : (P.info? e).map (fun i => (i.zero, i.size, i.bytes)) = some (some z, size, bytes)) (hzs : z.cells.size = size) (hsz : 0 < size)
    (hr : r.size = size) (v : Value) (xs : List α) (hs : a.eval s = v) (h : r.acc e base Q w v xs) (u : Value) (ys : List α) (hx : a.eval x = u) (hy : r.list.val Q' w u ys)
    (hq : ∀ b, Q' b → IsC w b → Q b ∧ v.ownBlock ≠ some b)
    (h63 : xs.length + ys.length ≤ maxLen) (hbytes : (xs.length + ys.length) * bytes ≤ 140737488355328) (hbase : base ≤ w.heap.size)
    (H : ∀ v' w', r.acc e base Q w' v' (xs ++ ys) → w.grownBy w' v.ownBlock → (v'.ownBlock = v.ownBlock ∨ v'.ownBlock = some w.heap.size) → K (a.put o.dst v') w') :
    if Region.wanted o (yielded ops a.tmps) = true then Oper.wp P o a w K R else E := by
  have hw : Region.wanted o (yielded ops a.tmps) = true := by simp [Region.wanted, hg]
  rw [if_pos hw]
  obtain ⟨A, c, rfl, h1, h2, es, h3, h4⟩ := Rep.val_list hy
  obtain ⟨v', w', q1, q2, q3, q4⟩ := Rep.acc_more (P := P) (ty := o.type) (c := c) ht hi hzs hsz hr h rfl (Rep.row_keep (fun b hb hl => ⟨hq b hb hl, rfl⟩) h3)
    (fun hn => by obtain ⟨b, off, q1, _, _, q2⟩ := h4 hn; exact ⟨b, off, q1, q2⟩) h63 hbytes hbase
  unfold Oper.wp execOp
  simp only [ho, resolve, invoke, builtin, Sem.run_bind, Sem.run_pure, Result.andThen_ok, List.map_toArray, List.map_cons, List.map_nil, hs, hx, q1]
  exact H v' w' q2 q3 q4
theorem infoWrite : (Try.prog.info? 136).map (fun i => (i.zero, i.size, i.bytes)) = some (some (.agg #[.int .i64 0, .slice none 0 0]), 2, 32) := by kernel_rfl
/-- A write, of bytes just made. -/
theorem write_new {Q : Nat → Prop} {w5 : World} {n k base : Nat} {A : Option Addr} {c : Nat} {v : Value} {pos : Int} {b : List UInt8} (hb : Rep.byte.acc 5 n (fun _ => False) w5 (.slice A b.length c) b) (hp : (Lit.int .i64 pos).wf = true) (hn : k ≤ n) (ho : ∀ j, v.ownBlock = some j → base ≤ j ∧ j < n) :
    rWrite.val (fun j => (Q j ∨ k ≤ j) ∧ v.ownBlock ≠ some j) w5 (.agg #[.int .i64 pos, .slice A b.length c]) ⟨pos, b⟩ := by
  obtain ⟨A', c', he, hs⟩ := Rep.val_sl (Rep.acc_fresh hb)
  cases he
  exact rWrite_agg (x := ⟨pos, b⟩) hp (hs.keep fun j hj _ => ⟨⟨.inr (Nat.le_trans hn hj), fun e => by have := (ho j e).2; omega⟩, rfl⟩)
end Go.Proofs.Ytfpmkenobphfnaa
