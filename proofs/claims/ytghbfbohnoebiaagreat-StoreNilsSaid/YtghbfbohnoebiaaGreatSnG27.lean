/- Texts on which the proofs stand: Disk, Boxes. No condition is laid on any input. -/
import Derived.Test.YtghbfbohnoebiaaGreatSnG25
import Derived.Maps.OwnSet
namespace Go.Proofs.YtghbfbohnoebiaaGreat
open Go.RowKit
open Go.Maps (Keyed)

/-- A device: what is safe, the writes that wait for each sector, the fuse, whether it is off, and what was done. -/
structure DiskSt where
  safe : List (List UInt8)
  wait : Int → List (List UInt8)
  fuse : Int
  off : Bool
  reads : Int
  writes : Int

def heldElem (v : Value) : Option (DataW Value × List MemPlace) := some (.held v, [])
def nilList : Value := .slice none 0 0
/-- What lies at a key of the map. -/
def valAt (D : DataW Value) (i : Int) : Value := match D.atKey (.int .i64 i) (.held nilList) with | .held v => v | _ => nilList
theorem int_law : Keyed Tryz.prog 3 := Go.Maps.int_keyed Tryz.underlying3
theorem zero24 (w : World) : (zeroValue 28).run Tryz.prog w = .ok nilList w := by kernel_rfl
theorem key_i64 {i : Int} (h : (Lit.int .i64 i).wf = true) : keyOf Tryz.prog 3 (.int .i64 i) = some (.int .i64 i)   := Go.Maps.keyOf_int_mk Tryz.underlying3 h
theorem key_lit (i : Int) : WideAt.IsKeyLit (.int .i64 i) := trivial

theorem lookup_held {w : World} {M n : Nat} {D : DataW Value} {i : Int} (h : w.ownsMap Tryz.prog 3 heldElem M n D) (hi : (Lit.int .i64 i).wf = true) :
    (Instr.lookup 93 (.map (some M)) (.int .i64 i) false).run Tryz.prog w = .ok (valAt D i) w := by
  obtain ⟨v, ps, hrun, hv⟩ := h.lookup int_law Tryz.underlying93 (zero24 w) (zd := .held nilList) (zp := []) rfl (key_i64 hi)
  have e : DataW.held v = D.atKey (.int .i64 i) (.held nilList) := by
    have := congrArg Prod.fst (Option.some.inj hv)
    exact this
  have : valAt D i = v := by unfold valAt; rw [← e]
  rw [this]; exact hrun
theorem valAt_put_same {D : DataW Value} (hD : Go.Maps.IsMap D) (i : Int) (v : Value) : valAt (D.put (.int .i64 i) (.held v)) i = v := by
  unfold valAt; rw [Go.Maps.atKey_put_same hD (key_lit i)]
theorem valAt_put_other {D : DataW Value} {i j : Int} (h : j ≠ i) (v : Value) : valAt (D.put (.int .i64 i) (.held v)) j = valAt D j := by
  unfold valAt; rw [Go.Maps.atKey_put_other (fun e => h (by cases e; rfl))]
theorem acc_block {α : Type} {r : Rep α} {e base : Nat} {Q : Nat → Prop} {w : World} {v : Value} {xs : List α} (h : r.acc e base Q w v xs) {g : Nat} (hg : v.ownBlock = some g) : ∃ cur, w.heap[g]? = some (.cells cur e (0, 0)) := by
  obtain ⟨cells, h1, _⟩ := h
  rcases h1.2 with ⟨rfl, _⟩ | ⟨g', cap, cur, rfl, _, hh, _⟩
  · cases hg
  · cases hg; exact ⟨cur, hh⟩

/-- A device lies in block P. F: the blocks that it writes; B: those of its sectors' bytes, which are never written. -/
structure DiskW (W : World) (P : Nat) (Sf : Option Addr) (cs M : Nat) (D : DataW Value) (F B : Nat → Prop) (n : Nat) (st : DiskSt) : Prop where
  blk : W.heap[P]? = some (.cells #[.slice Sf st.safe.length cs, .map (some M), .int .i64 st.fuse, .bool st.off, .int .i64 st.reads, .int .i64 st.writes] 95 (0, 0))
  safe : Rep.byte.list.acc 71 0 B W (.slice Sf st.safe.length cs) st.safe
  map : W.ownsMap Tryz.prog 3 heldElem M n D
  wt : ∀ i, Rep.byte.list.acc 71 0 B W (valAt D i) (st.wait i)
  len : ∀ i, (st.wait i).length ≤ n
  keys : ∀ i, st.wait i ≠ [] → 0 ≤ i ∧ i < st.safe.length
  wf : (Lit.int .i64 st.fuse).wf = true
  fP : F P
  fM : F M
  fS : ∀ b, (Value.slice Sf st.safe.length cs).ownBlock = some b → F b
  fW : ∀ i b, (valAt D i).ownBlock = some b → F b
  dSW : ∀ i b, (valAt D i).ownBlock = some b → (Value.slice Sf st.safe.length cs).ownBlock ≠ some b
  dWW : ∀ i j b, i ≠ j → (valAt D i).ownBlock = some b → (valAt D j).ownBlock ≠ some b
  apart : ∀ b, F b → ¬ B b
  lt : ∀ b, F b ∨ B b → b < W.heap.size
  has : ∀ i, Go.Maps.has D (.int .i64 i) = true → st.wait i ≠ []
def DiskAt (W : World) (P : Nat) (F B : Nat → Prop) (n : Nat) (st : DiskSt) : Prop := ∃ Sf cs M D, DiskW W P Sf cs M D F B n st
/-- Nothing that was there is written but blocks of F. -/
structure Only (F : Nat → Prop) (W W' : World) : Prop where
  os : W'.os = W.os
  tape : W'.tape = W.tape
  output : W'.output = W.output
  size : W.heap.size ≤ W'.heap.size
  block : ∀ b, b < W.heap.size → ¬ F b → W'.heap[b]? = W.heap[b]?
theorem Only.refl (F : Nat → Prop) (W : World) : Only F W W := ⟨rfl, rfl, rfl, Nat.le_refl _, fun _ _ _ => rfl⟩
theorem Only.trans {F : Nat → Prop} {X Y Z : World} (h : Only F X Y) (k : Only F Y Z) : Only F X Z :=
  ⟨k.os.trans h.os, k.tape.trans h.tape, k.output.trans h.output, Nat.le_trans h.size k.size, fun b hb hf => (k.block b (Nat.lt_of_lt_of_le hb h.size) hf).trans (h.block b hb hf)⟩
theorem Only.of_below {F : Nat → Prop} {X Y : World} (h : Below X.heap.size X Y) : Only F X Y := ⟨h.os, h.tape, h.output, h.size, fun b hb _ => h.block b hb⟩
theorem Only.set {F : Nat → Prop} {X : World} {P i : Nat} {v : Value} (h : F P) : Only F X (X.setCell ⟨P, i, none⟩ v) :=
  ⟨rfl, rfl, rfl, by simp, fun b _ hf => Below.heap_setCell _ _ _ _ (fun e => hf (by rw [e]; exact h))⟩
theorem Only.below {F : Nat → Prop} {X Y : World} {base : Nat} (h : Only F X Y) (hb : base ≤ X.heap.size) (hf : ∀ b, F b → base ≤ b) : Below base X Y :=
  ⟨h.os, h.tape, h.output, h.size, fun b hl => h.block b (by omega) (fun hF => by have := hf b hF; omega)⟩

namespace DiskW
variable {W W' : World} {P : Nat} {Sf : Option Addr} {cs M : Nat} {D : DataW Value} {F B : Nat → Prop} {n : Nat} {st : DiskSt}

theorem sP (h : DiskW W P Sf cs M D F B n st) {b : Nat} (hb : (Value.slice Sf st.safe.length cs).ownBlock = some b) : b ≠ P := by
  rintro rfl
  obtain ⟨cur, hc⟩ := acc_block h.safe hb
  rw [h.blk] at hc; cases hc
theorem wP (h : DiskW W P Sf cs M D F B n st) {i : Int} {b : Nat} (hb : (valAt D i).ownBlock = some b) : b ≠ P := by
  rintro rfl
  obtain ⟨cur, hc⟩ := acc_block (h.wt i) hb
  rw [h.blk] at hc; cases hc
theorem mP (h : DiskW W P Sf cs M D F B n st) : M ≠ P := by
  rintro rfl
  obtain ⟨es, clock, hb, _⟩ := h.map
  rw [h.blk] at hb; cases hb
theorem map_keep (h : DiskW W P Sf cs M D F B n st) (hk : W'.heap[M]? = W.heap[M]?) : W'.ownsMap Tryz.prog 3 heldElem M n D := by
  obtain ⟨es, clock, hb, r⟩ := h.map
  exact ⟨es, clock, hk.trans hb, r⟩

/-- Whatever leaves its blocks leaves the device. -/
theorem keep (h : DiskW W P Sf cs M D F B n st) (hs : W.heap.size ≤ W'.heap.size) (hk : ∀ b, F b ∨ B b → W'.heap[b]? = W.heap[b]?) : DiskW W' P Sf cs M D F B n st :=
  ⟨(hk P (.inl h.fP)).trans h.blk,
   Rep.acc_keep (fun b hb _ => hk b (hb.elim .inr fun e => .inl (h.fS b e))) (fun _ hb _ => hb) h.safe,
   h.map_keep (hk M (.inl h.fM)),
   fun i => Rep.acc_keep (fun b hb _ => hk b (hb.elim .inr fun e => .inl (h.fW i b e))) (fun _ hb _ => hb) (h.wt i),
   h.len, h.keys, h.wf, h.fP, h.fM, h.fS, h.fW, h.dSW, h.dWW, h.apart, fun b hb => Nat.lt_of_lt_of_le (h.lt b hb) hs, h.has⟩

/-- A field of numbers is written. -/
theorem scal (h : DiskW W P Sf cs M D F B n st) {st' : DiskSt} (hs : st'.safe = st.safe) (hw : st'.wait = st.wait) (hf : (Lit.int .i64 st'.fuse).wf = true)
    (hb : W'.heap[P]? = some (.cells #[.slice Sf st.safe.length cs, .map (some M), .int .i64 st'.fuse, .bool st'.off, .int .i64 st'.reads, .int .i64 st'.writes] 95 (0, 0)))
    (hz : W.heap.size ≤ W'.heap.size) (hk : ∀ b, b ≠ P → b < W.heap.size → W'.heap[b]? = W.heap[b]?) : DiskW W' P Sf cs M D F B n st' := by
  have hB : ∀ b, B b → b ≠ P := fun b hb e => h.apart P h.fP (e ▸ hb)
  refine ⟨by rw [hs]; exact hb, ?_, h.map_keep (hk M h.mP (h.lt M (.inl h.fM))), fun i => ?_, by rw [hw]; exact h.len, by rw [hw, hs]; exact h.keys, hf, h.fP, h.fM, by rw [hs]; exact h.fS, h.fW, by rw [hs]; exact h.dSW, h.dWW, h.apart, fun b hb => Nat.lt_of_lt_of_le (h.lt b hb) hz, by rw [hw]; exact h.has⟩
  · rw [hs]
    exact Rep.acc_keep (fun b hb _ => hk b (hb.elim (hB b) fun e => h.sP e) (h.lt b (hb.elim .inr fun e => .inl (h.fS b e)))) (fun _ hb _ => hb) h.safe
  · rw [hw]
    exact Rep.acc_keep (fun b hb _ => hk b (hb.elim (hB b) fun e => h.wP e) (h.lt b (hb.elim .inr fun e => .inl (h.fW i b e)))) (fun _ hb _ => hb) (h.wt i)
end DiskW
theorem DiskAt.keep {W W' : World} {P : Nat} {F B : Nat → Prop} {n : Nat} {st : DiskSt} (h : DiskAt W P F B n st) (hs : W.heap.size ≤ W'.heap.size) (hk : ∀ b, F b ∨ B b → W'.heap[b]? = W.heap[b]?) : DiskAt W' P F B n st := by
  obtain ⟨Sf, cs, M, D, h⟩ := h
  exact ⟨Sf, cs, M, D, h.keep hs hk⟩
theorem DiskAt.below {W W' : World} {P : Nat} {F B : Nat → Prop} {n : Nat} {st : DiskSt} (h : DiskAt W P F B n st) (hb : Below W.heap.size W W') : DiskAt W' P F B n st :=
  h.keep hb.size fun b hb' => hb.block b (by obtain ⟨_, _, _, _, h⟩ := h; exact h.lt b hb')

/-- What is left of the fuse; the error. -/
def burnSt (st : DiskSt) : DiskSt × Int :=
  if st.off then (st, 3) else if st.fuse = 0 then ({ st with off := true }, 3) else if 0 < st.fuse then ({ st with fuse := st.fuse - 1 }, 0) else (st, 0)
/-- May something be done to a sector? -/
def atSt (st : DiskSt) (i : Int) : DiskSt × Int := if i < 0 ∨ (st.safe.length : Int) ≤ i then (st, 2) else burnSt st
def StepPost (F B : Nat → Prop) (P n : Nat) (W : World) (r : DiskSt × Int) (e : Ending) (W' : World) : Prop := e = .returned (.int .i64 r.2) ∧ DiskAt W' P F B n r.1 ∧ Only F W W'

set_option maxRecDepth 100000 in
set_option maxHeartbeats 1000000 in
/-- (*disk.Disk).burn -/
theorem burn_calls {W : World} {P : Nat} {F B : Nat → Prop} {n : Nat} {st : DiskSt} (h : DiskAt W P F B n st) :
    Calls Tryz.prog 161 #[.pointer (some ⟨P, 0, none⟩)] W (StepPost F B P n W (burnSt st)) := by
  obtain ⟨Sf, cs, M, D, hd⟩ := h
  have e2 := cell_row hd.blk 2
  have e3 := cell_row hd.blk 3
  have z2 := frozen_row hd.blk 2
  have z3 := frozen_row hd.blk 3
  have hwf := hd.wf
  have hf1 : -9223372036854775808 ≤ st.fuse ∧ st.fuse ≤ 9223372036854775807 := by simpa [Lit.wf, IntKind.min, IntKind.max, IntKind.signed, IntKind.bits] using hwf
  have HD := Lib.hid hd
  have HP := Lib.hid hd.fP
  clear hd hwf
  obtain ⟨sf, wt, fuse, off, rd, wr⟩ := st
  dsimp only at *
  cases off with
  | true =>
    have HF := Lib.hid (show burnSt ⟨sf, wt, fuse, true, rd, wr⟩ = (⟨sf, wt, fuse, true, rd, wr⟩, 3) from rfl)
    go_enter Tryz.func161, Tryz.ntmps161
    go_wp2_with fail
    go_ret
    exact ⟨by rw [HF.out]; rfl, by rw [HF.out]; exact ⟨_, _, _, _, HD.out⟩, Only.refl _ _⟩
  | false =>
    by_cases h0 : fuse = 0
    · subst h0
      have HF := Lib.hid (show burnSt ⟨sf, wt, 0, false, rd, wr⟩ = (⟨sf, wt, 0, true, rd, wr⟩, 3) from rfl)
      go_enter Tryz.func161, Tryz.ntmps161
      go_wp2_with fail
      go_ret
      exact ⟨by rw [HF.out]; rfl, by rw [HF.out]; exact ⟨_, _, _, _, HD.out.scal rfl rfl HD.out.wf (heap_setRow HD.out.blk) (by simp) fun b hb _ => Below.heap_setCell _ _ _ _ hb⟩, Only.set HP.out⟩
    · have g0 : (fuse == 0) = false := by simpa using h0
      by_cases h1 : 0 < fuse
      · have HF := Lib.hid (show burnSt ⟨sf, wt, fuse, false, rd, wr⟩ = (⟨sf, wt, fuse - 1, false, rd, wr⟩, 0) by simp [burnSt, h0, h1])
        have HWF := Lib.hid (show (Lit.int .i64 (fuse - 1)).wf = true from wf_i64 (by omega) (by omega))
        clear h0
        go_enter Tryz.func161, Tryz.ntmps161
        go_wp2_with fail
        go_ret
        exact ⟨by rw [HF.out]; rfl, by rw [HF.out]; exact ⟨_, _, _, _, HD.out.scal rfl rfl HWF.out (heap_setRow HD.out.blk) (by simp) fun b hb _ => Below.heap_setCell _ _ _ _ hb⟩, Only.set HP.out⟩
      · have HF := Lib.hid (show burnSt ⟨sf, wt, fuse, false, rd, wr⟩ = (⟨sf, wt, fuse, false, rd, wr⟩, 0) by simp [burnSt, h0, h1])
        clear h0
        go_enter Tryz.func161, Tryz.ntmps161
        go_wp2_with fail
        go_ret
        exact ⟨by rw [HF.out]; rfl, by rw [HF.out]; exact ⟨_, _, _, _, HD.out⟩, Only.refl _ _⟩
end Go.Proofs.YtghbfbohnoebiaaGreat
namespace Go.Proofs.YtghbfbohnoebiaaGreat
open Go.RowKit

/-- The boxes of a call. -/
def Box (w : World) (n : Nat) (b : Nat) : Prop := w.heap.size ≤ b ∧ b < w.heap.size + n
/-- What the call reads besides. -/
def In (Q : Nat → Prop) (w : World) (n : Nat) (b : Nat) : Prop := (Q b ∧ b < w.heap.size) ∨ w.heap.size + n ≤ b
theorem In.no {Q : Nat → Prop} {w : World} {n b : Nat} (h : In Q w n b) : ¬ Box w n b := by
  unfold In at h; unfold Box; omega
theorem alloc_at {w : World} {o : Obj} {b : Nat} (h : b = w.heap.size) : (w.alloc o).heap[b]? = some o := by rw [h]; exact heap_alloc_new _ _
theorem alloc_old {w : World} {o x : Obj} {b : Nat} (h : w.heap[b]? = some x) : (w.alloc o).heap[b]? = some x :=
  (heap_alloc_old _ _ (Array.getElem?_eq_some_iff.1 h).1).trans h
theorem row_call {W W' : World} {b : Nat} {x : Obj} (h : Below W.heap.size W W') (r : W.heap[b]? = some x) : W'.heap[b]? = some x :=
  (h.block b (Array.getElem?_eq_some_iff.1 r).1).trans r
theorem row_only {F : Nat → Prop} {W W' : World} {b : Nat} {x : Obj} (h : Only F W W') (r : W.heap[b]? = some x) (hn : ¬ F b) : W'.heap[b]? = some x :=
  (h.block b (Array.getElem?_eq_some_iff.1 r).1 hn).trans r
theorem Only.alloc {F : Nat → Prop} {W W' : World} (h : Only F W W') (o : Obj) : Only F W (W'.alloc o) := h.trans (Only.of_below (below_alloc' _ o))
where
  below_alloc' (w : World) (o : Obj) : Below w.heap.size w (w.alloc o) := (Below.refl _ _).alloc (Nat.le_refl _) _
theorem Only.put {F : Nat → Prop} {W W' : World} {b i : Nat} {v : Value} (h : Only F W W') (hb : F b) : Only F W (W'.setCell ⟨b, i, none⟩ v) := h.trans (Only.set hb)
theorem Only.drw {F : Nat → Prop} {W W' : World} (h : Only F W W') : Only F W W'.drew := ⟨h.os, h.tape, h.output, h.size, h.block⟩
theorem Only.fin {w W0 W : World} {n : Nat} (hb : Below w.heap.size w W0) (h : Only (Box w n) W0 W) : Below w.heap.size w W :=
  hb.trans (h.below hb.size fun _ hf => hf.1)
section
variable {α : Type} {r : Rep α} {Q : Nat → Prop} {w W W' : World} {n : Nat}
end
theorem cell_bound {W : World} {b o : Nat} {v : Value} (h : W.cell? ⟨b, o, none⟩ = some v) : b < W.heap.size := by
  unfold World.cell? at h
  by_cases hb : b < W.heap.size
  · exact hb
  · rw [Array.getElem?_eq_none (show W.heap.size ≤ b by omega)] at h
    simp at h
theorem cell_call {W W' : World} {b o : Nat} {v : Value} (h : Below W.heap.size W W') (r : W.cell? ⟨b, o, none⟩ = some v) : W'.cell? ⟨b, o, none⟩ = some v :=
  (World.cell?_of_block (h.block b (cell_bound r))).trans r
theorem cell_only {F : Nat → Prop} {W W' : World} {b o : Nat} {v : Value} (h : Only F W W') (hn : ¬ F b) (r : W.cell? ⟨b, o, none⟩ = some v) : W'.cell? ⟨b, o, none⟩ = some v :=
  (World.cell?_of_block (h.block b (cell_bound r) hn)).trans r
theorem int_at {Q : Nat → Prop} {W : World} {A : Option Addr} {xs : List Int} (h : (Rep.int .i64).At Q W A xs) {i : Nat} {x : Int} (hx : xs[i]? = some x) :
    ∃ b off, A = some ⟨b, off, none⟩ ∧ Q b ∧ W.cell? ⟨b, off + i, none⟩ = some (.int .i64 x) ∧ (Lit.int .i64 x).wf = true := by
  obtain ⟨b, off, es, h1, h2, _, h3, h4⟩ := h.get hx
  obtain ⟨he, hw⟩ := h3
  subst he
  exact ⟨b, off, h1, h2, by simpa [Rep.int] using h4 0 _ rfl, hw⟩
theorem below_put {B k : Nat} {w W : World} (h : Below B w W) (hk : B ≤ k) {i : Nat} {v : Value} : Below B w (W.setCell ⟨k, i, none⟩ v) :=
  ⟨h.os, h.tape, h.output, by simpa using h.size, fun c hc => (Below.heap_setCell _ _ _ _ (fun e => by have e2 : c = k := e; omega)).trans (h.block c hc)⟩
theorem Only.wid {F G : Nat → Prop} {X Y : World} (h : Only F X Y) (hf : ∀ b, F b → G b) : Only G X Y := ⟨h.os, h.tape, h.output, h.size, fun b hl hg => h.block b hl fun e => hg (hf b e)⟩
theorem sl_of {α : Type} {r : Rep α} {Q : Nat → Prop} {w : World} {A : Option Addr} {n c : Nat} {xs : List α} (h : r.list.val Q w (.slice A n c) xs) : r.Sl Q w A c xs := by
  obtain ⟨A2, c2, he, h1, h2, h3⟩ := Rep.val_list h
  cases he
  exact ⟨h1, h2, h3⟩
/-- An element of a slice of the call's own: its cells. -/
theorem acc_get {α : Type} {r : Rep α} {e base : Nat} {Q : Nat → Prop} {w : World} {v : Value} {xs : List α} (h : r.acc e base Q w v xs) {i : Nat} {x : α} (hx : xs[i]? = some x) :
    ∃ g cap es, v = .slice (some ⟨g, 0, none⟩) xs.length cap ∧ base ≤ g ∧ g < w.heap.size ∧ xs.length ≤ cap ∧ cap ≤ maxLen ∧ r.rd (fun b => Q b ∧ v.ownBlock ≠ some b) w es x ∧
      (∀ j u, es[j]? = some u → w.cell? ⟨g, i * r.size + j, none⟩ = some u) ∧ ∀ j, w.frozen? ⟨g, j, none⟩ = false := by
  obtain ⟨cells, h1, h2⟩ := h
  have hi := (List.getElem?_eq_some_iff.1 hx).1
  rcases h1.2 with ⟨_, h0⟩ | ⟨g, cap, cur, rfl, hb, hg, h3, h4, h5, h6⟩
  · omega
  · obtain ⟨es, hrd, hcell⟩ := Rep.row_get h2 hx
    refine ⟨g, cap, es, rfl, hb, (Array.getElem?_eq_some_iff.1 hg).1, h3, h4, hrd, fun j u hj => ?_, fun j => by simp [World.frozen?, hg]⟩
    have h7 := hcell j u hj
    have := h1.cells (g := g) rfl _ u h7
    rwa [Addr.add_lit, Nat.zero_add] at this
theorem nm_region {P : Program} {id : Nat} {ops : Array Oper} {Q : Exit → Act → World → Prop} {a : Act} {w : World} (h : ∀ W, W = w → (Code.region id ops true).wp P Q a W) : (Code.region id ops true).wp P Q a w := h w rfl
end Go.Proofs.YtghbfbohnoebiaaGreat
