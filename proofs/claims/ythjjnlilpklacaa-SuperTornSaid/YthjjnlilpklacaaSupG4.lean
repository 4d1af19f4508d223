/- Texts on which the proofs stand: Disk, DiskRead, LeCut, DiskWrite, DiskNew, DiskOf. No condition is laid on any input. -/
import Derived.Test.YthjjnlilpklacaaSupCut
import Derived.Test.YthjjnlilpklacaaSupCutTo
import Derived.Test.YthjjnlilpklacaaSupSealGet
import Derived.Test.YthjjnlilpklacaaSupSector
import Derived.Maps.OwnSet
import Derived.Maps.OwnOps
/- The device: how it lies in memory; walks of its small functions. -/
namespace Go.Proofs.Ythjjnlilpklacaa
open Go.RowKit
open Go.Maps (Keyed)

/-- A device: what is safe, the writes that wait for each sector, the fuse, whether it is off, and what was done. -/
structure DiskSt where
  safe : List (List UInt8)
  wait : Int → List (List UInt8)
  fuse : Int
  off : Bool
  reads : Int
  writes : Int

def heldElem (v : Value) : Option (DataW Value × List MemPlace) := some (.held v, [])
def nilList : Value := .slice none 0 0
/-- What lies at a key of the map. -/
def valAt (D : DataW Value) (i : Int) : Value := match D.atKey (.int .i64 i) (.held nilList) with | .held v => v | _ => nilList
theorem int_law : Keyed Try.prog 3 := Go.Maps.int_keyed Try.underlying3
theorem zero24 (w : World) : (zeroValue 24).run Try.prog w = .ok nilList w := by kernel_rfl
theorem key_i64 {i : Int} (h : (Lit.int .i64 i).wf = true) : keyOf Try.prog 3 (.int .i64 i) = some (.int .i64 i)   := Go.Maps.keyOf_int_mk Try.underlying3 h
theorem key_lit (i : Int) : WideAt.IsKeyLit (.int .i64 i) := trivial

theorem lookup_held {w : World} {M n : Nat} {D : DataW Value} {i : Int} (h : w.ownsMap Try.prog 3 heldElem M n D) (hi : (Lit.int .i64 i).wf = true) :
    (Instr.lookup 152 (.map (some M)) (.int .i64 i) false).run Try.prog w = .ok (valAt D i) w := by
  obtain ⟨v, ps, hrun, hv⟩ := h.lookup int_law Try.underlying152 (zero24 w) (zd := .held nilList) (zp := []) rfl (key_i64 hi)
  have e : DataW.held v = D.atKey (.int .i64 i) (.held nilList) := by
    have := congrArg Prod.fst (Option.some.inj hv)
    exact this
  have : valAt D i = v := by unfold valAt; rw [← e]
  rw [this]; exact hrun
theorem valAt_put_same {D : DataW Value} (hD : Go.Maps.IsMap D) (i : Int) (v : Value) : valAt (D.put (.int .i64 i) (.held v)) i = v := by
  unfold valAt; rw [Go.Maps.atKey_put_same hD (key_lit i)]
theorem valAt_put_other {D : DataW Value} {i j : Int} (h : j ≠ i) (v : Value) : valAt (D.put (.int .i64 i) (.held v)) j = valAt D j := by
  unfold valAt; rw [Go.Maps.atKey_put_other (fun e => h (by cases e; rfl))]
theorem valAt_empty (i : Int) : valAt (.map []) i = nilList := rfl

theorem acc_block {α : Type} {r : Rep α} {e base : Nat} {Q : Nat → Prop} {w : World} {v : Value} {xs : List α} (h : r.acc e base Q w v xs) {g : Nat} (hg : v.ownBlock = some g) : ∃ cur, w.heap[g]? = some (.cells cur e (0, 0)) := by
  obtain ⟨cells, h1, _⟩ := h
  rcases h1.2 with ⟨rfl, _⟩ | ⟨g', cap, cur, rfl, _, hh, _⟩
  · cases hg
  · cases hg; exact ⟨cur, hh⟩

/-- A device lies in block P. F: the blocks that it writes; B: those of its sectors' bytes, which are never written. -/
structure DiskW (W : World) (P : Nat) (Sf : Option Addr) (cs M : Nat) (D : DataW Value) (F B : Nat → Prop) (n : Nat) (st : DiskSt) : Prop where
  blk : W.heap[P]? = some (.cells #[.slice Sf st.safe.length cs, .map (some M), .int .i64 st.fuse, .bool st.off, .int .i64 st.reads, .int .i64 st.writes] 154 (0, 0))
  safe : Rep.byte.list.acc 22 0 B W (.slice Sf st.safe.length cs) st.safe
  map : W.ownsMap Try.prog 3 heldElem M n D
  wt : ∀ i, Rep.byte.list.acc 22 0 B W (valAt D i) (st.wait i)
  len : ∀ i, (st.wait i).length ≤ n
  keys : ∀ i, st.wait i ≠ [] → 0 ≤ i ∧ i < st.safe.length
  wf : (Lit.int .i64 st.fuse).wf = true
  fP : F P
  fM : F M
  fS : ∀ b, (Value.slice Sf st.safe.length cs).ownBlock = some b → F b
  fW : ∀ i b, (valAt D i).ownBlock = some b → F b
  dSW : ∀ i b, (valAt D i).ownBlock = some b → (Value.slice Sf st.safe.length cs).ownBlock ≠ some b
  dWW : ∀ i j b, i ≠ j → (valAt D i).ownBlock = some b → (valAt D j).ownBlock ≠ some b
  apart : ∀ b, F b → ¬ B b
  lt : ∀ b, F b ∨ B b → b < W.heap.size
  has : ∀ i, Go.Maps.has D (.int .i64 i) = true → st.wait i ≠ []
def DiskAt (W : World) (P : Nat) (F B : Nat → Prop) (n : Nat) (st : DiskSt) : Prop := ∃ Sf cs M D, DiskW W P Sf cs M D F B n st
/-- Nothing that was there is written but blocks of F. -/
structure Only (F : Nat → Prop) (W W' : World) : Prop where
  os : W'.os = W.os
  tape : W'.tape = W.tape
  output : W'.output = W.output
  size : W.heap.size ≤ W'.heap.size
  block : ∀ b, b < W.heap.size → ¬ F b → W'.heap[b]? = W.heap[b]?
theorem Only.refl (F : Nat → Prop) (W : World) : Only F W W := ⟨rfl, rfl, rfl, Nat.le_refl _, fun _ _ _ => rfl⟩
theorem Only.trans {F : Nat → Prop} {X Y Z : World} (h : Only F X Y) (k : Only F Y Z) : Only F X Z :=
  ⟨k.os.trans h.os, k.tape.trans h.tape, k.output.trans h.output, Nat.le_trans h.size k.size, fun b hb hf => (k.block b (Nat.lt_of_lt_of_le hb h.size) hf).trans (h.block b hb hf)⟩
theorem Only.of_below {F : Nat → Prop} {X Y : World} (h : Below X.heap.size X Y) : Only F X Y := ⟨h.os, h.tape, h.output, h.size, fun b hb _ => h.block b hb⟩
theorem Only.set {F : Nat → Prop} {X : World} {P i : Nat} {v : Value} (h : F P) : Only F X (X.setCell ⟨P, i, none⟩ v) :=
  ⟨rfl, rfl, rfl, by simp, fun b _ hf => Below.heap_setCell _ _ _ _ (fun e => hf (by rw [e]; exact h))⟩
theorem Only.below {F : Nat → Prop} {X Y : World} {base : Nat} (h : Only F X Y) (hb : base ≤ X.heap.size) (hf : ∀ b, F b → base ≤ b) : Below base X Y :=
  ⟨h.os, h.tape, h.output, h.size, fun b hl => h.block b (by omega) (fun hF => by have := hf b hF; omega)⟩

namespace DiskW
variable {W W' : World} {P : Nat} {Sf : Option Addr} {cs M : Nat} {D : DataW Value} {F B : Nat → Prop} {n : Nat} {st : DiskSt}

theorem sP (h : DiskW W P Sf cs M D F B n st) {b : Nat} (hb : (Value.slice Sf st.safe.length cs).ownBlock = some b) : b ≠ P := by
  rintro rfl
  obtain ⟨cur, hc⟩ := acc_block h.safe hb
  rw [h.blk] at hc; cases hc
theorem wP (h : DiskW W P Sf cs M D F B n st) {i : Int} {b : Nat} (hb : (valAt D i).ownBlock = some b) : b ≠ P := by
  rintro rfl
  obtain ⟨cur, hc⟩ := acc_block (h.wt i) hb
  rw [h.blk] at hc; cases hc
theorem mP (h : DiskW W P Sf cs M D F B n st) : M ≠ P := by
  rintro rfl
  obtain ⟨es, clock, hb, _⟩ := h.map
  rw [h.blk] at hb; cases hb
theorem map_keep (h : DiskW W P Sf cs M D F B n st) (hk : W'.heap[M]? = W.heap[M]?) : W'.ownsMap Try.prog 3 heldElem M n D := by
  obtain ⟨es, clock, hb, r⟩ := h.map
  exact ⟨es, clock, hk.trans hb, r⟩

/-- Whatever leaves its blocks leaves the device. -/
theorem keep (h : DiskW W P Sf cs M D F B n st) (hs : W.heap.size ≤ W'.heap.size) (hk : ∀ b, F b ∨ B b → W'.heap[b]? = W.heap[b]?) : DiskW W' P Sf cs M D F B n st :=
  ⟨(hk P (.inl h.fP)).trans h.blk,
   Rep.acc_keep (fun b hb _ => hk b (hb.elim .inr fun e => .inl (h.fS b e))) (fun _ hb _ => hb) h.safe,
   h.map_keep (hk M (.inl h.fM)),
   fun i => Rep.acc_keep (fun b hb _ => hk b (hb.elim .inr fun e => .inl (h.fW i b e))) (fun _ hb _ => hb) (h.wt i),
   h.len, h.keys, h.wf, h.fP, h.fM, h.fS, h.fW, h.dSW, h.dWW, h.apart, fun b hb => Nat.lt_of_lt_of_le (h.lt b hb) hs, h.has⟩

/-- A field of numbers is written. -/
theorem scal (h : DiskW W P Sf cs M D F B n st) {st' : DiskSt} (hs : st'.safe = st.safe) (hw : st'.wait = st.wait) (hf : (Lit.int .i64 st'.fuse).wf = true)
    (hb : W'.heap[P]? = some (.cells #[.slice Sf st.safe.length cs, .map (some M), .int .i64 st'.fuse, .bool st'.off, .int .i64 st'.reads, .int .i64 st'.writes] 154 (0, 0)))
    (hz : W.heap.size ≤ W'.heap.size) (hk : ∀ b, b ≠ P → b < W.heap.size → W'.heap[b]? = W.heap[b]?) : DiskW W' P Sf cs M D F B n st' := by
  have hB : ∀ b, B b → b ≠ P := fun b hb e => h.apart P h.fP (e ▸ hb)
  refine ⟨by rw [hs]; exact hb, ?_, h.map_keep (hk M h.mP (h.lt M (.inl h.fM))), fun i => ?_, by rw [hw]; exact h.len, by rw [hw, hs]; exact h.keys, hf, h.fP, h.fM, by rw [hs]; exact h.fS, h.fW, by rw [hs]; exact h.dSW, h.dWW, h.apart, fun b hb => Nat.lt_of_lt_of_le (h.lt b hb) hz, by rw [hw]; exact h.has⟩
  · rw [hs]
    exact Rep.acc_keep (fun b hb _ => hk b (hb.elim (hB b) fun e => h.sP e) (h.lt b (hb.elim .inr fun e => .inl (h.fS b e)))) (fun _ hb _ => hb) h.safe
  · rw [hw]
    exact Rep.acc_keep (fun b hb _ => hk b (hb.elim (hB b) fun e => h.wP e) (h.lt b (hb.elim .inr fun e => .inl (h.fW i b e)))) (fun _ hb _ => hb) (h.wt i)
end DiskW
theorem DiskAt.keep {W W' : World} {P : Nat} {F B : Nat → Prop} {n : Nat} {st : DiskSt} (h : DiskAt W P F B n st) (hs : W.heap.size ≤ W'.heap.size) (hk : ∀ b, F b ∨ B b → W'.heap[b]? = W.heap[b]?) : DiskAt W' P F B n st := by
  obtain ⟨Sf, cs, M, D, h⟩ := h
  exact ⟨Sf, cs, M, D, h.keep hs hk⟩
theorem DiskAt.below {W W' : World} {P : Nat} {F B : Nat → Prop} {n : Nat} {st : DiskSt} (h : DiskAt W P F B n st) (hb : Below W.heap.size W W') : DiskAt W' P F B n st :=
  h.keep hb.size fun b hb' => hb.block b (by obtain ⟨_, _, _, _, h⟩ := h; exact h.lt b hb')

/-- What is left of the fuse; the error. -/
def burnSt (st : DiskSt) : DiskSt × Int :=
  if st.off then (st, 3) else if st.fuse = 0 then ({ st with off := true }, 3) else if 0 < st.fuse then ({ st with fuse := st.fuse - 1 }, 0) else (st, 0)
/-- May something be done to a sector? -/
def atSt (st : DiskSt) (i : Int) : DiskSt × Int := if i < 0 ∨ (st.safe.length : Int) ≤ i then (st, 2) else burnSt st
def StepPost (F B : Nat → Prop) (P n : Nat) (W : World) (r : DiskSt × Int) (e : Ending) (W' : World) : Prop := e = .returned (.int .i64 r.2) ∧ DiskAt W' P F B n r.1 ∧ Only F W W'

set_option maxRecDepth 100000 in
set_option maxHeartbeats 1000000 in
/-- (*disk.Disk).burn -/
theorem burn_calls {W : World} {P : Nat} {F B : Nat → Prop} {n : Nat} {st : DiskSt} (h : DiskAt W P F B n st) :
    Calls Try.prog 167 #[.pointer (some ⟨P, 0, none⟩)] W (StepPost F B P n W (burnSt st)) := by
  obtain ⟨Sf, cs, M, D, hd⟩ := h
  have e2 := cell_row hd.blk 2
  have e3 := cell_row hd.blk 3
  have z2 := frozen_row hd.blk 2
  have z3 := frozen_row hd.blk 3
  have hwf := hd.wf
  have hf1 : -9223372036854775808 ≤ st.fuse ∧ st.fuse ≤ 9223372036854775807 := by simpa [Lit.wf, IntKind.min, IntKind.max, IntKind.signed, IntKind.bits] using hwf
  have HD := Lib.hid hd
  have HP := Lib.hid hd.fP
  clear hd hwf
  obtain ⟨sf, wt, fuse, off, rd, wr⟩ := st
  dsimp only at *
  cases off with
  | true =>
    have HF := Lib.hid (show burnSt ⟨sf, wt, fuse, true, rd, wr⟩ = (⟨sf, wt, fuse, true, rd, wr⟩, 3) from rfl)
    go_enter Try.func167, Try.ntmps167
    go_wp2_with fail
    go_ret
    exact ⟨by rw [HF.out]; rfl, by rw [HF.out]; exact ⟨_, _, _, _, HD.out⟩, Only.refl _ _⟩
  | false =>
    by_cases h0 : fuse = 0
    · subst h0
      have HF := Lib.hid (show burnSt ⟨sf, wt, 0, false, rd, wr⟩ = (⟨sf, wt, 0, true, rd, wr⟩, 3) from rfl)
      go_enter Try.func167, Try.ntmps167
      go_wp2_with fail
      go_ret
      exact ⟨by rw [HF.out]; rfl, by rw [HF.out]; exact ⟨_, _, _, _, HD.out.scal rfl rfl HD.out.wf (heap_setRow HD.out.blk) (by simp) fun b hb _ => Below.heap_setCell _ _ _ _ hb⟩, Only.set HP.out⟩
    · have g0 : (fuse == 0) = false := by simpa using h0
      by_cases h1 : 0 < fuse
      · have HF := Lib.hid (show burnSt ⟨sf, wt, fuse, false, rd, wr⟩ = (⟨sf, wt, fuse - 1, false, rd, wr⟩, 0) by simp [burnSt, h0, h1])
        have HWF := Lib.hid (show (Lit.int .i64 (fuse - 1)).wf = true from wf_i64 (by omega) (by omega))
        clear h0
        go_enter Try.func167, Try.ntmps167
        go_wp2_with fail
        go_ret
        exact ⟨by rw [HF.out]; rfl, by rw [HF.out]; exact ⟨_, _, _, _, HD.out.scal rfl rfl HWF.out (heap_setRow HD.out.blk) (by simp) fun b hb _ => Below.heap_setCell _ _ _ _ hb⟩, Only.set HP.out⟩
      · have HF := Lib.hid (show burnSt ⟨sf, wt, fuse, false, rd, wr⟩ = (⟨sf, wt, fuse, false, rd, wr⟩, 0) by simp [burnSt, h0, h1])
        clear h0
        go_enter Try.func167, Try.ntmps167
        go_wp2_with fail
        go_ret
        exact ⟨by rw [HF.out]; rfl, by rw [HF.out]; exact ⟨_, _, _, _, HD.out⟩, Only.refl _ _⟩
end Go.Proofs.Ythjjnlilpklacaa
/- Walks of the device's small functions and of a read. -/
namespace Go.Proofs.Ythjjnlilpklacaa
open Go.RowKit

theorem DiskW.len_safe {W : World} {P : Nat} {Sf : Option Addr} {cs M : Nat} {D : DataW Value} {F B : Nat → Prop} {n : Nat} {st : DiskSt} (h : DiskW W P Sf cs M D F B n st) : st.safe.length ≤ cs ∧ cs ≤ maxLen := by
  obtain ⟨A, c, he, h1, h2⟩ := Rep.acc_form h.safe
  cases he; exact ⟨h1, h2⟩

def fuseSt (st : DiskSt) (k : Int) : DiskSt := { st with fuse := if k < -1 then -1 else k }
def VoidPost (F B : Nat → Prop) (P n : Nat) (W : World) (st : DiskSt) (e : Ending) (W' : World) : Prop := e = .returned (.tuple #[]) ∧ DiskAt W' P F B n st ∧ Only F W W'
set_option maxRecDepth 100000 in
set_option maxHeartbeats 1000000 in
/-- (*disk.Disk).Fuse -/
theorem fuse_calls {W : World} {P : Nat} {F B : Nat → Prop} {n : Nat} {st : DiskSt} {k : Int} (h : DiskAt W P F B n st) (hk : (Lit.int .i64 k).wf = true) :
    Calls Try.prog 43 #[.pointer (some ⟨P, 0, none⟩), .int .i64 k] W (VoidPost F B P n W (fuseSt st k)) := by
  obtain ⟨Sf, cs, M, D, hd⟩ := h
  have e2 := cell_row hd.blk 2
  have z2 := frozen_row hd.blk 2
  have HD := Lib.hid hd
  have HK := Lib.hid hk
  clear hd hk
  by_cases h1 : k < -1
  · have HF := Lib.hid (show fuseSt st k = { st with fuse := -1 } by unfold fuseSt; rw [if_pos h1])
    go_enter Try.func43, Try.ntmps43
    go_wp2_with fail
    all_goals
      refine ⟨rfl, .tuple #[], by simp [results], rfl, by rw [HF.out]; exact ⟨_, _, _, _, HD.out.scal rfl rfl rfl (heap_setRow HD.out.blk) (by simp) fun b hb _ => Below.heap_setCell _ _ _ _ hb⟩, Only.set HD.out.fP⟩
  · have HF := Lib.hid (show fuseSt st k = { st with fuse := k } by unfold fuseSt; rw [if_neg h1])
    go_enter Try.func43, Try.ntmps43
    go_wp2_with fail
    all_goals
      refine ⟨rfl, .tuple #[], by simp [results], rfl, by rw [HF.out]; exact ⟨_, _, _, _, HD.out.scal rfl rfl HK.out (by first | exact heap_setRow HD.out.blk | (have e : k = -1 := by omega; rw [e]; exact heap_setRow HD.out.blk)) (by simp) fun b hb _ => Below.heap_setCell _ _ _ _ hb⟩, Only.set HD.out.fP⟩

set_option maxRecDepth 100000 in
set_option maxHeartbeats 1000000 in
/-- (*disk.Disk).at -/
theorem dat_calls {W : World} {P : Nat} {F B : Nat → Prop} {n : Nat} {st : DiskSt} {i : Int} (h : DiskAt W P F B n st) :
    Calls Try.prog 142 #[.pointer (some ⟨P, 0, none⟩), .int .i64 i] W (StepPost F B P n W (atSt st i)) := by
  have HA := Lib.hid h
  obtain ⟨Sf, cs, M, D, hd⟩ := h
  have e0 := cell_row hd.blk 0
  clear hd
  by_cases h0 : i < 0
  · have HF := Lib.hid (show atSt st i = (st, 2) by unfold atSt; rw [if_pos (.inl h0)])
    go_enter Try.func142, Try.ntmps142
    go_wp2_with fail
    go_ret
    exact ⟨by rw [HF.out]; rfl, by rw [HF.out]; exact HA.out, Only.refl _ _⟩
  · by_cases h1 : (st.safe.length : Int) ≤ i
    · have HF := Lib.hid (show atSt st i = (st, 2) by unfold atSt; rw [if_pos (.inr h1)])
      go_enter Try.func142, Try.ntmps142
      go_wp2_with fail
      go_ret
      exact ⟨by rw [HF.out]; rfl, by rw [HF.out]; exact HA.out, Only.refl _ _⟩
    · have HF := Lib.hid (show atSt st i = burnSt st by unfold atSt; rw [if_neg (by omega)])
      go_enter Try.func142, Try.ntmps142
      go_wp2_with fail
      refine (burn_calls HA.out).mono ?_
      rintro e w1 ⟨rfl, hd1, ho⟩
      have HD1 := Lib.hid hd1
      have HO := Lib.hid ho
      clear hd1 ho
      go_wp2_with fail
      go_ret
      exact ⟨by rw [HF.out]; rfl, by rw [HF.out]; exact HD1.out, HO.out⟩

theorem wpList_lookup_held {w : World} {ops : Array Oper} {rest : List Oper} {o : Oper} {a : Act} {R : Exit → Act → World → Prop} (hg : o.guard = none) (m x : Operand) (hop : o.op = Op.lookup 152 m x false)
    {M n : Nat} {D : DataW Value} {i : Int} (hm : a.eval m = .map (some M)) (hx : a.eval x = .int .i64 i) (h : w.ownsMap Try.prog 3 heldElem M n D) (hi : (Lit.int .i64 i).wf = true)
    (hK : wpList Try.prog ops R rest (a.put o.dst (valAt D i)) w) : wpList Try.prog ops R (o :: rest) a w := by
  refine wpList_plain hg fun K' hK' => ?_
  have hrun := lookup_held h hi
  unfold Oper.wp
  simp [execOp, hop, hm, hx, hrun, Result.andThen]
  exact hK' _ _ hK
theorem last_nil {l : List (List UInt8)} {d : List UInt8} (h : l = []) : (l.getLast?).getD d = d := by subst h; rfl
theorem last_get {l : List (List UInt8)} {d : List UInt8} (h : 0 < l.length) : (l.getLast?).getD d = l[l.length - 1] := by
  rw [List.getLast?_eq_getElem?, List.getElem?_eq_getElem (by omega)]; rfl

/-- What a sector was written last. -/
def lastSt (st : DiskSt) (i : Int) : List UInt8 := ((st.wait i).getLast?).getD (st.safe.getD i.toNat [])
def readSt (st : DiskSt) (i : Int) : DiskSt × List UInt8 × Int :=
  if (atSt st i).2 = 0 then ({ (atSt st i).1 with reads := wrap64 ((atSt st i).1.reads + 1) }, lastSt st i, 0) else ((atSt st i).1, [], (atSt st i).2)
def ReadPost (F B : Nat → Prop) (P n : Nat) (W : World) (r : DiskSt × List UInt8 × Int) (e : Ending) (W' : World) : Prop :=
  ∃ u, e = .returned (.tuple #[u, .int .i64 r.2.2]) ∧ Rep.byte.list.val (fun b => W.heap.size ≤ b) W' u r.2.1 ∧ DiskAt W' P F B n r.1 ∧ Only F W W'

theorem burnSt_same (st : DiskSt) : (burnSt st).1.safe = st.safe ∧ (burnSt st).1.wait = st.wait := by
  unfold burnSt; split
  · exact ⟨rfl, rfl⟩
  · split
    · exact ⟨rfl, rfl⟩
    · split <;> exact ⟨rfl, rfl⟩
theorem atSt_same (st : DiskSt) (i : Int) : (atSt st i).1.safe = st.safe ∧ (atSt st i).1.wait = st.wait := by
  unfold atSt; split
  · exact ⟨rfl, rfl⟩
  · exact burnSt_same st
theorem atSt_range {st : DiskSt} {i : Int} (h : (atSt st i).2 = 0) : 0 ≤ i ∧ i < st.safe.length := by
  unfold atSt at h
  split at h
  · exact absurd (show (2 : Int) = 0 from h) (by decide)
  · omega

set_option maxRecDepth 100000 in
set_option maxHeartbeats 2000000 in
/-- (*disk.Disk).Read -/
theorem dread_calls {W : World} {P : Nat} {F B : Nat → Prop} {n : Nat} {st : DiskSt} {i : Int} (h : DiskAt W P F B n st) (hi : (Lit.int .i64 i).wf = true) (hl : ∀ x ∈ st.safe, x.length ≤ 100000) (hw : ∀ j, ∀ x ∈ st.wait j, x.length ≤ 100000) :
    Calls Try.prog 101 #[.pointer (some ⟨P, 0, none⟩), .int .i64 i] W (ReadPost F B P n W (readSt st i)) := by
  have HA := Lib.hid h
  have HI := Lib.hid hi
  have HZ := Lib.hid (show ∀ w' : World, Rep.byte.list.val (fun x => W.heap.size ≤ x) w' (.slice none 0 0) ([] : List UInt8) from fun w => Rep.val_nil (by simp [maxLen]))
  by_cases hc : (atSt st i).2 = 0
  case neg =>
    have HF := Lib.hid (show readSt st i = ((atSt st i).1, [], (atSt st i).2) by unfold readSt; rw [if_neg hc])
    have g0 : ((atSt st i).2 == 0) = false := by simpa using hc
    have HN := Lib.hid hc
    clear h hc
    go_enter Try.func101, Try.ntmps101
    go_wp2_with fail
    refine (dat_calls HA.out).mono ?_
    rintro e w1 ⟨rfl, hd1, ho⟩
    have HD1 := Lib.hid hd1
    have HO := Lib.hid ho
    clear hd1 ho
    go_wp2_with fail
    go_ret2
    exact ⟨_, by rw [HF.out]; rfl, by rw [HF.out]; exact HZ.out _, by rw [HF.out]; exact HD1.out, HO.out⟩
  case pos =>
    have HF := Lib.hid (show readSt st i = ({ (atSt st i).1 with reads := wrap64 ((atSt st i).1.reads + 1) }, lastSt st i, 0) by unfold readSt; rw [if_pos hc])
    have HC := Lib.hid hc
    have hr := atSt_range hc
    have hs := atSt_same st i
    have HL := Lib.hid (show ∀ x ∈ (atSt st i).1.safe, x.length ≤ 100000 by rw [hs.1]; exact hl)
    have HW := Lib.hid (show ∀ j, ∀ x ∈ (atSt st i).1.wait j, x.length ≤ 100000 by rw [hs.2]; exact hw)
    have HLS := Lib.hid (show lastSt st i = lastSt (atSt st i).1 i by unfold lastSt; rw [hs.1, hs.2])
    have HR := Lib.hid (show 0 ≤ i ∧ i < (atSt st i).1.safe.length by rw [hs.1]; exact hr)
    clear h hc hl hw hr hs
    go_enter Try.func101, Try.ntmps101
    go_wp2_with fail
    refine (dat_calls HA.out).mono ?_
    rintro e w1 ⟨rfl, hd1, ho⟩
    rw [HC.out]
    generalize (atSt st i).1 = s1 at *
    obtain ⟨k, rfl⟩ : ∃ k : Nat, i = k := ⟨i.toNat, by have := HR.out; omega⟩
    have hk : k < s1.safe.length := by have := HR.out; omega
    obtain ⟨Sf, cs, M, D, hd1⟩ := hd1
    have HD1 := Lib.hid hd1
    have HO1 := Lib.hid ho
    have e0 := cell_row hd1.blk 0
    have e1 := cell_row hd1.blk 1
    have e4 := cell_row hd1.blk 4
    have z4 := frozen_row hd1.blk 4
    obtain ⟨W2, hW2⟩ : ∃ W2, w1.setCell ⟨P, 4, none⟩ (.int .i64 (wrap64 (s1.reads + 1))) = W2 := ⟨_, rfl⟩
    have hd2 : DiskW W2 P Sf cs M D F B n { s1 with reads := wrap64 (s1.reads + 1) } := by
      rw [← hW2]; exact hd1.scal rfl rfl hd1.wf (heap_setRow hd1.blk) (by simp) fun b hb _ => Below.heap_setCell _ _ _ _ hb
    have HO2 := Lib.hid (show Only F W W2 from HO1.out.trans (by rw [← hW2]; exact Only.set hd1.fP))
    have HD2 := Lib.hid hd2
    have HW2 := Lib.hid hW2
    obtain ⟨AL, cL, hva, hcl, hcm⟩ := Rep.acc_form (hd2.wt k)
    have HVA := Lib.hid hva
    have hsl := hd1.len_safe
    clear hd1 ho hva hcl hcm hW2
    dsimp only at hd2 HVA HF
    by_cases hw0 : s1.wait k = []
    · have hl0 : (s1.wait k).length = 0 := by rw [hw0]; rfl
      rw [hl0] at HVA
      obtain ⟨bb, off, B5, c5, hSf, hcell, hc5, hm5, hat⟩ := Rep.At.list (by
        obtain ⟨A', c', he, h1, h2, h3⟩ := Rep.val_list (Rep.acc_val hd2.safe)
        cases he; exact h3) (List.getElem?_eq_getElem hk)
      subst hSf
      have HX := Lib.hid (show Rep.byte.list.val (fun _ => True) W2 (.slice B5 (s1.safe[k]).length c5) s1.safe[k] from Rep.val_mono (fun _ _ _ => trivial) (Rep.list_val rfl hc5 hm5 hat))
      have HXL := Lib.hid (HL.out _ (List.getElem_mem hk))
      have HLast := Lib.hid (show lastSt s1 k = s1.safe[k] by unfold lastSt; rw [last_nil hw0, List.getD_eq_getElem?_getD, Int.toNat_natCast, List.getElem?_eq_getElem hk]; rfl)
      generalize s1.safe[k] = x at *
      clear hat hd2
      rw [← HW2.out] at hcell
      go_wp2_with (at_lookup; refine wpList_lookup_held rfl (.tmp 24) (.tmp 25) rfl (M := M) (n := n) (D := D) (i := (k : Int)) (by exact rfl) (by exact rfl) (by rw [HW2.out]; exact HD2.out.map) HI.out ?_; rw [HVA.out])
      rw [HW2.out]
      refine (sliceClone HX.out (by have := HXL.out; omega)).mono ?_
      rintro e w3 ⟨u, rfl, hu, hb3⟩
      have HU := Lib.hid (Rep.acc_fresh hu)
      have HD3 := Lib.hid (show DiskAt w3 P F B n { s1 with reads := wrap64 (s1.reads + 1) } from DiskAt.below ⟨_, _, _, _, HD2.out⟩ hb3)
      have HO3 := Lib.hid (HO2.out.trans (Only.of_below hb3))
      have HSZ := Lib.hid HO2.out.size
      clear hu hb3
      go_wp2_with fail
      go_ret2
      exact ⟨_, by rw [HF.out]; rfl, by rw [HF.out]; show Rep.byte.list.val _ _ _ (lastSt st k); rw [HLS.out, HLast.out]; exact Rep.val_mono (fun b hb _ => Nat.le_trans HSZ.out hb) HU.out, by rw [HF.out]; exact HD3.out, HO3.out⟩
    · have hpos : 0 < (s1.wait k).length := by
        cases hq : s1.wait k with
        | nil => exact absurd hq hw0
        | cons _ _ => simp
      obtain ⟨m, hm⟩ : ∃ m, (s1.wait k).length = m + 1 := ⟨(s1.wait k).length - 1, by omega⟩
      have hlast : (s1.wait k).length - 1 = m := by omega
      have hmk : m < (s1.wait k).length := by omega
      obtain ⟨bb, off, B5, c5, hAL, hcell, hc5, hm5, hat⟩ := Rep.At.list (by
        obtain ⟨A', c', he, h1, h2, h3⟩ := Rep.val_list (Rep.acc_val (hd2.wt k))
        rw [HVA.out] at he
        cases he; exact h3) (List.getElem?_eq_getElem hmk)
      subst hAL
      have HX := Lib.hid (show Rep.byte.list.val (fun _ => True) W2 (.slice B5 ((s1.wait k)[m]).length c5) (s1.wait k)[m] from Rep.val_mono (fun _ _ _ => trivial) (Rep.list_val rfl hc5 hm5 hat))
      have HXL := Lib.hid (HW.out k _ (List.getElem_mem hmk))
      have HLast := Lib.hid (show lastSt s1 k = (s1.wait k)[m] by unfold lastSt; rw [last_get hpos]; congr 1)
      rw [hm] at HVA
      have hmx : (m : Int) + 1 ≤ 9223372036854775807 := by
        obtain ⟨A', c', he, h1, h2, _⟩ := Rep.val_list (Rep.acc_val (hd2.wt k))
        have h3 : (s1.wait k).length = m + 1 := hm
        have h1' : (s1.wait k).length ≤ c' := h1
        unfold maxLen at h2; omega
      generalize (s1.wait k)[m] = x at *
      clear hat hd2 hw0 hpos hm hlast hmk
      rw [← HW2.out] at hcell
      go_wp2_with (at_lookup; refine wpList_lookup_held rfl (.tmp 24) (.tmp 25) rfl (M := M) (n := n) (D := D) (i := (k : Int)) (by exact rfl) (by exact rfl) (by rw [HW2.out]; exact HD2.out.map) HI.out ?_; rw [HVA.out])
      rw [HW2.out]
      refine (sliceClone HX.out (by have := HXL.out; omega)).mono ?_
      rintro e w3 ⟨u, rfl, hu, hb3⟩
      have HU := Lib.hid (Rep.acc_fresh hu)
      have HD3 := Lib.hid (show DiskAt w3 P F B n { s1 with reads := wrap64 (s1.reads + 1) } from DiskAt.below ⟨_, _, _, _, HD2.out⟩ hb3)
      have HO3 := Lib.hid (HO2.out.trans (Only.of_below hb3))
      have HSZ := Lib.hid HO2.out.size
      clear hu hb3
      go_wp2_with fail
      go_ret2
      exact ⟨_, by rw [HF.out]; rfl, by rw [HF.out]; show Rep.byte.list.val _ _ _ (lastSt st k); rw [HLS.out, HLast.out]; exact Rep.val_mono (fun b hb _ => Nat.le_trans HSZ.out hb) HU.out, by rw [HF.out]; exact HD3.out, HO3.out⟩
end Go.Proofs.Ythjjnlilpklacaa
/- Walk of bytes cut to a length: the program's. -/
namespace Go.Proofs.Ythjjnlilpklacaa
open Go.RowKit
open Extern.Stop (cell)

theorem zeroBytes_is (n : Nat) : zeroBytes n = ((zeros n).map cell).toArray := by
  apply Array.ext'
  rw [zeroBytes, toList_madeCells_one]
  simp [zeros, cell]
theorem cut_splice (l : List UInt8) (n : Nat) : splice (zeros n) 0 (l.take n) = cutTo l n := by
  have hk : (l.take n).length ≤ n := by rw [List.length_take]; omega
  have hz : zeros n = zeros (l.take n).length ++ zeros (n - (l.take n).length) := by rw [← zeros_add]; congr 1; omega
  have h2 : n - (l.take n).length = n - l.length := by rw [List.length_take]; omega
  rw [hz, splice_here (zeros_length _), cutTo, h2]; rfl

set_option maxRecDepth 100000 in
set_option maxHeartbeats 1000000 in
/-- le.Cut -/
theorem lecut_calls {Q : Nat → Prop} {w : World} {v : Value} {l : List UInt8} {n : Nat} (hx : Rep.byte.list.val Q w v l) (hn : n ≤ 65535) :
    Calls Try.prog 123 #[v, .int .i64 n] w fun e w' => e = .returned (.slice (some ⟨w.heap.size, 0, none⟩) n n) ∧ w'.heap[w.heap.size]? = some (.cells ((cutTo l n).map cell).toArray 5 (0, 0)) ∧ Below w.heap.size w w' := by
  obtain ⟨A, c, rfl, hs⟩ := Rep.val_sl hx
  have hmk : ∀ w, (Instr.makeSlice 22 (.int .i64 (n : Int)) (.int .i64 (n : Int))).run Try.prog w = .ok (.slice (some ⟨w.heap.size, 0, none⟩) n n) (w.alloc (.cells (zeroBytes n) 5)) :=
    fun w => run_make_bytes Try.underlying22 info5 n (by omega) w
  have HG := Lib.hid (show (w.alloc (.cells (zeroBytes n) 5)).heap[w.heap.size]? = some (.cells ((zeros n).map cell).toArray 5 (0, 0)) by rw [heap_alloc_new, zeroBytes_is])
  have HB := Lib.hid (show Below w.heap.size w (w.alloc (.cells (zeroBytes n) 5)) from (Below.refl _ _).alloc (Nat.le_refl _) _)
  have HS := Lib.hid (hs.keep (w' := w.alloc (.cells (zeroBytes n) 5)) (Q' := fun _ => True) fun b hb hl => ⟨trivial, Below.heap_alloc _ _ _ hl.lt⟩)
  have HC := Lib.hid (copy_from (X := l.take n) (c := c) (A := A) (w := w.alloc (.cells (zeroBytes n) 5)) (Q := fun _ => True) (by have := HS.out; exact ⟨by rw [List.length_take]; have := this.1; omega, this.2.1, this.2.2.take n⟩))
  have HE := Lib.hid (cut_splice l n)
  have HL := Lib.hid (show ((l.take n).map cell).length = Nat.min l.length n by rw [List.length_map, List.length_take]; exact Nat.min_comm _ _)
  have HF := Lib.hid (show 0 + ((l.take n).map cell).length ≤ ((zeros n).map cell).length by rw [List.length_map, List.length_map, List.length_take, zeros_length]; omega)
  have n1 : (0 : Int) ≤ n := by omega
  have n2 : (n : Int) ≤ 65535 := by omega
  clear hx hs hn
  obtain ⟨Y, hY⟩ : ∃ Y, Y = l.take n := ⟨_, rfl⟩
  rw [← hY] at HC HE HL HF
  clear hY
  obtain ⟨Z, hZ⟩ : ∃ Z, Z = zeroBytes n := ⟨_, rfl⟩
  rw [← hZ] at hmk HG HB HC
  clear HS hZ
  go_enter Try.func123, Try.ntmps123
  go_wp2_with (refine wpList_copy_splice rfl (.tmp 10) (.tmp 11) 22 22 rfl 5 Try.underlying22 size5 (some ⟨w.heap.size, 0, none⟩) A n n l.length c (by exact rfl) (by exact rfl) w.heap.size 0 ((zeros n).map cell) 5 HG.out (Y.map cell) HL.out (fun h => ⟨rfl, HC.out h⟩) HF.out (copy_one Y) w.heap.size w HB.out (Nat.le_refl _) ?_; intro w5 hg5 hb5; have H5 := Lib.hid hg5.out; have D5 := Lib.hid hb5; clear hg5 hb5)
  go_ret
  exact ⟨rfl, by rw [H5.out, ← splice_map, HE.out], D5.out⟩
end Go.Proofs.Ythjjnlilpklacaa
/- Walk of a write to the device. -/
namespace Go.Proofs.Ythjjnlilpklacaa
open Go.RowKit
open Extern.Stop (cell)

namespace DiskW
variable {W W' : World} {P : Nat} {Sf : Option Addr} {cs M : Nat} {D : DataW Value} {F B : Nat → Prop} {n : Nat} {st : DiskSt}
theorem sM (h : DiskW W P Sf cs M D F B n st) {b : Nat} (hb : (Value.slice Sf st.safe.length cs).ownBlock = some b) : b ≠ M := by
  rintro rfl
  obtain ⟨cur, hc⟩ := acc_block h.safe hb
  obtain ⟨es, clock, hm, _⟩ := h.map
  rw [hm] at hc; cases hc
theorem wM (h : DiskW W P Sf cs M D F B n st) {i : Int} {b : Nat} (hb : (valAt D i).ownBlock = some b) : b ≠ M := by
  rintro rfl
  obtain ⟨cur, hc⟩ := acc_block (h.wt i) hb
  obtain ⟨es, clock, hm, _⟩ := h.map
  rw [hm] at hc; cases hc
end DiskW

def pushSt (st : DiskSt) (i : Int) (x : List UInt8) : DiskSt := { st with wait := fun j => if j = i then st.wait i ++ [x] else st.wait j }
theorem DiskW.write {W2 w4 w5 w6 : World} {P : Nat} {Sf : Option Addr} {cs M : Nat} {D : DataW Value} {F B : Nat → Prop} {n : Nat} {st : DiskSt} (h : DiskW W2 P Sf cs M D F B n st) {i : Int} {x : List UInt8} {v' : Value}
    (hi : 0 ≤ i ∧ i < st.safe.length) (hb4 : Below W2.heap.size W2 w4) (hz4 : W2.heap.size < w4.heap.size) (ha : Rep.byte.list.acc 22 0 (fun b => B b ∨ b = W2.heap.size) w5 v' (st.wait i ++ [x]))
    (g5 : w4.grownBy w5 (valAt D i).ownBlock) (ho : v'.ownBlock = (valAt D i).ownBlock ∨ v'.ownBlock = some w4.heap.size) (hm : w6.ownsMap Try.prog 3 heldElem M (n + 1) (D.put (.int .i64 i) (.held v'))) (g6 : w5.grownBy w6 (some M)) :
    DiskW w6 P Sf cs M (D.put (.int .i64 i) (.held v')) (fun b => F b ∨ v'.ownBlock = some b) (fun b => B b ∨ b = W2.heap.size) (n + 1) (pushSt st i x) := by
  have hD := h.map.isMap
  have hMlt := h.lt M (.inl h.fM)
  have e : ∀ b, b < W2.heap.size → b ≠ M → (valAt D i).ownBlock ≠ some b → w6.heap[b]? = W2.heap[b]? := fun b hb h1 h2 => by
    have s4 := hb4.size
    have s5 := g5.size
    rw [g6.block b (by omega) (fun e => h1 (Option.some.inj e)), g5.block b (by omega) (fun e => h2 e.symm), hb4.block b hb]
  have hBM : ∀ b, B b → b ≠ M := fun b hb e => h.apart M h.fM (e ▸ hb)
  have hBW : ∀ b, B b → (valAt D i).ownBlock ≠ some b := fun b hb e => h.apart b (h.fW i b e) hb
  have hown5 : ∀ b, v'.ownBlock = some b → b < w5.heap.size := fun b hb => (Rep.acc_own ha b hb).2
  have hownM : ∀ b, v'.ownBlock = some b → b ≠ M := fun b hb => by
    rcases ho with ho | ho
    · exact h.wM (ho ▸ hb)
    · have := Option.some.inj (ho.symm.trans hb)
      have := hb4.size
      omega
  have hs6 : W2.heap.size ≤ w6.heap.size := Nat.le_trans hb4.size (Nat.le_trans g5.size g6.size)
  refine ⟨?_, ?_, hm, fun j => ?_, fun j => ?_, fun j hj => ?_, h.wf, .inl h.fP, .inl h.fM, fun b hb => .inl (h.fS b hb), fun j b hb => ?_, fun j b hb => ?_, fun j k b hne hb => ?_, fun b hb => ?_, fun b hb => ?_, fun j hj => ?_⟩
  · rw [e P (h.lt P (.inl h.fP)) h.mP.symm (fun hb => h.wP hb rfl)]; exact h.blk
  · exact Rep.acc_keep (fun b hb _ => e b (h.lt b (hb.elim .inr fun e => .inl (h.fS b e))) (hb.elim (hBM b) h.sM) (fun hw => hb.elim (fun hB => hBW b hB hw) (fun hs => h.dSW i b hw hs))) (fun _ hb _ => .inl hb) h.safe
  · by_cases hj : j = i
    · subst hj
      rw [valAt_put_same hD]
      show Rep.byte.list.acc _ _ _ _ _ (if j = j then st.wait j ++ [x] else st.wait j)
      rw [if_pos rfl]
      refine Rep.acc_keep (fun b hb hl => g6.block b hl.lt (fun e => ?_)) (fun _ hb _ => hb) ha
      have e := Option.some.inj e
      rcases hb with (hb | hb) | hb
      · exact hBM b hb e
      · omega
      · exact hownM b hb e
    · rw [valAt_put_other hj]
      show Rep.byte.list.acc _ _ _ _ _ (if j = i then st.wait i ++ [x] else st.wait j)
      rw [if_neg hj]
      exact Rep.acc_keep (fun b hb _ => e b (h.lt b (hb.elim .inr fun e => .inl (h.fW j b e))) (hb.elim (hBM b) h.wM) (fun hw => hb.elim (fun hB => hBW b hB hw) (fun hs => h.dWW i j b (fun e => hj e.symm) hw hs))) (fun _ hb _ => .inl hb) (h.wt j)
  · show (if j = i then st.wait i ++ [x] else st.wait j).length ≤ n + 1
    split
    · rw [List.length_append]; have := h.len i; simp; omega
    · have := h.len j; omega
  · change (if j = i then st.wait i ++ [x] else st.wait j) ≠ [] at hj
    split at hj
    · rename_i e; rw [e]; exact hi
    · exact h.keys j hj
  · by_cases hj : j = i
    · subst hj; rw [valAt_put_same hD] at hb; exact .inr hb
    · rw [valAt_put_other hj] at hb; exact .inl (h.fW j b hb)
  · show (Value.slice Sf st.safe.length cs).ownBlock ≠ some b
    by_cases hj : j = i
    · subst hj
      rw [valAt_put_same hD] at hb
      rcases ho with ho | ho
      · exact h.dSW j b (ho ▸ hb)
      · intro hs
        have h1 := h.lt b (.inl (h.fS b hs))
        have h2 := Option.some.inj (ho.symm.trans hb)
        omega
    · rw [valAt_put_other hj] at hb; exact h.dSW j b hb
  · by_cases hj : j = i
    · subst hj
      have hk : k ≠ j := fun e => hne e.symm
      rw [valAt_put_same hD] at hb
      rw [valAt_put_other hk]
      rcases ho with ho | ho
      · exact h.dWW j k b hne (ho ▸ hb)
      · intro hs
        have h1 := h.lt b (.inl (h.fW k b hs))
        have h2 := Option.some.inj (ho.symm.trans hb)
        omega
    · rw [valAt_put_other hj] at hb
      by_cases hk : k = i
      · subst hk
        rw [valAt_put_same hD]
        intro hs
        rcases ho with ho | ho
        · exact h.dWW j k b hj hb (ho ▸ hs)
        · have h1 := h.lt b (.inl (h.fW j b hb))
          have h2 := Option.some.inj (ho.symm.trans hs)
          omega
      · rw [valAt_put_other hk]; exact h.dWW j k b hne hb
  · rcases hb with hb | hb
    · rintro (h1 | h1)
      · exact h.apart b hb h1
      · have := h.lt b (.inl hb); omega
    · rintro (h1 | h1)
      · rcases ho with ho | ho
        · exact h.apart b (h.fW i b (ho ▸ hb)) h1
        · have := h.lt b (.inr h1)
          have := Option.some.inj (ho.symm.trans hb)
          omega
      · rcases ho with ho | ho
        · have := h.lt b (.inl (h.fW i b (ho ▸ hb))); omega
        · have := Option.some.inj (ho.symm.trans hb)
          omega
  · rcases hb with (hb | hb) | (hb | hb)
    · have := h.lt b (.inl hb); omega
    · have := hown5 b hb; have := g6.size; omega
    · have := h.lt b (.inr hb); omega
    · have := g5.size; have := g6.size; omega
  · show (if j = i then st.wait i ++ [x] else st.wait j) ≠ []
    by_cases hji : j = i
    · rw [if_pos hji]; simp
    · rw [if_neg hji]
      rw [Go.Maps.has_put_other (fun e => hji (by cases e; rfl))] at hj
      exact h.has j hj

def writeSt (st : DiskSt) (i : Int) (b : List UInt8) : DiskSt × Int :=
  if (atSt st i).2 = 0 then (pushSt { (atSt st i).1 with writes := wrap64 ((atSt st i).1.writes + 1) } i (cutTo b 512), 0) else ((atSt st i).1, (atSt st i).2)
def WritePost (F B : Nat → Prop) (P n : Nat) (W : World) (r : DiskSt × Int) (e : Ending) (W' : World) : Prop :=
  e = .returned (.int .i64 r.2) ∧ Only F W W' ∧ ∃ F' B' : Nat → Prop, DiskAt W' P F' B' (n + 1) r.1 ∧ (∀ b, F' b → F b ∨ W.heap.size ≤ b) ∧ (∀ b, B' b → B b ∨ W.heap.size ≤ b) ∧ (∀ b, F b → F' b)
theorem DiskW.more {W : World} {P : Nat} {Sf : Option Addr} {cs M : Nat} {D : DataW Value} {F B : Nat → Prop} {n n' : Nat} {st : DiskSt} (h : DiskW W P Sf cs M D F B n st) (hn : n ≤ n') : DiskW W P Sf cs M D F B n' st :=
  ⟨h.blk, h.safe, h.map.mono hn, h.wt, fun i => Nat.le_trans (h.len i) hn, h.keys, h.wf, h.fP, h.fM, h.fS, h.fW, h.dSW, h.dWW, h.apart, h.lt, h.has⟩
theorem exec_lookup {o : Oper} {a : Act} {w : World} {m x : Operand} {M n : Nat} {D : DataW Value} {i : Int} (ho : o.op = Op.lookup 152 m x false) (hm : a.eval m = .map (some M)) (hx : a.eval x = .int .i64 i)
    (h : w.ownsMap Try.prog 3 heldElem M n D) (hi : (Lit.int .i64 i).wf = true) : (execOp a.eval o).run Try.prog w = .ok (.value (valAt D i)) w := by
  have hrun := lookup_held h hi
  simp [execOp, ho, hm, hx, hrun, Result.andThen]
theorem exec_mapUpdate {o : Oper} {a : Act} {w w' : World} {m x y : Operand} {t : TypeId} {M : Nat} {key val : Value} (ho : o.op = Op.mapUpdate t m x y) (hm : a.eval m = .map (some M)) (hx : a.eval x = key) (hy : a.eval y = val)
    (hrun : (Instr.mapUpdate t (.map (some M)) key val).run Try.prog w = .ok () w') : (execOp a.eval o).run Try.prog w = .ok .skip w' := by
  simp [execOp, ho, hm, hx, hy, hrun, Result.andThen]

set_option maxRecDepth 100000 in
set_option maxHeartbeats 4000000 in
/-- (*disk.Disk).Write -/
theorem dwrite_calls {Q : Nat → Prop} {W : World} {P : Nat} {F B : Nat → Prop} {n : Nat} {st : DiskSt} {i : Int} {v : Value} {b : List UInt8} (h : DiskAt W P F B n st) (hi : (Lit.int .i64 i).wf = true) (hn : n ≤ 1000000000) (hx : Rep.byte.list.val Q W v b)
    (hQ : ∀ k, Q k → ¬ F k) :
    Calls Try.prog 97 #[.pointer (some ⟨P, 0, none⟩), .int .i64 i, v] W (WritePost F B P n W (writeSt st i b)) := by
  have HA := Lib.hid h
  have HI := Lib.hid hi
  by_cases hc : (atSt st i).2 = 0
  case neg =>
    have HF := Lib.hid (show writeSt st i b = ((atSt st i).1, (atSt st i).2) by unfold writeSt; rw [if_neg hc])
    have g0 : ((atSt st i).2 == 0) = false := by simpa using hc
    clear h hc
    go_enter Try.func97, Try.ntmps97
    go_wp2_with fail
    refine (dat_calls HA.out).mono ?_
    rintro e w1 ⟨rfl, hd1, ho⟩
    have HD1 := Lib.hid hd1
    have HO := Lib.hid ho
    clear hd1 ho
    go_wp2_with fail
    go_ret
    exact ⟨by rw [HF.out]; rfl, HO.out, F, B, by rw [HF.out]; obtain ⟨_, _, _, _, hh⟩ := HD1.out; exact ⟨_, _, _, _, hh.more (Nat.le_succ n)⟩, fun _ hb => .inl hb, fun _ hb => .inl hb, fun _ hb => hb⟩
  case pos =>
    have HF := Lib.hid (show writeSt st i b = (pushSt { (atSt st i).1 with writes := wrap64 ((atSt st i).1.writes + 1) } i (cutTo b 512), 0) by unfold writeSt; rw [if_pos hc])
    have HC := Lib.hid hc
    have hr := atSt_range hc
    have hs := atSt_same st i
    have HR := Lib.hid (show 0 ≤ i ∧ i < (atSt st i).1.safe.length by rw [hs.1]; exact hr)
    have HXB := Lib.hid (show ∀ W', Only F W W' → Rep.byte.list.val Q W' v b from fun W' ho => Rep.val_keep (fun k hk hl => ⟨hk, ho.block k hl.lt (hQ k hk)⟩) hx)
    clear h hc hr hs hx
    go_enter Try.func97, Try.ntmps97
    go_wp2_with fail
    refine (dat_calls HA.out).mono ?_
    rintro e w1 ⟨rfl, hd1, ho⟩
    rw [HC.out]
    generalize (atSt st i).1 = s1 at *
    obtain ⟨Sf, cs, M, D, hd1⟩ := hd1
    have HO1 := Lib.hid ho
    have e5 := cell_row hd1.blk 5
    have z5 := frozen_row hd1.blk 5
    obtain ⟨W2, hW2⟩ : ∃ W2, w1.setCell ⟨P, 5, none⟩ (.int .i64 (wrap64 (s1.writes + 1))) = W2 := ⟨_, rfl⟩
    have hd2 : DiskW W2 P Sf cs M D F B n { s1 with writes := wrap64 (s1.writes + 1) } := by
      rw [← hW2]; exact hd1.scal rfl rfl hd1.wf (heap_setRow hd1.blk) (by simp) fun b hb _ => Below.heap_setCell _ _ _ _ hb
    have HO2 := Lib.hid (show Only F W W2 from HO1.out.trans (by rw [← hW2]; exact Only.set hd1.fP))
    have HD2 := Lib.hid hd2
    have HW2 := Lib.hid hW2
    clear hd1 ho hd2 hW2
    go_wp2_with fail
    rw [HW2.out]
    clear HW2 e5 z5
    have KP := Lib.hid (show ∀ W', Below W2.heap.size W2 W' → W'.cell? ⟨P, 1, none⟩ = some (.map (some M)) from fun W' hb => (hb.cell (p := ⟨P, 1, none⟩) (HD2.out.lt P (.inl HD2.out.fP))).trans (cell_row HD2.out.blk 1))
    have s1' := KP.out W2.drew (Below.refl _ _).drew
    refine wp_region_held (S := fun W' => W'.cell? ⟨P, 1, none⟩ = some (.map (some M))) (by kernel_rfl) ?_
    refine wpAnyH_take (i := 0) (v := .pointer (some ⟨P, 0, none⟩)) rfl (by kernel_rfl) (by kernel_rfl) (by kernel_rfl) (fun _ _ _ h => h) (Or.inl ⟨by rfl, fun w' _ => by go_simp⟩) s1' ?_
    go_simp
    refine wpAnyH_take (i := 1) (v := .pointer (some ⟨P, 0, none⟩)) rfl (by kernel_rfl) (by kernel_rfl) (by kernel_rfl) (fun _ _ _ h => h) (Or.inl ⟨by rfl, fun w' _ => by go_simp⟩) s1' ?_
    go_simp
    refine wpAnyH_take (i := 2) (v := .pointer (some ⟨P, 1, none⟩)) rfl (by kernel_rfl) (by kernel_rfl) (by kernel_rfl) (fun _ _ _ h => h) (Or.inl ⟨by rfl, fun w' _ => by go_simp⟩) s1' ?_
    go_simp
    refine wpAnyH_take (i := 3) (v := .map (some M)) rfl (by kernel_rfl) (by kernel_rfl) (by kernel_rfl) (fun _ _ _ h => h) (Or.inl ⟨by rfl, fun w' h => by have hc : w'.cell? ⟨P, 1, none⟩ = some (.map (some M)) := h; go_simp⟩) s1' ?_
    go_simp
    refine wpAnyH_take (i := 4) (v := .int .i64 i) rfl (by kernel_rfl) (by kernel_rfl) (by kernel_rfl) (fun _ _ _ h => h) (Or.inl ⟨by rfl, fun w' _ => by go_simp⟩) s1' ?_
    go_simp
    refine wpAnyH_take (i := 5) (v := .pointer (some ⟨P, 0, none⟩)) rfl (by kernel_rfl) (by kernel_rfl) (by kernel_rfl) (fun _ _ _ h => h) (Or.inl ⟨by rfl, fun w' _ => by go_simp⟩) s1' ?_
    go_simp
    refine wpAnyH_take (i := 6) (v := .pointer (some ⟨P, 0, none⟩)) rfl (by kernel_rfl) (by kernel_rfl) (by kernel_rfl) (fun _ _ _ h => h) (Or.inl ⟨by rfl, fun w' _ => by go_simp⟩) s1' ?_
    go_simp
    refine wpAnyH_take (i := 7) (v := .pointer (some ⟨P, 1, none⟩)) rfl (by kernel_rfl) (by kernel_rfl) (by kernel_rfl) (fun _ _ _ h => h) (Or.inl ⟨by rfl, fun w' _ => by go_simp⟩) s1' ?_
    go_simp
    refine wpAnyH_take (i := 8) (v := .map (some M)) rfl (by kernel_rfl) (by kernel_rfl) (by kernel_rfl) (fun _ _ _ h => h) (Or.inl ⟨by rfl, fun w' h => by have hc : w'.cell? ⟨P, 1, none⟩ = some (.map (some M)) := h; go_simp⟩) s1' ?_
    go_simp
    refine wpAnyH_take (i := 9) (v := .int .i64 i) rfl (by kernel_rfl) (by kernel_rfl) (by kernel_rfl) (fun _ _ _ h => h) (Or.inl ⟨by rfl, fun w' _ => by go_simp⟩) s1' ?_
    go_simp
    refine wpAnyH_take (i := 11) (v := v) rfl (by kernel_rfl) (by kernel_rfl) (by kernel_rfl) (fun _ _ _ h => h) (Or.inl ⟨by rfl, fun w' _ => by go_simp⟩) s1' ?_
    go_simp
    refine wpAnyH_all (rs := [10, 12]) (by kernel_rfl) (by simp) ?_
    intro j hj
    rcases (by simpa using hj : j = 10 ∨ j = 12) with rfl | rfl
    · refine wpOp_step rfl (fun K hK => ?_)
      refine step_run rfl (exec_lookup (M := M) (n := n) (D := D) (i := i) rfl (by rfl) (by rfl) (HD2.out.map) HI.out) ?_
      go_simp
      refine hK _ _ ⟨KP.out _ (Below.refl _ _).drew, ?_⟩
      clear hK K
      refine wpAnyH_all (rs := [12]) (by kernel_rfl) (by simp) ?_
      intro j hj
      obtain rfl : j = 12 := by simpa using hj
      refine wpOp_step rfl (fun K hK => ?_)
      go_simp
      refine (lecut_calls (n := 512) (HXB.out _ (HO2.out.trans (Only.of_below (Below.refl _ _).drew))) (by decide)).mono ?_
      rintro e w3 ⟨rfl, hg, hb3⟩
      have HG := Lib.hid (show w3.heap[W2.heap.size]? = some (.cells ((cutTo b 512).map cell).toArray 5 (0, 0)) from hg)
      have HB3 := Lib.hid (show Below W2.heap.size W2 w3 from (Below.refl _ _).drew.trans hb3)
      clear hg hb3
      refine hK _ _ ⟨KP.out _ HB3.out, ?_⟩
      clear hK K
      refine wpAnyH_all (rs := [13]) (by kernel_rfl) (by simp) ?_
      intro j hj
      obtain rfl : j = 13 := by simpa using hj
      refine wpOp_step rfl (fun K hK => ?_)
      refine step_run rfl (exec_buildSlice (vy := .slice (some ⟨W2.heap.size, 0, none⟩) 512 512) rfl (.slice none 0 0) 1 Try.underlying24 info22' rfl rfl (by decide)) ?_
      go_simp
      have HB4 := Lib.hid (HB3.out.alloc HB3.out.size (.cells #[.slice (some ⟨W2.heap.size, 0, none⟩) 512 512] 22))
      refine hK _ _ ⟨KP.out _ HB4.out, ?_⟩
      clear hK K
      have hg4 := heap_alloc_new w3 (.cells #[.slice (some ⟨W2.heap.size, 0, none⟩) 512 512] 22)
      have hz3 : W2.heap.size < w3.heap.size := IsC.lt ⟨_, _, _, HG.out⟩
      have hz4 : (w3.alloc (.cells #[.slice (some ⟨W2.heap.size, 0, none⟩) 512 512] 22)).heap.size = w3.heap.size + 1 := by simp
      have hacc4 : Rep.byte.list.acc 22 0 (fun k => B k ∨ k = W2.heap.size) (w3.alloc (.cells #[.slice (some ⟨W2.heap.size, 0, none⟩) 512 512] 22)) (valAt D i) (s1.wait i) :=
        Rep.acc_keep (fun k hk hl => HB4.out.block k hl.lt) (fun _ hk _ => .inl hk) (HD2.out.wt i)
      have hu4 : Rep.byte.list.rd (fun k => (B k ∨ k = W2.heap.size) ∧ (valAt D i).ownBlock ≠ some k) (w3.alloc (.cells #[.slice (some ⟨W2.heap.size, 0, none⟩) 512 512] 22)) [.slice (some ⟨W2.heap.size, 0, none⟩) 512 512] (cutTo b 512) := by
        have hS : SecAt w3 W2.heap.size 5 (cutTo b 512) := ⟨HG.out, cutTo_length _ _⟩
        have hv := hS.sl (a := 0) (n := 512) (c := 512) (by omega) (by omega) (by simp [maxLen])
        rw [List.drop_zero, List.take_of_length_le (by rw [cutTo_length]; omega)] at hv
        have hv2 := Rep.val_keep (w' := w3.alloc (.cells #[.slice (some ⟨W2.heap.size, 0, none⟩) 512 512] 22)) (Q' := fun k => (B k ∨ k = W2.heap.size) ∧ (valAt D i).ownBlock ≠ some k) (fun k hk hl => ⟨⟨.inr hk, fun e => by have := HD2.out.lt k (.inl (HD2.out.fW i k e)); have hk' : k = W2.heap.size := hk; omega⟩, Below.heap_alloc _ _ _ hl.lt⟩) hv
        obtain ⟨A', c', he, h1, h2, es, h3, h4⟩ := Rep.val_list hv2
        have hlen : (cutTo b 512).length = 512 := cutTo_length _ _
        rw [hlen] at he
        cases he
        exact ⟨_, _, es, by rw [hlen], h1, h2, h3, h4⟩
      obtain ⟨v', w5, q1, q2, q3, q4⟩ := Rep.acc_more (P := Try.prog) (ty := 24) (ys := [cutTo b 512]) (A := some ⟨w3.heap.size, 0, none⟩) (m := 1) (c := 1) Try.underlying24 info22 rfl (by decide) rfl hacc4 rfl (Rep.row_one_elem hu4)
        (fun _ => ⟨w3.heap.size, 0, rfl, fun j u hj => by rw [cell_of_row _ _ _ _ _ _ hg4, Nat.zero_add, ← hj]; simp⟩) (by have := HD2.out.len i; have hl : (s1.wait i).length ≤ n := this; simp; unfold maxLen; omega) (by have := HD2.out.len i; have hl : (s1.wait i).length ≤ n := this; simp; omega) (Nat.zero_le _)
      have hD5 : w5.ownsMap Try.prog 3 heldElem M n D := by
        have hMl := HD2.out.lt M (.inl HD2.out.fM)
        exact HD2.out.map_keep ((q3.block M (by omega) (fun e => HD2.out.wM e.symm rfl)).trans (HB4.out.block M hMl))
      obtain ⟨w6, u1, u2, u3⟩ := hD5.update int_law Try.underlying152 (by unfold maxLen; omega) (key_i64 HI.out) (val := v') (d := .held v') (ps := []) rfl
      have hfin := HD2.out.write (x := cutTo b 512) HR.out HB4.out (by rw [hz4]; omega) q2 q3 q4 u2 u3
      have hP6 := cell_row hfin.blk 1
      refine wpAnyH_all (rs := [14]) (by kernel_rfl) (by simp) ?_
      intro j hj
      obtain rfl : j = 14 := by simpa using hj
      refine wpOp_step rfl (fun K hK => ?_)
      refine step_run rfl (exec_append (by rfl) (by rfl) (by rfl) q1) ?_
      go_simp
      refine hK _ _ ⟨?_, ?_⟩
      · have hPl := HD2.out.lt P (.inl HD2.out.fP)
        rw [World.cell?_of_block (w := w3.alloc (.cells #[.slice (some ⟨W2.heap.size, 0, none⟩) 512 512] 22)) (w' := w5) (a := ⟨P, 1, none⟩) (q3.block P (by omega) (fun e => HD2.out.wP e.symm rfl))]
        exact KP.out _ HB4.out
      clear hK K
      refine wpAnyH_all (rs := [15]) (by kernel_rfl) (by simp) ?_
      intro j hj
      obtain rfl : j = 15 := by simpa using hj
      refine wpOp_step rfl (fun K hK => ?_)
      refine step_run_skip rfl (exec_mapUpdate (M := M) (key := .int .i64 i) (val := v') rfl (by rfl) (by rfl) (by rfl) u1) ?_
      go_simp
      refine hK _ _ ⟨hP6, ?_⟩
      clear hK K
      refine wpAnyH_done (by kernel_rfl) ?_ _
      clear hP6 u1 q1 hg4
      have HFIN := Lib.hid hfin
      have HOF := Lib.hid (show Only F W w6 from by
        have s2 := HO2.out.size
        have s4 := HB4.out.size
        have s5 := q3.size
        refine ⟨(u3.os.trans q3.os).trans (HB4.out.os.trans HO2.out.os), (u3.tape.trans q3.tape).trans (HB4.out.tape.trans HO2.out.tape), (u3.output.trans q3.output).trans (HB4.out.output.trans HO2.out.output), Nat.le_trans s2 (Nat.le_trans s4 (Nat.le_trans s5 u3.size)), fun k hk hf => ?_⟩
        have hMF : ¬ k = M := fun e => hf (e ▸ HD2.out.fM)
        rw [u3.block k (by omega) (fun e => hMF (Option.some.inj e)), q3.block k (by omega) (fun e => hf (HD2.out.fW i k e.symm)), HB4.out.block k (by omega)]
        exact HO2.out.block k hk hf)
      have HFB := Lib.hid (show (∀ k, (F k ∨ v'.ownBlock = some k) → F k ∨ W.heap.size ≤ k) ∧ (∀ k, (B k ∨ k = W2.heap.size) → B k ∨ W.heap.size ≤ k) from by
        have s2 := HO2.out.size
        have s4 := HB4.out.size
        refine ⟨fun k hk => hk.elim .inl fun hk => ?_, fun k hk => hk.elim .inl fun hk => .inr (by omega)⟩
        rcases q4 with q4 | q4
        · exact .inl (HD2.out.fW i k (q4 ▸ hk))
        · have := Option.some.inj (q4.symm.trans hk)
          exact .inr (by omega))
      clear hfin u2 u3 q2 q3 q4 hacc4 hu4 hD5
      go_wp2_with fail
      go_ret
      exact ⟨by rw [HF.out]; rfl, HOF.out, _, _, by rw [HF.out]; exact ⟨_, _, _, _, HFIN.out⟩, HFB.out.1, HFB.out.2, fun _ hb => .inl hb⟩
    · refine wpOp_step rfl (fun K hK => ?_)
      go_simp
      refine (lecut_calls (n := 512) (HXB.out _ (HO2.out.trans (Only.of_below (Below.refl _ _).drew))) (by decide)).mono ?_
      rintro e w3 ⟨rfl, hg, hb3⟩
      have HG := Lib.hid (show w3.heap[W2.heap.size]? = some (.cells ((cutTo b 512).map cell).toArray 5 (0, 0)) from hg)
      have HB3 := Lib.hid (show Below W2.heap.size W2 w3 from (Below.refl _ _).drew.trans hb3)
      clear hg hb3
      refine hK _ _ ⟨KP.out _ HB3.out, ?_⟩
      clear hK K
      refine wpAnyH_all (rs := [10, 13]) (by kernel_rfl) (by simp) ?_
      intro j hj
      rcases (by simpa using hj : j = 10 ∨ j = 13) with rfl | rfl
      · refine wpOp_step rfl (fun K hK => ?_)
        refine step_run rfl (exec_lookup (M := M) (n := n) (D := D) (i := i) rfl (by rfl) (by rfl) (HD2.out.map_keep (HB3.out.block M (HD2.out.lt M (.inl HD2.out.fM)))) HI.out) ?_
        go_simp
        refine hK _ _ ⟨KP.out _ HB3.out, ?_⟩
        clear hK K
        refine wpAnyH_all (rs := [13]) (by kernel_rfl) (by simp) ?_
        intro j hj
        obtain rfl : j = 13 := by simpa using hj
        refine wpOp_step rfl (fun K hK => ?_)
        refine step_run rfl (exec_buildSlice (vy := .slice (some ⟨W2.heap.size, 0, none⟩) 512 512) rfl (.slice none 0 0) 1 Try.underlying24 info22' rfl rfl (by decide)) ?_
        go_simp
        have HB4 := Lib.hid (HB3.out.alloc HB3.out.size (.cells #[.slice (some ⟨W2.heap.size, 0, none⟩) 512 512] 22))
        refine hK _ _ ⟨KP.out _ HB4.out, ?_⟩
        clear hK K
        have hg4 := heap_alloc_new w3 (.cells #[.slice (some ⟨W2.heap.size, 0, none⟩) 512 512] 22)
        have hz3 : W2.heap.size < w3.heap.size := IsC.lt ⟨_, _, _, HG.out⟩
        have hz4 : (w3.alloc (.cells #[.slice (some ⟨W2.heap.size, 0, none⟩) 512 512] 22)).heap.size = w3.heap.size + 1 := by simp
        have hacc4 : Rep.byte.list.acc 22 0 (fun k => B k ∨ k = W2.heap.size) (w3.alloc (.cells #[.slice (some ⟨W2.heap.size, 0, none⟩) 512 512] 22)) (valAt D i) (s1.wait i) :=
          Rep.acc_keep (fun k hk hl => HB4.out.block k hl.lt) (fun _ hk _ => .inl hk) (HD2.out.wt i)
        have hu4 : Rep.byte.list.rd (fun k => (B k ∨ k = W2.heap.size) ∧ (valAt D i).ownBlock ≠ some k) (w3.alloc (.cells #[.slice (some ⟨W2.heap.size, 0, none⟩) 512 512] 22)) [.slice (some ⟨W2.heap.size, 0, none⟩) 512 512] (cutTo b 512) := by
          have hS : SecAt w3 W2.heap.size 5 (cutTo b 512) := ⟨HG.out, cutTo_length _ _⟩
          have hv := hS.sl (a := 0) (n := 512) (c := 512) (by omega) (by omega) (by simp [maxLen])
          rw [List.drop_zero, List.take_of_length_le (by rw [cutTo_length]; omega)] at hv
          have hv2 := Rep.val_keep (w' := w3.alloc (.cells #[.slice (some ⟨W2.heap.size, 0, none⟩) 512 512] 22)) (Q' := fun k => (B k ∨ k = W2.heap.size) ∧ (valAt D i).ownBlock ≠ some k) (fun k hk hl => ⟨⟨.inr hk, fun e => by have := HD2.out.lt k (.inl (HD2.out.fW i k e)); have hk' : k = W2.heap.size := hk; omega⟩, Below.heap_alloc _ _ _ hl.lt⟩) hv
          obtain ⟨A', c', he, h1, h2, es, h3, h4⟩ := Rep.val_list hv2
          have hlen : (cutTo b 512).length = 512 := cutTo_length _ _
          rw [hlen] at he
          cases he
          exact ⟨_, _, es, by rw [hlen], h1, h2, h3, h4⟩
        obtain ⟨v', w5, q1, q2, q3, q4⟩ := Rep.acc_more (P := Try.prog) (ty := 24) (ys := [cutTo b 512]) (A := some ⟨w3.heap.size, 0, none⟩) (m := 1) (c := 1) Try.underlying24 info22 rfl (by decide) rfl hacc4 rfl (Rep.row_one_elem hu4)
          (fun _ => ⟨w3.heap.size, 0, rfl, fun j u hj => by rw [cell_of_row _ _ _ _ _ _ hg4, Nat.zero_add, ← hj]; simp⟩) (by have := HD2.out.len i; have hl : (s1.wait i).length ≤ n := this; simp; unfold maxLen; omega) (by have := HD2.out.len i; have hl : (s1.wait i).length ≤ n := this; simp; omega) (Nat.zero_le _)
        have hD5 : w5.ownsMap Try.prog 3 heldElem M n D := by
          have hMl := HD2.out.lt M (.inl HD2.out.fM)
          exact HD2.out.map_keep ((q3.block M (by omega) (fun e => HD2.out.wM e.symm rfl)).trans (HB4.out.block M hMl))
        obtain ⟨w6, u1, u2, u3⟩ := hD5.update int_law Try.underlying152 (by unfold maxLen; omega) (key_i64 HI.out) (val := v') (d := .held v') (ps := []) rfl
        have hfin := HD2.out.write (x := cutTo b 512) HR.out HB4.out (by rw [hz4]; omega) q2 q3 q4 u2 u3
        have hP6 := cell_row hfin.blk 1
        refine wpAnyH_all (rs := [14]) (by kernel_rfl) (by simp) ?_
        intro j hj
        obtain rfl : j = 14 := by simpa using hj
        refine wpOp_step rfl (fun K hK => ?_)
        refine step_run rfl (exec_append (by rfl) (by rfl) (by rfl) q1) ?_
        go_simp
        refine hK _ _ ⟨?_, ?_⟩
        · have hPl := HD2.out.lt P (.inl HD2.out.fP)
          rw [World.cell?_of_block (w := w3.alloc (.cells #[.slice (some ⟨W2.heap.size, 0, none⟩) 512 512] 22)) (w' := w5) (a := ⟨P, 1, none⟩) (q3.block P (by omega) (fun e => HD2.out.wP e.symm rfl))]
          exact KP.out _ HB4.out
        clear hK K
        refine wpAnyH_all (rs := [15]) (by kernel_rfl) (by simp) ?_
        intro j hj
        obtain rfl : j = 15 := by simpa using hj
        refine wpOp_step rfl (fun K hK => ?_)
        refine step_run_skip rfl (exec_mapUpdate (M := M) (key := .int .i64 i) (val := v') rfl (by rfl) (by rfl) (by rfl) u1) ?_
        go_simp
        refine hK _ _ ⟨hP6, ?_⟩
        clear hK K
        refine wpAnyH_done (by kernel_rfl) ?_ _
        clear hP6 u1 q1 hg4
        have HFIN := Lib.hid hfin
        have HOF := Lib.hid (show Only F W w6 from by
          have s2 := HO2.out.size
          have s4 := HB4.out.size
          have s5 := q3.size
          refine ⟨(u3.os.trans q3.os).trans (HB4.out.os.trans HO2.out.os), (u3.tape.trans q3.tape).trans (HB4.out.tape.trans HO2.out.tape), (u3.output.trans q3.output).trans (HB4.out.output.trans HO2.out.output), Nat.le_trans s2 (Nat.le_trans s4 (Nat.le_trans s5 u3.size)), fun k hk hf => ?_⟩
          have hMF : ¬ k = M := fun e => hf (e ▸ HD2.out.fM)
          rw [u3.block k (by omega) (fun e => hMF (Option.some.inj e)), q3.block k (by omega) (fun e => hf (HD2.out.fW i k e.symm)), HB4.out.block k (by omega)]
          exact HO2.out.block k hk hf)
        have HFB := Lib.hid (show (∀ k, (F k ∨ v'.ownBlock = some k) → F k ∨ W.heap.size ≤ k) ∧ (∀ k, (B k ∨ k = W2.heap.size) → B k ∨ W.heap.size ≤ k) from by
          have s2 := HO2.out.size
          have s4 := HB4.out.size
          refine ⟨fun k hk => hk.elim .inl fun hk => ?_, fun k hk => hk.elim .inl fun hk => .inr (by omega)⟩
          rcases q4 with q4 | q4
          · exact .inl (HD2.out.fW i k (q4 ▸ hk))
          · have := Option.some.inj (q4.symm.trans hk)
            exact .inr (by omega))
        clear hfin u2 u3 q2 q3 q4 hacc4 hu4 hD5
        go_wp2_with fail
        go_ret
        exact ⟨by rw [HF.out]; rfl, HOF.out, _, _, by rw [HF.out]; exact ⟨_, _, _, _, HFIN.out⟩, HFB.out.1, HFB.out.2, fun _ hb => .inl hb⟩
      · refine wpOp_step rfl (fun K hK => ?_)
        refine step_run rfl (exec_buildSlice (vy := .slice (some ⟨W2.heap.size, 0, none⟩) 512 512) rfl (.slice none 0 0) 1 Try.underlying24 info22' rfl rfl (by decide)) ?_
        go_simp
        have HB4 := Lib.hid (HB3.out.alloc HB3.out.size (.cells #[.slice (some ⟨W2.heap.size, 0, none⟩) 512 512] 22))
        refine hK _ _ ⟨KP.out _ HB4.out, ?_⟩
        clear hK K
        refine wpAnyH_all (rs := [10]) (by kernel_rfl) (by simp) ?_
        intro j hj
        obtain rfl : j = 10 := by simpa using hj
        refine wpOp_step rfl (fun K hK => ?_)
        refine step_run rfl (exec_lookup (M := M) (n := n) (D := D) (i := i) rfl (by rfl) (by rfl) (HD2.out.map_keep (HB4.out.block M (HD2.out.lt M (.inl HD2.out.fM)))) HI.out) ?_
        go_simp
        refine hK _ _ ⟨KP.out _ HB4.out, ?_⟩
        clear hK K
        have hg4 := heap_alloc_new w3 (.cells #[.slice (some ⟨W2.heap.size, 0, none⟩) 512 512] 22)
        have hz3 : W2.heap.size < w3.heap.size := IsC.lt ⟨_, _, _, HG.out⟩
        have hz4 : (w3.alloc (.cells #[.slice (some ⟨W2.heap.size, 0, none⟩) 512 512] 22)).heap.size = w3.heap.size + 1 := by simp
        have hacc4 : Rep.byte.list.acc 22 0 (fun k => B k ∨ k = W2.heap.size) (w3.alloc (.cells #[.slice (some ⟨W2.heap.size, 0, none⟩) 512 512] 22)) (valAt D i) (s1.wait i) :=
          Rep.acc_keep (fun k hk hl => HB4.out.block k hl.lt) (fun _ hk _ => .inl hk) (HD2.out.wt i)
        have hu4 : Rep.byte.list.rd (fun k => (B k ∨ k = W2.heap.size) ∧ (valAt D i).ownBlock ≠ some k) (w3.alloc (.cells #[.slice (some ⟨W2.heap.size, 0, none⟩) 512 512] 22)) [.slice (some ⟨W2.heap.size, 0, none⟩) 512 512] (cutTo b 512) := by
          have hS : SecAt w3 W2.heap.size 5 (cutTo b 512) := ⟨HG.out, cutTo_length _ _⟩
          have hv := hS.sl (a := 0) (n := 512) (c := 512) (by omega) (by omega) (by simp [maxLen])
          rw [List.drop_zero, List.take_of_length_le (by rw [cutTo_length]; omega)] at hv
          have hv2 := Rep.val_keep (w' := w3.alloc (.cells #[.slice (some ⟨W2.heap.size, 0, none⟩) 512 512] 22)) (Q' := fun k => (B k ∨ k = W2.heap.size) ∧ (valAt D i).ownBlock ≠ some k) (fun k hk hl => ⟨⟨.inr hk, fun e => by have := HD2.out.lt k (.inl (HD2.out.fW i k e)); have hk' : k = W2.heap.size := hk; omega⟩, Below.heap_alloc _ _ _ hl.lt⟩) hv
          obtain ⟨A', c', he, h1, h2, es, h3, h4⟩ := Rep.val_list hv2
          have hlen : (cutTo b 512).length = 512 := cutTo_length _ _
          rw [hlen] at he
          cases he
          exact ⟨_, _, es, by rw [hlen], h1, h2, h3, h4⟩
        obtain ⟨v', w5, q1, q2, q3, q4⟩ := Rep.acc_more (P := Try.prog) (ty := 24) (ys := [cutTo b 512]) (A := some ⟨w3.heap.size, 0, none⟩) (m := 1) (c := 1) Try.underlying24 info22 rfl (by decide) rfl hacc4 rfl (Rep.row_one_elem hu4)
          (fun _ => ⟨w3.heap.size, 0, rfl, fun j u hj => by rw [cell_of_row _ _ _ _ _ _ hg4, Nat.zero_add, ← hj]; simp⟩) (by have := HD2.out.len i; have hl : (s1.wait i).length ≤ n := this; simp; unfold maxLen; omega) (by have := HD2.out.len i; have hl : (s1.wait i).length ≤ n := this; simp; omega) (Nat.zero_le _)
        have hD5 : w5.ownsMap Try.prog 3 heldElem M n D := by
          have hMl := HD2.out.lt M (.inl HD2.out.fM)
          exact HD2.out.map_keep ((q3.block M (by omega) (fun e => HD2.out.wM e.symm rfl)).trans (HB4.out.block M hMl))
        obtain ⟨w6, u1, u2, u3⟩ := hD5.update int_law Try.underlying152 (by unfold maxLen; omega) (key_i64 HI.out) (val := v') (d := .held v') (ps := []) rfl
        have hfin := HD2.out.write (x := cutTo b 512) HR.out HB4.out (by rw [hz4]; omega) q2 q3 q4 u2 u3
        have hP6 := cell_row hfin.blk 1
        refine wpAnyH_all (rs := [14]) (by kernel_rfl) (by simp) ?_
        intro j hj
        obtain rfl : j = 14 := by simpa using hj
        refine wpOp_step rfl (fun K hK => ?_)
        refine step_run rfl (exec_append (by rfl) (by rfl) (by rfl) q1) ?_
        go_simp
        refine hK _ _ ⟨?_, ?_⟩
        · have hPl := HD2.out.lt P (.inl HD2.out.fP)
          rw [World.cell?_of_block (w := w3.alloc (.cells #[.slice (some ⟨W2.heap.size, 0, none⟩) 512 512] 22)) (w' := w5) (a := ⟨P, 1, none⟩) (q3.block P (by omega) (fun e => HD2.out.wP e.symm rfl))]
          exact KP.out _ HB4.out
        clear hK K
        refine wpAnyH_all (rs := [15]) (by kernel_rfl) (by simp) ?_
        intro j hj
        obtain rfl : j = 15 := by simpa using hj
        refine wpOp_step rfl (fun K hK => ?_)
        refine step_run_skip rfl (exec_mapUpdate (M := M) (key := .int .i64 i) (val := v') rfl (by rfl) (by rfl) (by rfl) u1) ?_
        go_simp
        refine hK _ _ ⟨hP6, ?_⟩
        clear hK K
        refine wpAnyH_done (by kernel_rfl) ?_ _
        clear hP6 u1 q1 hg4
        have HFIN := Lib.hid hfin
        have HOF := Lib.hid (show Only F W w6 from by
          have s2 := HO2.out.size
          have s4 := HB4.out.size
          have s5 := q3.size
          refine ⟨(u3.os.trans q3.os).trans (HB4.out.os.trans HO2.out.os), (u3.tape.trans q3.tape).trans (HB4.out.tape.trans HO2.out.tape), (u3.output.trans q3.output).trans (HB4.out.output.trans HO2.out.output), Nat.le_trans s2 (Nat.le_trans s4 (Nat.le_trans s5 u3.size)), fun k hk hf => ?_⟩
          have hMF : ¬ k = M := fun e => hf (e ▸ HD2.out.fM)
          rw [u3.block k (by omega) (fun e => hMF (Option.some.inj e)), q3.block k (by omega) (fun e => hf (HD2.out.fW i k e.symm)), HB4.out.block k (by omega)]
          exact HO2.out.block k hk hf)
        have HFB := Lib.hid (show (∀ k, (F k ∨ v'.ownBlock = some k) → F k ∨ W.heap.size ≤ k) ∧ (∀ k, (B k ∨ k = W2.heap.size) → B k ∨ W.heap.size ≤ k) from by
          have s2 := HO2.out.size
          have s4 := HB4.out.size
          refine ⟨fun k hk => hk.elim .inl fun hk => ?_, fun k hk => hk.elim .inl fun hk => .inr (by omega)⟩
          rcases q4 with q4 | q4
          · exact .inl (HD2.out.fW i k (q4 ▸ hk))
          · have := Option.some.inj (q4.symm.trans hk)
            exact .inr (by omega))
        clear hfin u2 u3 q2 q3 q4 hacc4 hu4 hD5
        go_wp2_with fail
        go_ret
        exact ⟨by rw [HF.out]; rfl, HOF.out, _, _, by rw [HF.out]; exact ⟨_, _, _, _, HFIN.out⟩, HFB.out.1, HFB.out.2, fun _ hb => .inl hb⟩
end Go.Proofs.Ythjjnlilpklacaa
/- Walk of a new device. Printed by gen_disknew.py. -/
namespace Go.Proofs.Ythjjnlilpklacaa
open Go.RowKit
open Extern.Stop (cell)

/-- A sector of 512 bytes in a block of its own. -/
def rSec : Rep (List UInt8 × Nat) where
  size := 1
  wrap cs := cs.headD undef
  rd Q w cs x := cs = [.slice (some ⟨x.2, 0, none⟩) 512 512] ∧ Q x.2 ∧ SecAt w x.2 5 x.1
  len h := by rw [h.1]; rfl
  one h := by rw [h.1]; simp [Value.oneCell']
  back h := by rw [h.1]; rfl
  keep hk h := ⟨h.1, (hk _ h.2.1 ⟨_, _, _, h.2.2.blk⟩).1, h.2.2.keep (hk _ h.2.1 ⟨_, _, _, h.2.2.blk⟩).2⟩
theorem rSec_val {Q : Nat → Prop} {w : World} {b : Nat} {L : List UInt8} (h : SecAt w b 5 L) (hq : Q b) : rSec.val Q w (.slice (some ⟨b, 0, none⟩) 512 512) (L, b) := ⟨_, rfl, rfl, hq, h⟩
/-- A new device as0 it grows: k sectors so far. -/
structure NewAt (w0 W : World) (P M k : Nat) (Sf : Option Addr) (cs : Nat) (xs : List (List UInt8 × Nat)) : Prop where
  len : xs.length = k
  blk : W.heap[P]? = some (.cells #[.slice Sf k cs, .map (some M), .int .i64 (-1), .bool false, .int .i64 0, .int .i64 0] 154 (0, 0))
  acc : rSec.acc 22 (P + 1) (fun b => P < b) W (.slice Sf k cs) xs
  map : W.heap[M]? = some (.map #[] 0)
  bel : Below w0.heap.size w0 W
  dis : (xs.map (·.2)).Nodup
  lt : ∀ x ∈ xs, P < x.2 ∧ x.2 < W.heap.size
  pos : w0.heap.size ≤ M ∧ M < P ∧ P < W.heap.size
def newN (n : Int) : Nat := (if n < 0 then 0 else if 4096 < n then 4096 else n).toNat
def NewPost (w : World) (n : Int) (e : Ending) (W : World) : Prop :=
  ∃ P M Sf cs xs, e = .returned (.pointer (some ⟨P, 0, none⟩)) ∧ NewAt w W P M (newN n) Sf cs xs ∧ ∀ x ∈ xs, x.1 = zeros 512
theorem newN_cases (n : Int) : (n < 0 ∧ newN n = 0) ∨ (4096 < n ∧ newN n = 4096) ∨ (0 ≤ n ∧ n ≤ 4096 ∧ n = (newN n : Nat)) := by
  unfold newN
  by_cases h : n < 0
  · exact .inl ⟨h, by rw [if_pos h]; rfl⟩
  · by_cases h2 : 4096 < n
    · exact .inr (.inl ⟨h2, by rw [if_neg h, if_pos h2]; rfl⟩)
    · exact .inr (.inr ⟨by omega, by omega, by rw [if_neg h, if_neg h2]; omega⟩)

theorem new_step {w0 wr v5 W7 : World} {P M k : Nat} {Sf A7 : Option Addr} {cs c7 : Nat} {xs : List (List UInt8 × Nat)} {u : Array Value} (h : NewAt w0 wr P M k Sf cs xs) (hb6 : Below wr.heap.size wr (v5.alloc (.cells u 22))) (hl : wr.heap.size < v5.heap.size)
    (q2 : rSec.acc 22 (P + 1) (fun b => P < b) W7 (.slice A7 (k + 1) c7) (xs ++ [(zeros 512, wr.heap.size)])) (q3 : (v5.alloc (.cells u 22)).grownBy W7 (Value.slice Sf k cs).ownBlock)
    (b7 : W7.heap[P]? = some (.cells #[.slice Sf k cs, .map (some M), .int .i64 (-1), .bool false, .int .i64 0, .int .i64 0] 154 (0, 0))) (hx : (xs ++ [(zeros 512, wr.heap.size)]).length = k + 1) :
    NewAt w0 (W7.setCell ⟨P, 0, none⟩ (.slice A7 (k + 1) c7)) P M (k + 1) A7 c7 (xs ++ [(zeros 512, wr.heap.size)]) := by
  have hown := Rep.acc_own h.acc
  have hown7 := Rep.acc_own q2
  have hpos := h.pos
  have s6 := hb6.size
  have s7 := q3.size
  have hs5 : (v5.alloc (.cells u 22)).heap.size = v5.heap.size + 1 := by simp
  refine ⟨hx, heap_setRow b7, Rep.acc_keep (fun b hb _ => Below.heap_setCell _ _ _ _ ?_) (fun _ hb _ => hb) q2, ?_, ?_, ?_, fun x hx => ?_, ⟨hpos.1, hpos.2.1, by simp; omega⟩⟩
  · show b ≠ P
    rcases hb with hb | hb
    · have hb' : P < b := hb; omega
    · have := (hown7 b hb).1; omega
  · rw [Below.heap_setCell _ _ _ _ (show M ≠ P by omega), q3.block M (by omega) (fun e => by have := (hown M e.symm).1; omega), hb6.block M (by omega)]
    exact h.map
  · exact below_set ((h.bel.trans (hb6.mono h.bel.size)).grown q3 (by have := h.bel.size; omega) (fun b hb => by have := (hown b hb).1; omega)) (by omega)
  · rw [List.map_append, List.nodup_append]
    refine ⟨h.dis, by simp, fun a ha b hb => ?_⟩
    simp at hb
    obtain ⟨x, hx, rfl⟩ := List.mem_map.1 ha
    have := (h.lt x hx).2
    omega
  · have hz : (W7.setCell ⟨P, 0, none⟩ (.slice A7 (k + 1) c7)).heap.size = W7.heap.size := by simp
    rw [hz]
    rcases List.mem_append.1 hx with hx | hx
    · have := h.lt x hx; omega
    · simp at hx; rw [hx]; exact ⟨hpos.2.2, by show wr.heap.size < _; omega⟩

set_option maxRecDepth 100000 in
set_option maxHeartbeats 400000 in
/-- disk.New -/
theorem dnew_calls {n : Int} (h0 : 0 ≤ n) (h1 : n ≤ 4096) (w : World) : Calls Try.prog 41 #[.int .i64 n] w (NewPost w n) := by
  have hmk : ∀ w, (Instr.makeSlice 22 (.int .i64 512) (.int .i64 512)).run Try.prog w = .ok (.slice (some ⟨w.heap.size, 0, none⟩) 512 512) (w.alloc (.cells (zeroBytes 512) 5)) :=
    fun w => run_make_bytes Try.underlying22 info5 512 (by omega) w
  have hmm := @run_makeMap Try.prog
  obtain ⟨Z, hZ⟩ : ∃ Z, Z = zeroBytes 512 := ⟨_, rfl⟩
  rw [← hZ] at hmk
  have HZ := Lib.hid (show Z = ((zeros 512).map cell).toArray by rw [hZ, zeroBytes_is])
  clear hZ
  obtain ⟨N, hN⟩ : ∃ N, N = newN n := ⟨_, rfl⟩
  have hcase : n = (N : Int) := by rcases newN_cases n with h | h | h <;> omega
  have HN := Lib.hid hN
  have HN4 := Lib.hid (show N ≤ 4096 by omega)
  clear hN
  obtain ⟨W1, hW1⟩ : ∃ W1, w.alloc (.map #[] 0) = W1 := ⟨_, rfl⟩
  have hm1 : W1.heap[w.heap.size]? = some (.map #[] 0) := by rw [← hW1]; exact heap_alloc_new _ _
  have hb1 : Below w.heap.size w W1 := by rw [← hW1]; exact (Below.refl _ _).alloc (Nat.le_refl _) _
  have hz1 : W1.heap.size = w.heap.size + 1 := by rw [← hW1]; simp
  obtain ⟨W2, hW2⟩ : ∃ W2, W1.alloc (.cells #[.slice none 0 0, .map (some w.heap.size), .int .i64 (-1), .bool false, .int .i64 0, .int .i64 0] 154) = W2 := ⟨_, rfl⟩
  have hz2 : W2.heap.size = w.heap.size + 1 + 1 := by rw [← hW2]; simp [hz1]
  have H0 := Lib.hid (show NewAt w W2 (w.heap.size + 1) w.heap.size 0 none 0 [] from ⟨rfl, by rw [← hW2, ← hz1]; exact heap_alloc_new _ _, Rep.acc_nil, by rw [← hW2, heap_alloc_old _ _ (by omega)]; exact hm1, by rw [← hW2]; exact hb1.alloc (by omega) _, by simp, by simp, ⟨Nat.le_refl _, by omega, by omega⟩⟩)
  clear hm1 hb1
  subst hcase
  go_enter Try.func41, Try.ntmps41
  go_wp2_with fail
  try rw [hW1]
  try rw [hW2]
  go_wp2_with fail
  clear hW1 hW2 hz1 hz2
  go_loopw [10] (fun i wr => ∃ (k : Nat) (Sf : Option Addr) (cs : Nat) (xs : List (List UInt8 × Nat)), i = .int .i64 k ∧ k ≤ N ∧ NewAt w wr (w.heap.size + 1) w.heap.size k Sf cs xs ∧ Hid (∀ x ∈ xs, x.1 = zeros 512)) (fun i _ => N - (intOf i).toNat)
  case atStart => exact ⟨0, none, 0, [], rfl, Nat.zero_le _, H0.out, fun x hx => by simp at hx⟩
  case round =>
    obtain ⟨k, Sf, cs, xs, rfl, hk, hr, hall⟩ := hrel
    have HR := Lib.hid hr
    by_cases hlt : (k : Int) < N
    · have hk2 : k < 4096 := by have := HN4.out; omega
      have hgb := hr.blk
      have hgp := hr.pos
      have c0 := cell_row hr.blk 0
      clear hr
      go_wp2_with fail
      refine wp_region_any (by kernel_rfl) ?_
      try (change wpAny _ _ _ _ _ _ _ (World.drew _))
      refine wpAny_take (i := 0) (v := .pointer (some ⟨w.heap.size + 1, 0, none⟩)) rfl (by kernel_rfl) (by kernel_rfl) (by kernel_rfl) (fun _ _ _ h => h) (Or.inl ⟨by rfl, fun w' => by go_simp⟩) ?_
      go_simp
      refine wpAny_take (i := 1) (v := .pointer (some ⟨w.heap.size + 1, 0, none⟩)) rfl (by kernel_rfl) (by kernel_rfl) (by kernel_rfl) (fun _ _ _ h => h) (Or.inl ⟨by rfl, fun w' => by go_simp⟩) ?_
      go_simp
      refine wpAny_take (i := 2) (v := .pointer (some ⟨w.heap.size + 1, 0, none⟩)) rfl (by kernel_rfl) (by kernel_rfl) (by kernel_rfl) (fun _ _ _ h => h) (Or.inl ⟨by rfl, fun w' => by go_simp⟩) ?_
      go_simp
      refine wpAny_take (i := 3) (v := .pointer (some ⟨w.heap.size + 1, 0, none⟩)) rfl (by kernel_rfl) (by kernel_rfl) (by kernel_rfl) (fun _ _ _ h => h) (Or.inl ⟨by rfl, fun w' => by go_simp⟩) ?_
      go_simp
      refine any_step [4, 5] (by kernel_rfl) (by simp) ?_
      intro j hj
      rcases (by simpa using hj : j = 4 ∨ j = 5) with rfl | rfl
      · refine wpOp_step rfl (fun K hK => ?_)
        go_simp
        refine hK _ _ ?_
        clear hK K
        refine any_step [5] (by kernel_rfl) (by simp) ?_
        intro j hj
        obtain rfl : j = 5 := by simpa using hj
        refine wpOp_step rfl (fun K hK => ?_)
        go_simp
        refine hK _ _ ?_
        clear hK K
        have HB5 := Lib.hid (show Below wr.heap.size wr (wr.alloc (.cells Z 5)).drew from ((Below.refl _ _).alloc (Nat.le_refl _) _).drew)
        have HS5 := Lib.hid (show SecAt (wr.alloc (.cells Z 5)).drew wr.heap.size 5 (zeros 512) from ⟨by rw [← HZ.out]; exact heap_alloc_new wr _, zeros_length _⟩)
        have c5 := (HB5.out.cell (p := ⟨w.heap.size + 1, 0, none⟩) hgp.2.2).trans c0
        generalize (wr.alloc (.cells Z 5)).drew = W5 at *
        refine any_step [6] (by kernel_rfl) (by simp) ?_
        intro j hj
        obtain rfl : j = 6 := by simpa using hj
        refine wpOp_step rfl (fun K hK => ?_)
        refine step_run rfl (exec_buildSlice (vy := .slice (some ⟨wr.heap.size, 0, none⟩) 512 512) rfl (.slice none 0 0) 1 Try.underlying24 info22' rfl rfl (by decide)) ?_
        go_simp
        refine hK _ _ ?_
        clear hK K
        have HB6 := Lib.hid (HB5.out.alloc HB5.out.size (.cells #[.slice (some ⟨wr.heap.size, 0, none⟩) 512 512] 22))
        have c6 := (HB6.out.cell (p := ⟨w.heap.size + 1, 0, none⟩) hgp.2.2).trans c0
        have hg6 := heap_alloc_new W5 (.cells #[.slice (some ⟨wr.heap.size, 0, none⟩) 512 512] 22)
        have hz6 : (W5.alloc (.cells #[.slice (some ⟨wr.heap.size, 0, none⟩) 512 512] 22)).heap.size = W5.heap.size + 1 := by simp
        have hacc6 : rSec.acc 22 (w.heap.size + 1 + 1) (fun b => w.heap.size + 1 < b) (W5.alloc (.cells #[.slice (some ⟨wr.heap.size, 0, none⟩) 512 512] 22)) (.slice Sf k cs) xs :=
          Rep.acc_keep (fun b _ hl => HB6.out.block b hl.lt) (fun _ hb _ => hb) HR.out.acc
        have hown := Rep.acc_own HR.out.acc
        have hrd6 : rSec.rd (fun b => w.heap.size + 1 < b ∧ (Value.slice Sf k cs).ownBlock ≠ some b) (W5.alloc (.cells #[.slice (some ⟨wr.heap.size, 0, none⟩) 512 512] 22)) [.slice (some ⟨wr.heap.size, 0, none⟩) 512 512] (zeros 512, wr.heap.size) :=
          ⟨rfl, ⟨hgp.2.2, fun e => by have := (hown _ e).2; omega⟩, HS5.out.keep (heap_alloc_old _ _ HS5.out.lt)⟩
        obtain ⟨v', W7, q1, q2, q3, q4⟩ := Rep.acc_more (P := Try.prog) (ty := 24) (ys := [(zeros 512, wr.heap.size)]) (A := some ⟨W5.heap.size, 0, none⟩) (m := 1) (c := 1) Try.underlying24 info22 rfl (by decide) rfl hacc6 rfl (Rep.row_one_elem hrd6)
          (fun _ => ⟨W5.heap.size, 0, rfl, fun j u hj => by rw [cell_of_row _ _ _ _ _ _ hg6, Nat.zero_add, ← hj]; simp⟩) (by have := HR.out.len; simp; unfold maxLen; omega) (by have := HR.out.len; simp; omega) (by have := HB6.out.size; omega)
        obtain ⟨A7, c7, rfl, hf1, hf2⟩ := Rep.acc_form q2
        have hxl : (xs ++ [(zeros 512, wr.heap.size)]).length = k + 1 := by rw [List.length_append, HR.out.len]; rfl
        rw [hxl] at q1 q2 q4
        refine any_step [7] (by kernel_rfl) (by simp) ?_
        intro j hj
        obtain rfl : j = 7 := by simpa using hj
        refine wpOp_step rfl (fun K hK => ?_)
        refine step_run rfl (exec_append (by rfl) (by rfl) (by rfl) q1) ?_
        go_simp
        refine hK _ _ ?_
        clear hK K
        have hPne : ∀ W8 : World, (W5.alloc (.cells #[.slice (some ⟨wr.heap.size, 0, none⟩) 512 512] 22)).grownBy W8 (Value.slice Sf k cs).ownBlock → W8.heap[w.heap.size + 1]? = wr.heap[w.heap.size + 1]? := fun W8 hg => (hg.block _ (by have := HB6.out.size; omega) (fun e => by have := (hown _ e.symm).1; omega)).trans (HB6.out.block _ hgp.2.2)
        have b7 := (hPne W7 q3).trans hgb
        have d0 := cell_row b7 0
        have z0 := frozen_row b7 0
        refine wpAny_take (i := 8) (v := .pointer (some ⟨w.heap.size + 1, 0, none⟩)) rfl (by kernel_rfl) (by kernel_rfl) (by kernel_rfl) (fun _ _ _ h => h) (Or.inl ⟨by rfl, fun w' => by go_simp⟩) ?_
        go_simp
        refine wpAny_take (i := 9) (v := .pointer (some ⟨w.heap.size + 1, 0, none⟩)) rfl (by kernel_rfl) (by kernel_rfl) (by kernel_rfl) (fun _ _ _ h => h) (Or.inl ⟨by rfl, fun w' => by go_simp⟩) ?_
        go_simp
        refine any_step [10] (by kernel_rfl) (by simp) ?_
        intro j hj
        obtain rfl : j = 10 := by simpa using hj
        refine wpOp_step rfl (fun K hK => ?_)
        go_simp
        refine hK _ _ ?_
        clear hK K
        have HNEW := Lib.hid (new_step (w0 := w) (v5 := W5) HR.out HB6.out HS5.out.lt q2 q3 b7 hxl)
        have HALL := Lib.hid (show ∀ x ∈ xs ++ [(zeros 512, wr.heap.size)], x.1 = zeros 512 from fun x hx => by rcases List.mem_append.1 hx with hx | hx; exact hall x hx; simp at hx; rw [hx])
        refine wpAny_done (by kernel_rfl) ?_ _
        clear q1 q2 q3 q4 b7 d0 z0 hrd6 hacc6 hg6 hz6 hPne hown
        go_wp2_with fail
        exact ⟨⟨k + 1, _, _, _, by go_num, by omega, HNEW.out, HALL.out⟩, by simp [intOf]; omega⟩
      · refine wpOp_step rfl (fun K hK => ?_)
        go_simp
        refine hK _ _ ?_
        clear hK K
        have HB5 := Lib.hid (show Below wr.heap.size wr (wr.alloc (.cells Z 5)).drew from ((Below.refl _ _).alloc (Nat.le_refl _) _).drew)
        have HS5 := Lib.hid (show SecAt (wr.alloc (.cells Z 5)).drew wr.heap.size 5 (zeros 512) from ⟨by rw [← HZ.out]; exact heap_alloc_new wr _, zeros_length _⟩)
        have c5 := (HB5.out.cell (p := ⟨w.heap.size + 1, 0, none⟩) hgp.2.2).trans c0
        generalize (wr.alloc (.cells Z 5)).drew = W5 at *
        refine any_step [4, 6] (by kernel_rfl) (by simp) ?_
        intro j hj
        rcases (by simpa using hj : j = 4 ∨ j = 6) with rfl | rfl
        · refine wpOp_step rfl (fun K hK => ?_)
          go_simp
          refine hK _ _ ?_
          clear hK K
          refine any_step [6] (by kernel_rfl) (by simp) ?_
          intro j hj
          obtain rfl : j = 6 := by simpa using hj
          refine wpOp_step rfl (fun K hK => ?_)
          refine step_run rfl (exec_buildSlice (vy := .slice (some ⟨wr.heap.size, 0, none⟩) 512 512) rfl (.slice none 0 0) 1 Try.underlying24 info22' rfl rfl (by decide)) ?_
          go_simp
          refine hK _ _ ?_
          clear hK K
          have HB6 := Lib.hid (HB5.out.alloc HB5.out.size (.cells #[.slice (some ⟨wr.heap.size, 0, none⟩) 512 512] 22))
          have c6 := (HB6.out.cell (p := ⟨w.heap.size + 1, 0, none⟩) hgp.2.2).trans c0
          have hg6 := heap_alloc_new W5 (.cells #[.slice (some ⟨wr.heap.size, 0, none⟩) 512 512] 22)
          have hz6 : (W5.alloc (.cells #[.slice (some ⟨wr.heap.size, 0, none⟩) 512 512] 22)).heap.size = W5.heap.size + 1 := by simp
          have hacc6 : rSec.acc 22 (w.heap.size + 1 + 1) (fun b => w.heap.size + 1 < b) (W5.alloc (.cells #[.slice (some ⟨wr.heap.size, 0, none⟩) 512 512] 22)) (.slice Sf k cs) xs :=
            Rep.acc_keep (fun b _ hl => HB6.out.block b hl.lt) (fun _ hb _ => hb) HR.out.acc
          have hown := Rep.acc_own HR.out.acc
          have hrd6 : rSec.rd (fun b => w.heap.size + 1 < b ∧ (Value.slice Sf k cs).ownBlock ≠ some b) (W5.alloc (.cells #[.slice (some ⟨wr.heap.size, 0, none⟩) 512 512] 22)) [.slice (some ⟨wr.heap.size, 0, none⟩) 512 512] (zeros 512, wr.heap.size) :=
            ⟨rfl, ⟨hgp.2.2, fun e => by have := (hown _ e).2; omega⟩, HS5.out.keep (heap_alloc_old _ _ HS5.out.lt)⟩
          obtain ⟨v', W7, q1, q2, q3, q4⟩ := Rep.acc_more (P := Try.prog) (ty := 24) (ys := [(zeros 512, wr.heap.size)]) (A := some ⟨W5.heap.size, 0, none⟩) (m := 1) (c := 1) Try.underlying24 info22 rfl (by decide) rfl hacc6 rfl (Rep.row_one_elem hrd6)
            (fun _ => ⟨W5.heap.size, 0, rfl, fun j u hj => by rw [cell_of_row _ _ _ _ _ _ hg6, Nat.zero_add, ← hj]; simp⟩) (by have := HR.out.len; simp; unfold maxLen; omega) (by have := HR.out.len; simp; omega) (by have := HB6.out.size; omega)
          obtain ⟨A7, c7, rfl, hf1, hf2⟩ := Rep.acc_form q2
          have hxl : (xs ++ [(zeros 512, wr.heap.size)]).length = k + 1 := by rw [List.length_append, HR.out.len]; rfl
          rw [hxl] at q1 q2 q4
          refine any_step [7] (by kernel_rfl) (by simp) ?_
          intro j hj
          obtain rfl : j = 7 := by simpa using hj
          refine wpOp_step rfl (fun K hK => ?_)
          refine step_run rfl (exec_append (by rfl) (by rfl) (by rfl) q1) ?_
          go_simp
          refine hK _ _ ?_
          clear hK K
          have hPne : ∀ W8 : World, (W5.alloc (.cells #[.slice (some ⟨wr.heap.size, 0, none⟩) 512 512] 22)).grownBy W8 (Value.slice Sf k cs).ownBlock → W8.heap[w.heap.size + 1]? = wr.heap[w.heap.size + 1]? := fun W8 hg => (hg.block _ (by have := HB6.out.size; omega) (fun e => by have := (hown _ e.symm).1; omega)).trans (HB6.out.block _ hgp.2.2)
          have b7 := (hPne W7 q3).trans hgb
          have d0 := cell_row b7 0
          have z0 := frozen_row b7 0
          refine wpAny_take (i := 8) (v := .pointer (some ⟨w.heap.size + 1, 0, none⟩)) rfl (by kernel_rfl) (by kernel_rfl) (by kernel_rfl) (fun _ _ _ h => h) (Or.inl ⟨by rfl, fun w' => by go_simp⟩) ?_
          go_simp
          refine wpAny_take (i := 9) (v := .pointer (some ⟨w.heap.size + 1, 0, none⟩)) rfl (by kernel_rfl) (by kernel_rfl) (by kernel_rfl) (fun _ _ _ h => h) (Or.inl ⟨by rfl, fun w' => by go_simp⟩) ?_
          go_simp
          refine any_step [10] (by kernel_rfl) (by simp) ?_
          intro j hj
          obtain rfl : j = 10 := by simpa using hj
          refine wpOp_step rfl (fun K hK => ?_)
          go_simp
          refine hK _ _ ?_
          clear hK K
          have HNEW := Lib.hid (new_step (w0 := w) (v5 := W5) HR.out HB6.out HS5.out.lt q2 q3 b7 hxl)
          have HALL := Lib.hid (show ∀ x ∈ xs ++ [(zeros 512, wr.heap.size)], x.1 = zeros 512 from fun x hx => by rcases List.mem_append.1 hx with hx | hx; exact hall x hx; simp at hx; rw [hx])
          refine wpAny_done (by kernel_rfl) ?_ _
          clear q1 q2 q3 q4 b7 d0 z0 hrd6 hacc6 hg6 hz6 hPne hown
          go_wp2_with fail
          exact ⟨⟨k + 1, _, _, _, by go_num, by omega, HNEW.out, HALL.out⟩, by simp [intOf]; omega⟩
        · refine wpOp_step rfl (fun K hK => ?_)
          refine step_run rfl (exec_buildSlice (vy := .slice (some ⟨wr.heap.size, 0, none⟩) 512 512) rfl (.slice none 0 0) 1 Try.underlying24 info22' rfl rfl (by decide)) ?_
          go_simp
          refine hK _ _ ?_
          clear hK K
          have HB6 := Lib.hid (HB5.out.alloc HB5.out.size (.cells #[.slice (some ⟨wr.heap.size, 0, none⟩) 512 512] 22))
          have c6 := (HB6.out.cell (p := ⟨w.heap.size + 1, 0, none⟩) hgp.2.2).trans c0
          refine any_step [4] (by kernel_rfl) (by simp) ?_
          intro j hj
          obtain rfl : j = 4 := by simpa using hj
          refine wpOp_step rfl (fun K hK => ?_)
          go_simp
          refine hK _ _ ?_
          clear hK K
          have hg6 := heap_alloc_new W5 (.cells #[.slice (some ⟨wr.heap.size, 0, none⟩) 512 512] 22)
          have hz6 : (W5.alloc (.cells #[.slice (some ⟨wr.heap.size, 0, none⟩) 512 512] 22)).heap.size = W5.heap.size + 1 := by simp
          have hacc6 : rSec.acc 22 (w.heap.size + 1 + 1) (fun b => w.heap.size + 1 < b) (W5.alloc (.cells #[.slice (some ⟨wr.heap.size, 0, none⟩) 512 512] 22)) (.slice Sf k cs) xs :=
            Rep.acc_keep (fun b _ hl => HB6.out.block b hl.lt) (fun _ hb _ => hb) HR.out.acc
          have hown := Rep.acc_own HR.out.acc
          have hrd6 : rSec.rd (fun b => w.heap.size + 1 < b ∧ (Value.slice Sf k cs).ownBlock ≠ some b) (W5.alloc (.cells #[.slice (some ⟨wr.heap.size, 0, none⟩) 512 512] 22)) [.slice (some ⟨wr.heap.size, 0, none⟩) 512 512] (zeros 512, wr.heap.size) :=
            ⟨rfl, ⟨hgp.2.2, fun e => by have := (hown _ e).2; omega⟩, HS5.out.keep (heap_alloc_old _ _ HS5.out.lt)⟩
          obtain ⟨v', W7, q1, q2, q3, q4⟩ := Rep.acc_more (P := Try.prog) (ty := 24) (ys := [(zeros 512, wr.heap.size)]) (A := some ⟨W5.heap.size, 0, none⟩) (m := 1) (c := 1) Try.underlying24 info22 rfl (by decide) rfl hacc6 rfl (Rep.row_one_elem hrd6)
            (fun _ => ⟨W5.heap.size, 0, rfl, fun j u hj => by rw [cell_of_row _ _ _ _ _ _ hg6, Nat.zero_add, ← hj]; simp⟩) (by have := HR.out.len; simp; unfold maxLen; omega) (by have := HR.out.len; simp; omega) (by have := HB6.out.size; omega)
          obtain ⟨A7, c7, rfl, hf1, hf2⟩ := Rep.acc_form q2
          have hxl : (xs ++ [(zeros 512, wr.heap.size)]).length = k + 1 := by rw [List.length_append, HR.out.len]; rfl
          rw [hxl] at q1 q2 q4
          refine any_step [7] (by kernel_rfl) (by simp) ?_
          intro j hj
          obtain rfl : j = 7 := by simpa using hj
          refine wpOp_step rfl (fun K hK => ?_)
          refine step_run rfl (exec_append (by rfl) (by rfl) (by rfl) q1) ?_
          go_simp
          refine hK _ _ ?_
          clear hK K
          have hPne : ∀ W8 : World, (W5.alloc (.cells #[.slice (some ⟨wr.heap.size, 0, none⟩) 512 512] 22)).grownBy W8 (Value.slice Sf k cs).ownBlock → W8.heap[w.heap.size + 1]? = wr.heap[w.heap.size + 1]? := fun W8 hg => (hg.block _ (by have := HB6.out.size; omega) (fun e => by have := (hown _ e.symm).1; omega)).trans (HB6.out.block _ hgp.2.2)
          have b7 := (hPne W7 q3).trans hgb
          have d0 := cell_row b7 0
          have z0 := frozen_row b7 0
          refine wpAny_take (i := 8) (v := .pointer (some ⟨w.heap.size + 1, 0, none⟩)) rfl (by kernel_rfl) (by kernel_rfl) (by kernel_rfl) (fun _ _ _ h => h) (Or.inl ⟨by rfl, fun w' => by go_simp⟩) ?_
          go_simp
          refine wpAny_take (i := 9) (v := .pointer (some ⟨w.heap.size + 1, 0, none⟩)) rfl (by kernel_rfl) (by kernel_rfl) (by kernel_rfl) (fun _ _ _ h => h) (Or.inl ⟨by rfl, fun w' => by go_simp⟩) ?_
          go_simp
          refine any_step [10] (by kernel_rfl) (by simp) ?_
          intro j hj
          obtain rfl : j = 10 := by simpa using hj
          refine wpOp_step rfl (fun K hK => ?_)
          go_simp
          refine hK _ _ ?_
          clear hK K
          have HNEW := Lib.hid (new_step (w0 := w) (v5 := W5) HR.out HB6.out HS5.out.lt q2 q3 b7 hxl)
          have HALL := Lib.hid (show ∀ x ∈ xs ++ [(zeros 512, wr.heap.size)], x.1 = zeros 512 from fun x hx => by rcases List.mem_append.1 hx with hx | hx; exact hall x hx; simp at hx; rw [hx])
          refine wpAny_done (by kernel_rfl) ?_ _
          clear q1 q2 q3 q4 b7 d0 z0 hrd6 hacc6 hg6 hz6 hPne hown
          go_wp2_with fail
          exact ⟨⟨k + 1, _, _, _, by go_num, by omega, HNEW.out, HALL.out⟩, by simp [intOf]; omega⟩
    · have hke : k = N := by omega
      have HK := Lib.hid hke
      go_wp2_with fail
      go_ret
      exact ⟨_, _, Sf, cs, xs, rfl, by rw [← HN.out, ← HK.out]; exact HR.out, hall⟩
end Go.Proofs.Ythjjnlilpklacaa
/- Walk of a device of given bytes. -/
namespace Go.Proofs.Ythjjnlilpklacaa
open Go.RowKit
open Extern.Stop (cell)

theorem sec_row {Q Q' : Nat → Prop} {W : World} : ∀ {xs : List (List UInt8 × Nat)} {cs : List Value}, rSec.row Q W cs xs → (∀ x ∈ xs, Q x.2 → Q' x.2) → Rep.byte.list.row Q' W cs (xs.map (·.1))
  | [], _, h, _ => h
  | x :: xs, _, h, hq => by
    obtain ⟨es, rest, rfl, ⟨rfl, h1, h2⟩, h3⟩ := h
    refine ⟨_, rest, rfl, ?_, sec_row h3 fun y hy => hq y (by simp [hy])⟩
    have hv := h2.sl (a := 0) (n := 512) (c := 512) (by omega) (by omega) (by simp [maxLen])
    rw [List.drop_zero, List.take_of_length_le (by rw [h2.len]; omega)] at hv
    have hv2 := Rep.val_mono (Q' := Q') (fun b hb _ => by have : b = x.2 := hb; rw [this]; exact hq x (by simp) h1) hv
    obtain ⟨A', c', he, g1, g2, es, g3, g4⟩ := Rep.val_list hv2
    have hlen := h2.len
    rw [hlen] at he
    cases he
    exact ⟨_, _, es, by rw [hlen], g1, g2, g3, g4⟩
def newSt (l : List (List UInt8)) : DiskSt := ⟨l, fun _ => [], -1, false, 0, 0⟩
theorem empty_map {W : World} {M : Nat} (h : W.heap[M]? = some (.map #[] 0)) : W.ownsMap Try.prog 3 heldElem M 0 (.map []) :=
  ⟨#[], 0, h, ⟨by simp, Go.MapKept.stamped_empty 0, by simp⟩, Nat.le_refl _, rfl⟩
/-- A new device is a device. -/
theorem NewAt.disk {w0 W : World} {P M k : Nat} {Sf : Option Addr} {cs : Nat} {xs : List (List UInt8 × Nat)} (h : NewAt w0 W P M k Sf cs xs) :
    DiskAt W P (fun b => b = P ∨ b = M ∨ (Value.slice Sf k cs).ownBlock = some b) (fun b => b ∈ xs.map (·.2) ∧ (Value.slice Sf k cs).ownBlock ≠ some b) 0 (newSt (xs.map (·.1))) := by
  have hl : (xs.map (·.1)).length = k := by rw [List.length_map]; exact h.len
  have hown := Rep.acc_own h.acc
  have hpos := h.pos
  refine ⟨Sf, cs, M, .map [], ⟨?_, ?_, empty_map h.map, fun i => Rep.acc_nil, fun i => Nat.le_refl _, fun i hi => absurd rfl hi, rfl, .inl rfl, .inr (.inl rfl), ?_, fun i b hb => (by cases hb), fun i b hb => (by cases hb), fun i j b _ hb => (by cases hb), fun b hb hB => ?_, fun b hb => ?_, fun i hi => by cases hi⟩⟩
  · show W.heap[P]? = some (.cells #[.slice Sf (xs.map (·.1)).length cs, _, _, _, _, _] _ _)
    rw [hl]; exact h.blk
  · show Rep.byte.list.acc 22 0 _ W (.slice Sf (xs.map (·.1)).length cs) (xs.map (·.1))
    rw [hl]
    obtain ⟨cells, h1, h2⟩ := h.acc
    refine ⟨cells, ⟨?_, ?_⟩, ?_⟩
    · have := h1.1; rw [this, h.len, hl]; rfl
    · rcases h1.2 with ⟨e, e0⟩ | ⟨g, cap, cur, e, hb, hh, g1, g2, g3, g4⟩
      · exact .inl ⟨e, by rw [hl]; rw [h.len] at e0; exact e0⟩
      · rw [h.len] at e g1 g4
        exact .inr ⟨g, cap, cur, by rw [hl]; exact e, Nat.zero_le _, hh, by rw [hl]; exact g1, g2, g3, by rw [hl]; exact g4⟩
    · exact sec_row h2 fun x hx hq => ⟨⟨List.mem_map.2 ⟨x, hx, rfl⟩, hq.2⟩, hq.2⟩
  · show ∀ b, (Value.slice Sf (xs.map (·.1)).length cs).ownBlock = some b → _
    rw [hl]; exact fun b hb => .inr (.inr hb)
  · obtain ⟨x, hx, rfl⟩ := List.mem_map.1 hB.1
    have := (h.lt x hx).1
    rcases hb with hb | hb | hb
    · omega
    · omega
    · exact hB.2 hb
  · rcases hb with (hb | hb | hb) | hb
    · omega
    · omega
    · exact (hown b hb).2
    · obtain ⟨x, hx, rfl⟩ := List.mem_map.1 hb.1
      exact (h.lt x hx).2

theorem row_set {Q : Nat → Prop} {W W' : World} {C : List UInt8} {bk : Nat} : ∀ {xs : List (List UInt8 × Nat)} {cs : List Value} {k : Nat} (_ : k < xs.length) (_ : (xs.map (·.2)).Nodup) (_ : rSec.row Q W cs xs) (_ : (xs[k]'‹_›).2 = bk) (_ : SecAt W' bk 5 C) (_ : ∀ b, b ≠ bk → W'.heap[b]? = W.heap[b]?), rSec.row Q W' cs (xs.set k (C, bk))
  | [], _, k, hk, _, _, _, _, _ => by simp at hk
  | x :: xs, _, 0, hk, hd, h, hbk, hc, hw => by
    obtain ⟨es, rest, rfl, ⟨rfl, h1, h2⟩, h3⟩ := h
    have e : x.2 = bk := hbk
    refine ⟨_, rest, rfl, ⟨by rw [← e], e ▸ h1, hc⟩, ?_⟩
    have hd2 := (List.nodup_cons.1 hd).1
    have : ∀ {ys : List (List UInt8 × Nat)} {cs : List Value}, (∀ y ∈ ys, y.2 ≠ bk) → rSec.row Q W cs ys → rSec.row Q W' cs ys := by
      intro ys
      induction ys with
      | nil => intro cs _ h; exact h
      | cons y ys ih =>
        intro cs hne h
        obtain ⟨es, rest, rfl, ⟨rfl, g1, g2⟩, g3⟩ := h
        exact ⟨_, rest, rfl, ⟨rfl, g1, g2.keep (hw _ (hne y (by simp)))⟩, ih (fun z hz => hne z (by simp [hz])) g3⟩
    exact this (fun y hy e2 => hd2 (List.mem_map.2 ⟨y, hy, e2.trans e.symm⟩)) h3
  | x :: xs, _, k + 1, hk, hd, h, hbk, hc, hw => by
    obtain ⟨es, rest, rfl, ⟨rfl, h1, h2⟩, h3⟩ := h
    have hd2 := (List.nodup_cons.1 hd)
    have hk2 : k < xs.length := by simpa using hk
    have hne : x.2 ≠ bk := fun e => hd2.1 (List.mem_map.2 ⟨xs[k], List.getElem_mem hk2, hbk.trans e.symm⟩)
    exact ⟨_, rest, rfl, ⟨rfl, h1, h2.keep (hw _ hne)⟩, row_set hk2 hd2.2 h3 hbk hc hw⟩
theorem NewAt.set {w0 W W' : World} {P M k j : Nat} {Sf : Option Addr} {cs : Nat} {xs : List (List UInt8 × Nat)} {C : List UInt8} {bk : Nat} (h : NewAt w0 W P M k Sf cs xs) (hj : j < xs.length) (hbk : xs[j].2 = bk)
    (hc : SecAt W' bk 5 C) (hw : ∀ b, b ≠ bk → W'.heap[b]? = W.heap[b]?) (hs : W'.heap.size = W.heap.size) (ho : W'.os = W.os ∧ W'.tape = W.tape ∧ W'.output = W.output) (hne : (Value.slice Sf k cs).ownBlock ≠ some bk) :
    NewAt w0 W' P M k Sf cs (xs.set j (C, bk)) := by
  have hlt := h.lt xs[j] (List.getElem_mem hj)
  rw [hbk] at hlt
  have hpos := h.pos
  have hmap : (xs.set j (C, bk)).map (·.2) = xs.map (·.2) := by
    rw [List.map_set]
    show (xs.map (·.2)).set j bk = xs.map (·.2)
    have : (xs.map (·.2))[j]'(by simpa using hj) = bk := by simp [hbk]
    rw [← this, List.set_getElem_self]
  obtain ⟨cells, h1, h2⟩ := h.acc
  refine ⟨by rw [List.length_set]; exact h.len, (hw P (by omega)).trans h.blk, ⟨cells, ?_, row_set hj h.dis h2 hbk hc hw⟩, (hw M (by omega)).trans h.map,
    ⟨ho.1.trans h.bel.os, ho.2.1.trans h.bel.tape, ho.2.2.trans h.bel.output, by rw [hs]; exact h.bel.size, fun b hb => (hw b (by omega)).trans (h.bel.block b hb)⟩, by rw [hmap]; exact h.dis, fun x hx => ?_, ⟨hpos.1, hpos.2.1, by rw [hs]; exact hpos.2.2⟩⟩
  · rw [List.length_set]
    refine ⟨h1.1, ?_⟩
    rcases h1.2 with e | ⟨g, cap, cur, e, hb, hh, r⟩
    · exact .inl e
    · refine .inr ⟨g, cap, cur, e, hb, (hw g (fun e2 => ?_)).trans hh, r⟩
      apply hne
      rw [e, e2]; rfl
  · rw [hs]
    rcases List.mem_or_eq_of_mem_set hx with hx | rfl
    · exact h.lt x hx
    · exact hlt

theorem step_copy_set {P : Program} {ops : Array Oper} {o : Oper} {a : Act} {w : World} {K : Act → World → Prop} {Q : Exit → Act → World → Prop} {E : Prop} (hgd : o.guard = none) (d s : Operand) (dT sT : TypeId)
    (ho : o.op = .call { callee := .builtin .copy, args := #[d, s], argTypes := #[dT, sT] }) (elem : TypeId) (hu : P.underlying dT = some (.slice elem)) (hsz : (P.info? elem).map (·.size) = some 1)
    (g off dLen dCap : Nat) (ad : Addr) (sLen sCap : Nat) (hd : a.eval d = .slice (some ⟨g, off, none⟩) dLen dCap) (hs : a.eval s = .slice (some ad) sLen sCap)
    (cur : Array Value) (t : TypeId) (hg : w.heap[g]? = some (.cells cur t (0, 0))) (cs : List Value) (hn : cs.length = Nat.min sLen dLen)
    (hsrc : ∀ j v, cs[j]? = some v → w.cell? (ad.add j) = some v) (hfit : off + cs.length ≤ cur.size) (h1 : ∀ v ∈ cs, v.oneCell' = true)
    (h : K (a.put o.dst (goInt cs.length)) (w.setRow g (splice cur.toList off cs).toArray)) :
    if Region.wanted o (yielded ops a.tmps) = true then Oper.wp P o a w K Q else E := by
  have hw : Region.wanted o (yielded ops a.tmps) = true := by simp [Region.wanted, hgd]
  rw [if_pos hw]
  have hrun := run_copy_row (P := P) w dT sT o.type elem g off dLen dCap ad sLen sCap cur t cs hu hsz hg hn hsrc hfit h1
  unfold Oper.wp
  simp [execOp, ho, resolve, invoke, builtin, hd, hs, hrun, Result.andThen]
  have h2 := h
  unfold splice at h2
  exact h2

def chunk (b : List UInt8) (k : Nat) : List UInt8 := (b.drop (512 * k)).take 512
def chunks (b : List UInt8) : List (List UInt8) := (List.range (b.length / 512)).map (chunk b)
def OfPost (w : World) (b : List UInt8) (e : Ending) (W : World) : Prop :=
  ∃ (P : Nat) (F B : Nat → Prop), e = .returned (.pointer (some ⟨P, 0, none⟩)) ∧ DiskAt W P F B 0 (newSt (chunks b)) ∧ (∀ k, F k ∨ B k → w.heap.size ≤ k) ∧ Below w.heap.size w W
theorem NewAt.old {w0 W : World} {P M k : Nat} {Sf : Option Addr} {cs : Nat} {xs : List (List UInt8 × Nat)} (h : NewAt w0 W P M k Sf cs xs) : ∀ b, ((b = P ∨ b = M ∨ (Value.slice Sf k cs).ownBlock = some b) ∨ (b ∈ xs.map (·.2) ∧ (Value.slice Sf k cs).ownBlock ≠ some b)) → w0.heap.size ≤ b := by
  intro b hb
  have hpos := h.pos
  rcases hb with (hb | hb | hb) | hb
  · omega
  · omega
  · have := (Rep.acc_own h.acc b hb).1; omega
  · obtain ⟨x, hx, rfl⟩ := List.mem_map.1 hb.1
    have := (h.lt x hx).1; omega
theorem splice_whole (Z X : List Value) (h : Z.length = X.length) : splice Z 0 X = X := by
  have := splice_here (B := Z) (T := []) h
  simpa using this

end Go.Proofs.Ythjjnlilpklacaa
