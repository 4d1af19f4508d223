/- Texts on which the proofs stand: IDs, Disk. No condition is laid on any input. -/
import Derived.Test.YteljibjbndpncaaWfG11
import Derived.Test.YteljibjbndpncaaWfG2
import Derived.Test.YteljibjbndpncaaWfSealGet
import Derived.Laws.StructEq
import Derived.Laws.Externs
import Derived.Lib.Bytealg
import Derived.Maps.OwnSet
/- Walks of the comparisons that the statements on views reach. -/

namespace Go.Proofs.Yteljibjbndpncaa
open Go.RowKit

def idV (x : DID) : Value := .agg #[.int .i64 x.index, .int .i64 x.gen]
theorem run_eql_id (x y : DID) (w : World) : (binOp .eql 114 (idV x) (idV y)).run Try.prog w = .ok (.bool (decide (x = y))) w := by
  have u3 := Try.underlying3
  have a3 := Try.isAgg3
  have z3 := Try.sizeOf3
  have hS : Try.prog.underlying 114 = some (.struct (Try.prog.fieldsOf 114)) := by kernel_rfl
  have hp : Try.prog.stoodInHeld 114 = false := by kernel_rfl
  simp only [idV]
  rw [run_eql_struct, show (10000 : Nat) = 9999 + 1 from rfl, run_equalIn_agg w 9999 114 _ _ hS hp]
  simp only [Program.fieldsOf, Try.underlying114]
  go_simp
  by_cases h1 : x.index = y.index <;> by_cases h2 : x.gen = y.gen <;> simp [h1, h2, DID.ext_iff]
theorem run_neq_id (x y : DID) (w : World) : (binOp .neq 114 (idV x) (idV y)).run Try.prog w = .ok (.bool (decide (x ≠ y))) w := by
  have h := run_eql_id x y w
  simp only [idV] at h ⊢
  rw [run_eql_struct] at h
  rw [run_neq_struct]
  cases hh : (Op.equalIn 10000 114 (.agg #[.int .i64 x.index, .int .i64 x.gen]) (.agg #[.int .i64 y.index, .int .i64 y.gen])).run Try.prog w with
  | ok b w' =>
    rw [hh] at h
    simp only [Result.andThen_ok, Result.ok.injEq, Value.bool.injEq] at h ⊢
    obtain ⟨rfl, rfl⟩ := h
    exact ⟨by simp, rfl⟩
  | halt s w' => rw [hh] at h; simp at h
theorem idGuard : Try.prog.eqGuardType Try.prog.depth 114 = false := by kernel_rfl

/-- The place of a component among parts; -1: there is none. -/
def partAt (l : List DPart) (k : Int) : Int := match l.findIdx? (fun p => p.comp == k) with
  | some i => i
  | none => -1
theorem partAt_found {l : List DPart} {k : Int} {j : Nat} (hj : j < l.length) (h : l[j].comp = k) (hb : ∀ p ∈ l.take j, p.comp ≠ k) : partAt l k = j := by
  unfold partAt
  have : l.findIdx? (fun p => p.comp == k) = some j := by
    rw [List.findIdx?_eq_some_iff_getElem]
    refine ⟨hj, by simp [h], fun i hi => ?_⟩
    have := hb l[i] (List.mem_take_iff_getElem.2 ⟨i, by omega, rfl⟩)
    simpa using this
  rw [this]
theorem partAt_none {l : List DPart} {k : Int} (hb : ∀ p ∈ l, p.comp ≠ k) : partAt l k = -1 := by
  unfold partAt
  have : l.findIdx? (fun p => p.comp == k) = none := by
    rw [List.findIdx?_eq_none_iff]
    intro p hp
    have := hb p hp
    simpa using this
  rw [this]
theorem forall_take_succ {α : Type} {P : α → Prop} {l : List α} {k : Nat} (hk : k < l.length) (h : ∀ p ∈ l.take k, P p) (hc : P l[k]) : ∀ p ∈ l.take (k + 1), P p := by
  rw [List.take_succ_eq_append_getElem hk]
  intro p hp
  rcases List.mem_append.1 hp with hp | hp
  · exact h p hp
  · rw [List.mem_singleton.1 hp]; exact hc

set_option maxRecDepth 100000 in
/-- ref11.Part -/
theorem part_calls {Q : Nat → Prop} {w : World} {v : Value} {l : List DPart} {k : Int} (hx : rPart.list.val Q w v l) :
    Calls Try.prog 153 #[v, .int .i64 k] w fun e w' => e = .returned (.int .i64 (partAt l k)) ∧ w' = w := by
  obtain ⟨A, c, rfl, hc1, hc2, hA⟩ := Rep.val_list hx
  unfold maxLen at hc2
  have HA := Lib.hid hA
  clear hx hA
  go_enter Try.func153, Try.ntmps153
  go_wp2_with fail
  go_loop [5] (fun i => ∃ j : Nat, i = .int .i64 j ∧ j ≤ l.length ∧ Hid (∀ p ∈ l.take j, p.comp ≠ k)) (fun i => l.length - (intOf i).toNat)
  case atStart => exact ⟨0, rfl, by omega, Lib.hid (by simp)⟩
  case round =>
    obtain ⟨j, rfl, hj, hb⟩ := hrel
    by_cases hlt : (j : Int) < l.length
    · have hj' : j < l.length := by omega
      obtain ⟨b, off, A2, c2, rfl, _, c0, c1, _, _⟩ := rPart_at HA.out (List.getElem?_eq_getElem hj')
      have F1 := Lib.hid (fun h => partAt_found hj' h hb.out)
      have F2 := Lib.hid (fun h => forall_take_succ (P := fun p : DPart => p.comp ≠ k) hj' hb.out h)
      generalize l[j] = x at *
      by_cases hc : x.comp = k
      · have F := Lib.hid (F1.out hc)
        have g : (x.comp == k) = true := by simp [hc]
        clear hc
        go_wp2_with fail
        go_ret
        exact ⟨by rw [F.out]; rfl, rfl⟩
      · have F := Lib.hid (F2.out hc)
        have g : (x.comp == k) = false := by simp [hc]
        clear hc
        go_wp2_with fail
        go_round
        case rel => exact ⟨j + 1, by go_num, by omega, F⟩
        case measure => simp [intOf]; omega
    · have F := Lib.hid (partAt_none (l := l) (k := k) (by have := hb.out; rwa [List.take_of_length_le (by omega)] at this))
      go_wp2_with fail
      go_ret
      exact ⟨by rw [F.out]; rfl, rfl⟩

/-- bytes.Equal -/
theorem bytesEqual {Q Q' : Nat → Prop} {w : World} {v u : Value} {xs ys : List UInt8} (hx : Rep.byte.list.val Q w v xs) (hy : Rep.byte.list.val Q' w u ys) :
    Calls Try.prog 84 #[v, u] w fun e w' => e = .returned (.bool (decide (xs = ys))) ∧ w' = w := by
  obtain ⟨A, c, rfl, hc1, hc2, hA⟩ := Rep.val_list hx
  obtain ⟨B, d, rfl, hd1, hd2, hB⟩ := Rep.val_list hy
  have h1 := hA.toText (P := Try.prog) Try.underlying33 Try.underlying5 Try.underlying9 c
  have h2 := hB.toText (P := Try.prog) Try.underlying33 Try.underlying5 Try.underlying9 d
  clear hx hy hA hB hc1 hc2 hd1 hd2
  go_enter Try.func84, Try.ntmps84
  go_wp2_with fail
  go_ret
  exact ⟨by simp [Bool.beq_eq_decide_eq], rfl⟩

theorem run_loadBytes {P : Program} {w : World} {b : Nat} : ∀ (l : List UInt8) (off : Nat) (acc : List UInt8), (∀ j x, l[j]? = some x → w.cell? ⟨b, off + j, none⟩ = some (.int .u8 (x.toNat : Int))) →
    (Extern.Bytes.loadBytes ⟨b, off, none⟩ l.length ⟨acc.toArray⟩).run P w = .ok ⟨(acc ++ l).toArray⟩ w
  | [], off, acc, _ => by simp [Extern.Bytes.loadBytes]
  | x :: l, off, acc, h => by
    have h0 := h 0 x rfl
    rw [Nat.add_zero] at h0
    have ih := run_loadBytes (P := P) l (off + 1) (acc ++ [x]) (fun j y hj => by rw [Nat.add_assoc, Nat.add_comm 1 j]; exact h (j + 1) y (by simpa using hj))
    rw [List.length_cons]
    unfold Extern.Bytes.loadBytes
    simp only [Sem.run_bind, run_load, h0, Result.andThen_ok]
    have e : (⟨b, off, none⟩ : Addr).add 1 = ⟨b, off + 1, none⟩ := by simp [Addr.add]
    have e2 : (ByteArray.mk acc.toArray).push ((x.toNat : Int).toNat.toUInt8) = ⟨(acc ++ [x]).toArray⟩ := by
      simp [ByteArray.push]
    rw [e, e2, ih, List.append_assoc]
    rfl
theorem run_bytesOf {P : Program} {Q : Nat → Prop} {w : World} {v : Value} {l : List UInt8} (hx : Rep.byte.list.val Q w v l) : (Extern.Bytes.bytesOf v).run P w = .ok ⟨l.toArray⟩ w := by
  obtain ⟨A, c, rfl, _, _, hA⟩ := Rep.val_list hx
  cases A with
  | none =>
    have hnil : l = [] := by
      rcases Nat.eq_zero_or_pos l.length with h | h
      · exact List.eq_nil_of_length_eq_zero h
      · obtain ⟨b, off, h⟩ := hA.addr h; cases h
    subst hnil
    rfl
  | some a =>
    obtain ⟨es, h1, h2⟩ := hA
    rw [Rep.row_byte h1] at h2
    rcases Nat.eq_zero_or_pos l.length with h0 | h0
    · have := List.eq_nil_of_length_eq_zero h0
      subst this
      rfl
    · obtain ⟨b, off, he, _, _, hc⟩ := h2 h0
      cases he
      exact run_loadBytes (P := P) l off [] (fun j x hj => hc j _ (by rw [List.getElem?_map, hj]; rfl))

end Go.Proofs.Yteljibjbndpncaa
/- The device: how it lies in memory; walks of its small functions. -/
namespace Go.Proofs.Yteljibjbndpncaa
open Go.RowKit
open Go.Maps (Keyed)

/-- A device: what is safe, the writes that wait for each sector, the fuse, whether it is off, and what was done. -/
structure DiskSt where
  safe : List (List UInt8)
  wait : Int → List (List UInt8)
  fuse : Int
  off : Bool
  reads : Int
  writes : Int

def heldElem (v : Value) : Option (DataW Value × List MemPlace) := some (.held v, [])
def nilList : Value := .slice none 0 0
/-- What lies at a key of the map. -/
def valAt (D : DataW Value) (i : Int) : Value := match D.atKey (.int .i64 i) (.held nilList) with | .held v => v | _ => nilList
theorem int_law : Keyed Try.prog 3 := Go.Maps.int_keyed Try.underlying3
theorem zero24 (w : World) : (zeroValue 39).run Try.prog w = .ok nilList w := by kernel_rfl
theorem key_i64 {i : Int} (h : (Lit.int .i64 i).wf = true) : keyOf Try.prog 3 (.int .i64 i) = some (.int .i64 i)   := Go.Maps.keyOf_int_mk Try.underlying3 h
theorem key_lit (i : Int) : WideAt.IsKeyLit (.int .i64 i) := trivial

theorem lookup_held {w : World} {M n : Nat} {D : DataW Value} {i : Int} (h : w.ownsMap Try.prog 3 heldElem M n D) (hi : (Lit.int .i64 i).wf = true) :
    (Instr.lookup 103 (.map (some M)) (.int .i64 i) false).run Try.prog w = .ok (valAt D i) w := by
  obtain ⟨v, ps, hrun, hv⟩ := h.lookup int_law Try.underlying103 (zero24 w) (zd := .held nilList) (zp := []) rfl (key_i64 hi)
  have e : DataW.held v = D.atKey (.int .i64 i) (.held nilList) := by
    have := congrArg Prod.fst (Option.some.inj hv)
    exact this
  have : valAt D i = v := by unfold valAt; rw [← e]
  rw [this]; exact hrun
theorem valAt_put_same {D : DataW Value} (hD : Go.Maps.IsMap D) (i : Int) (v : Value) : valAt (D.put (.int .i64 i) (.held v)) i = v := by
  unfold valAt; rw [Go.Maps.atKey_put_same hD (key_lit i)]
theorem valAt_put_other {D : DataW Value} {i j : Int} (h : j ≠ i) (v : Value) : valAt (D.put (.int .i64 i) (.held v)) j = valAt D j := by
  unfold valAt; rw [Go.Maps.atKey_put_other (fun e => h (by cases e; rfl))]
theorem valAt_empty (i : Int) : valAt (.map []) i = nilList := rfl

theorem acc_block {α : Type} {r : Rep α} {e base : Nat} {Q : Nat → Prop} {w : World} {v : Value} {xs : List α} (h : r.acc e base Q w v xs) {g : Nat} (hg : v.ownBlock = some g) : ∃ cur, w.heap[g]? = some (.cells cur e (0, 0)) := by
  obtain ⟨cells, h1, _⟩ := h
  rcases h1.2 with ⟨rfl, _⟩ | ⟨g', cap, cur, rfl, _, hh, _⟩
  · cases hg
  · cases hg; exact ⟨cur, hh⟩

/-- A device lies in block P. F: the blocks that it writes; B: those of its sectors' bytes, which are never written. -/
structure DiskW (W : World) (P : Nat) (Sf : Option Addr) (cs M : Nat) (D : DataW Value) (F B : Nat → Prop) (n : Nat) (st : DiskSt) : Prop where
  blk : W.heap[P]? = some (.cells #[.slice Sf st.safe.length cs, .map (some M), .int .i64 st.fuse, .bool st.off, .int .i64 st.reads, .int .i64 st.writes] 105 (0, 0))
  safe : Rep.byte.list.acc 33 0 B W (.slice Sf st.safe.length cs) st.safe
  map : W.ownsMap Try.prog 3 heldElem M n D
  wt : ∀ i, Rep.byte.list.acc 33 0 B W (valAt D i) (st.wait i)
  len : ∀ i, (st.wait i).length ≤ n
  keys : ∀ i, st.wait i ≠ [] → 0 ≤ i ∧ i < st.safe.length
  wf : (Lit.int .i64 st.fuse).wf = true
  fP : F P
  fM : F M
  fS : ∀ b, (Value.slice Sf st.safe.length cs).ownBlock = some b → F b
  fW : ∀ i b, (valAt D i).ownBlock = some b → F b
  dSW : ∀ i b, (valAt D i).ownBlock = some b → (Value.slice Sf st.safe.length cs).ownBlock ≠ some b
  dWW : ∀ i j b, i ≠ j → (valAt D i).ownBlock = some b → (valAt D j).ownBlock ≠ some b
  apart : ∀ b, F b → ¬ B b
  lt : ∀ b, F b ∨ B b → b < W.heap.size
  has : ∀ i, Go.Maps.has D (.int .i64 i) = true → st.wait i ≠ []
def DiskAt (W : World) (P : Nat) (F B : Nat → Prop) (n : Nat) (st : DiskSt) : Prop := ∃ Sf cs M D, DiskW W P Sf cs M D F B n st
/-- Nothing that was there is written but blocks of F. -/
structure Only (F : Nat → Prop) (W W' : World) : Prop where
  os : W'.os = W.os
  tape : W'.tape = W.tape
  output : W'.output = W.output
  size : W.heap.size ≤ W'.heap.size
  block : ∀ b, b < W.heap.size → ¬ F b → W'.heap[b]? = W.heap[b]?
theorem Only.refl (F : Nat → Prop) (W : World) : Only F W W := ⟨rfl, rfl, rfl, Nat.le_refl _, fun _ _ _ => rfl⟩
theorem Only.trans {F : Nat → Prop} {X Y Z : World} (h : Only F X Y) (k : Only F Y Z) : Only F X Z :=
  ⟨k.os.trans h.os, k.tape.trans h.tape, k.output.trans h.output, Nat.le_trans h.size k.size, fun b hb hf => (k.block b (Nat.lt_of_lt_of_le hb h.size) hf).trans (h.block b hb hf)⟩
theorem Only.of_below {F : Nat → Prop} {X Y : World} (h : Below X.heap.size X Y) : Only F X Y := ⟨h.os, h.tape, h.output, h.size, fun b hb _ => h.block b hb⟩
theorem Only.set {F : Nat → Prop} {X : World} {P i : Nat} {v : Value} (h : F P) : Only F X (X.setCell ⟨P, i, none⟩ v) :=
  ⟨rfl, rfl, rfl, by simp, fun b _ hf => Below.heap_setCell _ _ _ _ (fun e => hf (by rw [e]; exact h))⟩
theorem Only.below {F : Nat → Prop} {X Y : World} {base : Nat} (h : Only F X Y) (hb : base ≤ X.heap.size) (hf : ∀ b, F b → base ≤ b) : Below base X Y :=
  ⟨h.os, h.tape, h.output, h.size, fun b hl => h.block b (by omega) (fun hF => by have := hf b hF; omega)⟩

namespace DiskW
variable {W W' : World} {P : Nat} {Sf : Option Addr} {cs M : Nat} {D : DataW Value} {F B : Nat → Prop} {n : Nat} {st : DiskSt}

theorem sP (h : DiskW W P Sf cs M D F B n st) {b : Nat} (hb : (Value.slice Sf st.safe.length cs).ownBlock = some b) : b ≠ P := by
  rintro rfl
  obtain ⟨cur, hc⟩ := acc_block h.safe hb
  rw [h.blk] at hc; cases hc
theorem wP (h : DiskW W P Sf cs M D F B n st) {i : Int} {b : Nat} (hb : (valAt D i).ownBlock = some b) : b ≠ P := by
  rintro rfl
  obtain ⟨cur, hc⟩ := acc_block (h.wt i) hb
  rw [h.blk] at hc; cases hc
theorem mP (h : DiskW W P Sf cs M D F B n st) : M ≠ P := by
  rintro rfl
  obtain ⟨es, clock, hb, _⟩ := h.map
  rw [h.blk] at hb; cases hb
theorem map_keep (h : DiskW W P Sf cs M D F B n st) (hk : W'.heap[M]? = W.heap[M]?) : W'.ownsMap Try.prog 3 heldElem M n D := by
  obtain ⟨es, clock, hb, r⟩ := h.map
  exact ⟨es, clock, hk.trans hb, r⟩

/-- Whatever leaves its blocks leaves the device. -/
theorem keep (h : DiskW W P Sf cs M D F B n st) (hs : W.heap.size ≤ W'.heap.size) (hk : ∀ b, F b ∨ B b → W'.heap[b]? = W.heap[b]?) : DiskW W' P Sf cs M D F B n st :=
  ⟨(hk P (.inl h.fP)).trans h.blk,
   Rep.acc_keep (fun b hb _ => hk b (hb.elim .inr fun e => .inl (h.fS b e))) (fun _ hb _ => hb) h.safe,
   h.map_keep (hk M (.inl h.fM)),
   fun i => Rep.acc_keep (fun b hb _ => hk b (hb.elim .inr fun e => .inl (h.fW i b e))) (fun _ hb _ => hb) (h.wt i),
   h.len, h.keys, h.wf, h.fP, h.fM, h.fS, h.fW, h.dSW, h.dWW, h.apart, fun b hb => Nat.lt_of_lt_of_le (h.lt b hb) hs, h.has⟩

/-- A field of numbers is written. -/
theorem scal (h : DiskW W P Sf cs M D F B n st) {st' : DiskSt} (hs : st'.safe = st.safe) (hw : st'.wait = st.wait) (hf : (Lit.int .i64 st'.fuse).wf = true)
    (hb : W'.heap[P]? = some (.cells #[.slice Sf st.safe.length cs, .map (some M), .int .i64 st'.fuse, .bool st'.off, .int .i64 st'.reads, .int .i64 st'.writes] 105 (0, 0)))
    (hz : W.heap.size ≤ W'.heap.size) (hk : ∀ b, b ≠ P → b < W.heap.size → W'.heap[b]? = W.heap[b]?) : DiskW W' P Sf cs M D F B n st' := by
  have hB : ∀ b, B b → b ≠ P := fun b hb e => h.apart P h.fP (e ▸ hb)
  refine ⟨by rw [hs]; exact hb, ?_, h.map_keep (hk M h.mP (h.lt M (.inl h.fM))), fun i => ?_, by rw [hw]; exact h.len, by rw [hw, hs]; exact h.keys, hf, h.fP, h.fM, by rw [hs]; exact h.fS, h.fW, by rw [hs]; exact h.dSW, h.dWW, h.apart, fun b hb => Nat.lt_of_lt_of_le (h.lt b hb) hz, by rw [hw]; exact h.has⟩
  · rw [hs]
    exact Rep.acc_keep (fun b hb _ => hk b (hb.elim (hB b) fun e => h.sP e) (h.lt b (hb.elim .inr fun e => .inl (h.fS b e)))) (fun _ hb _ => hb) h.safe
  · rw [hw]
    exact Rep.acc_keep (fun b hb _ => hk b (hb.elim (hB b) fun e => h.wP e) (h.lt b (hb.elim .inr fun e => .inl (h.fW i b e)))) (fun _ hb _ => hb) (h.wt i)
end DiskW
theorem DiskAt.keep {W W' : World} {P : Nat} {F B : Nat → Prop} {n : Nat} {st : DiskSt} (h : DiskAt W P F B n st) (hs : W.heap.size ≤ W'.heap.size) (hk : ∀ b, F b ∨ B b → W'.heap[b]? = W.heap[b]?) : DiskAt W' P F B n st := by
  obtain ⟨Sf, cs, M, D, h⟩ := h
  exact ⟨Sf, cs, M, D, h.keep hs hk⟩
theorem DiskAt.below {W W' : World} {P : Nat} {F B : Nat → Prop} {n : Nat} {st : DiskSt} (h : DiskAt W P F B n st) (hb : Below W.heap.size W W') : DiskAt W' P F B n st :=
  h.keep hb.size fun b hb' => hb.block b (by obtain ⟨_, _, _, _, h⟩ := h; exact h.lt b hb')

/-- What is left of the fuse; the error. -/
def burnSt (st : DiskSt) : DiskSt × Int :=
  if st.off then (st, 3) else if st.fuse = 0 then ({ st with off := true }, 3) else if 0 < st.fuse then ({ st with fuse := st.fuse - 1 }, 0) else (st, 0)
/-- May something be done to a sector? -/
def atSt (st : DiskSt) (i : Int) : DiskSt × Int := if i < 0 ∨ (st.safe.length : Int) ≤ i then (st, 2) else burnSt st
def StepPost (F B : Nat → Prop) (P n : Nat) (W : World) (r : DiskSt × Int) (e : Ending) (W' : World) : Prop := e = .returned (.int .i64 r.2) ∧ DiskAt W' P F B n r.1 ∧ Only F W W'

set_option maxRecDepth 100000 in
set_option maxHeartbeats 1000000 in
/-- (*disk.Disk).burn -/
theorem burn_calls {W : World} {P : Nat} {F B : Nat → Prop} {n : Nat} {st : DiskSt} (h : DiskAt W P F B n st) :
    Calls Try.prog 116 #[.pointer (some ⟨P, 0, none⟩)] W (StepPost F B P n W (burnSt st)) := by
  obtain ⟨Sf, cs, M, D, hd⟩ := h
  have e2 := cell_row hd.blk 2
  have e3 := cell_row hd.blk 3
  have z2 := frozen_row hd.blk 2
  have z3 := frozen_row hd.blk 3
  have hwf := hd.wf
  have hf1 : -9223372036854775808 ≤ st.fuse ∧ st.fuse ≤ 9223372036854775807 := by simpa [Lit.wf, IntKind.min, IntKind.max, IntKind.signed, IntKind.bits] using hwf
  have HD := Lib.hid hd
  have HP := Lib.hid hd.fP
  clear hd hwf
  obtain ⟨sf, wt, fuse, off, rd, wr⟩ := st
  dsimp only at *
  cases off with
  | true =>
    have HF := Lib.hid (show burnSt ⟨sf, wt, fuse, true, rd, wr⟩ = (⟨sf, wt, fuse, true, rd, wr⟩, 3) from rfl)
    go_enter Try.func116, Try.ntmps116
    go_wp2_with fail
    go_ret
    exact ⟨by rw [HF.out]; rfl, by rw [HF.out]; exact ⟨_, _, _, _, HD.out⟩, Only.refl _ _⟩
  | false =>
    by_cases h0 : fuse = 0
    · subst h0
      have HF := Lib.hid (show burnSt ⟨sf, wt, 0, false, rd, wr⟩ = (⟨sf, wt, 0, true, rd, wr⟩, 3) from rfl)
      go_enter Try.func116, Try.ntmps116
      go_wp2_with fail
      go_ret
      exact ⟨by rw [HF.out]; rfl, by rw [HF.out]; exact ⟨_, _, _, _, HD.out.scal rfl rfl HD.out.wf (heap_setRow HD.out.blk) (by simp) fun b hb _ => Below.heap_setCell _ _ _ _ hb⟩, Only.set HP.out⟩
    · have g0 : (fuse == 0) = false := by simpa using h0
      by_cases h1 : 0 < fuse
      · have HF := Lib.hid (show burnSt ⟨sf, wt, fuse, false, rd, wr⟩ = (⟨sf, wt, fuse - 1, false, rd, wr⟩, 0) by simp [burnSt, h0, h1])
        have HWF := Lib.hid (show (Lit.int .i64 (fuse - 1)).wf = true from wf_i64 (by omega) (by omega))
        clear h0
        go_enter Try.func116, Try.ntmps116
        go_wp2_with fail
        go_ret
        exact ⟨by rw [HF.out]; rfl, by rw [HF.out]; exact ⟨_, _, _, _, HD.out.scal rfl rfl HWF.out (heap_setRow HD.out.blk) (by simp) fun b hb _ => Below.heap_setCell _ _ _ _ hb⟩, Only.set HP.out⟩
      · have HF := Lib.hid (show burnSt ⟨sf, wt, fuse, false, rd, wr⟩ = (⟨sf, wt, fuse, false, rd, wr⟩, 0) by simp [burnSt, h0, h1])
        clear h0
        go_enter Try.func116, Try.ntmps116
        go_wp2_with fail
        go_ret
        exact ⟨by rw [HF.out]; rfl, by rw [HF.out]; exact ⟨_, _, _, _, HD.out⟩, Only.refl _ _⟩
end Go.Proofs.Yteljibjbndpncaa
