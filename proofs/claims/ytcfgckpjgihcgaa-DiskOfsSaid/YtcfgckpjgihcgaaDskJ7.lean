/- Texts on which the proofs stand, part 7: Do04, SafeMath, Live04, RCrash, RGoBox, RGoA, RNew, RBytes04, DevMore, DevNil, ROf, Much04, DiskSafe, Frame, Structs, StepOpen. No condition is laid on any input. -/
import Derived.Test.YtcfgckpjgihcgaaDskJ6
import Derived.Test.YtcfgckpjgihcgaaRows
import Derived.ProofKit
import Derived.OpenShut
import Derived.ShutString
import Derived.ChangeOld
import Derived.Below
/- Walk of one step of a device's script. -/
namespace Go.Proofs.Ytcfgckpjgihcgaa
open Go.RowKit

def DoPost (K : Nat → Prop) (P n : Nat) (W : World) (r : List UInt8 × Int) (st : DiskSt) (e : Ending) (W' : World) : Prop :=
  ∃ u, e = .returned (.tuple #[u, .int .i64 r.2]) ∧ Rep.byte.list.val (fun b => W.heap.size ≤ b) W' u r.1 ∧ DevAt K W' P (n + 1) st ∧ Kept K W W'
theorem code04 (k : Int) (w : World) : Calls Try.prog 84 #[.int .i64 k] w fun e w' => e = .returned (.int .i64 k) ∧ w' = w := by
  go_enter Try.func84, Try.ntmps84
  go_wp2_with fail
  go_ret
  exact ⟨rfl, rfl⟩

set_option maxRecDepth 100000 in
set_option maxHeartbeats 4000000 in
/-- do -/
theorem do_calls {K Q : Nat → Prop} {W : World} {P n : Nat} {st : DiskSt} {v : Value} {x : DStep} (h : DevAt K W P n st) (hn : n ≤ 900000000) (hs : ∀ y ∈ st.safe, y.length ≤ 100000) (hw : ∀ j, ∀ y ∈ st.wait j, y.length ≤ 100000) (hx : rStep.val Q W v x) (hQ : ∀ k, Q k → K k) :
    Calls Try.prog 69 #[.pointer (some ⟨P, 0, none⟩), v] W (DoPost K P n W (outSt st x) (stepSt st x)) := by
  obtain ⟨A1, c1, A2, c2, rfl, f0, f1, sb, sf⟩ := rStep_val hx
  obtain ⟨act, pos, b, fates⟩ := x
  dsimp only at *
  have hL := h.lt
  have hbel : Below W.heap.size W (W.alloc (.cells #[.int .i64 act, .int .i64 pos, .slice A1 b.length c1, .slice A2 fates.length c2] 110)) := (Below.refl _ _).alloc (Nat.le_refl _) _
  have hsz : (W.alloc (.cells #[.int .i64 act, .int .i64 pos, .slice A1 b.length c1, .slice A2 fates.length c2] 110)).heap.size = W.heap.size + 1 := by simp
  have hbk := heap_alloc_new W (.cells #[.int .i64 act, .int .i64 pos, .slice A1 b.length c1, .slice A2 fates.length c2] 110)
  generalize hW1 : W.alloc (.cells #[.int .i64 act, .int .i64 pos, .slice A1 b.length c1, .slice A2 fates.length c2] 110) = W1 at *
  have HD := Lib.hid (show DevAt (fun b => K b ∨ b = W.heap.size) W1 P n st from h.grow hbel (fun k hk => hk.imp id fun e => ⟨Nat.le_of_eq e.symm, by omega⟩))
  have HB := Lib.hid (Rep.Sl.val (Rep.Sl.keep (w := W) (w' := W1) (Q' := Q) (fun k hk hl => ⟨hk, hbel.block k hl.lt⟩) sb))
  have HF := Lib.hid (Rep.Sl.val (Rep.Sl.keep (w := W) (w' := W1) (Q' := Q) (fun k hk hl => ⟨hk, hbel.block k hl.lt⟩) sf))
  have HK := Lib.hid (show ∀ W', Kept (fun b => K b ∨ b = W.heap.size) W1 W' → Kept K W W' from fun W' hk => (Kept.of_below hbel hL).trans (hk.less fun _ => .inl))
  have HQ := Lib.hid (show ∀ k, Q k → (K k ∨ k = W.heap.size) from fun k hk => .inl (hQ k hk))
  have HZ := Lib.hid (show ∀ w' : World, Rep.byte.list.val (fun x => W.heap.size ≤ x) w' (.slice none 0 0) ([] : List UInt8) from fun w => Rep.val_nil (by simp [maxLen]))
  have HS := Lib.hid hs
  have HW := Lib.hid hw
  have HP := Lib.hid f1
  have HSZ := Lib.hid (show W.heap.size ≤ W1.heap.size by omega)
  have e0 := cell_row hbk 0
  have e1 := cell_row hbk 1
  have e2 := cell_row hbk 2
  have e3 := cell_row hbk 3
  have HN := Lib.hid hn
  clear h hx sb sf hQ hs hw hL hbel hsz hbk hn f0 f1
  by_cases h1 : act = 1
  · subst h1
    go_enter Try.func69, Try.ntmps69
    go_wp2_with fail
    refine (dev_write HD.out HP.out (by have := HN.out; omega) HB.out HQ.out).mono ?_
    rintro e w2 ⟨rfl, hd, hk⟩
    have HD2 := Lib.hid hd
    have HK2 := Lib.hid hk
    clear hd hk e0 e1 e2 e3
    go_wp2_with fail
    refine (code04 _ _).mono ?_
    rintro e w3 ⟨rfl, rfl⟩
    go_wp2_with fail
    go_ret2
    exact ⟨_, rfl, HZ.out _, HD2.out.less fun _ => .inl, HK.out _ HK2.out⟩
  by_cases h2 : act = 2
  · subst h2
    clear h1
    go_enter Try.func69, Try.ntmps69
    go_wp2_with fail
    refine (dev_sync HD.out).mono ?_
    rintro e w2 ⟨rfl, hd, hk⟩
    have HD2 := Lib.hid hd
    have HK2 := Lib.hid hk
    clear hd hk e0 e1 e2 e3
    go_wp2_with fail
    refine (code04 _ _).mono ?_
    rintro e w3 ⟨rfl, rfl⟩
    go_wp2_with fail
    go_ret2
    exact ⟨_, rfl, HZ.out _, (HD2.out.less fun _ => .inl).more (Nat.le_succ n), HK.out _ HK2.out⟩
  by_cases h3 : act = 3
  · subst h3
    clear h1 h2
    go_enter Try.func69, Try.ntmps69
    go_wp2_with fail
    refine (dev_fuse HD.out HP.out).mono ?_
    rintro e w2 ⟨rfl, hd, hk⟩
    have HD2 := Lib.hid hd
    have HK2 := Lib.hid hk
    clear hd hk e0 e1 e2 e3
    go_wp2_with fail
    go_ret2
    exact ⟨_, rfl, HZ.out _, (HD2.out.less fun _ => .inl).more (Nat.le_succ n), HK.out _ HK2.out⟩
  by_cases h4 : act = 4
  · subst h4
    clear h1 h2 h3
    go_enter Try.func69, Try.ntmps69
    go_wp2_with fail
    refine (dev_crash HD.out (by have := HN.out; omega) HF.out HQ.out).mono ?_
    rintro e w2 ⟨rfl, hd, hk⟩
    have HD2 := Lib.hid hd
    have HK2 := Lib.hid hk
    clear hd hk e0 e1 e2 e3
    go_wp2_with fail
    go_ret2
    exact ⟨_, rfl, HZ.out _, (HD2.out.less fun _ => .inl).more (Nat.le_succ n), HK.out _ HK2.out⟩
  have HO := Lib.hid (show outSt st ⟨act, pos, b, fates⟩ = (readSt st pos).2 by unfold outSt; rw [if_neg h1, if_neg h2, if_neg h3, if_neg h4])
  have HT := Lib.hid (show stepSt st ⟨act, pos, b, fates⟩ = (readSt st pos).1 by unfold stepSt; rw [if_neg h1, if_neg h2, if_neg h3, if_neg h4])
  have g1 : (act == 1) = false := by simpa using h1
  have g2 : (act == 2) = false := by simpa using h2
  have g3 : (act == 3) = false := by simpa using h3
  have g4 : (act == 4) = false := by simpa using h4
  clear h1 h2 h3 h4
  go_enter Try.func69, Try.ntmps69
  go_wp2_with fail
  refine (dev_read HD.out HP.out HS.out HW.out).mono ?_
  rintro e w2 ⟨u, rfl, hu, hd, hk⟩
  have HU := Lib.hid hu
  have HD2 := Lib.hid hd
  have HK2 := Lib.hid hk
  clear hu hd hk e0 e1 e2 e3
  go_wp2_with fail
  refine (code04 _ _).mono ?_
  rintro e w3 ⟨rfl, rfl⟩
  go_wp2_with fail
  go_ret2
  exact ⟨_, by rw [HO.out]; rfl, by rw [HO.out]; exact Rep.val_mono (fun b hb _ => Nat.le_trans HSZ.out hb) HU.out, by rw [HT.out]; exact (HD2.out.less fun _ => .inl).more (Nat.le_succ n), HK.out _ HK2.out⟩
end Go.Proofs.Ytcfgckpjgihcgaa
/- What is safe stays: the plain law of two scripts, and the page's example. No program is named here. -/
namespace Go.Proofs.Ytcfgckpjgihcgaa
open Go.RowKit

/-- Which sectors a script may have written. -/
def touchedOf (k : Nat) (l : List DStep) : List Bool := l.foldl (fun t x => if x.act = 1 ∧ 0 ≤ x.pos ∧ x.pos < (k : Int) then t.set x.pos.toNat true else t) (List.replicate k false)
theorem touched_succ (k : Nat) {l : List DStep} {j : Nat} {x : DStep} (h : l[j]? = some x) :
    touchedOf k (l.take (j + 1)) = if x.act = 1 ∧ 0 ≤ x.pos ∧ x.pos < (k : Int) then (touchedOf k (l.take j)).set x.pos.toNat true else touchedOf k (l.take j) := by
  obtain ⟨hk, he⟩ := List.getElem?_eq_some_iff.1 h
  unfold touchedOf
  rw [List.take_succ_eq_append_getElem hk, he, List.foldl_append]; rfl
theorem touched_length (k : Nat) (l : List DStep) : (touchedOf k l).length = k := by
  have : ∀ (l : List DStep) (t : List Bool), (l.foldl (fun t x => if x.act = 1 ∧ 0 ≤ x.pos ∧ x.pos < (k : Int) then t.set x.pos.toNat true else t) t).length = t.length := by
    intro l
    induction l with
    | nil => intro t; rfl
    | cons x l ih =>
      intro t
      rw [List.foldl_cons, ih]
      split
      · exact List.length_set ..
      · rfl
  unfold touchedOf
  rw [this, List.length_replicate]
theorem untouched_still {s0 : DiskSt} {k : Nat} (h0 : ∀ i, s0.wait i = []) {l : List DStep} {i : Nat} : ∀ j, j ≤ l.length → (touchedOf k (l.take j))[i]? = some false → Still s0 (runSt s0 (l.take j)) i
  | 0, _, _ => ⟨h0 _, rfl⟩
  | j + 1, hj, ht => by
    obtain ⟨x, hx⟩ : ∃ x, l[j]? = some x := ⟨_, List.getElem?_eq_getElem (by omega)⟩
    rw [touched_succ k hx] at ht
    rw [run_succ s0 hx]
    by_cases hc : x.act = 1 ∧ 0 ≤ x.pos ∧ x.pos < (k : Int)
    · rw [if_pos hc] at ht
      by_cases hi : x.pos.toNat = i
      · rw [List.getElem?_set] at ht
        rw [if_pos hi] at ht
        split at ht
        · cases ht
        · cases ht
      · rw [List.getElem?_set_ne hi] at ht
        exact step_still (untouched_still h0 j (by omega) ht) (fun e => hi (by omega))
    · rw [if_neg hc] at ht
      have hlt : i < k := by
        have := (List.getElem?_eq_some_iff.1 ht).1
        rwa [touched_length] at this
      exact step_still (untouched_still h0 j (by omega) ht) (fun e => hc ⟨e.1, by omega, by omega⟩)
theorem run_sound {st : DiskSt} {k : Nat} (h : Sound st k) (l : List DStep) : Sound (runSt st l) k := by
  induction l generalizing st with
  | nil => exact h
  | cons x l ih => exact ih (step_sound h x)
theorem new_sound (k : Nat) : Sound (newSt (List.replicate k (zeros 512))) k :=
  ⟨List.length_replicate, fun x hx => by rw [(List.mem_replicate.1 hx).2]; exact List.length_replicate, fun i x hx => (by cases hx), fun i hi => absurd rfl hi⟩

/-- The page's example. -/
def ones04 : List UInt8 := List.replicate 512 1
def ex04 : DiskSt := newSt (List.replicate 1 (zeros 512))
theorem ex04_write : (writeSt ex04 0 ones04).2 = 0 := by decide +kernel
theorem ex04_sound : Sound (crashSt (writeSt ex04 0 ones04).1 [⟨0, 2⟩]) 1 := crash_sound (write_sound (new_sound 1) _ _) _
theorem ex04_code : (readSt (crashSt (writeSt ex04 0 ones04).1 [⟨0, 2⟩]) 0).2.2 = 0 := by decide +kernel
theorem ex04_len : (readSt (crashSt (writeSt ex04 0 ones04).1 [⟨0, 2⟩]) 0).2.1.length = 512 := by decide +kernel
theorem ex04_one : (readSt (crashSt (writeSt ex04 0 ones04).1 [⟨0, 2⟩]) 0).2.1[15]? = some 1 := by decide +kernel
theorem ex04_zero : (readSt (crashSt (writeSt ex04 0 ones04).1 [⟨0, 2⟩]) 0).2.1[16]? = some 0 := by decide +kernel
end Go.Proofs.Ytcfgckpjgihcgaa
/- Walk of the page's example of a device. -/
namespace Go.Proofs.Ytcfgckpjgihcgaa
open Go.RowKit

/-- An element of one cell, of a slice of the call's own. -/
theorem Rep.acc_at {α : Type} {r : Rep α} {e base : Nat} {Q : Nat → Prop} {w : World} {v : Value} {xs : List α} (hr : r.size = 1) (h : r.acc e base Q w v xs) {i : Nat} {x : α} (hx : xs[i]? = some x) :
    ∃ g cap u, v = .slice (some ⟨g, 0, none⟩) xs.length cap ∧ w.cell? ⟨g, i, none⟩ = some u ∧ w.frozen? ⟨g, i, none⟩ = false ∧ g < w.heap.size ∧ base ≤ g ∧ r.rd (fun b => Q b ∧ g ≠ b) w [u] x := by
  obtain ⟨cells, g1, g2⟩ := h
  have hi := (List.getElem?_eq_some_iff.1 hx).1
  rcases g1.2 with ⟨rfl, h0⟩ | ⟨g, cap, cur, rfl, hb, hg, h3, h4, h5, h6⟩
  · omega
  · obtain ⟨es, hrd, hcell⟩ := Rep.row_get g2 hx
    have hl := r.len hrd
    rw [hr] at hl
    obtain ⟨u, rfl⟩ : ∃ u, es = [u] := List.length_eq_one_iff.1 hl
    refine ⟨g, cap, u, rfl, ?_, frozen_row hg i, (Array.getElem?_eq_some_iff.1 hg).1, hb, r.mono (fun b hb' _ => ⟨hb'.1, fun e => hb'.2 (by rw [e]; rfl)⟩) hrd⟩
    have := g1.cells (g := g) rfl i u (by have := hcell 0 _ rfl; rw [hr] at this; simpa using this)
    rw [Addr.add_lit, Nat.zero_add] at this
    exact this

def onesTo (k : Nat) : List UInt8 := List.replicate k 1 ++ List.replicate (512 - k) 0
theorem onesTo_zero : onesTo 0 = List.replicate 512 0 := rfl
theorem onesTo_all : onesTo 512 = ones04 := by unfold onesTo ones04; rw [Nat.sub_self, List.replicate_zero, List.append_nil]
theorem onesTo_length {k : Nat} (h : k ≤ 512) : (onesTo k).length = 512 := by unfold onesTo; rw [List.length_append, List.length_replicate, List.length_replicate]; omega
theorem onesTo_get {k : Nat} (h : k < 512) : (onesTo k)[k]? = some 0 := by
  unfold onesTo
  rw [List.getElem?_append_right (by rw [List.length_replicate]; exact Nat.le_refl _), List.length_replicate, Nat.sub_self, List.getElem?_replicate, if_pos (by omega)]
theorem onesTo_set {k : Nat} (h : k < 512) : (onesTo k).set k 1 = onesTo (k + 1) := by
  unfold onesTo
  rw [show 512 - k = (512 - (k + 1)) + 1 by omega, List.set_append_right _ _ (by rw [List.length_replicate]; exact Nat.le_refl _), List.length_replicate, Nat.sub_self, List.replicate_succ, List.set_cons_zero, List.replicate_succ' (n := k), List.append_assoc]
  rfl
theorem one_fate (w : World) : rFate.list.val (fun b => b = w.heap.size) (w.alloc (.cells #[.int .i64 0, .int .i64 2] 233)) (.slice (some ⟨w.heap.size, 0, none⟩) 1 1) [⟨0, 2⟩] := by
  refine Rep.list_val rfl (by decide) (by simp [maxLen]) ⟨[.int .i64 0, .int .i64 2], ?_, fun _ => ⟨w.heap.size, 0, rfl, rfl, ⟨_, _, _, heap_alloc_new w _⟩, fun j u hj => ?_⟩⟩
  · exact Rep.row_one_elem ⟨[.int .i64 0], [.int .i64 2], rfl, ⟨rfl, by decide⟩, ⟨rfl, by decide⟩⟩
  · rw [Nat.zero_add, cell_row (heap_alloc_new w _), ← Array.getElem?_toList]
    exact hj

set_option maxRecDepth 100000 in
set_option maxHeartbeats 4000000 in
/-- live -/
theorem live04_calls (w : World) : Calls Try.prog 67 #[] w fun e w' => e = .returned (.bool true) ∧ Below w.heap.size w w' := by
  have hmk : ∀ w, (Instr.makeSlice 22 (.int .i64 512) (.int .i64 512)).run Try.prog w = .ok (.slice (some ⟨w.heap.size, 0, none⟩) 512 512) (w.alloc (.cells (zeroBytes 512) 5)) :=
    fun w => run_make_bytes Try.underlying22 info5 512 (by omega) w
  have HMB := Lib.hid (show ∀ w : World, (w.alloc (.cells (zeroBytes 512) 5)).heap[w.heap.size]? = some (.cells (zeroBytes 512) 5 (0, 0)) from fun w => heap_alloc_new w _)
  have HZB := Lib.hid (show (zeroBytes 512).toList = (onesTo 0).map (fun b => Value.int .u8 (b.toNat : Int)) by rw [onesTo_zero, zeroBytes, toList_madeCells_one]; simp)
  have HZL := Lib.hid (show (zeroBytes 512).size = 512 by rw [← Array.length_toList, HZB.out, List.length_map, onesTo_length (by omega)])
  generalize zeroBytes 512 = Z at *
  go_enter Try.func67, Try.ntmps67
  go_wp2_with fail
  refine (dev_new (n := 1) (by decide) (by decide) w).mono ?_
  rintro e w1 ⟨P, rfl, hd, hb1⟩
  have HD1 := Lib.hid (show DevAt (fun b => b < w.heap.size) w1 P 0 ex04 from hd)
  have HB1 := Lib.hid hb1
  clear hd hb1
  go_wp2_with fail
  obtain ⟨W2, hW2⟩ : ∃ W2, w1.alloc (.cells Z 5) = W2 := ⟨_, rfl⟩
  have HB2 := Lib.hid (show Below w1.heap.size w1 W2 from hW2 ▸ (Below.refl _ _).alloc (Nat.le_refl _) _)
  have HC2 := Lib.hid (show W2.heap[w1.heap.size]? = some (.cells Z 5 (0, 0)) from hW2 ▸ HMB.out w1)
  have HS2 := Lib.hid (show W2.heap.size = w1.heap.size + 1 from hW2 ▸ by simp)
  simp only [hW2]
  clear hmk hW2
  have HL := Lib.hid (show ∀ k, k < 512 → ∀ (wr : World) (cur : Array Value), wr.heap[w1.heap.size]? = some (.cells cur 5 (0, 0)) → cur.toList = (onesTo k).map (fun b => Value.int .u8 (b.toNat : Int)) → wr.cell? ⟨w1.heap.size, k, none⟩ = some (.int .u8 0) from fun k hk wr cur hc hl => by
    rw [cell_row hc, ← Array.getElem?_toList, hl, List.getElem?_map, onesTo_get hk]; rfl)
  have HT := Lib.hid (show ∀ k, k < 512 → ∀ (cur : Array Value), cur.toList = (onesTo k).map (fun b => Value.int .u8 (b.toNat : Int)) → (cur.setIfInBounds k (.int .u8 1)).toList = (onesTo (k + 1)).map (fun b => Value.int .u8 (b.toNat : Int)) from fun k hk cur hl => by
    rw [Array.toList_setIfInBounds, hl, ← onesTo_set hk, List.map_set]; rfl)
  generalize hg : w1.heap.size = g at *
  go_loopw [3] (fun i wr => ∃ (k : Nat) (cur : Array Value), i = .int .i64 k ∧ k ≤ 512 ∧ wr.heap[g]? = some (.cells cur 5 (0, 0)) ∧ cur.toList = (onesTo k).map (fun b => Value.int .u8 (b.toNat : Int)) ∧ Below g W2 wr ∧ wr.heap.size = g + 1) (fun i _ => 512 - (intOf i).toNat)
  case atStart => exact ⟨0, Z, rfl, by omega, HC2.out, HZB.out, Below.refl _ _, HS2.out⟩
  case round =>
    obtain ⟨k, cur, rfl, hk, hc, hl, hb, hs⟩ := hrel
    have HBR := Lib.hid hb
    have HCR := Lib.hid hc
    have HLR := Lib.hid hl
    by_cases hlt : (k : Int) < 512
    · have hcell := HL.out k (by omega) wr cur hc hl
      have hfr := frozen_row hc k
      clear hc hl hb
      go_wp2_with fail
      refine ⟨⟨k + 1, _, by go_num, by omega, heap_setRow HCR.out, HT.out k (by omega) _ HLR.out, ?_, by simpa using hs⟩, by simp [intOf]; omega⟩
      exact HBR.out.setCell (Nat.le_refl _) _
    · obtain rfl : k = 512 := by omega
      have HV := Lib.hid (show Rep.byte.list.val (fun b => b = g) wr (.slice (some ⟨g, 0, none⟩) 512 512) ones04 from by
        rw [onesTo_all] at hl
        refine Rep.list_val (by unfold ones04; rw [List.length_replicate]) (Nat.le_refl _) (by simp [maxLen]) ⟨_, Rep.byte_row _, fun _ => ⟨g, 0, rfl, rfl, ⟨_, _, _, hc⟩, fun j u hj => ?_⟩⟩
        rw [Nat.zero_add, cell_row hc, ← Array.getElem?_toList, hl]
        exact hj)
      have HD := Lib.hid (show DevAt (fun b => b < w.heap.size ∨ b = g) wr P 0 ex04 from HD1.out.grow (hg ▸ HB2.out.trans HBR.out) fun b hb' => hb'.imp id fun e => by omega)
      have HSW := Lib.hid (show w.heap.size ≤ g by have := HB1.out.size; omega)
      have HBA := Lib.hid (show Below w.heap.size w wr from HB1.out.trans ((HB2.out.trans HBR.out).mono HSW.out))
      clear hc hl hb HL HT HZB HZL HMB HC2 HS2 HBR HCR HLR
      go_wp2_with fail
      refine (dev_write HD.out (by decide) (by decide) HV.out (fun _ h => .inr h)).mono ?_
      rintro e w3 ⟨rfl, hd, hk⟩
      rw [ex04_write]
      have HD3 := Lib.hid hd
      have HK3 := Lib.hid hk
      have HB3 := Lib.hid (HBA.out.trans (hk.below (base := w.heap.size) fun b hb => .inl hb))
      clear hd hk HV HD HBA HB2 HB1 HD1 hs
      have hbs : ∀ w : World, (Instr.buildSlice 108 1 #[(0, .agg #[.int .i64 0, .int .i64 2])]).run Try.prog w = .ok (.slice (some ⟨w.heap.size, 0, none⟩) 1 1) (w.alloc (.cells #[.int .i64 0, .int .i64 2] 233)) :=
        fun w => run_buildSlice_one w _ 233 (.agg #[.int .i64 0, .int .i64 0]) 2 Try.underlying108 (by kernel_rfl) _ rfl (by decide) (by decide)
      go_wp2_with fail
      clear hbs
      have H4 := Lib.hid (one_fate w3)
      have HB4 := Lib.hid (show Below w3.heap.size w3 (w3.alloc (.cells #[.int .i64 0, .int .i64 2] 233)) from (Below.refl _ _).alloc (Nat.le_refl _) _)
      have HS4 := Lib.hid (show (w3.alloc (.cells #[.int .i64 0, .int .i64 2] 233)).heap.size = w3.heap.size + 1 by simp)
      generalize w3.alloc (.cells #[.int .i64 0, .int .i64 2] 233) = w4 at *
      have HD4 := Lib.hid (show DevAt (fun b => b < w.heap.size ∨ b = w3.heap.size) w4 P (0 + 1) _ from HD3.out.grow HB4.out fun b hb' => hb'.elim (fun e => .inl (.inl e)) (fun e => .inr ⟨Nat.le_of_eq e.symm, by have := HS4.out; omega⟩))
      refine (dev_crash HD4.out (by decide) H4.out (fun _ h => .inr h)).mono ?_
      rintro e w5 ⟨rfl, hd, hk⟩
      have HD5 := Lib.hid hd
      have HB5 := Lib.hid ((HB3.out.trans (HB4.out.mono HB3.out.size)).trans (hk.below (base := w.heap.size) fun b hb => .inl hb))
      clear hd hk H4 HB4 HS4 HD4 HB3 HD3 HK3
      go_wp2_with fail
      refine (dev_read HD5.out (by decide) (fun x hx => by have := ex04_sound.sec x hx; omega) (fun j x hx => by have := ex04_sound.wt j x hx; omega)).mono ?_
      rintro e w6 ⟨u6, rfl, hu, hd, hk⟩
      rw [ex04_code]
      have HB6 := Lib.hid (HB5.out.trans (hk.below (base := w.heap.size) fun b hb => .inl hb))
      clear hd hk
      have h15 := ex04_one
      have h16 := ex04_zero
      have hln := ex04_len
      generalize (readSt (crashSt (writeSt ex04 0 ones04).1 [⟨0, 2⟩]) 0).2.1 = bs at *
      obtain ⟨A6, c6, rfl, hc6, hm6, hA6⟩ := Rep.val_list hu
      obtain ⟨b6, o6, es, rfl, _, _, he, hcell⟩ := hA6.get h15
      obtain ⟨b6', o6', es', e6, _, _, he', hcell'⟩ := hA6.get h16
      cases e6
      have g15 : w6.cell? ⟨b6, o6 + 15, none⟩ = some (.int .u8 1) := hcell 0 (.int .u8 1) (by rw [show es = [.int .u8 ((1 : UInt8).toNat : Int)] from he]; rfl)
      have g16 : w6.cell? ⟨b6, o6 + 16, none⟩ = some (.int .u8 0) := hcell' 0 (.int .u8 0) (by rw [show es' = [.int .u8 ((0 : UInt8).toNat : Int)] from he']; rfl)
      clear hcell hcell' he he' hu hA6 h15 h16
      rw [hln] at hc6 ⊢
      clear hln
      unfold maxLen at hm6
      go_wp2_with fail
      refine (code04 0 _).mono ?_
      rintro e w8 ⟨rfl, hw8⟩
      have hw9 := hw8.symm
      subst hw9
      clear hw8
      go_wp2_with fail
      refine (code04 0 _).mono ?_
      rintro e w8 ⟨rfl, hw8⟩
      have hw9 := hw8.symm
      subst hw9
      clear hw8
      go_wp2_with fail
      go_ret
      exact ⟨rfl, HB6.out⟩
end Go.Proofs.Ytcfgckpjgihcgaa
/- Walk of what a failure of the power makes of the reference's device. -/
namespace Go.Proofs.Ytcfgckpjgihcgaa
open Go.RowKit

theorem row2_set {W : World} {n t : Nat} {a b x y : Value} (h : W.heap[n]? = some (.cells #[a, b] t (0, 0))) :
    ((W.setCell ⟨n, 0, none⟩ x).setCell ⟨n, 1, none⟩ y).heap[n]? = some (.cells #[x, y] t (0, 0)) :=
  heap_setRow (i := 1) (v := y) (heap_setRow (i := 0) (v := x) h)
theorem crashTail_next {d : DDisk} {fates : List DFate} {k p : Nat} (h : (dirtyW d)[k]? = some (p : Int)) :
    crashTail d fates (k + 1) = (crashTail d fates k).set p (settleOf (d.safe.getD p []) (ofW d.wait p) (fates.getD k ⟨0, 0⟩)) := by
  have e : (dirtyW d).getD k 0 = (p : Int) := by rw [List.getD_eq_getElem?_getD, h]; rfl
  rw [crashTail, e, Int.toNat_natCast]
theorem dirtyW_lt {d : DDisk} {k : Nat} {z : Int} (h : (dirtyW d)[k]? = some z) : ∃ p : Nat, z = p ∧ p < d.safe.length := by
  have hm := List.mem_of_getElem? h
  unfold dirtyW at hm
  obtain ⟨i, hi, rfl⟩ := List.mem_map.1 hm
  exact ⟨i, rfl, List.mem_range.1 (List.mem_filter.1 hi).1⟩
theorem kept_stop {f : DFate} {n m : Nat} (hm : m ≤ keptOf f n) (h : ¬ ((m : Int) < n ∧ (m : Int) < f.kept)) : keptOf f n = m := by unfold keptOf at *; omega
theorem kept_more {f : DFate} {n m : Nat} (h1 : (m : Int) < n) (h2 : (m : Int) < f.kept) : m + 1 ≤ keptOf f n := by unfold keptOf; omega
theorem settle_was {s : List UInt8} {l : List (List UInt8)} {f : DFate} {m : Nat} (hk : keptOf f l.length = m) (h : ¬ m < l.length) : settleOf s l f = (s :: l).getD m [] := by
  unfold settleOf; rw [hk, if_neg h]
theorem settle_tear {s : List UInt8} {l : List (List UInt8)} {f : DFate} {m : Nat} {y : List UInt8} (hk : keptOf f l.length = m) (hy : l[m]? = some y) : settleOf s l f = tearOf ((s :: l).getD m []) y f.torn := by
  have hm := (List.getElem?_eq_some_iff.1 hy).1
  unfold settleOf
  rw [hk, if_pos hm, List.getD_eq_getElem?_getD (l := s :: l) (i := m + 1), List.getElem?_cons_succ, hy]; rfl

/-- Behind the stores into one block. -/
def EndAt (w wo : World) (n : Nat) (W : World) : Prop := Below w.heap.size w W ∧ ∀ b, b ≠ n → W.heap[b]? = wo.heap[b]?
theorem EndAt.set {w wo W : World} {n i : Nat} {v : Value} (hn : w.heap.size ≤ n) (h : EndAt w wo n W) : EndAt w wo n (W.setCell ⟨n, i, none⟩ v) := ⟨h.1.setCell hn _, fun b hb => (Below.heap_setCell _ _ _ _ hb).trans (h.2 b hb)⟩

set_option maxRecDepth 100000 in
set_option maxHeartbeats 4000000 in
/-- ref04.crash -/
theorem rcrash_calls {Q Q' : Nat → Prop} {w : World} {v u : Value} {d : DDisk} {fates : List DFate} (hx : rDisk.val Q w v d) (hf : rFate.list.val Q' w u fates) (hq : ∀ b, Q b → b < w.heap.size) (hn : d.wait.length ≤ 1000000000) (hs : d.safe.length ≤ 1000000000) :
    Calls Try.prog 166 #[v, u] w fun e w' => ∃ z, e = .returned z ∧ rDisk.val (fun b => Q b ∨ w.heap.size ≤ b) w' z (crashW d fates) ∧ Below w.heap.size w w' := by
  obtain ⟨A0, c0, A1, c1, rfl, hbox, f2, f3, f4⟩ := DBox.start hx
  obtain ⟨hbk, hrk, hbel, hsz⟩ := two_boxes w #[.slice A0 d.safe.length c0, .slice A1 d.wait.length c1, .int .i64 d.fuse, .bool d.off, .int .i64 d.reads, .int .i64 d.writes] #[.slice none 0 0, .slice none 0 0, .int .i64 0, .bool false, .int .i64 0, .int .i64 0] 104 104
  have hstep : Below (w.heap.size + 1) (w.alloc (.cells #[.slice A0 d.safe.length c0, .slice A1 d.wait.length c1, .int .i64 d.fuse, .bool d.off, .int .i64 d.reads, .int .i64 d.writes] 104)) ((w.alloc (.cells #[.slice A0 d.safe.length c0, .slice A1 d.wait.length c1, .int .i64 d.fuse, .bool d.off, .int .i64 d.reads, .int .i64 d.writes] 104)).alloc (.cells #[.slice none 0 0, .slice none 0 0, .int .i64 0, .bool false, .int .i64 0, .int .i64 0] 104)) := (Below.refl _ _).alloc (by simp) _
  have HBX := Lib.hid (fun W' (hb : Below (w.heap.size + 2) _ W') => hbox.below (hstep.trans (hb.mono (by omega))) hq)
  obtain ⟨Af, cf, rfl, hf1, hf2, hfa⟩ := Rep.val_list hf
  unfold maxLen at hf2
  have HFT := Lib.hid (show ∀ W', Below w.heap.size w W' → rFate.At Q' W' Af fates from fun W' hb => hfa.keep fun b hb' hl => ⟨hb', hb.block b hl.lt⟩)
  have HQ := Lib.hid hq
  have HN := Lib.hid hn
  have HSL := Lib.hid hs
  have F2 := Lib.hid f2
  have F3 := Lib.hid f3
  have F4 := Lib.hid f4
  clear hx hf hfa hbox f2 f3 f4 hq hn hs hstep
  generalize hl1 : d.wait.length = len1 at *
  generalize hl0 : d.safe.length = len0 at *
  have HL0 := Lib.hid hl0
  have HL1 := Lib.hid hl1
  clear hl0 hl1
  generalize hW1 : (w.alloc (.cells #[.slice A0 len0 c0, .slice A1 len1 c1, .int .i64 d.fuse, .bool d.off, .int .i64 d.reads, .int .i64 d.writes] 104)).alloc (.cells #[.slice none 0 0, .slice none 0 0, .int .i64 0, .bool false, .int .i64 0, .int .i64 0] 104) = W1 at *
  have HS := Lib.hid hsz
  have HRK := Lib.hid hrk
  have HBK := Lib.hid hbk
  have HBE := Lib.hid hbel
  have HV := Lib.hid (show ∀ W', Below (w.heap.size + 2) W1 W' → rDisk.val Q W' (.agg #[.slice A0 len0 c0, .slice A1 len1 c1, .int .i64 d.fuse, .bool d.off, .int .i64 d.reads, .int .i64 d.writes]) d from fun W' hb => by
    have h := (HBX.out W' hb).val F2.out F3.out F4.out
    rw [HL0.out, HL1.out] at h
    exact h)
  have HQW := Lib.hid (show ∀ W', Below (w.heap.size + 2) W1 W' → ∀ b, Q b → b < W'.heap.size from fun W' hb b hb' => by have := HQ.out b hb'; have := hb.size; omega)
  have HCAP := Lib.hid (show (len0 : Int) ≤ c0 ∧ (c0 : Int) ≤ 9223372036854775807 by
    have h := (HBX.out _ (Below.refl _ _)).safe
    have h1 := h.1
    have h2 := h.2.1
    rw [HL0.out] at h1
    unfold maxLen at h2
    omega)
  clear hsz hrk hbel
  have e0 := cell_row hbk 0
  have e1 := cell_row hbk 1
  have e2 := cell_row hbk 2
  have e3 := cell_row hbk 3
  have e4 := cell_row hbk 4
  have e5 := cell_row hbk 5
  clear hbk
  go_enter Try.func166, Try.ntmps166
  go_wp2_with fail
  try rw [hW1]
  clear hW1
  go_wp2_with fail
  refine (rdirty_calls (HV.out _ (Below.refl _ _)) (HQW.out _ (Below.refl _ _)) (by rw [HL1.out]; exact HN.out) (by rw [HL0.out]; exact HSL.out)).mono ?_
  rintro e w2 ⟨u5, rfl, hu5, hb2⟩
  have HU5 := Lib.hid hu5
  have HB2 := Lib.hid (hb2.mono (Nat.le_of_eq HS.out.symm))
  have HS2 := Lib.hid (show w.heap.size + 2 ≤ w2.heap.size by rw [← HS.out]; exact hb2.size)
  obtain ⟨A5, c5, rfl, hc5, hm5⟩ := Rep.acc_form hu5
  have HDL := Lib.hid (show (dirtyW d).length ≤ len0 by rw [← dirtyTo_all, ← HL0.out]; exact dirtyTo_length d _)
  have HDZ := Lib.hid (fun k z (h : (dirtyW d)[k]? = some z) => dirtyW_lt h)
  have HTN := Lib.hid (fun k p (h : (dirtyW d)[k]? = some ((p : Nat) : Int)) => crashTail_next (fates := fates) h)
  have HT0 := Lib.hid (show crashTail d fates 0 = d.safe from rfl)
  have HTL := Lib.hid (fun k => crashTail_length d fates k)
  have HFIN := Lib.hid (show crashW d fates = ⟨crashTail d fates (dirtyW d).length, [], -1, false, d.reads, d.writes⟩ from rfl)
  have hT : ∃ T : Nat → List (List UInt8), T = crashTail d fates := ⟨_, rfl⟩
  obtain ⟨T, hT⟩ := hT
  rw [← hT] at HTN HT0 HTL HFIN
  clear hT
  generalize dirtyW d = D at *
  unfold maxLen at hm5
  clear hu5 hb2 e0 e1 e2 e3 e4 e5
  have hnb : Below w2.heap.size w2 (w2.alloc (.cells #[] 22)) := (Below.refl _ _).alloc (Nat.le_refl _) _
  have HA0 := Lib.hid (show Rep.byte.list.acc 22 w2.heap.size (fun b => Q b ∨ w2.heap.size ≤ b) (w2.alloc (.cells #[] 22)) (.slice (some ⟨w2.heap.size, 0, none⟩) 0 0) [] from Rep.acc_made w2 #[] 0 (Nat.le_refl _) (by simp [maxLen]) (by simp))
  have HX0 := Lib.hid (show Rep.byte.list.list.val Q (w2.alloc (.cells #[] 22)) (.slice A0 len0 c0) d.safe from by
    have h := (HBX.out _ (HB2.out.trans (hnb.mono HS2.out))).safe.val
    rw [HL0.out] at h
    exact h)
  have hb2k := (HBX.out _ (HB2.out.trans (hnb.mono HS2.out))).blk
  rw [HL0.out, HL1.out] at hb2k
  have e0 := cell_row hb2k 0
  clear hb2k
  have HNB := Lib.hid hnb
  have HL2 := Lib.hid (show ([] : List (List UInt8)).length + d.safe.length ≤ maxLen ∧ (([] : List (List UInt8)).length + d.safe.length) * 24 ≤ 140737488355328 by rw [HL0.out]; have := HSL.out; simp [maxLen]; omega)
  have HQN := Lib.hid (show ∀ b, Q b → IsC (w2.alloc (.cells #[] 22)) b → (Q b ∨ w2.heap.size ≤ b) ∧ (Value.slice (some ⟨w2.heap.size, 0, none⟩) 0 0).ownBlock ≠ some b from fun b hb _ => ⟨.inl hb, fun e => by have e2 : w2.heap.size = b := Option.some.inj e; have := HQ.out b hb; have := HS2.out; omega⟩)
  clear hnb
  go_wp2_with (refine wpList_spread (e := 22) (base := w2.heap.size) (Q := fun b => Q b ∨ w2.heap.size ≤ b) (r := Rep.byte.list) rfl _ _ 24 rfl (.slice none 0 0) 1 24 Try.underlying24 info22 rfl (by decide) rfl _ [] (by exact rfl) HA0.out _ d.safe (by exact rfl) HX0.out HQN.out HL2.out.1 HL2.out.2 HNB.out.size ?_; intro v6 w3 hacc3 hgr3 hat3)
  rw [List.nil_append] at hacc3
  have HB3 := Lib.hid (Rep.acc_below HA0.out HNB.out hgr3 HNB.out.size)
  obtain ⟨A6, c6, rfl, hc6, hm6⟩ := Rep.acc_form hacc3
  rw [HL0.out] at hacc3 hc6
  have HA3 := Lib.hid hacc3
  unfold maxLen at hm6
  clear hacc3 hgr3 hat3 e0
  rw [HL0.out]
  go_loopw [7] (fun kk wr => ∃ k : Nat, kk = .int .i64 k ∧ k ≤ D.length ∧ Rep.byte.list.acc 22 w2.heap.size (fun b => Q b ∨ w2.heap.size ≤ b) wr (.slice A6 len0 c6) (T k) ∧ Below w2.heap.size w2 wr) (fun kk _ => D.length - (intOf kk).toNat)
  case atStart => exact ⟨0, rfl, Nat.zero_le _, by rw [HT0.out]; exact HA3.out, HB3.out⟩
  case round =>
    rename World => wo
    obtain ⟨k, rfl, hk, hacc, hb⟩ := hrel
    have HACC := Lib.hid hacc
    have HB := Lib.hid hb
    have HBW := Lib.hid (HB2.out.trans (hb.mono HS2.out))
    have HSW := Lib.hid hb.size
    clear hacc hb
    by_cases hlt : (k : Int) < D.length
    · obtain ⟨z, hz⟩ : ∃ z, D[k]? = some z := ⟨_, List.getElem?_eq_getElem (by omega)⟩
      obtain ⟨p, rfl, hp⟩ := HDZ.out k z hz
      rw [HL0.out] at hp
      have HTS := Lib.hid (HTN.out k p hz)
      have HWA := Lib.hid (show Below wo.heap.size wo (wo.alloc (.cells #[.int .i64 0, .int .i64 0] 233)) from (Below.refl _ _).alloc (Nat.le_refl _) _)
      have HWS := Lib.hid (show (wo.alloc (.cells #[.int .i64 0, .int .i64 0] 233)).heap.size = wo.heap.size + 1 by simp)
      have HWK := Lib.hid (heap_alloc_new wo (.cells #[.int .i64 0, .int .i64 0] 233))
      generalize hWA : wo.alloc (.cells #[.int .i64 0, .int .i64 0] 233) = WA at *
      have hbwa := HBW.out.trans (HWA.out.mono (by have := HSW.out; have := HS2.out; omega))
      have hbx := HBX.out _ hbwa
      have hblk := hbx.blk
      rw [HL0.out, HL1.out] at hblk
      obtain ⟨b0, o0, rfl⟩ := hbx.safe.2.2.addr (by rw [HL0.out]; omega)
      have e0 := cell_row hblk 0
      have e1 := cell_row hblk 1
      have e2 := cell_row hblk 2
      have e3 := cell_row hblk 3
      have e4 := cell_row hblk 4
      have e5 := cell_row hblk 5
      have a0 := cell_row HWK.out 0
      have a1 := cell_row HWK.out 1
      have y0 := frozen_row HWK.out 0
      have y1 := frozen_row HWK.out 1
      have hd5 := Rep.acc_at rfl HU5.out hz
      obtain ⟨g5, cap5, u5, he5, hd0, _, hg5, _, hrd5⟩ := hd5
      cases he5
      have hu5 : u5 = .int .i64 (p : Int) := by obtain ⟨h, _⟩ := hrd5; cases h; rfl
      subst hu5
      replace hd0 : WA.cell? ⟨g5, k, none⟩ = some (.int .i64 (p : Int)) := ((HB.out.trans (HWA.out.mono HSW.out)).cell (p := ⟨g5, k, none⟩) hg5).trans hd0
      have n5 : ¬ g5 = wo.heap.size := by have := HSW.out; omega
      have n5' : ¬ wo.heap.size = g5 := fun e => n5 e.symm
      have n6 : ¬ w.heap.size = wo.heap.size := by have := HSW.out; have := HS2.out; omega
      have n6' : ¬ wo.heap.size = w.heap.size := fun e => n6 e.symm
      clear hz hbwa hbx hblk hg5 hrd5
      by_cases hkf : (k : Int) < fates.length
      · obtain ⟨f, hf⟩ : ∃ f, fates[k]? = some f := ⟨_, List.getElem?_eq_getElem (by omega)⟩
        have HFE := Lib.hid (show fates.getD k ⟨0, 0⟩ = f by rw [List.getD_eq_getElem?_getD, hf]; rfl)
        have hbw := HBE.out.trans ((HBW.out.trans (HWA.out.mono (by have := HSW.out; have := HS2.out; omega))).mono (by omega))
        obtain ⟨bf, of, rfl, hbf, _, _, k0, k1⟩ := rFate_at (HFT.out _ (Below.refl _ _)) hf
        obtain ⟨_, _, he, _, g0, g1, _, _⟩ := rFate_at (HFT.out _ hbw) hf
        cases he
        have hne : ¬ bf = wo.heap.size := by have := hbf.lt; have := HSW.out; have := HS2.out; omega
        have hne2 : ¬ wo.heap.size = bf := fun e => hne e.symm
        have KT := Lib.hid k1
        clear hbw hbf hf k0 k1
        go_wp2_with fail
        obtain ⟨WB, hWB⟩ : ∃ WB, (((WA.setCell ⟨wo.heap.size, 0, none⟩ (.int .i64 0)).setCell ⟨wo.heap.size, 1, none⟩ (.int .i64 0)).setCell ⟨wo.heap.size, 0, none⟩ (.int .i64 f.kept)).setCell ⟨wo.heap.size, 1, none⟩ (.int .i64 f.torn) = WB := ⟨_, rfl⟩
        have hwk : WB.heap[wo.heap.size]? = some (.cells #[.int .i64 f.kept, .int .i64 f.torn] 233 (0, 0)) := by rw [← hWB]; exact row2_set (row2_set HWK.out)
        have hwb : Below wo.heap.size wo WB := by
          rw [← hWB]
          repeat (refine below_set ?_ (Nat.le_refl _))
          exact HWA.out
        have hws : WB.heap.size = wo.heap.size + 1 := by rw [← hWB, ← HWS.out]; simp
        rw [hWB]
        clear hWB
        have HWK2 := Lib.hid hwk
        have HBWB := Lib.hid (HBW.out.trans (hwb.mono (by have := HSW.out; have := HS2.out; omega)))
        have HSB := Lib.hid hws
        have HWB := Lib.hid hwb
        clear hwk hwb hws a0 a1 y0 y1 e0 e1 e2 e3 e4 e5 hd0
        refine (rof_calls (HV.out _ HBWB.out) (HQW.out _ HBWB.out) (by rw [HL1.out]; exact HN.out)).mono ?_
        rintro e w10 ⟨u10, rfl, hu10, hb10⟩
        have HU10 := Lib.hid hu10
        have HB10 := Lib.hid (HBWB.out.trans (hb10.mono (by have := HSB.out; have := HSW.out; have := HS2.out; omega)))
        have HWK10 := Lib.hid ((hb10.block _ (show wo.heap.size < WB.heap.size by rw [HSB.out]; exact Nat.lt_succ_self _)).trans HWK2.out)
        have HBR10 := Lib.hid (HWB.out.trans (hb10.mono (by rw [HSB.out]; exact Nat.le_succ _)))
        obtain ⟨A10, c10, rfl, hc10, hm10⟩ := Rep.acc_form hu10
        unfold maxLen at hm10
        clear hu10 hb10
        have hbx := HBX.out _ HB10.out
        have hblk := hbx.blk
        rw [HL0.out, HL1.out] at hblk
        have e0 := cell_row hblk 0
        have a0 := cell_row HWK10.out 0
        have a1 := cell_row HWK10.out 1
        obtain ⟨x, hx⟩ : ∃ x, d.safe[p]? = some x := ⟨_, List.getElem?_eq_getElem (by rw [HL0.out]; exact hp)⟩
        have hsl := hbx.safe
        obtain ⟨b0', o0', Bx, cx, he, hcell, hcx, hmx, hatx⟩ := Rep.At.list hsl.2.2 hx
        cases he
        have HXV := Lib.hid (show Rep.byte.list.val Q w10 (.slice Bx x.length cx) x from Rep.list_val rfl hcx hmx hatx)
        have HSG := Lib.hid (show d.safe.getD p [] = x by rw [List.getD_eq_getElem?_getD, hx]; rfl)
        clear hbx hblk hsl hx hcx hmx hatx
        generalize ofW d.wait (p : Int) = l at *
        have hp2 : (p : Int) < len0 := by omega
        have hcap1 := HCAP.out
        go_wp2_with fail
        go_loopw [11, 12] (fun was nn wr => ∃ m : Nat, nn = .int .i64 m ∧ Hid (m ≤ keptOf f l.length) ∧ Rep.byte.list.val Q w10 was ((x :: l).getD m []) ∧ wr = w10) (fun _ nn _ => l.length - (intOf nn).toNat)
        case atStart => exact ⟨0, rfl, Nat.zero_le _, HXV.out, rfl⟩
        case round =>
          obtain ⟨m, rfl, hm, hwas, rfl⟩ := hrel
          have hml := kept_le f l.length
          have HWAS := Lib.hid hwas
          obtain ⟨Aw, cw', rfl, _, _, _⟩ := Rep.val_list hwas
          have hml2 : m ≤ l.length := Nat.le_trans hm.out hml
          clear hml
          by_cases hgo : (m : Int) < l.length ∧ (m : Int) < f.kept
          · obtain ⟨h1, h2⟩ := hgo
            obtain ⟨y, hy⟩ : ∃ y, l[m]? = some y := ⟨_, List.getElem?_eq_getElem (by omega)⟩
            obtain ⟨g, By, cy, cap, he, hcy, _, _, hval⟩ := Rep.acc_elem HU10.out hy
            cases he
            have HM := Lib.hid (kept_more (f := f) h1 h2)
            have HY := Lib.hid (show Rep.byte.list.val Q wr (.slice By y.length cy) ((x :: l).getD (m + 1) []) by
              rw [List.getD_eq_getElem?_getD, List.getElem?_cons_succ, hy]
              exact Rep.val_mono (fun b hb _ => hb.1) hval)
            clear hm hwas hval hy hcell e0 a1
            go_wp2_with fail
            exact ⟨⟨m + 1, by go_num, HM.out, HY.out, trivial⟩, by simp [intOf]; omega⟩
          · have HKE := Lib.hid (kept_stop (f := f) hm.out (n := l.length) (show ¬ ((m : Int) < l.length ∧ (m : Int) < (f : DFate).kept) from hgo))
            obtain ⟨o, ho⟩ : ∃ o, (T k)[p]? = some o := ⟨_, List.getElem?_eq_getElem (by rw [HTL.out, HL0.out]; exact hp)⟩
            have HACW := Lib.hid (show ∀ W', Below wo.heap.size wo W' → Rep.byte.list.acc 22 w2.heap.size (fun b => Q b ∨ w2.heap.size ≤ b) W' (.slice A6 len0 c6) (T k) from fun W' hb => Rep.acc_later HACC.out hb)
            have hstop : ((decide ((m : Int) < l.length)) && (decide ((m : Int) < f.kept))) = false := by
              cases h1 : decide ((m : Int) < l.length) with
              | false => rfl
              | true => cases h2 : decide ((m : Int) < f.kept) with
                | false => rfl
                | true => exact absurd ⟨of_decide_eq_true h1, of_decide_eq_true h2⟩ hgo
            have HOWN := Lib.hid (fun b (e : (Value.slice A6 len0 c6).ownBlock = some b) => Rep.acc_own HACC.out b e)
            clear hm hwas hcell e0
            by_cases h1 : (m : Int) < l.length
            · obtain ⟨y, hy⟩ : ∃ y, l[m]? = some y := ⟨_, List.getElem?_eq_getElem (by omega)⟩
              obtain ⟨g, By, cy, cap, he, hcy, _, _, hval⟩ := Rep.acc_elem HU10.out hy
              cases he
              have h2 : ¬ (m : Int) < f.kept := fun e => hgo ⟨h1, e⟩
              have HST := Lib.hid (settle_tear (s := x) HKE.out hy)
              have HY := Lib.hid (Rep.val_mono (Q' := Q) (fun b hb _ => hb.1) hval)
              have KS := Lib.hid (show ∀ W', Below wr.heap.size wr W' → W'.cell? ⟨g, m, none⟩ = some (.slice By y.length cy) ∧ W'.cell? ⟨wo.heap.size, 1, none⟩ = some (.int .i64 f.torn) from fun W' hb => ⟨(hb.cell (p := ⟨g, m, none⟩) (by have := (Rep.acc_own HU10.out g rfl).2; exact this)).trans hcy, (hb.cell (p := ⟨wo.heap.size, 1, none⟩) (IsC.lt ⟨_, _, _, HWK10.out⟩)).trans ((cell_row HWK10.out 1).trans rfl)⟩)
              clear hgo hstop hy hval
              go_wp2_with fail
              go_region_held3 (fun W' => W'.cell? ⟨g, m, none⟩ = some (.slice By y.length cy) ∧ W'.cell? ⟨wo.heap.size, 1, none⟩ = some (.int .i64 f.torn))
                (first
                  | exact KS.out _ (Below.refl _ _).drew
                  | exact KS.out _ D9.out)
                (first | (go_at_call 244; refine (rtear_calls (Rep.val_drewN HWAS.out 1) (Rep.val_drewN HY.out 1) KT.out).mono ?_; rintro e w9 ⟨u9, rfl, hu9, hb9⟩; have D9 := Lib.hid ((Below.refl wr.heap.size wr).drew.trans hb9); have HU9 := Lib.hid hu9; obtain ⟨A9, c9, rfl, _, _⟩ := Rep.acc_form hu9; clear hb9 hu9))
              have hb9 := D9.out
              have HBR9 := Lib.hid (HBR10.out.trans (hb9.mono HBR10.out.size))
              have hu9 := Rep.acc_fresh HU9.out
              obtain ⟨cs9, he9, hrd9⟩ := hu9
              have hcs9 := Rep.byte.list.back hrd9
              rw [← he9] at hcs9
              have hcs9' : cs9 = [.slice A9 (tearOf ((x :: l).getD m []) y f.torn).length c9] := hcs9.symm
              subst hcs9'
              obtain ⟨g6, cap6, hv6, _, hput⟩ := Rep.acc_put (u := .slice A9 (tearOf ((x :: l).getD m []) y f.torn).length c9) rfl (HACW.out _ HBR9.out) (show p < (T k).length by rw [HTL.out, HL0.out]; exact hp) (Rep.byte.list.mono (fun b hb _ => ⟨.inr (by have h1 : wr.heap.size ≤ b := hb; have := HBR10.out.size; have := HSW.out; omega), fun e => by have := (HOWN.out b e).2; have h1 : wr.heap.size ≤ b := hb; have := HBR10.out.size; omega⟩) hrd9) rfl
              obtain ⟨g7, cap7, u7, hv7, hcell7, hfr7, _, _, _⟩ := Rep.acc_at rfl (HACW.out _ HBR9.out) ho
              rw [HTL.out, HL0.out] at hv6 hv7
              cases hv6
              cases hv7
              have HPUT := Lib.hid hput
              have HG6 := Lib.hid (HOWN.out g6 rfl)
              clear hrd9 he9 hcs9 hb9 hcy a0 a1 ho
              go_wp2_with fail
              exact ⟨⟨k + 1, by go_num, by omega, by rw [HTS.out, HSG.out, HFE.out, HST.out]; exact HPUT.out, (HB.out.trans (HBR9.out.mono HSW.out)).setCell HG6.out.1 _⟩, by simp [intOf]; omega⟩
            · have HST := Lib.hid (settle_was (s := x) HKE.out (show ¬ m < l.length by omega))
              have hwas := HWAS.out
              obtain ⟨cs9, he9, hrd9⟩ := hwas
              have hcs9 := Rep.byte.list.back hrd9
              rw [← he9] at hcs9
              have hcs9' : cs9 = [.slice Aw ((x :: l).getD m []).length cw'] := hcs9.symm
              subst hcs9'
              obtain ⟨g6, cap6, hv6, _, hput⟩ := Rep.acc_put (u := .slice Aw ((x :: l).getD m []).length cw') rfl (HACW.out _ HBR10.out) (show p < (T k).length by rw [HTL.out, HL0.out]; exact hp) (Rep.byte.list.mono (fun b hb _ => ⟨.inl hb, fun e => by have := (HOWN.out b e).1; have := HQ.out b hb; have := HS2.out; omega⟩) hrd9) rfl
              obtain ⟨g7, cap7, u7, hv7, hcell7, hfr7, _, _, _⟩ := Rep.acc_at rfl (HACW.out _ HBR10.out) ho
              rw [HTL.out, HL0.out] at hv6 hv7
              cases hv6
              cases hv7
              have HPUT := Lib.hid hput
              have HG6 := Lib.hid (HOWN.out g6 rfl)
              clear hrd9 he9 hcs9 a0 a1 ho hgo hstop
              go_wp2_with fail
              exact ⟨⟨k + 1, by go_num, by omega, by rw [HTS.out, HSG.out, HFE.out, HST.out]; exact HPUT.out, (HB.out.trans (HBR10.out.mono HSW.out)).setCell HG6.out.1 _⟩, by simp [intOf]; omega⟩
      · have HFE := Lib.hid (show fates.getD k ⟨0, 0⟩ = (⟨0, 0⟩ : DFate) by rw [List.getD_eq_getElem?_getD, List.getElem?_eq_none (by omega)]; rfl)
        have KT := Lib.hid (show (Lit.int .i64 0).wf = true from rfl)
        go_wp2_with fail
        obtain ⟨WB, hWB⟩ : ∃ WB, ((WA.setCell ⟨wo.heap.size, 0, none⟩ (.int .i64 0)).setCell ⟨wo.heap.size, 1, none⟩ (.int .i64 0)) = WB := ⟨_, rfl⟩
        have hwk : WB.heap[wo.heap.size]? = some (.cells #[.int .i64 0, .int .i64 0] 233 (0, 0)) := by rw [← hWB]; exact row2_set HWK.out
        have hwb : Below wo.heap.size wo WB := by
          rw [← hWB]
          repeat (refine below_set ?_ (Nat.le_refl _))
          exact HWA.out
        have hws : WB.heap.size = wo.heap.size + 1 := by rw [← hWB, ← HWS.out]; simp
        rw [hWB]
        clear hWB
        have HWK2 := Lib.hid hwk
        have HBWB := Lib.hid (HBW.out.trans (hwb.mono (by have := HSW.out; have := HS2.out; omega)))
        have HSB := Lib.hid hws
        have HWB := Lib.hid hwb
        clear hwk hwb hws a0 a1 y0 y1 e0 e1 e2 e3 e4 e5 hd0
        refine (rof_calls (HV.out _ HBWB.out) (HQW.out _ HBWB.out) (by rw [HL1.out]; exact HN.out)).mono ?_
        rintro e w10 ⟨u10, rfl, hu10, hb10⟩
        have HU10 := Lib.hid hu10
        have HB10 := Lib.hid (HBWB.out.trans (hb10.mono (by have := HSB.out; have := HSW.out; have := HS2.out; omega)))
        have HWK10 := Lib.hid ((hb10.block _ (show wo.heap.size < WB.heap.size by rw [HSB.out]; exact Nat.lt_succ_self _)).trans HWK2.out)
        have HBR10 := Lib.hid (HWB.out.trans (hb10.mono (by rw [HSB.out]; exact Nat.le_succ _)))
        obtain ⟨A10, c10, rfl, hc10, hm10⟩ := Rep.acc_form hu10
        unfold maxLen at hm10
        clear hu10 hb10
        have hbx := HBX.out _ HB10.out
        have hblk := hbx.blk
        rw [HL0.out, HL1.out] at hblk
        have e0 := cell_row hblk 0
        have a0 := cell_row HWK10.out 0
        have a1 := cell_row HWK10.out 1
        obtain ⟨x, hx⟩ : ∃ x, d.safe[p]? = some x := ⟨_, List.getElem?_eq_getElem (by rw [HL0.out]; exact hp)⟩
        have hsl := hbx.safe
        obtain ⟨b0', o0', Bx, cx, he, hcell, hcx, hmx, hatx⟩ := Rep.At.list hsl.2.2 hx
        cases he
        have HXV := Lib.hid (show Rep.byte.list.val Q w10 (.slice Bx x.length cx) x from Rep.list_val rfl hcx hmx hatx)
        have HSG := Lib.hid (show d.safe.getD p [] = x by rw [List.getD_eq_getElem?_getD, hx]; rfl)
        clear hbx hblk hsl hx hcx hmx hatx
        generalize ofW d.wait (p : Int) = l at *
        have hp2 : (p : Int) < len0 := by omega
        have hcap1 := HCAP.out
        go_wp2_with fail
        go_loopw [11, 12] (fun was nn wr => ∃ m : Nat, nn = .int .i64 m ∧ Hid (m ≤ keptOf (⟨0, 0⟩ : DFate) l.length) ∧ Rep.byte.list.val Q w10 was ((x :: l).getD m []) ∧ wr = w10) (fun _ nn _ => l.length - (intOf nn).toNat)
        case atStart => exact ⟨0, rfl, Nat.zero_le _, HXV.out, rfl⟩
        case round =>
          obtain ⟨m, rfl, hm, hwas, rfl⟩ := hrel
          have hml := kept_le (⟨0, 0⟩ : DFate) l.length
          have HWAS := Lib.hid hwas
          obtain ⟨Aw, cw', rfl, _, _, _⟩ := Rep.val_list hwas
          have hml2 : m ≤ l.length := Nat.le_trans hm.out hml
          clear hml
          by_cases hgo : (m : Int) < l.length ∧ (m : Int) < 0
          · exact absurd hgo.2 (by omega)
          · have HKE := Lib.hid (kept_stop (f := (⟨0, 0⟩ : DFate)) hm.out (n := l.length) (show ¬ ((m : Int) < l.length ∧ (m : Int) < ((⟨0, 0⟩ : DFate) : DFate).kept) from hgo))
            obtain ⟨o, ho⟩ : ∃ o, (T k)[p]? = some o := ⟨_, List.getElem?_eq_getElem (by rw [HTL.out, HL0.out]; exact hp)⟩
            have HACW := Lib.hid (show ∀ W', Below wo.heap.size wo W' → Rep.byte.list.acc 22 w2.heap.size (fun b => Q b ∨ w2.heap.size ≤ b) W' (.slice A6 len0 c6) (T k) from fun W' hb => Rep.acc_later HACC.out hb)
            have hstop : ((decide ((m : Int) < l.length)) && (decide ((m : Int) < 0))) = false := by
              cases h1 : decide ((m : Int) < l.length) with
              | false => rfl
              | true => cases h2 : decide ((m : Int) < 0) with
                | false => rfl
                | true => exact absurd ⟨of_decide_eq_true h1, of_decide_eq_true h2⟩ hgo
            have HOWN := Lib.hid (fun b (e : (Value.slice A6 len0 c6).ownBlock = some b) => Rep.acc_own HACC.out b e)
            clear hm hwas hcell e0
            by_cases h1 : (m : Int) < l.length
            · obtain ⟨y, hy⟩ : ∃ y, l[m]? = some y := ⟨_, List.getElem?_eq_getElem (by omega)⟩
              obtain ⟨g, By, cy, cap, he, hcy, _, _, hval⟩ := Rep.acc_elem HU10.out hy
              cases he
              have h2 : ¬ (m : Int) < 0 := fun e => hgo ⟨h1, e⟩
              have HST := Lib.hid (settle_tear (s := x) HKE.out hy)
              have HY := Lib.hid (Rep.val_mono (Q' := Q) (fun b hb _ => hb.1) hval)
              have KS := Lib.hid (show ∀ W', Below wr.heap.size wr W' → W'.cell? ⟨g, m, none⟩ = some (.slice By y.length cy) ∧ W'.cell? ⟨wo.heap.size, 1, none⟩ = some (.int .i64 0) from fun W' hb => ⟨(hb.cell (p := ⟨g, m, none⟩) (by have := (Rep.acc_own HU10.out g rfl).2; exact this)).trans hcy, (hb.cell (p := ⟨wo.heap.size, 1, none⟩) (IsC.lt ⟨_, _, _, HWK10.out⟩)).trans ((cell_row HWK10.out 1).trans rfl)⟩)
              clear hgo hstop hy hval
              go_wp2_with fail
              go_region_held3 (fun W' => W'.cell? ⟨g, m, none⟩ = some (.slice By y.length cy) ∧ W'.cell? ⟨wo.heap.size, 1, none⟩ = some (.int .i64 0))
                (first
                  | exact KS.out _ (Below.refl _ _).drew
                  | exact KS.out _ D9.out)
                (first | (go_at_call 244; refine (rtear_calls (Rep.val_drewN HWAS.out 1) (Rep.val_drewN HY.out 1) KT.out).mono ?_; rintro e w9 ⟨u9, rfl, hu9, hb9⟩; have D9 := Lib.hid ((Below.refl wr.heap.size wr).drew.trans hb9); have HU9 := Lib.hid hu9; obtain ⟨A9, c9, rfl, _, _⟩ := Rep.acc_form hu9; clear hb9 hu9))
              have hb9 := D9.out
              have HBR9 := Lib.hid (HBR10.out.trans (hb9.mono HBR10.out.size))
              have hu9 := Rep.acc_fresh HU9.out
              obtain ⟨cs9, he9, hrd9⟩ := hu9
              have hcs9 := Rep.byte.list.back hrd9
              rw [← he9] at hcs9
              have hcs9' : cs9 = [.slice A9 (tearOf ((x :: l).getD m []) y 0).length c9] := hcs9.symm
              subst hcs9'
              obtain ⟨g6, cap6, hv6, _, hput⟩ := Rep.acc_put (u := .slice A9 (tearOf ((x :: l).getD m []) y 0).length c9) rfl (HACW.out _ HBR9.out) (show p < (T k).length by rw [HTL.out, HL0.out]; exact hp) (Rep.byte.list.mono (fun b hb _ => ⟨.inr (by have h1 : wr.heap.size ≤ b := hb; have := HBR10.out.size; have := HSW.out; omega), fun e => by have := (HOWN.out b e).2; have h1 : wr.heap.size ≤ b := hb; have := HBR10.out.size; omega⟩) hrd9) rfl
              obtain ⟨g7, cap7, u7, hv7, hcell7, hfr7, _, _, _⟩ := Rep.acc_at rfl (HACW.out _ HBR9.out) ho
              rw [HTL.out, HL0.out] at hv6 hv7
              cases hv6
              cases hv7
              have HPUT := Lib.hid hput
              have HG6 := Lib.hid (HOWN.out g6 rfl)
              clear hrd9 he9 hcs9 hb9 hcy a0 a1 ho
              go_wp2_with fail
              exact ⟨⟨k + 1, by go_num, by omega, by rw [HTS.out, HSG.out, HFE.out, HST.out]; exact HPUT.out, (HB.out.trans (HBR9.out.mono HSW.out)).setCell HG6.out.1 _⟩, by simp [intOf]; omega⟩
            · have HST := Lib.hid (settle_was (s := x) HKE.out (show ¬ m < l.length by omega))
              have hwas := HWAS.out
              obtain ⟨cs9, he9, hrd9⟩ := hwas
              have hcs9 := Rep.byte.list.back hrd9
              rw [← he9] at hcs9
              have hcs9' : cs9 = [.slice Aw ((x :: l).getD m []).length cw'] := hcs9.symm
              subst hcs9'
              obtain ⟨g6, cap6, hv6, _, hput⟩ := Rep.acc_put (u := .slice Aw ((x :: l).getD m []).length cw') rfl (HACW.out _ HBR10.out) (show p < (T k).length by rw [HTL.out, HL0.out]; exact hp) (Rep.byte.list.mono (fun b hb _ => ⟨.inl hb, fun e => by have := (HOWN.out b e).1; have := HQ.out b hb; have := HS2.out; omega⟩) hrd9) rfl
              obtain ⟨g7, cap7, u7, hv7, hcell7, hfr7, _, _, _⟩ := Rep.acc_at rfl (HACW.out _ HBR10.out) ho
              rw [HTL.out, HL0.out] at hv6 hv7
              cases hv6
              cases hv7
              have HPUT := Lib.hid hput
              have HG6 := Lib.hid (HOWN.out g6 rfl)
              clear hrd9 he9 hcs9 a0 a1 ho hgo hstop
              go_wp2_with fail
              exact ⟨⟨k + 1, by go_num, by omega, by rw [HTS.out, HSG.out, HFE.out, HST.out]; exact HPUT.out, (HB.out.trans (HBR10.out.mono HSW.out)).setCell HG6.out.1 _⟩, by simp [intOf]; omega⟩
    · obtain rfl : k = D.length := by omega
      have hbx := HBX.out _ HBW.out
      have hblk := hbx.blk
      rw [HL0.out, HL1.out] at hblk
      have hrk := (HBW.out.block (w.heap.size + 1) (Nat.lt_succ_self _)).trans HRK.out
      have e4 := cell_row hblk 4
      have e5 := cell_row hblk 5
      have d0 := cell_row hrk 0
      have d1 := cell_row hrk 1
      have d2 := cell_row hrk 2
      have d3 := cell_row hrk 3
      have d4 := cell_row hrk 4
      have d5 := cell_row hrk 5
      have y0 := frozen_row hrk 0
      have y1 := frozen_row hrk 1
      have y2 := frozen_row hrk 2
      have y3 := frozen_row hrk 3
      have y4 := frozen_row hrk 4
      have y5 := frozen_row hrk 5
      have HBEL := Lib.hid hbx.bel
      have HSV := Lib.hid (show ∀ W', (∀ b, b ≠ w.heap.size + 1 → W'.heap[b]? = wo.heap[b]?) → Rep.byte.list.Sl (fun b => Q b ∨ w.heap.size ≤ b) W' A6 c6 (T D.length) from fun W' hk => by
        obtain ⟨A', c', he, h1, h2, h3⟩ := Rep.val_list (Rep.acc_val HACC.out)
        simp only [Value.slice.injEq] at he
        obtain ⟨rfl, _, rfl⟩ := he
        have hown := Rep.acc_own HACC.out
        refine ⟨h1, h2, h3.keep fun b hb' hl => ?_⟩
        rcases hb' with (hb' | hb') | hb'
        · exact ⟨.inl hb', hk b (by have := HQ.out b hb'; omega)⟩
        · exact ⟨.inr (by have := HS2.out; omega), hk b (by have := HS2.out; omega)⟩
        · exact ⟨.inr (by have := (hown b hb').1; have := HS2.out; omega), hk b (by have := (hown b hb').1; have := HS2.out; omega)⟩)
      have hfr : Try.f166.results = #[.cell 4 104] := rfl
      have HTLD := Lib.hid (show (T D.length).length = len0 by rw [HTL.out, HL0.out])
      clear hbx hblk hrk
      go_wp2_with fail
      refine (fun (hb : EndAt w wo (w.heap.size + 1) _) => ⟨rfl, .agg #[.slice A6 len0 c6, .slice none 0 0, .int .i64 (-1), .bool false, .int .i64 d.reads, .int .i64 d.writes], ?_, ⟨_, rfl, ?_, hb.1⟩⟩) ?_
      · repeat (refine EndAt.set (Nat.le_succ _) ?_)
        exact ⟨HBEL.out, fun _ _ => rfl⟩
      · simp only [results, hfr]
        go_simp
      · have h := rDisk_agg (x := ⟨T D.length, [], -1, false, d.reads, d.writes⟩) (HSV.out _ hb.2) (A_wait := none) (c_wait := 0) ⟨Nat.zero_le _, Nat.zero_le _, [], rfl, fun h => absurd h (by simp)⟩ rfl F3.out F4.out
        dsimp only at h
        rw [HTLD.out, ← HFIN.out] at h
        exact h
end Go.Proofs.Ytcfgckpjgihcgaa
/- The boxes of a step of the reference's device. -/
namespace Go.Proofs.Ytcfgckpjgihcgaa
open Go.RowKit

theorem row6_set {W : World} {n t : Nat} {a0 a1 a2 a3 a4 a5 x0 x1 x2 x3 x4 x5 : Value} (h : W.heap[n]? = some (.cells #[a0, a1, a2, a3, a4, a5] t (0, 0))) :
    ((((((W.setCell ⟨n, 0, none⟩ x0).setCell ⟨n, 1, none⟩ x1).setCell ⟨n, 2, none⟩ x2).setCell ⟨n, 3, none⟩ x3).setCell ⟨n, 4, none⟩ x4).setCell ⟨n, 5, none⟩ x5).heap[n]? = some (.cells #[x0, x1, x2, x3, x4, x5] t (0, 0)) :=
  heap_setRow (i := 5) (v := x5) (heap_setRow (i := 4) (v := x4) (heap_setRow (i := 3) (v := x3) (heap_setRow (i := 2) (v := x2) (heap_setRow (i := 1) (v := x1) (heap_setRow (i := 0) (v := x0) h)))))
/-- A world that differs in one block. -/
structure But (n : Nat) (W W' : World) : Prop where
  os : W'.os = W.os
  tape : W'.tape = W.tape
  output : W'.output = W.output
  size : W'.heap.size = W.heap.size
  block : ∀ b, b ≠ n → W'.heap[b]? = W.heap[b]?
theorem But.refl (n : Nat) (W : World) : But n W W := ⟨rfl, rfl, rfl, rfl, fun _ _ => rfl⟩
theorem But.set {n : Nat} {W W' : World} (h : But n W W') (i : Nat) (v : Value) : But n W (W'.setCell ⟨n, i, none⟩ v) :=
  ⟨h.os, h.tape, h.output, by simp [h.size], fun b hb => (Below.heap_setCell _ _ _ _ hb).trans (h.block b hb)⟩
theorem But.below {B n : Nat} {w W W' : World} (h : But n W W') (hb : Below B w W) (hn : B ≤ n) : Below B w W' :=
  ⟨h.os.trans hb.os, h.tape.trans hb.tape, h.output.trans hb.output, by rw [h.size]; exact hb.size, fun b hl => (h.block b (by omega)).trans (hb.block b hl)⟩

/-- What lay lies as0 it lay, but for one block. -/
def Alike (n : Nat) (W W' : World) : Prop := ∀ b, b < W.heap.size → b ≠ n → W'.heap[b]? = W.heap[b]?
theorem Alike.of {n : Nat} {W W' : World} (h : Below W.heap.size W W') : Alike n W W' := fun b hb _ => h.block b hb
theorem Alike.set {n : Nat} {W W' : World} (h : Alike n W W') (i : Nat) (v : Value) : Alike n W (W'.setCell ⟨n, i, none⟩ v) := fun b hb hn => (Below.heap_setCell _ _ _ _ hn).trans (h b hb hn)
theorem Alike.cell {n : Nat} {W W' : World} (h : Alike n W W') {b i : Nat} {v : Value} (hv : W.cell? ⟨b, i, none⟩ = some v) (hb : b < W.heap.size) (hn : b ≠ n) : W'.cell? ⟨b, i, none⟩ = some v := (World.cell?_of_block (h b hb hn)).trans hv
def dcells (d : DDisk) (A0 : Option Addr) (c0 : Nat) (A1 : Option Addr) (c1 : Nat) : Array Value := #[.slice A0 d.safe.length c0, .slice A1 d.wait.length c1, .int .i64 d.fuse, .bool d.off, .int .i64 d.reads, .int .i64 d.writes]
def scells (x : DStep) (A2 : Option Addr) (c2 : Nat) (A3 : Option Addr) (c3 : Nat) : Array Value := #[.int .i64 x.act, .int .i64 x.pos, .slice A2 x.b.length c2, .slice A3 x.fates.length c3]
def zcells : Array Value := #[.slice none 0 0, .slice none 0 0, .int .i64 0, .bool false, .int .i64 0, .int .i64 0]
/-- The three boxes of a step: the disk's, the step's, the result's. -/
structure GoBox (Q Q' : Nat → Prop) (w W : World) (d : DDisk) (x : DStep) (A0 : Option Addr) (c0 : Nat) (A1 : Option Addr) (c1 : Nat) (A2 : Option Addr) (c2 : Nat) (A3 : Option Addr) (c3 : Nat) : Prop where
  dblk : W.heap[w.heap.size]? = some (.cells (dcells d A0 c0 A1 c1) 104 (0, 0))
  sblk : W.heap[w.heap.size + 1]? = some (.cells (scells x A2 c2 A3 c3) 110 (0, 0))
  rblk : W.heap[w.heap.size + 1 + 1]? = some (.cells zcells 104 (0, 0))
  bel : Below w.heap.size w W
  big : w.heap.size + 3 ≤ W.heap.size
  safe : Rep.byte.list.Sl (fun b => Q b ∨ w.heap.size + 3 ≤ b) W A0 c0 d.safe
  wait : rWrite.Sl (fun b => Q b ∨ w.heap.size + 3 ≤ b) W A1 c1 d.wait
  fuse : (Lit.int .i64 d.fuse).wf = true
  reads : (Lit.int .i64 d.reads).wf = true
  writes : (Lit.int .i64 d.writes).wf = true
  b : Rep.byte.Sl Q' W A2 c2 x.b
  fates : rFate.Sl Q' W A3 c3 x.fates
def GoPost (Q : Nat → Prop) (w : World) (r : DDisk × List UInt8 × Int) (e : Ending) (w' : World) : Prop :=
  ∃ z u, e = .returned (.tuple #[z, u, .int .i64 r.2.2]) ∧ rDisk.val (fun b => Q b ∨ w.heap.size ≤ b) w' z r.1 ∧ Rep.byte.list.val (fun b => Q b ∨ w.heap.size ≤ b) w' u r.2.1 ∧ Below w.heap.size w w'
section
variable {Q Q' : Nat → Prop} {w W W' : World} {d : DDisk} {x : DStep} {A0 A1 A2 A3 : Option Addr} {c0 c1 c2 c3 : Nat}
theorem GoBox.below (h : GoBox Q Q' w W d x A0 c0 A1 c1 A2 c2 A3 c3) (hb : Below W.heap.size W W') : GoBox Q Q' w W' d x A0 c0 A1 c1 A2 c2 A3 c3 := by
  have hs := h.big
  refine ⟨(hb.block _ (by omega)).trans h.dblk, (hb.block _ (by omega)).trans h.sblk, (hb.block _ (by omega)).trans h.rblk, h.bel.trans (hb.mono (by omega)), Nat.le_trans hs hb.size,
    h.safe.keep fun b hq hl => ⟨hq, hb.block b hl.lt⟩, h.wait.keep fun b hq hl => ⟨hq, hb.block b hl.lt⟩, h.fuse, h.reads, h.writes, h.b.keep fun b hq hl => ⟨hq, hb.block b hl.lt⟩, h.fates.keep fun b hq hl => ⟨hq, hb.block b hl.lt⟩⟩
/-- The disk's box is written. -/
theorem GoBox.turn (h : GoBox Q Q' w W d x A0 c0 A1 c1 A2 c2 A3 c3) (hq : ∀ b, Q b → b < w.heap.size) (hq' : ∀ b, Q' b → b < w.heap.size) (hb : But w.heap.size W W') {d' : DDisk} {B0 B1 : Option Addr} {e0 e1 : Nat}
    (hd : W'.heap[w.heap.size]? = some (.cells (dcells d' B0 e0 B1 e1) 104 (0, 0))) (hs : Rep.byte.list.Sl (fun b => Q b ∨ w.heap.size + 3 ≤ b) W B0 e0 d'.safe) (hw : rWrite.Sl (fun b => Q b ∨ w.heap.size + 3 ≤ b) W B1 e1 d'.wait)
    (f2 : (Lit.int .i64 d'.fuse).wf = true) (f3 : (Lit.int .i64 d'.reads).wf = true) (f4 : (Lit.int .i64 d'.writes).wf = true) : GoBox Q Q' w W' d' x B0 e0 B1 e1 A2 c2 A3 c3 := by
  have k : ∀ b, (Q b ∨ w.heap.size + 3 ≤ b) → IsC W b → (Q b ∨ w.heap.size + 3 ≤ b) ∧ W'.heap[b]? = W.heap[b]? := fun b hb' _ => ⟨hb', hb.block b (fun e => by rcases hb' with h' | h'; (· have := hq b h'; omega); omega)⟩
  have k' : ∀ b, Q' b → IsC W b → Q' b ∧ W'.heap[b]? = W.heap[b]? := fun b hb' _ => ⟨hb', hb.block b (fun e => by have := hq' b hb'; omega)⟩
  exact ⟨hd, (hb.block _ (by omega)).trans h.sblk, (hb.block _ (by omega)).trans h.rblk, hb.below h.bel (Nat.le_refl _), by rw [hb.size]; exact h.big, hs.keep k, hw.keep k, f2, f3, f4, h.b.keep k', h.fates.keep k'⟩
theorem GoBox.val (h : GoBox Q Q' w W d x A0 c0 A1 c1 A2 c2 A3 c3) : rDisk.val (fun b => Q b ∨ w.heap.size + 3 ≤ b) W (.agg (dcells d A0 c0 A1 c1)) d := rDisk_agg h.safe h.wait h.fuse h.reads h.writes
theorem GoBox.valIn (h : GoBox Q Q' w W d x A0 c0 A1 c1 A2 c2 A3 c3) : rDisk.val (fun b => (Q b ∨ w.heap.size + 3 ≤ b) ∧ b < W.heap.size) W (.agg (dcells d A0 c0 A1 c1)) d := Rep.val_mono (fun _ hb hl => ⟨hb, hl.lt⟩) h.val
theorem GoBox.fin (h : GoBox Q Q' w W d x A0 c0 A1 c1 A2 c2 A3 c3) (hq : ∀ b, Q b → b < w.heap.size) (hb : But (w.heap.size + 1 + 1) W W') {z u : Value} {r : DDisk} {l : List UInt8} {k : Int} (hz : rDisk.val (fun b => Q b ∨ w.heap.size + 3 ≤ b) W z r) (hu : Rep.byte.list.val (fun b => Q b ∨ w.heap.size + 3 ≤ b) W u l) :
    GoPost Q w (r, l, k) (.returned (.tuple #[z, u, .int .i64 k])) W' := by
  have kk : ∀ b, (Q b ∨ w.heap.size + 3 ≤ b) → IsC W b → (Q b ∨ w.heap.size ≤ b) ∧ W'.heap[b]? = W.heap[b]? := fun b hb' _ => ⟨hb'.imp id (by omega), hb.block b (fun e => by rcases hb' with h' | h'; (· have := hq b h'; omega); omega)⟩
  exact ⟨_, _, rfl, Rep.val_keep kk hz, Rep.val_keep kk hu, hb.below h.bel (by omega)⟩
/-- The result's box is written, and returned. -/
theorem GoBox.done (h : GoBox Q Q' w W d x A0 c0 A1 c1 A2 c2 A3 c3) (hq : ∀ b, Q b → b < w.heap.size) (hb : But (w.heap.size + 1 + 1) W W') {u : Value} {l : List UInt8} {k : Int} (hu : Rep.byte.list.val (fun b => Q b ∨ w.heap.size + 3 ≤ b) W u l) :
    GoPost Q w (d, l, k) (.returned (.tuple #[.agg (dcells d A0 c0 A1 c1), u, .int .i64 k])) W' := by
  have kk : ∀ b, (Q b ∨ w.heap.size + 3 ≤ b) → IsC W b → (Q b ∨ w.heap.size ≤ b) ∧ W'.heap[b]? = W.heap[b]? := fun b hb' _ => ⟨hb'.imp id (by omega), hb.block b (fun e => by rcases hb' with h' | h'; (· have := hq b h'; omega); omega)⟩
  exact ⟨_, _, rfl, Rep.val_keep kk h.val, Rep.val_keep kk hu, hb.below h.bel (by omega)⟩
theorem GoBox.setFuse (h : GoBox Q Q' w W d x A0 c0 A1 c1 A2 c2 A3 c3) (hq : ∀ b, Q b → b < w.heap.size) (hq' : ∀ b, Q' b → b < w.heap.size) {n : Int} (hn : (Lit.int .i64 n).wf = true) : GoBox Q Q' w (W.setCell ⟨w.heap.size, 2, none⟩ (.int .i64 n)) { d with fuse := n } x A0 c0 A1 c1 A2 c2 A3 c3 :=
  h.turn hq hq' ((But.refl _ _).set _ _) (by rw [heap_setRow h.dblk]; rfl) h.safe h.wait hn h.reads h.writes
theorem GoBox.setReads (h : GoBox Q Q' w W d x A0 c0 A1 c1 A2 c2 A3 c3) (hq : ∀ b, Q b → b < w.heap.size) (hq' : ∀ b, Q' b → b < w.heap.size) {n : Int} (hn : (Lit.int .i64 n).wf = true) : GoBox Q Q' w (W.setCell ⟨w.heap.size, 4, none⟩ (.int .i64 n)) { d with reads := n } x A0 c0 A1 c1 A2 c2 A3 c3 :=
  h.turn hq hq' ((But.refl _ _).set _ _) (by rw [heap_setRow h.dblk]; rfl) h.safe h.wait h.fuse hn h.writes
theorem GoBox.setWrites (h : GoBox Q Q' w W d x A0 c0 A1 c1 A2 c2 A3 c3) (hq : ∀ b, Q b → b < w.heap.size) (hq' : ∀ b, Q' b → b < w.heap.size) {n : Int} (hn : (Lit.int .i64 n).wf = true) : GoBox Q Q' w (W.setCell ⟨w.heap.size, 5, none⟩ (.int .i64 n)) { d with writes := n } x A0 c0 A1 c1 A2 c2 A3 c3 :=
  h.turn hq hq' ((But.refl _ _).set _ _) (by rw [heap_setRow h.dblk]; rfl) h.safe h.wait h.fuse h.reads hn
theorem GoBox.setSafe (h : GoBox Q Q' w W d x A0 c0 A1 c1 A2 c2 A3 c3) (hq : ∀ b, Q b → b < w.heap.size) (hq' : ∀ b, Q' b → b < w.heap.size) {l : List (List UInt8)} {B0 : Option Addr} {e0 : Nat} (hl : Rep.byte.list.Sl (fun b => Q b ∨ w.heap.size + 3 ≤ b) W B0 e0 l) : GoBox Q Q' w (W.setCell ⟨w.heap.size, 0, none⟩ (.slice B0 l.length e0)) { d with safe := l } x B0 e0 A1 c1 A2 c2 A3 c3 :=
  h.turn hq hq' ((But.refl _ _).set _ _) (by rw [heap_setRow h.dblk]; rfl) hl h.wait h.fuse h.reads h.writes
theorem GoBox.setWait (h : GoBox Q Q' w W d x A0 c0 A1 c1 A2 c2 A3 c3) (hq : ∀ b, Q b → b < w.heap.size) (hq' : ∀ b, Q' b → b < w.heap.size) {l : List DWrite} {B1 : Option Addr} {e1 : Nat} (hl : rWrite.Sl (fun b => Q b ∨ w.heap.size + 3 ≤ b) W B1 e1 l) : GoBox Q Q' w (W.setCell ⟨w.heap.size, 1, none⟩ (.slice B1 l.length e1)) { d with wait := l } x A0 c0 B1 e1 A2 c2 A3 c3 :=
  h.turn hq hq' ((But.refl _ _).set _ _) (by rw [heap_setRow h.dblk]; rfl) h.safe hl h.fuse h.reads h.writes
theorem GoBox.setAll (h : GoBox Q Q' w W d x A0 c0 A1 c1 A2 c2 A3 c3) (hq : ∀ b, Q b → b < w.heap.size) (hq' : ∀ b, Q' b → b < w.heap.size) {d' : DDisk} {B0 B1 : Option Addr} {e0 e1 : Nat} (hs : Rep.byte.list.Sl (fun b => Q b ∨ w.heap.size + 3 ≤ b) W B0 e0 d'.safe) (hw : rWrite.Sl (fun b => Q b ∨ w.heap.size + 3 ≤ b) W B1 e1 d'.wait)
    (f2 : (Lit.int .i64 d'.fuse).wf = true) (f3 : (Lit.int .i64 d'.reads).wf = true) (f4 : (Lit.int .i64 d'.writes).wf = true) :
    GoBox Q Q' w ((((((W.setCell ⟨w.heap.size, 0, none⟩ (.slice B0 d'.safe.length e0)).setCell ⟨w.heap.size, 1, none⟩ (.slice B1 d'.wait.length e1)).setCell ⟨w.heap.size, 2, none⟩ (.int .i64 d'.fuse)).setCell ⟨w.heap.size, 3, none⟩ (.bool d'.off)).setCell ⟨w.heap.size, 4, none⟩ (.int .i64 d'.reads)).setCell ⟨w.heap.size, 5, none⟩ (.int .i64 d'.writes)) d' x B0 e0 B1 e1 A2 c2 A3 c3 :=
  h.turn hq hq' (((((((But.refl _ _).set _ _).set _ _).set _ _).set _ _).set _ _).set _ _) (row6_set h.dblk) hs hw f2 f3 f4
theorem syncTail_succ (s : List (List UInt8)) {l : List DWrite} {j : Nat} {y : DWrite} (h : l[j]? = some y) : syncTail s (l.take (j + 1)) = (syncTail s (l.take j)).set y.pos.toNat y.b := by
  obtain ⟨hj, rfl⟩ := List.getElem?_eq_some_iff.1 h
  unfold syncTail
  rw [List.take_succ_eq_append_getElem hj, List.foldl_append]
  rfl
theorem burnW_same (d : DDisk) : (burnW d).1.safe = d.safe ∧ (burnW d).1.wait = d.wait := by
  unfold burnW; split
  · exact ⟨rfl, rfl⟩
  · split <;> exact ⟨rfl, rfl⟩
theorem nil_bytes (u : Nat → Prop) (W : World) : Rep.byte.list.val u W (.slice none 0 0) ([] : List UInt8) := Rep.val_nil (by simp [maxLen])
theorem GoBox.dcell (h : GoBox Q Q' w W d x A0 c0 A1 c1 A2 c2 A3 c3) : W.cell? ⟨w.heap.size, 0, none⟩ = some (.slice A0 d.safe.length c0) ∧ W.cell? ⟨w.heap.size, 1, none⟩ = some (.slice A1 d.wait.length c1) ∧ W.cell? ⟨w.heap.size, 2, none⟩ = some (.int .i64 d.fuse) ∧ W.cell? ⟨w.heap.size, 3, none⟩ = some (.bool d.off) ∧ W.cell? ⟨w.heap.size, 4, none⟩ = some (.int .i64 d.reads) ∧ W.cell? ⟨w.heap.size, 5, none⟩ = some (.int .i64 d.writes) ∧ W.frozen? ⟨w.heap.size, 0, none⟩ = false ∧ W.frozen? ⟨w.heap.size, 1, none⟩ = false ∧ W.frozen? ⟨w.heap.size, 2, none⟩ = false ∧ W.frozen? ⟨w.heap.size, 3, none⟩ = false ∧ W.frozen? ⟨w.heap.size, 4, none⟩ = false ∧ W.frozen? ⟨w.heap.size, 5, none⟩ = false :=
  ⟨cell_row h.dblk 0, cell_row h.dblk 1, cell_row h.dblk 2, cell_row h.dblk 3, cell_row h.dblk 4, cell_row h.dblk 5, frozen_row h.dblk 0, frozen_row h.dblk 1, frozen_row h.dblk 2, frozen_row h.dblk 3, frozen_row h.dblk 4, frozen_row h.dblk 5⟩
theorem GoBox.scell (h : GoBox Q Q' w W d x A0 c0 A1 c1 A2 c2 A3 c3) : W.cell? ⟨w.heap.size + 1, 0, none⟩ = some (.int .i64 x.act) ∧ W.cell? ⟨w.heap.size + 1, 1, none⟩ = some (.int .i64 x.pos) ∧ W.cell? ⟨w.heap.size + 1, 2, none⟩ = some (.slice A2 x.b.length c2) ∧ W.cell? ⟨w.heap.size + 1, 3, none⟩ = some (.slice A3 x.fates.length c3) :=
  ⟨cell_row h.sblk 0, cell_row h.sblk 1, cell_row h.sblk 2, cell_row h.sblk 3⟩
theorem GoBox.rcell (h : GoBox Q Q' w W d x A0 c0 A1 c1 A2 c2 A3 c3) : W.cell? ⟨w.heap.size + 1 + 1, 0, none⟩ = some (.slice none 0 0) ∧ W.cell? ⟨w.heap.size + 1 + 1, 1, none⟩ = some (.slice none 0 0) ∧ W.cell? ⟨w.heap.size + 1 + 1, 2, none⟩ = some (.int .i64 0) ∧ W.cell? ⟨w.heap.size + 1 + 1, 3, none⟩ = some (.bool false) ∧ W.cell? ⟨w.heap.size + 1 + 1, 4, none⟩ = some (.int .i64 0) ∧ W.cell? ⟨w.heap.size + 1 + 1, 5, none⟩ = some (.int .i64 0) ∧ W.frozen? ⟨w.heap.size + 1 + 1, 0, none⟩ = false ∧ W.frozen? ⟨w.heap.size + 1 + 1, 1, none⟩ = false ∧ W.frozen? ⟨w.heap.size + 1 + 1, 2, none⟩ = false ∧ W.frozen? ⟨w.heap.size + 1 + 1, 3, none⟩ = false ∧ W.frozen? ⟨w.heap.size + 1 + 1, 4, none⟩ = false ∧ W.frozen? ⟨w.heap.size + 1 + 1, 5, none⟩ = false :=
  ⟨cell_row h.rblk 0, cell_row h.rblk 1, cell_row h.rblk 2, cell_row h.rblk 3, cell_row h.rblk 4, cell_row h.rblk 5, frozen_row h.rblk 0, frozen_row h.rblk 1, frozen_row h.rblk 2, frozen_row h.rblk 3, frozen_row h.rblk 4, frozen_row h.rblk 5⟩
/-- What the boxes hold, in any later world. -/
theorem GoBox.cond (h : GoBox Q Q' w W d x A0 c0 A1 c1 A2 c2 A3 c3) : ∀ W' : World, Below W.heap.size W W' → W'.cell? ⟨w.heap.size, 0, none⟩ = some (.slice A0 d.safe.length c0) ∧ W'.cell? ⟨w.heap.size, 1, none⟩ = some (.slice A1 d.wait.length c1) ∧ W'.cell? ⟨w.heap.size, 2, none⟩ = some (.int .i64 d.fuse) ∧ W'.cell? ⟨w.heap.size, 3, none⟩ = some (.bool d.off) ∧ W'.cell? ⟨w.heap.size, 4, none⟩ = some (.int .i64 d.reads) ∧ W'.cell? ⟨w.heap.size, 5, none⟩ = some (.int .i64 d.writes) ∧ W'.frozen? ⟨w.heap.size, 0, none⟩ = false ∧ W'.frozen? ⟨w.heap.size, 1, none⟩ = false ∧ W'.frozen? ⟨w.heap.size, 2, none⟩ = false ∧ W'.frozen? ⟨w.heap.size, 3, none⟩ = false ∧ W'.frozen? ⟨w.heap.size, 4, none⟩ = false ∧ W'.frozen? ⟨w.heap.size, 5, none⟩ = false ∧ W'.cell? ⟨w.heap.size + 1, 0, none⟩ = some (.int .i64 x.act) ∧ W'.cell? ⟨w.heap.size + 1, 1, none⟩ = some (.int .i64 x.pos) ∧ W'.cell? ⟨w.heap.size + 1, 2, none⟩ = some (.slice A2 x.b.length c2) ∧ W'.cell? ⟨w.heap.size + 1, 3, none⟩ = some (.slice A3 x.fates.length c3) ∧ W'.cell? ⟨w.heap.size + 1 + 1, 0, none⟩ = some (.slice none 0 0) ∧ W'.cell? ⟨w.heap.size + 1 + 1, 1, none⟩ = some (.slice none 0 0) ∧ W'.cell? ⟨w.heap.size + 1 + 1, 2, none⟩ = some (.int .i64 0) ∧ W'.cell? ⟨w.heap.size + 1 + 1, 3, none⟩ = some (.bool false) ∧ W'.cell? ⟨w.heap.size + 1 + 1, 4, none⟩ = some (.int .i64 0) ∧ W'.cell? ⟨w.heap.size + 1 + 1, 5, none⟩ = some (.int .i64 0) ∧ W'.frozen? ⟨w.heap.size + 1 + 1, 0, none⟩ = false ∧ W'.frozen? ⟨w.heap.size + 1 + 1, 1, none⟩ = false ∧ W'.frozen? ⟨w.heap.size + 1 + 1, 2, none⟩ = false ∧ W'.frozen? ⟨w.heap.size + 1 + 1, 3, none⟩ = false ∧ W'.frozen? ⟨w.heap.size + 1 + 1, 4, none⟩ = false ∧ W'.frozen? ⟨w.heap.size + 1 + 1, 5, none⟩ = false := fun W' hb => by
  obtain ⟨d0, d1, d2, d3, d4, d5, z0, z1, z2, z3, z4, z5⟩ := (h.below hb).dcell
  obtain ⟨s0, s1, s2, s3⟩ := (h.below hb).scell
  obtain ⟨r0, r1, r2, r3, r4, r5, y0, y1, y2, y3, y4, y5⟩ := (h.below hb).rcell
  exact ⟨d0, d1, d2, d3, d4, d5, z0, z1, z2, z3, z4, z5, s0, s1, s2, s3, r0, r1, r2, r3, r4, r5, y0, y1, y2, y3, y4, y5⟩
theorem GoBox.condA (h : GoBox Q Q' w W d x A0 c0 A1 c1 A2 c2 A3 c3) : ∀ W' : World, Alike (w.heap.size + 1 + 1) W W' → W'.cell? ⟨w.heap.size, 0, none⟩ = some (.slice A0 d.safe.length c0) ∧ W'.cell? ⟨w.heap.size, 1, none⟩ = some (.slice A1 d.wait.length c1) ∧ W'.cell? ⟨w.heap.size, 2, none⟩ = some (.int .i64 d.fuse) ∧ W'.cell? ⟨w.heap.size, 3, none⟩ = some (.bool d.off) ∧ W'.cell? ⟨w.heap.size, 4, none⟩ = some (.int .i64 d.reads) ∧ W'.cell? ⟨w.heap.size, 5, none⟩ = some (.int .i64 d.writes) ∧ W'.cell? ⟨w.heap.size + 1, 0, none⟩ = some (.int .i64 x.act) ∧ W'.cell? ⟨w.heap.size + 1, 1, none⟩ = some (.int .i64 x.pos) ∧ W'.cell? ⟨w.heap.size + 1, 2, none⟩ = some (.slice A2 x.b.length c2) ∧ W'.cell? ⟨w.heap.size + 1, 3, none⟩ = some (.slice A3 x.fates.length c3) := fun W' hb => by
  obtain ⟨d0, d1, d2, d3, d4, d5, _⟩ := h.dcell
  obtain ⟨s0, s1, s2, s3⟩ := h.scell
  have hs := h.big
  exact ⟨hb.cell d0 (by omega) (by omega), hb.cell d1 (by omega) (by omega), hb.cell d2 (by omega) (by omega), hb.cell d3 (by omega) (by omega), hb.cell d4 (by omega) (by omega), hb.cell d5 (by omega) (by omega), hb.cell s0 (by omega) (by omega), hb.cell s1 (by omega) (by omega), hb.cell s2 (by omega) (by omega), hb.cell s3 (by omega) (by omega)⟩
end

/-- 'append(s, xs...)' as0 a step of a region that draws its order. -/
theorem step_spread {α : Type} {r : Rep α} {e base : Nat} {Q Q' : Nat → Prop} {P : Program} {w : World} {ops : Array Oper} {o : Oper} {a : Act} {K : Act → World → Prop} {R : Exit → Act → World → Prop} {E : Prop} (hg : o.guard = none) (s x : Operand) (t : TypeId)
    (ho : o.op = .call { callee := .builtin .append, args := #[s, x], argTypes := #[t, t] })
    (z : Value) (size bytes : Nat) (ht : P.underlying t = some (.slice e)) (hi : (P.info? e).map (fun i => (i.zero, i.size, i.bytes)) = some (some z, size, bytes)) (hzs : z.cells.size = size) (hsz : 0 < size)
    (hr : r.size = size) (v : Value) (xs : List α) (hs : a.eval s = v) (h : r.acc e base Q w v xs) (u : Value) (ys : List α) (hx : a.eval x = u) (hy : r.list.val Q' w u ys)
    (hq : ∀ b, Q' b → IsC w b → Q b ∧ v.ownBlock ≠ some b)
    (h63 : xs.length + ys.length ≤ maxLen) (hbytes : (xs.length + ys.length) * bytes ≤ 140737488355328) (hbase : base ≤ w.heap.size)
    (H : ∀ v' w', r.acc e base Q w' v' (xs ++ ys) → w.grownBy w' v.ownBlock → (v'.ownBlock = v.ownBlock ∨ v'.ownBlock = some w.heap.size) → K (a.put o.dst v') w') :
    if Region.wanted o (yielded ops a.tmps) = true then Oper.wp P o a w K R else E := by
  have hw : Region.wanted o (yielded ops a.tmps) = true := by simp [Region.wanted, hg]
  rw [if_pos hw]
  obtain ⟨A, c, rfl, h1, h2, es, h3, h4⟩ := Rep.val_list hy
  obtain ⟨v', w', q1, q2, q3, q4⟩ := Rep.acc_more (P := P) (ty := o.type) (c := c) ht hi hzs hsz hr h rfl (Rep.row_keep (fun b hb hl => ⟨hq b hb hl, rfl⟩) h3)
    (fun hn => by obtain ⟨b, off, q1, _, _, q2⟩ := h4 hn; exact ⟨b, off, q1, q2⟩) h63 hbytes hbase
  unfold Oper.wp execOp
  simp only [ho, resolve, invoke, builtin, Sem.run_bind, Sem.run_pure, Result.andThen_ok, List.map_toArray, List.map_cons, List.map_nil, hs, hx, q1]
  exact H v' w' q2 q3 q4
theorem infoWrite : (Try.prog.info? 238).map (fun i => (i.zero, i.size, i.bytes)) = some (some (.agg #[.int .i64 0, .slice none 0 0]), 2, 32) := by kernel_rfl
/-- A write, of bytes just made. -/
theorem write_new {Q : Nat → Prop} {w5 : World} {n k base : Nat} {A : Option Addr} {c : Nat} {v : Value} {pos : Int} {b : List UInt8} (hb : Rep.byte.acc 5 n (fun _ => False) w5 (.slice A b.length c) b) (hp : (Lit.int .i64 pos).wf = true) (hn : k ≤ n) (ho : ∀ j, v.ownBlock = some j → base ≤ j ∧ j < n) :
    rWrite.val (fun j => (Q j ∨ k ≤ j) ∧ v.ownBlock ≠ some j) w5 (.agg #[.int .i64 pos, .slice A b.length c]) ⟨pos, b⟩ := by
  obtain ⟨A', c', he, hs⟩ := Rep.val_sl (Rep.acc_fresh hb)
  cases he
  exact rWrite_agg (x := ⟨pos, b⟩) hp (hs.keep fun j hj _ => ⟨⟨.inr (Nat.le_trans hn hj), fun e => by have := (ho j e).2; omega⟩, rfl⟩)
end Go.Proofs.Ytcfgckpjgihcgaa
/- A step of the reference's device: a fuse, a crash, a sector that is none. -/
namespace Go.Proofs.Ytcfgckpjgihcgaa
open Go.RowKit

set_option maxRecDepth 100000 in
set_option maxHeartbeats 4000000 in
/-- ref04.Go: fuse -/
theorem rgo_fuse {Q Q' : Nat → Prop} {w : World} {v u : Value} {d : DDisk} {x : DStep} (hx : rDisk.val Q w v d) (hy : rStep.val Q' w u x) (hq : ∀ b, Q b → b < w.heap.size) (hq' : ∀ b, Q' b → b < w.heap.size) (hn : d.wait.length ≤ 100000000) (hs : d.safe.length ≤ 100000000) (hk : ∀ y ∈ d.wait, 0 ≤ y.pos ∧ y.pos < d.safe.length) (h3 : x.act = 3) :
    Calls Try.prog 70 #[v, u] w (GoPost Q w (goW d x)) := by
  obtain ⟨A0, c0, A1, c1, rfl, sp, sq, f2, f3, f4⟩ := rDisk_val hx
  obtain ⟨A2, c2, A3, c3, rfl, g0, g1, sb, sf⟩ := rStep_val hy
  have hsz1 : (w.alloc (.cells (dcells d A0 c0 A1 c1) 104)).heap.size = w.heap.size + 1 := by simp
  have hsz2 : ((w.alloc (.cells (dcells d A0 c0 A1 c1) 104)).alloc (.cells (scells x A2 c2 A3 c3) 110)).heap.size = w.heap.size + 1 + 1 := by simp
  have b1 : Below w.heap.size w (w.alloc (.cells (dcells d A0 c0 A1 c1) 104)) := (Below.refl _ _).alloc (Nat.le_refl _) _
  have b2 := b1.alloc (by rw [hsz1]; omega) (.cells (scells x A2 c2 A3 c3) 110)
  have b3 := b2.alloc (by rw [hsz2]; omega) (.cells zcells 104)
  have k1 := heap_alloc_new w (.cells (dcells d A0 c0 A1 c1) 104)
  have k2 := heap_alloc_new (w.alloc (.cells (dcells d A0 c0 A1 c1) 104)) (.cells (scells x A2 c2 A3 c3) 110)
  have k3 := heap_alloc_new ((w.alloc (.cells (dcells d A0 c0 A1 c1) 104)).alloc (.cells (scells x A2 c2 A3 c3) 110)) (.cells zcells 104)
  rw [hsz1] at k2
  rw [hsz2] at k3
  have hbox : GoBox Q Q' w (((w.alloc (.cells (dcells d A0 c0 A1 c1) 104)).alloc (.cells (scells x A2 c2 A3 c3) 110)).alloc (.cells zcells 104)) d x A0 c0 A1 c1 A2 c2 A3 c3 :=
    ⟨(Below.heap_alloc _ _ _ (by rw [hsz2]; omega)).trans ((Below.heap_alloc _ _ _ (by rw [hsz1]; omega)).trans k1), (Below.heap_alloc _ _ _ (by rw [hsz2]; omega)).trans k2, k3, b3, by simp,
      sp.keep fun b hb hl => ⟨.inl hb, b3.block b hl.lt⟩, sq.keep fun b hb hl => ⟨.inl hb, b3.block b hl.lt⟩, f2, f3, f4, sb.keep fun b hb hl => ⟨hb, b3.block b hl.lt⟩, sf.keep fun b hb hl => ⟨hb, b3.block b hl.lt⟩⟩
  have HG := Lib.hid hbox
  clear hx hy sp sq f2 f3 f4 sb sf hsz1 hsz2 b1 b2 b3 k1 k2 k3 hbox
  have HQ := Lib.hid hq
  have HQ' := Lib.hid hq'
  have HN := Lib.hid hn
  have HSL := Lib.hid hs
  have HK := Lib.hid hk
  clear hq hq' hn hs hk
  unfold dcells scells zcells at HG
  generalize hW1 : ((w.alloc (.cells #[.slice A0 d.safe.length c0, .slice A1 d.wait.length c1, .int .i64 d.fuse, .bool d.off, .int .i64 d.reads, .int .i64 d.writes] 104)).alloc (.cells #[.int .i64 x.act, .int .i64 x.pos, .slice A2 x.b.length c2, .slice A3 x.fates.length c3] 110)).alloc (.cells #[.slice none 0 0, .slice none 0 0, .int .i64 0, .bool false, .int .i64 0, .int .i64 0] 104) = W1 at *
  obtain ⟨e0, e1, e2, e3, e4, e5, z0, z1, z2, z3, z4, z5⟩ := HG.out.dcell
  obtain ⟨s0, s1, s2, s3⟩ := HG.out.scell
  obtain ⟨r0, r1, r2, r3, r4, r5, y0, y1, y2, y3, y4, y5⟩ := HG.out.rcell
  have hfr : Try.f70.results = #[.cell 4 104, .tmp 5, .tmp 6] := rfl
  rw [h3] at s0
  have HR := Lib.hid (show goW d x = ({ d with fuse := if x.pos < 0 then -1 else x.pos }, [], 0) by unfold goW; rw [if_pos h3])
  have H1 := Lib.hid (HG.out.setFuse HQ.out HQ'.out g1)
  clear h3 g0 g1
  by_cases hp : x.pos < 0
  · have HR2 := Lib.hid (show goW d x = ({ d with fuse := -1 }, [], 0) by rw [HR.out, if_pos hp])
    go_enter Try.func70, Try.ntmps70
    go_wp2_with fail
    rw [HR2.out]
    refine ⟨rfl, _, ?_, (H1.out.setFuse HQ.out HQ'.out (n := -1) rfl).done HQ.out ?_ (nil_bytes _ _)⟩
    · simp only [results, hfr]
      go_simp
      try rfl
    · repeat (refine But.set ?_ _ _)
      exact But.refl _ _
  · have HR2 := Lib.hid (show goW d x = ({ d with fuse := x.pos }, [], 0) by rw [HR.out, if_neg hp])
    go_enter Try.func70, Try.ntmps70
    go_wp2_with fail
    rw [HR2.out]
    refine ⟨rfl, _, ?_, H1.out.done HQ.out ?_ (nil_bytes _ _)⟩
    · simp only [results, hfr]
      go_simp
      try rfl
    · repeat (refine But.set ?_ _ _)
      exact But.refl _ _

set_option maxRecDepth 100000 in
set_option maxHeartbeats 4000000 in
/-- ref04.Go: crash -/
theorem rgo_crash {Q Q' : Nat → Prop} {w : World} {v u : Value} {d : DDisk} {x : DStep} (hx : rDisk.val Q w v d) (hy : rStep.val Q' w u x) (hq : ∀ b, Q b → b < w.heap.size) (hq' : ∀ b, Q' b → b < w.heap.size) (hn : d.wait.length ≤ 100000000) (hs : d.safe.length ≤ 100000000) (hk : ∀ y ∈ d.wait, 0 ≤ y.pos ∧ y.pos < d.safe.length) (h3 : ¬ x.act = 3) (h4 : x.act = 4) :
    Calls Try.prog 70 #[v, u] w (GoPost Q w (goW d x)) := by
  obtain ⟨A0, c0, A1, c1, rfl, sp, sq, f2, f3, f4⟩ := rDisk_val hx
  obtain ⟨A2, c2, A3, c3, rfl, g0, g1, sb, sf⟩ := rStep_val hy
  have hsz1 : (w.alloc (.cells (dcells d A0 c0 A1 c1) 104)).heap.size = w.heap.size + 1 := by simp
  have hsz2 : ((w.alloc (.cells (dcells d A0 c0 A1 c1) 104)).alloc (.cells (scells x A2 c2 A3 c3) 110)).heap.size = w.heap.size + 1 + 1 := by simp
  have b1 : Below w.heap.size w (w.alloc (.cells (dcells d A0 c0 A1 c1) 104)) := (Below.refl _ _).alloc (Nat.le_refl _) _
  have b2 := b1.alloc (by rw [hsz1]; omega) (.cells (scells x A2 c2 A3 c3) 110)
  have b3 := b2.alloc (by rw [hsz2]; omega) (.cells zcells 104)
  have k1 := heap_alloc_new w (.cells (dcells d A0 c0 A1 c1) 104)
  have k2 := heap_alloc_new (w.alloc (.cells (dcells d A0 c0 A1 c1) 104)) (.cells (scells x A2 c2 A3 c3) 110)
  have k3 := heap_alloc_new ((w.alloc (.cells (dcells d A0 c0 A1 c1) 104)).alloc (.cells (scells x A2 c2 A3 c3) 110)) (.cells zcells 104)
  rw [hsz1] at k2
  rw [hsz2] at k3
  have hbox : GoBox Q Q' w (((w.alloc (.cells (dcells d A0 c0 A1 c1) 104)).alloc (.cells (scells x A2 c2 A3 c3) 110)).alloc (.cells zcells 104)) d x A0 c0 A1 c1 A2 c2 A3 c3 :=
    ⟨(Below.heap_alloc _ _ _ (by rw [hsz2]; omega)).trans ((Below.heap_alloc _ _ _ (by rw [hsz1]; omega)).trans k1), (Below.heap_alloc _ _ _ (by rw [hsz2]; omega)).trans k2, k3, b3, by simp,
      sp.keep fun b hb hl => ⟨.inl hb, b3.block b hl.lt⟩, sq.keep fun b hb hl => ⟨.inl hb, b3.block b hl.lt⟩, f2, f3, f4, sb.keep fun b hb hl => ⟨hb, b3.block b hl.lt⟩, sf.keep fun b hb hl => ⟨hb, b3.block b hl.lt⟩⟩
  have HG := Lib.hid hbox
  clear hx hy sp sq f2 f3 f4 sb sf hsz1 hsz2 b1 b2 b3 k1 k2 k3 hbox
  have HQ := Lib.hid hq
  have HQ' := Lib.hid hq'
  have HN := Lib.hid hn
  have HSL := Lib.hid hs
  have HK := Lib.hid hk
  clear hq hq' hn hs hk
  unfold dcells scells zcells at HG
  generalize hW1 : ((w.alloc (.cells #[.slice A0 d.safe.length c0, .slice A1 d.wait.length c1, .int .i64 d.fuse, .bool d.off, .int .i64 d.reads, .int .i64 d.writes] 104)).alloc (.cells #[.int .i64 x.act, .int .i64 x.pos, .slice A2 x.b.length c2, .slice A3 x.fates.length c3] 110)).alloc (.cells #[.slice none 0 0, .slice none 0 0, .int .i64 0, .bool false, .int .i64 0, .int .i64 0] 104) = W1 at *
  obtain ⟨e0, e1, e2, e3, e4, e5, z0, z1, z2, z3, z4, z5⟩ := HG.out.dcell
  obtain ⟨s0, s1, s2, s3⟩ := HG.out.scell
  obtain ⟨r0, r1, r2, r3, r4, r5, y0, y1, y2, y3, y4, y5⟩ := HG.out.rcell
  have hfr : Try.f70.results = #[.cell 4 104, .tmp 5, .tmp 6] := rfl
  rw [h4] at s0
  have HR := Lib.hid (show goW d x = (crashW d x.fates, [], 0) by unfold goW; rw [if_neg h3, if_pos h4])
  clear h3 h4 g0 g1
  go_enter Try.func70, Try.ntmps70
  go_wp2_with fail
  refine (rcrash_calls HG.out.valIn HG.out.fates.val (fun b hb => hb.2) (by have := HN.out; omega) (by have := HSL.out; omega)).mono ?_
  rintro e w2 ⟨z, rfl, hz, hb2⟩
  have H2 := Lib.hid (HG.out.below hb2)
  generalize crashW d x.fates = dd at *
  obtain ⟨B0, k0, B1, k1, rfl, q0, q1, f2, f3, f4⟩ := rDisk_val hz
  have HZ := Lib.hid (Rep.val_mono (Q' := fun b => Q b ∨ w.heap.size + 3 ≤ b) (fun b hb _ => hb.elim (fun h => h.1) (fun h => .inr (Nat.le_trans HG.out.big h))) (rDisk_agg q0 q1 f2 f3 f4))
  clear hz hb2 q0 q1 f2 f3 f4
  clear e0 e1 e2 e3 e4 e5 z0 z1 z2 z3 z4 z5 s0 s1 s2 s3 r0 r1 r2 r3 r4 r5 y0 y1 y2 y3 y4 y5
  obtain ⟨r0, r1, r2, r3, r4, r5, y0, y1, y2, y3, y4, y5⟩ := H2.out.rcell
  go_wp2_with fail
  rw [HR.out]
  refine ⟨rfl, _, ?_, H2.out.fin HQ.out ?_ HZ.out (nil_bytes _ _)⟩
  · simp only [results, hfr]
    go_simp
  · repeat (refine But.set ?_ _ _)
    exact But.refl _ _

set_option maxRecDepth 100000 in
set_option maxHeartbeats 4000000 in
/-- ref04.Go: range -/
theorem rgo_range {Q Q' : Nat → Prop} {w : World} {v u : Value} {d : DDisk} {x : DStep} (hx : rDisk.val Q w v d) (hy : rStep.val Q' w u x) (hq : ∀ b, Q b → b < w.heap.size) (hq' : ∀ b, Q' b → b < w.heap.size) (hn : d.wait.length ≤ 100000000) (hs : d.safe.length ≤ 100000000) (hk : ∀ y ∈ d.wait, 0 ≤ y.pos ∧ y.pos < d.safe.length) (h3 : ¬ x.act = 3) (h4 : ¬ x.act = 4) (h2 : ¬ x.act = 2) (hr : x.pos < 0 ∨ (d.safe.length : Int) ≤ x.pos) :
    Calls Try.prog 70 #[v, u] w (GoPost Q w (goW d x)) := by
  obtain ⟨A0, c0, A1, c1, rfl, sp, sq, f2, f3, f4⟩ := rDisk_val hx
  obtain ⟨A2, c2, A3, c3, rfl, g0, g1, sb, sf⟩ := rStep_val hy
  have hsz1 : (w.alloc (.cells (dcells d A0 c0 A1 c1) 104)).heap.size = w.heap.size + 1 := by simp
  have hsz2 : ((w.alloc (.cells (dcells d A0 c0 A1 c1) 104)).alloc (.cells (scells x A2 c2 A3 c3) 110)).heap.size = w.heap.size + 1 + 1 := by simp
  have b1 : Below w.heap.size w (w.alloc (.cells (dcells d A0 c0 A1 c1) 104)) := (Below.refl _ _).alloc (Nat.le_refl _) _
  have b2 := b1.alloc (by rw [hsz1]; omega) (.cells (scells x A2 c2 A3 c3) 110)
  have b3 := b2.alloc (by rw [hsz2]; omega) (.cells zcells 104)
  have k1 := heap_alloc_new w (.cells (dcells d A0 c0 A1 c1) 104)
  have k2 := heap_alloc_new (w.alloc (.cells (dcells d A0 c0 A1 c1) 104)) (.cells (scells x A2 c2 A3 c3) 110)
  have k3 := heap_alloc_new ((w.alloc (.cells (dcells d A0 c0 A1 c1) 104)).alloc (.cells (scells x A2 c2 A3 c3) 110)) (.cells zcells 104)
  rw [hsz1] at k2
  rw [hsz2] at k3
  have hbox : GoBox Q Q' w (((w.alloc (.cells (dcells d A0 c0 A1 c1) 104)).alloc (.cells (scells x A2 c2 A3 c3) 110)).alloc (.cells zcells 104)) d x A0 c0 A1 c1 A2 c2 A3 c3 :=
    ⟨(Below.heap_alloc _ _ _ (by rw [hsz2]; omega)).trans ((Below.heap_alloc _ _ _ (by rw [hsz1]; omega)).trans k1), (Below.heap_alloc _ _ _ (by rw [hsz2]; omega)).trans k2, k3, b3, by simp,
      sp.keep fun b hb hl => ⟨.inl hb, b3.block b hl.lt⟩, sq.keep fun b hb hl => ⟨.inl hb, b3.block b hl.lt⟩, f2, f3, f4, sb.keep fun b hb hl => ⟨hb, b3.block b hl.lt⟩, sf.keep fun b hb hl => ⟨hb, b3.block b hl.lt⟩⟩
  have HG := Lib.hid hbox
  clear hx hy sp sq f2 f3 f4 sb sf hsz1 hsz2 b1 b2 b3 k1 k2 k3 hbox
  have HQ := Lib.hid hq
  have HQ' := Lib.hid hq'
  have HN := Lib.hid hn
  have HSL := Lib.hid hs
  have HK := Lib.hid hk
  clear hq hq' hn hs hk
  unfold dcells scells zcells at HG
  generalize hW1 : ((w.alloc (.cells #[.slice A0 d.safe.length c0, .slice A1 d.wait.length c1, .int .i64 d.fuse, .bool d.off, .int .i64 d.reads, .int .i64 d.writes] 104)).alloc (.cells #[.int .i64 x.act, .int .i64 x.pos, .slice A2 x.b.length c2, .slice A3 x.fates.length c3] 110)).alloc (.cells #[.slice none 0 0, .slice none 0 0, .int .i64 0, .bool false, .int .i64 0, .int .i64 0] 104) = W1 at *
  obtain ⟨e0, e1, e2, e3, e4, e5, z0, z1, z2, z3, z4, z5⟩ := HG.out.dcell
  obtain ⟨s0, s1, s2, s3⟩ := HG.out.scell
  obtain ⟨r0, r1, r2, r3, r4, r5, y0, y1, y2, y3, y4, y5⟩ := HG.out.rcell
  have hfr : Try.f70.results = #[.cell 4 104, .tmp 5, .tmp 6] := rfl
  have HR := Lib.hid (show goW d x = (d, [], 2) by unfold goW; rw [if_neg h3, if_neg h4, if_pos ⟨h2, hr⟩])
  have n3 : (x.act == 3) = false := by simpa using h3
  have n4 : (x.act == 4) = false := by simpa using h4
  have n2 : (x.act != 2) = true := by simpa using h2
  have hcap := HG.out.safe.2.1
  have hlc := HG.out.safe.1
  unfold maxLen at hcap
  clear h2 h3 h4 g0 g1
  by_cases hp : x.pos < 0
  · clear hr
    go_enter Try.func70, Try.ntmps70
    go_wp2_with fail
    rw [HR.out]
    refine ⟨rfl, _, ?_, HG.out.done HQ.out ?_ (nil_bytes _ _)⟩
    · simp only [results, hfr]
      go_simp
      try rfl
    · repeat (refine But.set ?_ _ _)
      exact But.refl _ _
  · have hp2 : (d.safe.length : Int) ≤ x.pos := hr.resolve_left hp
    clear hr
    go_enter Try.func70, Try.ntmps70
    go_wp2_with fail
    rw [HR.out]
    refine ⟨rfl, _, ?_, HG.out.done HQ.out ?_ (nil_bytes _ _)⟩
    · simp only [results, hfr]
      go_simp
      try rfl
    · repeat (refine But.set ?_ _ _)
      exact But.refl _ _

end Go.Proofs.Ytcfgckpjgihcgaa
/- Walk of a new device, the reference's. -/
namespace Go.Proofs.Ytcfgckpjgihcgaa
open Go.RowKit

def newD (n : Nat) : DDisk := ⟨List.replicate n (zeros 512), [], -1, false, 0, 0⟩
theorem cutTo_nil (n : Nat) : cutTo [] n = zeros n := by unfold cutTo zeros; simp
/-- The two boxes of 'New': the result's, the disk's. -/
structure NewBox (w W : World) (v : Value) (j : Nat) : Prop where
  rblk : W.heap[w.heap.size]? = some (.cells zcells 104 (0, 0))
  dblk : W.heap[w.heap.size + 1]? = some (.cells #[v, .slice none 0 0, .int .i64 (-1), .bool false, .int .i64 0, .int .i64 0] 104 (0, 0))
  acc : Rep.byte.list.acc 22 (w.heap.size + 2) (fun b => w.heap.size + 2 ≤ b) W v (List.replicate j (zeros 512))
  bel : Below w.heap.size w W
  big : w.heap.size + 2 ≤ W.heap.size
theorem NewBox.below {w W W' : World} {v : Value} {j : Nat} (h : NewBox w W v j) (hb : Below W.heap.size W W') : NewBox w W' v j := by
  have hs := h.big
  exact ⟨(hb.block _ (by omega)).trans h.rblk, (hb.block _ (by omega)).trans h.dblk, Rep.acc_later h.acc hb, h.bel.trans (hb.mono (by omega)), Nat.le_trans hs hb.size⟩
theorem NewBox.cond {w W : World} {v : Value} {j : Nat} (h : NewBox w W v j) : ∀ W' : World, Below W.heap.size W W' → W'.cell? ⟨w.heap.size + 1, 0, none⟩ = some v ∧ W'.cell? ⟨w.heap.size + 1, 1, none⟩ = some (.slice none 0 0) ∧ W'.cell? ⟨w.heap.size + 1, 2, none⟩ = some (.int .i64 (-1)) ∧ W'.cell? ⟨w.heap.size + 1, 3, none⟩ = some (.bool false) ∧ W'.cell? ⟨w.heap.size + 1, 4, none⟩ = some (.int .i64 0) ∧ W'.cell? ⟨w.heap.size + 1, 5, none⟩ = some (.int .i64 0) ∧ W'.frozen? ⟨w.heap.size + 1, 0, none⟩ = false ∧
    W'.frozen? ⟨w.heap.size, 0, none⟩ = false ∧ W'.frozen? ⟨w.heap.size, 1, none⟩ = false ∧ W'.frozen? ⟨w.heap.size, 2, none⟩ = false ∧ W'.frozen? ⟨w.heap.size, 3, none⟩ = false ∧ W'.frozen? ⟨w.heap.size, 4, none⟩ = false ∧ W'.frozen? ⟨w.heap.size, 5, none⟩ = false ∧
    W'.cell? ⟨w.heap.size, 0, none⟩ = some (.slice none 0 0) ∧ W'.cell? ⟨w.heap.size, 1, none⟩ = some (.slice none 0 0) ∧ W'.cell? ⟨w.heap.size, 2, none⟩ = some (.int .i64 0) ∧ W'.cell? ⟨w.heap.size, 3, none⟩ = some (.bool false) ∧ W'.cell? ⟨w.heap.size, 4, none⟩ = some (.int .i64 0) ∧ W'.cell? ⟨w.heap.size, 5, none⟩ = some (.int .i64 0) := fun W' hb => by
  have d := (h.below hb).dblk
  have r := (h.below hb).rblk
  exact ⟨cell_row d 0, cell_row d 1, cell_row d 2, cell_row d 3, cell_row d 4, cell_row d 5, frozen_row d 0, frozen_row r 0, frozen_row r 1, frozen_row r 2, frozen_row r 3, frozen_row r 4, frozen_row r 5, cell_row r 0, cell_row r 1, cell_row r 2, cell_row r 3, cell_row r 4, cell_row r 5⟩
theorem NewBox.more {w W W' : World} {v u : Value} {j : Nat} (h : NewBox w W v j) (hb : Below W.heap.size W W' ∨ (∃ W1, Below W.heap.size W W1 ∧ W1.grownBy W' v.ownBlock)) (ha : Rep.byte.list.acc 22 (w.heap.size + 2) (fun b => w.heap.size + 2 ≤ b) W' u (List.replicate (j + 1) (zeros 512))) :
    NewBox w (W'.setCell ⟨w.heap.size + 1, 0, none⟩ u) u (j + 1) := by
  have hs := h.big
  have hv := Rep.acc_own h.acc
  have key : ∀ b, b < w.heap.size + 2 → W'.heap[b]? = W.heap[b]? := fun b hb' => by
    rcases hb with hb | ⟨W1, hb, hg⟩
    · exact hb.block b (by omega)
    · exact (hg.block b (by have := hb.size; omega) (fun e => by have := (hv b e.symm).1; omega)).trans (hb.block b (by omega))
  have hsz : W.heap.size ≤ W'.heap.size := by
    rcases hb with hb | ⟨W1, hb, hg⟩
    · exact hb.size
    · exact Nat.le_trans hb.size hg.size
  have hbel : Below w.heap.size w W' := by
    rcases hb with hb | ⟨W1, hb, hg⟩
    · exact h.bel.trans (hb.mono (by omega))
    · exact (h.bel.trans (hb.mono (by omega))).grown hg (by have := hb.size; omega) (fun k hk => by have := (hv k hk).1; omega)
  have hu := Rep.acc_own ha
  refine ⟨(Below.heap_setCell _ _ _ _ (by show w.heap.size ≠ w.heap.size + 1; omega)).trans ((key _ (by omega)).trans h.rblk), by rw [heap_setRow ((key _ (by omega)).trans h.dblk)]; rfl, Rep.acc_keep (fun b hb' _ => Below.heap_setCell _ _ _ _ ?_) (fun _ hq _ => hq) ha, hbel.setCell (Nat.le_succ _) _, by simp; omega⟩
  show b ≠ w.heap.size + 1
  rcases hb' with hb' | hb'
  · omega
  · have := (hu b hb').1; omega

theorem bytes_new {w5 : World} {n k : Nat} {A : Option Addr} {c base : Nat} {v : Value} {b : List UInt8} (hb : Rep.byte.acc 5 n (fun _ => False) w5 (.slice A b.length c) b) (hn : k ≤ n) (ho : ∀ j, v.ownBlock = some j → base ≤ j ∧ j < n) :
    Rep.byte.list.val (fun j => k ≤ j ∧ v.ownBlock ≠ some j) w5 (.slice A b.length c) b :=
  Rep.val_mono (fun j hj _ => ⟨Nat.le_trans hn hj, fun e => by have := (ho j e).2; omega⟩) (Rep.acc_fresh hb)
theorem frozen_kept {w W W5 W6 : World} {v : Value} {j : Nat} (h : NewBox w W v j) (hb : Below W.heap.size W W5) (hg : W5.grownBy W6 v.ownBlock) : W6.frozen? ⟨w.heap.size + 1, 0, none⟩ = false ∧ W6.cell? ⟨w.heap.size + 1, 0, none⟩ = some v := by
  have hs := h.big
  have e : W6.heap[w.heap.size + 1]? = _ := (hg.block (w.heap.size + 1) (by have := hb.size; omega) (fun e => by have := (Rep.acc_own h.acc _ e.symm).1; omega)).trans ((hb.block _ (by omega)).trans h.dblk)
  exact ⟨frozen_row e 0, cell_row e 0⟩

def RNewPost (w : World) (n : Nat) (e : Ending) (w' : World) : Prop := ∃ z, e = .returned z ∧ rDisk.val (fun b => w.heap.size ≤ b) w' z (newD n) ∧ Below w.heap.size w w'
def RNewAcc (w : World) (n : Nat) (e : Ending) (w' : World) : Prop :=
  ∃ A c, e = .returned (.agg #[.slice A n c, .slice none 0 0, .int .i64 (-1), .bool false, .int .i64 0, .int .i64 0]) ∧ Rep.byte.list.acc 22 w.heap.size (fun b => w.heap.size ≤ b) w' (.slice A n c) (List.replicate n (zeros 512)) ∧ Below w.heap.size w w'
set_option maxRecDepth 100000 in
set_option maxHeartbeats 2000000 in
/-- ref04.New -/
theorem rnew_acc (n : Int) (hn : n ≤ 4096) (w : World) : Calls Try.prog 68 #[.int .i64 n] w (RNewAcc w n.toNat) := by
  have hz1 : (w.alloc (.cells #[.slice none 0 0, .slice none 0 0, .int .i64 0, .bool false, .int .i64 0, .int .i64 0] 104)).heap.size = w.heap.size + 1 := by simp
  have h0 : NewBox w ((w.alloc (.cells #[.slice none 0 0, .slice none 0 0, .int .i64 0, .bool false, .int .i64 0, .int .i64 0] 104)).alloc (.cells #[.slice none 0 0, .slice none 0 0, .int .i64 (-1), .bool false, .int .i64 0, .int .i64 0] 104)) (.slice none 0 0) 0 := by
    obtain ⟨h1, h2, h3, h4⟩ := two_boxes w #[.slice none 0 0, .slice none 0 0, .int .i64 0, .bool false, .int .i64 0, .int .i64 0] #[.slice none 0 0, .slice none 0 0, .int .i64 (-1), .bool false, .int .i64 0, .int .i64 0] 104 104
    exact ⟨h1, h2, Rep.acc_nil, h3, by omega⟩
  have H0 := Lib.hid h0
  clear h0
  go_enter Try.func68, Try.ntmps68
  go_wp2_with fail
  obtain ⟨W1, hW1⟩ : ∃ W1, (w.alloc (.cells #[.slice none 0 0, .slice none 0 0, .int .i64 0, .bool false, .int .i64 0, .int .i64 0] 104)).alloc (.cells #[.slice none 0 0, .slice none 0 0, .int .i64 (-1), .bool false, .int .i64 0, .int .i64 0] 104) = W1 := ⟨_, rfl⟩
  rw [hW1] at H0 ⊢
  clear hW1
  go_loopw [4] (fun kk wr => ∃ (j : Nat) (v : Value), kk = .int .i64 j ∧ j ≤ n.toNat ∧ NewBox w wr v j) (fun kk _ => n.toNat - (intOf kk).toNat)
  case atStart => exact ⟨0, _, rfl, Nat.zero_le _, H0.out⟩
  case round =>
    obtain ⟨j, v, rfl, hj, hbox⟩ := hrel
    obtain ⟨A, c, hv, _, _⟩ := Rep.acc_form hbox.acc
    rw [List.length_replicate] at hv
    subst hv
    have HB := Lib.hid hbox
    have C1 := hbox.cond
    have b1 := Below.refl wr.heap.size wr
    clear hbox
    by_cases hlt : (j : Int) < n
    · have h4 : (j : Int) < 4096 := by omega
      have hbd := b1.drew
      have HJ := Lib.hid (show (List.replicate j (zeros 512)).length = j from List.length_replicate)
      have L := Lib.hid (show (List.replicate j (zeros 512)).length + 1 ≤ maxLen ∧ ((List.replicate j (zeros 512)).length + 1) * 24 ≤ 140737488355328 by rw [List.length_replicate]; unfold maxLen; omega)
      have HR := Lib.hid (show List.replicate (j + 1) (zeros 512) = List.replicate j (zeros 512) ++ [zeros 512] from List.replicate_succ')
      have HE := Lib.hid (cutTo_nil 512)
      go_wp2_with fail
      go_region_law (first
          | (go_simp; go_at_call 165; refine (rcutTo_calls (l := []) (n := 512) (nil_bytes (fun _ => False) _) (by decide)).mono ?_; rintro e w5 ⟨u5, rfl, hu5, hb5⟩; rw [HE.out] at hu5; have HU5 := Lib.hid hu5; have D5 := Lib.hid (hbd.trans hb5); obtain ⟨A5, c5, rfl, _, _⟩ := Rep.acc_form hu5; have d5 := D5.out; have d5a := (fun o => D5.out.alloc D5.out.size o); clear hu5 hb5)
          | (refine step_snoc (e := 22) (base := w.heap.size + 2) (Q := fun b => w.heap.size + 2 ≤ b) (r := Rep.byte.list) rfl _ _ 24 rfl (.slice none 0 0) 1 24 Try.underlying24 info22 rfl (by decide) rfl _ _ (by rfl) (Rep.acc_later HB.out.acc D5.out) (zeros 512) _ (bytes_new HU5.out HB.out.big (fun k hk => ⟨(Rep.acc_own HB.out.acc k hk).1, (Rep.acc_own HB.out.acc k hk).2⟩)) (by rfl) L.out.1 L.out.2 (Nat.le_trans HB.out.big D5.out.size) ?_; intro v6 w6 hacc6 hgr6; rw [← HR.out] at hacc6; have H6 := Lib.hid (HB.out.more (.inr ⟨_, D5.out, hgr6⟩) hacc6); obtain ⟨A6, c6, hv6, _, _⟩ := Rep.acc_form hacc6; rw [List.length_replicate] at hv6; subst hv6; have F6 := Lib.hid (frozen_kept HB.out D5.out hgr6); have f6 := F6.out; clear hacc6 hgr6))
      all_goals
        go_wp2_with fail
        exact ⟨⟨j + 1, _, by go_num, by omega, H6.out⟩, by simp [intOf]; omega⟩
    · have HF := Lib.hid (show j = n.toNat by omega)
      have hfr : Try.f68.results = #[.cell 2 104] := rfl
      go_wp2_with fail
      refine (fun (hb : But w.heap.size wr _) => ⟨rfl, .agg #[.slice A j c, .slice none 0 0, .int .i64 (-1), .bool false, .int .i64 0, .int .i64 0], ?_, ⟨A, c, by rw [← HF.out], ?_, hb.below HB.out.bel (Nat.le_refl _)⟩⟩) ?_
      · repeat (refine But.set ?_ _ _)
        exact But.refl _ _
      · simp only [results, hfr]
        go_simp
      · rw [← HF.out]
        have hown := Rep.acc_own HB.out.acc
        exact Rep.acc_base (Nat.le_add_right _ 2) (Rep.acc_keep (fun b hb' _ => hb.block b (by rcases hb' with hb' | hb'; (· omega); (· have := (hown b hb').1; omega))) (fun b hb' _ => by omega) HB.out.acc)
theorem rnew_calls (n : Int) (hn : n ≤ 4096) (w : World) : Calls Try.prog 68 #[.int .i64 n] w (RNewPost w n.toNat) :=
  (rnew_acc n hn w).mono fun e w' ⟨A, c, he, hacc, hb⟩ => ⟨_, he, by
    obtain ⟨A', c', he, hs⟩ := Rep.val_sl (Rep.acc_val hacc)
    rw [List.length_replicate] at he
    cases he
    have hown := Rep.acc_own hacc
    have h := rDisk_agg (x := newD n.toNat) (hs.keep fun b hb _ => ⟨hb.elim id fun e => (hown b e).1, rfl⟩) (A_wait := none) (c_wait := 0) (show rWrite.Sl _ _ none 0 [] from ⟨Nat.zero_le _, Nat.zero_le _, [], rfl, fun h => absurd h (by simp)⟩) rfl rfl rfl
    have e : (newD n.toNat).safe.length = n.toNat := List.length_replicate
    rw [e] at h
    exact h, hb⟩
end Go.Proofs.Ytcfgckpjgihcgaa
/- Walk of what is safe, of the reference's device, as0 bytes. -/
namespace Go.Proofs.Ytcfgckpjgihcgaa
open Go.RowKit

theorem flat_upto {l : List (List UInt8)} {j : Nat} {y : List UInt8} (h : l[j]? = some y) : (l.take (j + 1)).flatten = (l.take j).flatten ++ y := by
  obtain ⟨hj, rfl⟩ := List.getElem?_eq_some_iff.1 h
  rw [List.take_succ_eq_append_getElem hj, List.flatten_append]; simp
theorem flat_upto_le {l : List (List UInt8)} {j : Nat} {y : List UInt8} (h : l[j]? = some y) : (l.take j).flatten.length + y.length ≤ l.flatten.length := by
  obtain ⟨hj, rfl⟩ := List.getElem?_eq_some_iff.1 h
  have e : l.flatten = (l.take j).flatten ++ (l[j] ++ (l.drop (j + 1)).flatten) := by
    rw [← List.append_assoc, ← flat_upto (List.getElem?_eq_getElem hj), ← List.flatten_append, List.take_append_drop]
  rw [e]; simp only [List.length_append]; omega

set_option maxRecDepth 100000 in
set_option maxHeartbeats 2000000 in
/-- ref04.Bytes -/
theorem rbytes_calls {Q : Nat → Prop} {w : World} {v : Value} {d : DDisk} (hx : rDisk.val Q w v d) (hq : ∀ b, Q b → b < w.heap.size) (hs : d.safe.flatten.length ≤ 1000000000) :
    Calls Try.prog 77 #[v] w (ResA Rep.byte 5 w d.safe.flatten) := by
  obtain ⟨A0, c0, A1, c1, rfl, hbox, f2, f3, f4⟩ := DBox.start hx
  have HBX := Lib.hid (fun W' (hb : Below (w.heap.size + 1) _ W') => hbox.below hb hq)
  have HL := Lib.hid hs
  have hsz : (w.alloc (.cells #[.slice A0 d.safe.length c0, .slice A1 d.wait.length c1, .int .i64 d.fuse, .bool d.off, .int .i64 d.reads, .int .i64 d.writes] 104)).heap.size = w.heap.size + 1 := by simp
  clear hx hbox f2 f3 f4 hq hs
  generalize hn0 : d.safe.length = n0 at *
  generalize d.wait.length = n1 at *
  have HN0 := Lib.hid hn0
  clear hn0
  generalize hW1 : w.alloc (.cells #[.slice A0 n0 c0, .slice A1 n1 c1, .int .i64 d.fuse, .bool d.off, .int .i64 d.reads, .int .i64 d.writes] 104) = W1 at *
  have HS := Lib.hid hsz
  clear hsz
  have C1 : ∀ W', Below (w.heap.size + 1) W1 W' → W'.cell? ⟨w.heap.size, 0, none⟩ = some (.slice A0 n0 c0) := fun W' hb => by
    have h := (HBX.out W' hb).blk
    have h2 := cell_row h 0
    rw [h2]
    show some (Value.slice A0 d.safe.length c0) = _
    rw [HN0.out]
  have HCAP := Lib.hid (show n0 ≤ c0 ∧ c0 ≤ 9223372036854775807 by
    have h := (HBX.out _ (Below.refl _ _)).safe
    have h1 := h.1
    have h2 := h.2.1
    rw [HN0.out] at h1
    unfold maxLen at h2
    exact ⟨h1, h2⟩)
  go_enter Try.func77, Try.ntmps77
  go_wp2_with fail
  try rw [hW1]
  clear hW1
  go_loopw [3, 4] (fun u kk wr => ∃ j : Nat, kk = .int .i64 j ∧ j ≤ n0 ∧ Rep.byte.acc 5 (w.heap.size + 1) (fun _ => False) wr u (d.safe.take j).flatten ∧ Below (w.heap.size + 1) W1 wr) (fun _ kk _ => n0 - (intOf kk).toNat)
  case atStart => exact ⟨0, rfl, Nat.zero_le _, Rep.acc_nil, Below.refl _ _⟩
  case round =>
    obtain ⟨j, rfl, hj, hacc, hb⟩ := hrel
    have HACC := Lib.hid hacc
    have HSW := Lib.hid (show w.heap.size + 1 ≤ wr.heap.size by rw [← HS.out]; exact hb.size)
    obtain ⟨Au, cu, rfl, _, _⟩ := Rep.acc_form hacc
    clear hacc
    have hcap := HCAP.out
    by_cases hlt : (j : Int) < n0
    · obtain ⟨y, hy⟩ : ∃ y, d.safe[j]? = some y := ⟨_, List.getElem?_eq_getElem (by rw [HN0.out]; omega)⟩
      obtain ⟨bb, off, A3, c3, rfl, hcell, hc3, hm3, hat⟩ := Rep.At.list (HBX.out _ hb).safe.2.2 hy
      have HY := Lib.hid (show Rep.byte.list.val Q wr (.slice A3 y.length c3) y from Rep.list_val rfl hc3 hm3 hat)
      have HT := Lib.hid (flat_upto hy)
      have L := Lib.hid (show (d.safe.take j).flatten.length + y.length ≤ maxLen ∧ ((d.safe.take j).flatten.length + y.length) * 1 ≤ 140737488355328 by have := flat_upto_le hy; have := HL.out; unfold maxLen; omega)
      generalize (d.safe.take j).flatten = q at *
      clear hy hat hc3 hm3
      go_wp2_with (refine wpList_spread_leaf (e := 5) (base := w.heap.size + 1) (Q := fun _ => False) Rep.leaf_byte rfl _ _ 22 rfl (.int .u8 0) 1 1 Try.underlying22 info5 rfl (by decide) rfl _ q (by exact rfl) HACC.out _ y (by exact rfl) HY.out L.out.1 L.out.2 HSW.out ?_; intro v3 w3 hacc3 hgr hat)
      exact ⟨⟨j + 1, by go_num, by omega, by rw [HT.out]; exact hacc3, Rep.acc_below HACC.out hb hgr HSW.out⟩, by simp [intOf]; omega⟩
    · have HT := Lib.hid (show (d.safe.take j).flatten = d.safe.flatten by rw [List.take_of_length_le (by rw [HN0.out]; omega)])
      generalize (d.safe.take j).flatten = q at *
      go_wp2_with fail
      go_ret
      exact ⟨_, rfl, by rw [← HT.out]; exact Rep.acc_base (Nat.le_succ _) HACC.out, (HBX.out _ hb).bel⟩
end Go.Proofs.Ytcfgckpjgihcgaa
/- What was done of a device: how many reads and writes. -/
namespace Go.Proofs.Ytcfgckpjgihcgaa
open Go.RowKit

set_option maxRecDepth 100000 in
/-- (*disk.Disk).Reads -/
theorem dreads_disk {W : World} {P : Nat} {F B : Nat → Prop} {n : Nat} {st : DiskSt} (h : DiskAt W P F B n st) :
    Calls Try.prog 72 #[.pointer (some ⟨P, 0, none⟩)] W fun e W' => e = .returned (.int .i64 st.reads) ∧ W' = W := by
  obtain ⟨Sf, cs, M, D, hd⟩ := h
  have e4 := cell_row hd.blk 4
  clear hd
  go_enter Try.func72, Try.ntmps72
  go_wp2_with fail
  go_ret
  exact ⟨rfl, rfl⟩
set_option maxRecDepth 100000 in
/-- (*disk.Disk).Writes -/
theorem dwrites_disk {W : World} {P : Nat} {F B : Nat → Prop} {n : Nat} {st : DiskSt} (h : DiskAt W P F B n st) :
    Calls Try.prog 73 #[.pointer (some ⟨P, 0, none⟩)] W fun e W' => e = .returned (.int .i64 st.writes) ∧ W' = W := by
  obtain ⟨Sf, cs, M, D, hd⟩ := h
  have e5 := cell_row hd.blk 5
  clear hd
  go_enter Try.func73, Try.ntmps73
  go_wp2_with fail
  go_ret
  exact ⟨rfl, rfl⟩
section
variable {K : Nat → Prop} {W : World} {P n : Nat} {st : DiskSt}
theorem dev_reads (h : DevAt K W P n st) : Calls Try.prog 72 #[.pointer (some ⟨P, 0, none⟩)] W fun e W' => e = .returned (.int .i64 st.reads) ∧ W' = W := by
  obtain ⟨_, F, B, hd, _⟩ := h
  exact dreads_disk hd
theorem dev_writes (h : DevAt K W P n st) : Calls Try.prog 73 #[.pointer (some ⟨P, 0, none⟩)] W fun e W' => e = .returned (.int .i64 st.writes) ∧ W' = W := by
  obtain ⟨_, F, B, hd, _⟩ := h
  exact dwrites_disk hd
end
end Go.Proofs.Ytcfgckpjgihcgaa
/- Walks of a device's functions at nil. -/
namespace Go.Proofs.Ytcfgckpjgihcgaa
open Go.RowKit

/-- (*disk.Disk).at at nil -/
theorem nil_at {k : Int} (w : World) : Calls Try.prog 172 #[.pointer none, .int .i64 k] w fun e w' => e = .returned (.int .i64 4) ∧ w' = w := by
  go_enter Try.func172, Try.ntmps172
  go_wp2_with fail
  go_ret
  exact ⟨rfl, rfl⟩
/-- (*disk.Disk).Fuse at nil -/
theorem nil_fuse {k : Int} (w : World) : Calls Try.prog 82 #[.pointer none, .int .i64 k] w fun e w' => e = .returned (.tuple #[]) ∧ w' = w := by
  go_enter Try.func82, Try.ntmps82
  go_wp2_with fail
  first
    | go_end0
    | refine bodyPost_ret (results_none rfl _ _ _) rfl ?_
  exact ⟨rfl, rfl⟩
/-- (*disk.Disk).Crash at nil -/
theorem nil_crash (w : World) : Calls Try.prog 83 #[.pointer none, .slice none 0 0] w fun e w' => e = .returned (.tuple #[]) ∧ w' = w := by
  go_enter Try.func83, Try.ntmps83
  go_wp2_with fail
  first
    | go_end0
    | refine bodyPost_ret (results_none rfl _ _ _) rfl ?_
  exact ⟨rfl, rfl⟩
/-- (*disk.Disk).Read at nil -/
theorem nil_read {k : Int} (w : World) : Calls Try.prog 81 #[.pointer none, .int .i64 k] w fun e w' => e = .returned (.tuple #[.slice none 0 0, .int .i64 4]) ∧ w' = w := by
  go_enter Try.func81, Try.ntmps81
  go_wp2_with (go_at_call 172; refine (nil_at _).mono ?_; rintro e w' ⟨rfl, rfl⟩)
  go_ret2
  exact ⟨rfl, rfl⟩
/-- (*disk.Disk).Write at nil -/
theorem nil_write {k : Int} {v : Value} (w : World) : Calls Try.prog 85 #[.pointer none, .int .i64 k, v] w fun e w' => e = .returned (.int .i64 4) ∧ w' = w := by
  go_enter Try.func85, Try.ntmps85
  go_wp2_with (go_at_call 172; refine (nil_at _).mono ?_; rintro e w' ⟨rfl, rfl⟩)
  go_ret
  exact ⟨rfl, rfl⟩
/-- (*disk.Disk).Sync at nil -/
theorem nil_sync (w : World) : Calls Try.prog 86 #[.pointer none] w fun e w' => e = .returned (.int .i64 4) ∧ w' = w := by
  go_enter Try.func86, Try.ntmps86
  go_wp2_with fail
  go_ret
  exact ⟨rfl, rfl⟩
/-- (*disk.Disk).Size at nil -/
theorem nil_size (w : World) : Calls Try.prog 78 #[.pointer none] w fun e w' => e = .returned (.int .i64 0) ∧ w' = w := by
  go_enter Try.func78, Try.ntmps78
  go_wp2_with fail
  go_ret
  exact ⟨rfl, rfl⟩
/-- (*disk.Disk).Off at nil -/
theorem nil_off (w : World) : Calls Try.prog 71 #[.pointer none] w fun e w' => e = .returned (.bool false) ∧ w' = w := by
  go_enter Try.func71, Try.ntmps71
  go_wp2_with fail
  go_ret
  exact ⟨rfl, rfl⟩
/-- (*disk.Disk).Dirty at nil -/
theorem nil_dirty (w : World) : Calls Try.prog 74 #[.pointer none] w fun e w' => e = .returned (.slice none 0 0) ∧ w' = w := by
  go_enter Try.func74, Try.ntmps74
  go_wp2_with fail
  go_ret
  exact ⟨rfl, rfl⟩
/-- (*disk.Disk).Bytes at nil -/
theorem nil_bytes04 (w : World) : Calls Try.prog 76 #[.pointer none] w fun e w' => e = .returned (.slice none 0 0) ∧ w' = w := by
  go_enter Try.func76, Try.ntmps76
  go_wp2_with fail
  go_ret
  exact ⟨rfl, rfl⟩
/-- (*disk.Disk).Reads at nil -/
theorem nil_reads (w : World) : Calls Try.prog 72 #[.pointer none] w fun e w' => e = .returned (.int .i64 0) ∧ w' = w := by
  go_enter Try.func72, Try.ntmps72
  go_wp2_with fail
  go_ret
  exact ⟨rfl, rfl⟩
/-- (*disk.Disk).Writes at nil -/
theorem nil_writes (w : World) : Calls Try.prog 73 #[.pointer none] w fun e w' => e = .returned (.int .i64 0) ∧ w' = w := by
  go_enter Try.func73, Try.ntmps73
  go_wp2_with fail
  go_ret
  exact ⟨rfl, rfl⟩
end Go.Proofs.Ytcfgckpjgihcgaa
/- Walk of a device of any bytes, the reference's. -/
namespace Go.Proofs.Ytcfgckpjgihcgaa
open Go.RowKit

def ofTo (b : List UInt8) (n j : Nat) : List (List UInt8) := (List.range n).map fun k => if k < j then chunk b k else zeros 512
theorem ofTo_zero (b : List UInt8) (n : Nat) : ofTo b n 0 = List.replicate n (zeros 512) := by
  unfold ofTo
  rw [List.eq_replicate_iff]
  exact ⟨by simp, fun x hx => by obtain ⟨k, _, rfl⟩ := List.mem_map.1 hx; rfl⟩
theorem ofTo_length (b : List UInt8) (n j : Nat) : (ofTo b n j).length = n := by unfold ofTo; simp
theorem ofTo_succ (b : List UInt8) (n j : Nat) : (ofTo b n j).set j (chunk b j) = ofTo b n (j + 1) := by
  unfold ofTo
  apply List.ext_getElem?
  intro i
  rw [List.getElem?_set]
  by_cases hi : i < n
  · by_cases e : j = i
    · subst e
      rw [if_pos rfl, if_pos (by simpa using hi), List.getElem?_map, List.getElem?_range hi]
      simp
    · rw [if_neg e, List.getElem?_map, List.getElem?_map, List.getElem?_range hi]
      simp only [Option.map_some]
      congr 1
      by_cases h : i < j
      · rw [if_pos h, if_pos (by omega)]
      · rw [if_neg h, if_neg (by omega)]
  · by_cases e : j = i
    · rw [if_pos e, if_neg (by simpa using by omega), List.getElem?_eq_none (by simpa using by omega)]
    · rw [if_neg e, List.getElem?_eq_none (by simpa using by omega), List.getElem?_eq_none (by simpa using by omega)]
theorem ofTo_all (b : List UInt8) : ofTo b (b.length / 512) (b.length / 512) = chunks b := by
  unfold ofTo chunks
  apply List.map_congr_left
  intro k hk
  rw [if_pos (List.mem_range.1 hk)]
def ofD (l : List (List UInt8)) : DDisk := ⟨l, [], -1, false, 0, 0⟩
theorem bytes_rd {w4 : World} {n k : Nat} {A : Option Addr} {c base : Nat} {v : Value} {b : List UInt8} (hb : Rep.byte.acc 5 n (fun _ => False) w4 (.slice A b.length c) b) (hn : k ≤ n) (ho : ∀ j, v.ownBlock = some j → base ≤ j ∧ j < n) :
    Rep.byte.list.rd (fun j => k ≤ j ∧ v.ownBlock ≠ some j) w4 [.slice A b.length c] b := by
  obtain ⟨A', c', he, hs⟩ := Rep.val_sl (Rep.acc_fresh hb)
  cases he
  exact Rep.sl_rd (hs.keep fun j hj _ => ⟨⟨Nat.le_trans hn hj, fun e => by have := (ho j e).2; omega⟩, rfl⟩)
def ROfPost (w : World) (b : List UInt8) (e : Ending) (w' : World) : Prop := ∃ z, e = .returned z ∧ rDisk.val (fun k => w.heap.size ≤ k) w' z (ofD (chunks b)) ∧ Below w.heap.size w w'
set_option maxRecDepth 100000 in
set_option maxHeartbeats 4000000 in
/-- ref04.Of -/
theorem rof04_calls {Q : Nat → Prop} {w : World} {v : Value} {b : List UInt8} (hx : Rep.byte.list.val Q w v b) (hl : b.length ≤ 2000000) : Calls Try.prog 80 #[v] w (ROfPost w b) := by
  have HX := Lib.hid (Rep.val_any hx)
  obtain ⟨A0, c0, rfl, hc0, hm0, hat0⟩ := Rep.val_list hx
  have HA0 := Lib.hid hat0.addr
  have HC0 := Lib.hid hc0
  unfold maxLen at hm0
  clear hx hat0
  obtain ⟨n, hn⟩ : ∃ n : Nat, b.length / 512 = n := ⟨_, rfl⟩
  have HN := Lib.hid hn
  have hnI : (b.length : Int) / 512 = (n : Int) := by omega
  clear hn
  have hb1 : Below w.heap.size w (w.alloc (.cells #[.slice none 0 0, .slice none 0 0, .int .i64 0, .bool false, .int .i64 0, .int .i64 0] 104)) := (Below.refl _ _).alloc (Nat.le_refl _) _
  have hk1 := heap_alloc_new w (.cells #[.slice none 0 0, .slice none 0 0, .int .i64 0, .bool false, .int .i64 0, .int .i64 0] 104)
  have hz1 : (w.alloc (.cells #[.slice none 0 0, .slice none 0 0, .int .i64 0, .bool false, .int .i64 0, .int .i64 0] 104)).heap.size = w.heap.size + 1 := by simp
  generalize hW1 : w.alloc (.cells #[.slice none 0 0, .slice none 0 0, .int .i64 0, .bool false, .int .i64 0, .int .i64 0] 104) = w1 at *
  have HB1 := Lib.hid hb1
  have HK1 := Lib.hid hk1
  have HZ1 := Lib.hid hz1
  clear hb1 hk1 hz1
  go_enter Try.func80, Try.ntmps80
  go_wp2_with fail
  try rw [hW1]
  clear hW1
  try simp only [hnI]
  refine (rnew_acc (n : Int) (by have := HN.out; omega) _).mono ?_
  rintro e w2 ⟨A, c, rfl, hacc, hb2⟩
  rw [Int.toNat_natCast] at hacc ⊢
  have h3 : Below w2.heap.size w2 (w2.alloc (.cells #[.slice A n c, .slice none 0 0, .int .i64 (-1), .bool false, .int .i64 0, .int .i64 0] 104)) := (Below.refl _ _).alloc (Nat.le_refl _) _
  have HBX := Lib.hid (heap_alloc_new w2 (.cells #[.slice A n c, .slice none 0 0, .int .i64 (-1), .bool false, .int .i64 0, .int .i64 0] 104))
  have HACC := Lib.hid (Rep.acc_later hacc h3)
  have HB3 := Lib.hid (hb2.trans (h3.mono hb2.size))
  have HZ3 := Lib.hid (show (w2.alloc (.cells #[.slice A n c, .slice none 0 0, .int .i64 (-1), .bool false, .int .i64 0, .int .i64 0] 104)).heap.size = w2.heap.size + 1 by simp)
  have HO2 := Lib.hid (show (∀ k, (Value.slice A n c).ownBlock = some k → w1.heap.size ≤ k ∧ k < w2.heap.size) ∧ w1.heap.size ≤ w2.heap.size from ⟨Rep.acc_own hacc, hb2.size⟩)
  rw [← ofTo_zero b n] at HACC
  clear hacc hb2 h3
  go_wp2_with fail
  generalize w2.alloc (.cells #[.slice A n c, .slice none 0 0, .int .i64 (-1), .bool false, .int .i64 0, .int .i64 0] 104) = w3 at *
  generalize w2.heap.size = m at *
  go_loopw [4] (fun kk wr => ∃ j : Nat, kk = .int .i64 j ∧ j ≤ n ∧ Rep.byte.list.acc 22 w1.heap.size (fun b => w1.heap.size ≤ b) wr (.slice A n c) (ofTo b n j) ∧ wr.heap[m]? = some (.cells #[.slice A n c, .slice none 0 0, .int .i64 (-1), .bool false, .int .i64 0, .int .i64 0] 104 (0, 0)) ∧ Below w1.heap.size w1 wr) (fun kk _ => n - (intOf kk).toNat)
  case atStart => exact ⟨0, rfl, Nat.zero_le _, HACC.out, HBX.out, HB3.out⟩
  case round =>
    obtain ⟨j, rfl, hj, hacc, hbx, hb⟩ := hrel
    have HA := Lib.hid hacc
    have HB := Lib.hid hb
    have HX3 := Lib.hid hbx
    obtain ⟨A', c', he, hcn, hcm⟩ := Rep.acc_form hacc
    rw [ofTo_length] at he hcn
    cases he
    unfold maxLen at hcm
    have e0 := cell_row hbx 0
    have e1 := cell_row hbx 1
    have e2 := cell_row hbx 2
    have e3 := cell_row hbx 3
    have e4 := cell_row hbx 4
    have e5 := cell_row hbx 5
    have HML := Lib.hid (IsC.lt ⟨_, _, _, hbx⟩)
    clear hacc hbx hb
    by_cases hlt : (j : Int) < n
    · have hlen : 512 * j + 512 ≤ b.length := by have := HN.out; omega
      obtain ⟨bb, off, rfl⟩ := HA0.out (by omega)
      obtain ⟨z, hz⟩ : ∃ z, (ofTo b n j)[j]? = some z := ⟨_, List.getElem?_eq_getElem (by rw [ofTo_length]; omega)⟩
      obtain ⟨g, cap, u, hv, hcell, hfr, hgl, hgb, _⟩ := Rep.acc_at rfl HA.out hz
      rw [ofTo_length] at hv
      cases hv
      have HGB := Lib.hid hgb
      have hmg : m ≠ g := fun e => by
        have h := (HO2.out.1 g rfl).2
        omega
      have HMG := Lib.hid hmg
      have hnb : Below wr.heap.size wr (wr.alloc (.cells #[] 5)) := (Below.refl _ _).alloc (Nat.le_refl _) _
      have HNB := Lib.hid hnb.drew
      have HAC := Lib.hid (show Rep.byte.acc 5 wr.heap.size (fun _ => False) (wr.alloc (.cells #[] 5)).drew (.slice (some ⟨wr.heap.size, 0, none⟩) 0 0) [] from Rep.acc_keep (w := wr.alloc (.cells #[] 5)) (fun _ _ _ => rfl) (fun _ h _ => h) (Rep.acc_made wr #[] 0 (Nat.le_refl _) (by simp [maxLen]) (by simp)))
      have HCH := Lib.hid (show Rep.byte.list.val (fun k => k < w.heap.size) (wr.alloc (.cells #[] 5)).drew (.slice (some ⟨bb, off + 512 * j, none⟩) 512 (c0 - 512 * j)) (chunk b j) from by
        obtain ⟨A', c', he, h1, h2, hat⟩ := Rep.val_list (Rep.val_below (B := w.heap.size) HX.out (HB1.out.trans ((HB.out.trans (hnb.drew.mono (by have := HML.out; have := HB.out.size; omega))).mono (by have := HZ1.out; omega))) (fun _ h _ => h))
        cases he
        have hat' := (hat.drop (n := 512 * j) (by omega)).take 512
        simp only [Rep.byte, Nat.mul_one] at hat'
        exact Rep.list_val (by unfold chunk; rw [List.length_take, List.length_drop]; omega) (by omega) (by omega) hat')
      have HCL := Lib.hid (show (chunk b j).length = 512 by unfold chunk; rw [List.length_take, List.length_drop]; omega)
      have HL2 := Lib.hid (show ([] : List UInt8).length + (chunk b j).length ≤ maxLen ∧ (([] : List UInt8).length + (chunk b j).length) * 1 ≤ 140737488355328 by rw [HCL.out]; simp [maxLen])
      have HSU := Lib.hid (ofTo_succ b n j)
      have C1 : ∀ W', Alike g wr W' → W'.cell? ⟨m, 0, none⟩ = some (.slice (some ⟨g, 0, none⟩) n c) := fun W' h => h.cell e0 HML.out hmg
      have hc0' := HC0.out
      have j1 : (0 : Int) ≤ 512 * (j : Int) := by omega
      have j2 : 512 * (j : Int) ≤ 512 * (j : Int) + 512 := by omega
      have j3 : 512 * (j : Int) + 512 ≤ c0 := by omega
      have j6 : ¬ c0 = 512 * j := by omega
      have j4 : (512 * (j : Int)).toNat = 512 * j := by omega
      have j5 : (512 * (j : Int) + 512).toNat - 512 * j = 512 := by omega
      have w2' : IntKind.i64.wrap (512 * (j : Int)) = 512 * (j : Int) := IntWalk.i64_in _ ⟨by omega, by omega⟩
      have w3' : IntKind.i64.wrap (512 * (j : Int) + 512) = 512 * (j : Int) + 512 := IntWalk.i64_in _ ⟨by omega, by omega⟩
      have hbd := (Below.refl wr.heap.size wr).drew
      have F1 : ∀ W', Below wr.heap.size wr W' → W'.cell? ⟨g, j, none⟩ = some u ∧ W'.frozen? ⟨g, j, none⟩ = false := fun W' h => ⟨(h.cell (p := ⟨g, j, none⟩) hgl).trans hcell, (by rw [← hfr]; simp only [World.frozen?, h.block g hgl])⟩
      clear hz hcell hfr hgb hmg hnb hlen e1 e2 e3 e4 e5 hgl
      go_wp2_with fail
      go_region_held3 (fun W' => Alike g wr W')
        ((with_reducible (repeat (refine Alike.set ?_ _ _)); first | with_reducible exact Alike.of hbd | with_reducible exact Alike.of HNB.out | with_reducible exact Alike.of D4.out))
        (first
          | (refine step_spread_leaf (e := 5) (base := wr.heap.size) (Q := fun _ => False) Rep.leaf_byte rfl _ _ 22 rfl (.int .u8 0) 1 1 Try.underlying22 info5 rfl (by decide) rfl _ [] (by rfl) HAC.out _ (chunk b j) (by rfl) HCH.out HL2.out.1 HL2.out.2 HNB.out.size ?_; intro v4 w4 hacc4 hgr4 hat4; rw [List.nil_append] at hacc4; have HA4 := Lib.hid hacc4; have D4 := Lib.hid (Rep.acc_below HAC.out HNB.out hgr4 HNB.out.size); have d4 := D4.out; obtain ⟨A4, c4, hv4, _, _⟩ := Rep.acc_form hacc4; subst hv4; clear hacc4 hgr4 hat4))
      obtain ⟨g2, cap2, hv2, _, hput⟩ := Rep.acc_put (u := .slice A4 (chunk b j).length c4) rfl (Rep.acc_keep (w' := w4) (fun k hk hl => D4.out.block k hl.lt) (fun _ h _ => h) HA.out) (show j < (ofTo b n j).length by rw [ofTo_length]; omega) (bytes_rd HA4.out (Nat.le_trans HB.out.size (Nat.le_refl _)) (fun k hk => Rep.acc_own HA.out k hk)) rfl
      rw [ofTo_length] at hv2
      cases hv2
      rw [HSU.out] at hput
      have HPUT := Lib.hid hput
      clear hput
      go_wp2_with fail
      exact ⟨⟨j + 1, by go_num, by omega, HPUT.out, (Below.heap_setCell _ _ _ _ HMG.out).trans ((D4.out.block m HML.out).trans HX3.out), (HB.out.trans (D4.out.mono HB.out.size)).setCell HGB.out _⟩, by simp [intOf]; omega⟩
    · obtain rfl : j = n := by omega
      have hfr : Try.f80.results = #[.cell 2 104] := rfl
      have hk := (HB.out.block w.heap.size (by have := HZ1.out; omega)).trans HK1.out
      have r0 := cell_row hk 0
      have r1 := cell_row hk 1
      have r2 := cell_row hk 2
      have r3 := cell_row hk 3
      have r4 := cell_row hk 4
      have r5 := cell_row hk 5
      have y0 := frozen_row hk 0
      have y1 := frozen_row hk 1
      have y2 := frozen_row hk 2
      have y3 := frozen_row hk 3
      have y4 := frozen_row hk 4
      have y5 := frozen_row hk 5
      clear hk
      go_wp2_with fail
      refine (fun (hb : But w.heap.size wr _) => ⟨rfl, .agg #[.slice A j c, .slice none 0 0, .int .i64 (-1), .bool false, .int .i64 0, .int .i64 0], ?_, ⟨_, rfl, ?_, hb.below (HB1.out.trans (HB.out.mono (by have := HZ1.out; omega))) (Nat.le_refl _)⟩⟩) ?_
      · repeat (refine But.set ?_ _ _)
        exact But.refl _ _
      · simp only [results, hfr]
        go_simp
      · have hown := Rep.acc_own HA.out
        obtain ⟨A9, c9, he, hs⟩ := Rep.val_sl (Rep.acc_val HA.out)
        rw [ofTo_length] at he
        cases he
        rw [show ofTo b j j = chunks b by rw [← HN.out]; exact ofTo_all b] at hs
        have h := rDisk_agg (x := ofD (chunks b)) (hs.keep fun k hk _ => ⟨show w.heap.size ≤ k by have := HZ1.out; rcases hk with hk | hk; (· omega); (· have := (hown k hk).1; omega), hb.block k (by have := HZ1.out; rcases hk with hk | hk; (· omega); (· have := (hown k hk).1; omega))⟩) (A_wait := none) (c_wait := 0) (show rWrite.Sl _ _ none 0 [] from ⟨Nat.zero_le _, Nat.zero_le _, [], rfl, fun h => absurd h (by simp)⟩) rfl rfl rfl
        have e : (ofD (chunks b)).safe.length = j := by show (chunks b).length = j; rw [← HN.out]; unfold chunks; simp
        rw [e] at h
        exact h
end Go.Proofs.Ytcfgckpjgihcgaa
/- Walk of what is more than is asked in statements: scripts of a device. -/
namespace Go.Proofs.Ytcfgckpjgihcgaa
open Go.RowKit

def MuchSteps (w : World) (l : List DStep) (e : Ending) (w' : World) : Prop := ∃ r : Bool, e = .returned (.bool r) ∧ (r = false → l.length ≤ 60) ∧ w' = w
set_option maxRecDepth 100000 in
/-- ref04.Much -/
theorem muchSteps_calls {Q : Nat → Prop} {w : World} {v : Value} {l : List DStep} (hx : rStep.list.val Q w v l) :
    Calls Try.prog 66 #[v] w (MuchSteps w l) := by
  obtain ⟨A, c, rfl, hc1, hc2, hA⟩ := Rep.val_list hx
  unfold maxLen at hc2
  have HA := Lib.hid hA
  clear hx hA
  go_enter Try.func66, Try.ntmps66
  go_wp2_with fail
  go_loop [3] (fun i => ∃ k : Nat, i = .int .i64 k ∧ k ≤ l.length ∧ k ≤ 100) (fun i => l.length - (intOf i).toNat)
  case atStart => exact ⟨0, rfl, by omega, by omega⟩
  case round =>
    obtain ⟨k, rfl, hk, hk5⟩ := hrel
    by_cases hlt : (k : Int) < l.length
    · by_cases h100 : (k : Int) < 100
      · have hk' : k < l.length := by omega
        obtain ⟨b, off, A6, c6, A7, c7, rfl, _, d0, d1, d2, d3, _, _, sp, sq⟩ := rStep_at HA.out (List.getElem?_eq_getElem hk')
        have hp1 := sp.1
        have hp2 := sp.2.1
        have hq1 := sq.1
        have hq2 := sq.2.1
        unfold maxLen at hp2 hq2
        generalize l[k] = x at *
        clear sp sq
        by_cases h2 : (600 : Int) < x.b.length
        · go_wp2_with fail
          go_ret
          exact ⟨true, rfl, (fun h => (by cases h)), rfl⟩
        · by_cases h3 : (100 : Int) < x.fates.length
          · go_wp2_with fail
            go_ret
            exact ⟨true, rfl, (fun h => (by cases h)), rfl⟩
          · go_wp2_with fail
            go_round
            case rel => exact ⟨k + 1, by go_num, by omega, by omega⟩
            case measure => simp [intOf]; omega
      · have h20 : (60 : Int) < l.length := by omega
        go_wp2_with fail
        go_ret
        exact ⟨true, rfl, (fun h => (by cases h)), rfl⟩
    · by_cases h20 : (60 : Int) < l.length
      · go_wp2_with fail
        go_ret
        exact ⟨true, rfl, (fun h => (by cases h)), rfl⟩
      · go_wp2_with fail
        go_ret
        exact ⟨false, rfl, fun _ => by omega, rfl⟩
end Go.Proofs.Ytcfgckpjgihcgaa
/- The statement on what is safe of a device, walked. -/
namespace Go.Proofs.Ytcfgckpjgihcgaa
open Go.RowKit

theorem bools_row {Q : Nat → Prop} {w : World} : ∀ k : Nat, Rep.bool.row Q w (List.replicate k (.bool false)) (List.replicate k false)
  | 0 => rfl
  | k + 1 => ⟨[.bool false], List.replicate k (.bool false), rfl, rfl, bools_row k⟩
/-- 'make([]bool, k)'. -/
theorem made_bools {base : Nat} (w : World) (k : Nat) (hb : base ≤ w.heap.size) (hk : k ≤ maxLen) :
    Rep.bool.acc 4 base (fun _ => False) (w.alloc (.cells (madeCells #[.bool false] k) 4)) (.slice (some ⟨w.heap.size, 0, none⟩) k k) (List.replicate k false) := by
  have hl : (madeCells #[.bool false] k).toList = List.replicate k (.bool false) := toList_madeCells_one ..
  have hs : (madeCells #[.bool false] k).size = k := by rw [← Array.length_toList, hl, List.length_replicate]
  refine ⟨List.replicate k (.bool false), ⟨by simp [Rep.bool], .inr ⟨w.heap.size, k, madeCells #[.bool false] k, by rw [List.length_replicate], hb, heap_alloc_new w _, by rw [List.length_replicate]; exact Nat.le_refl _, hk, by rw [hs]; simp [Rep.bool], ?_⟩⟩, bools_row k⟩
  rw [hl, List.take_of_length_le (by simp [Rep.bool])]
theorem sec_get {st : DiskSt} {k : Nat} (h : Sound st k) {i : Nat} (hi : i < k) : ∃ y, st.safe[i]? = some y ∧ (st.safe.flatten.drop (512 * i)).take 512 = y ∧ y.length = 512 := by
  obtain ⟨y, hy⟩ : ∃ y, st.safe[i]? = some y := ⟨_, List.getElem?_eq_getElem (by rw [h.len]; exact hi)⟩
  exact ⟨y, hy, flatten_sec h.sec hy, h.sec y (List.mem_of_getElem? hy)⟩
theorem sec_len {st : DiskSt} {k : Nat} (h : Sound st k) : st.safe.flatten.length = 512 * k := by rw [flatten_length h.sec, h.len]
def SafePost (w : World) (e : Ending) (w' : World) : Prop := e = .returned (.bool true) ∧ Below w.heap.size w w'
end Go.Proofs.Ytcfgckpjgihcgaa
/- From a walk to a given statement: what is the same for every law. -/
namespace Go.Proofs.Ytcfgckpjgihcgaa
open Go.ChangeShapes Go.WideShapes Go.ChangeAt Go.RowKit
open Go.ChangeMaps (open_string shut_string)

theorem own : ownKnob Try.prog.godebug = Option.none := by kernel_rfl
theorem laidOut : laidOutB Try.prog = true := by kernel_rfl

/-- The arguments read behind the call as0 they read before. -/
theorem trodAll_below {H : Type} {enc : TypeId × Value → H} {P : Program} (hl : laidOutB P = true) {W W' : World} (hb : Below W.heap.size W W') :
    ∀ {ts : List TypeId} {vs : List Value} {ds : List (DataW H)} {ps : List MemPlace}, (∀ t ∈ ts, P.readableRec t = true ∧ t < P.types.size) →
      DataW.TrodAll enc P W 0 (fun _ => true) true ts vs ds ps → DataW.TrodAll enc P W' 0 (fun b => decide (b < W.heap.size)) true ts vs ds ps
  | [], [], [], _, _, h => h
  | t :: ts, v :: vs, d :: ds, _, hr, h => by
    obtain ⟨p, q, h1, h2, rfl⟩ := h
    have k := hr t (by simp)
    have lt : ∀ x ∈ p, x.block < W.heap.size := by obtain ⟨m, hm⟩ := h1; exact DataW.trod_lt m _ _ _ hm
    exact ⟨p, q, Below.trod hl k.1 k.2 h1 hb lt, trodAll_below hl hb (fun t ht => hr t (by simp [ht])) h2, rfl⟩

theorem add_of_add (a : Addr) (i j : Nat) : (a.add i).add j = a.add (i + j) := by
  unfold Addr.add
  by_cases hi : i = 0 <;> by_cases hj : j = 0 <;> simp [hi, hj, Nat.add_assoc]

namespace Rep
variable {H : Type} {enc : TypeId × Value → H} {P : Program} {w : World}

/-- A type's reading as0 data is this word's. -/
def Of {α : Type} (r : Rep α) (P : Program) (t : TypeId) : Prop :=
  P.cellsOf t = r.size ∧ ∀ (H : Type) (enc : TypeId × Value → H) (w : World) (fuel : Nat) (cs : List Value) (x : DataW H × List MemPlace),
    DataW.trod enc P w 0 (fun _ => true) true fuel t cs = some x → ∃ y, r.rd (fun _ => True) w cs y

theorem of_int {k : IntKind} {t : TypeId} (ht : P.underlying t = some (.int k)) (hc : P.cellsOf t = 1) : (Rep.int k).Of P t :=
  ⟨hc, fun _ _ _ _ _ _ h => by obtain ⟨n, rfl, _, hw⟩ := DataW.trod_int ht h; exact ⟨n, rfl, hw⟩⟩
theorem of_byte {t : TypeId} (ht : P.underlying t = some (.int .u8)) (hc : P.cellsOf t = 1) : Rep.byte.Of P t :=
  ⟨hc, fun _ _ _ _ _ _ h => by
    obtain ⟨n, rfl, _, hw⟩ := DataW.trod_int ht h
    have hb : 0 ≤ n ∧ n ≤ 255 := by simpa [Lit.wf, IntKind.min, IntKind.max, IntKind.signed, IntKind.bits] using hw
    refine ⟨UInt8.ofNat n.toNat, ?_⟩
    show [Value.int .u8 n] = [.int .u8 _]
    congr 2
    have : (UInt8.ofNat n.toNat).toNat = n.toNat := by rw [UInt8.toNat_ofNat']; omega
    omega⟩
theorem of_bool {t : TypeId} (ht : P.underlying t = some .bool) (hc : P.cellsOf t = 1) : Rep.bool.Of P t :=
  ⟨hc, fun _ _ _ _ _ _ h => by obtain ⟨n, rfl, _⟩ := DataW.trod_bool ht h; exact ⟨n, rfl⟩⟩
theorem of_text {t : TypeId} (ht : P.underlying t = some .string) (hc : P.cellsOf t = 1) : Rep.text.Of P t :=
  ⟨hc, fun _ _ _ _ _ _ h => by
    obtain ⟨s, rfl, _, hs⟩ := DataW.trod_string ht h
    exact ⟨s.data.toList, rfl, by rw [Array.length_toList]; exact hs⟩⟩

theorem row_of {α : Type} {r : Rep α} {w : World} {g : Nat → Option Value} : ∀ (n : Nat), (∀ i, i < n → ∃ es y, r.rd (fun _ => True) w es y ∧ ∀ j u, es[j]? = some u → g (i * r.size + j) = some u) →
    ∃ es xs, xs.length = n ∧ r.row (fun _ => True) w es xs ∧ ∀ j u, es[j]? = some u → g j = some u
  | 0, _ => ⟨[], [], rfl, rfl, fun j u h => by simp at h⟩
  | n + 1, h => by
    obtain ⟨es, xs, h1, h2, h3⟩ := row_of n (fun i hi => h i (by omega))
    obtain ⟨fs, y, h4, h5⟩ := h n (by omega)
    refine ⟨es ++ fs, xs ++ [y], by simp [h1], row_append h2 (row_one_elem h4), fun j u hj => ?_⟩
    have hl := row_len h2
    rw [h1] at hl
    by_cases hj' : j < es.length
    · rw [List.getElem?_append_left hj'] at hj; exact h3 j u hj
    · rw [List.getElem?_append_right (by omega)] at hj
      have := h5 _ u hj
      rwa [show n * r.size + (j - es.length) = j by omega] at this

theorem of_list {α : Type} {r : Rep α} {t e : TypeId} (ht : P.underlying t = some (.slice e)) (hc : P.cellsOf t = 1) (hs : 0 < r.size) (he : r.Of P e) : r.list.Of P t :=
  ⟨hc, fun H enc w fuel cs x h => by
    rcases DataW.trod_slice ht h with ⟨rfl, _⟩ | ⟨a, len, cap, elems, rest, n, rfl, rfl, _, _, h1, h2, h3, h4, _⟩
    · exact ⟨[], none, 0, [], rfl, Nat.le_refl _, Nat.zero_le _, rfl, fun h => absurd h (by simp)⟩
    · have hcell : ∀ i, i < len → ∃ es y, r.rd (fun _ => True) w es y ∧ ∀ j u, es[j]? = some u → w.cell? (a.add (i * r.size + j)) = some u := by
        intro i hi
        have h5 := h4 i hi
        rw [List.getElem?_eq_getElem (by omega)] at h5
        obtain ⟨es, h6, h7⟩ := Option.bind_eq_some_iff.1 h5
        obtain ⟨y, hy⟩ := he.2 H enc w n es _ h7
        refine ⟨es, y, hy, fun j u hj => ?_⟩
        unfold World.cells? at h6
        rw [if_pos (Nat.zero_le _), he.1] at h6
        have hjs : j < r.size := by have := (List.getElem?_eq_some_iff.1 hj).1; rw [r.len hy] at this; exact this
        have h8 := mapM_some_get h6 j j (by simp [hjs])
        rw [hj, add_of_add] at h8
        exact h8
      obtain ⟨es, xs, q1, q2, q3⟩ := row_of (g := fun j => w.cell? (a.add j)) len hcell
      subst q1
      refine ⟨xs, some a, cap, es, rfl, h1, h2, q2, fun hn => ?_⟩
      have h0 : 0 < es.length := by rw [row_len q2]; exact Nat.mul_pos hn hs
      have hc0 := q3 0 _ (List.getElem?_eq_getElem h0)
      have hsp : a.spot = none := by
        have := World.cell?_spot hc0
        simpa [Addr.add] using this
      obtain ⟨b, off, sp⟩ := a
      obtain rfl : sp = none := hsp
      refine ⟨b, off, rfl, trivial, ?_, fun j u hj => by have := q3 j u hj; rwa [Addr.add_lit] at this⟩
      unfold World.cell? at hc0
      rw [Addr.add_zero'] at hc0
      cases hh : w.heap[b]? with
      | none => simp [hh] at hc0
      | some o =>
        cases o with
        | cells c e f => exact ⟨c, e, f, hh⟩
        | _ => simp [hh] at hc0⟩

/-- An argument, opened. -/
theorem opens {α : Type} {r : Rep α} {P : Program} {t : TypeId} (hof : r.Of P t) {H : Type} {enc : TypeId × Value → H} {w : World} {base : Nat} {v : Value} {d : DataW H} {ps : List MemPlace}
    (hwr : ∀ (w : World) (base : Nat) (v : Value), Value.okWide P w .any base t v → v = r.wrap v.cells.toList) (hv : Value.okWide P w .any base t v) (h : DataW.Trod enc P w 0 (fun _ => true) true t v d ps) : ∃ y, r.val (fun _ => True) w v y := by
  obtain ⟨fuel, h⟩ := h
  obtain ⟨y, hy⟩ := hof.2 H enc w fuel _ _ h
  exact ⟨y, _, hwr w base v hv, hy⟩

theorem wrap_int {k : IntKind} {P : Program} {t : TypeId} (ht : P.underlying t = some (.int k)) : ∀ (w : World) (base : Nat) (v : Value), Value.okWide P w .any base t v → v = (Rep.int k).wrap v.cells.toList :=
  fun _ _ _ h => by obtain ⟨n, rfl⟩ := okWide_int ht h; rfl
theorem wrap_bool {P : Program} {t : TypeId} (ht : P.underlying t = some .bool) : ∀ (w : World) (base : Nat) (v : Value), Value.okWide P w .any base t v → v = Rep.bool.wrap v.cells.toList :=
  fun _ _ _ h => by obtain ⟨n, rfl⟩ := okWide_bool ht h; rfl
theorem wrap_text {P : Program} {t : TypeId} (ht : P.underlying t = some .string) : ∀ (w : World) (base : Nat) (v : Value), Value.okWide P w .any base t v → v = Rep.text.wrap v.cells.toList :=
  fun _ _ _ h => by obtain ⟨n, rfl⟩ := okWide_string ht h; rfl
theorem wrap_list {α : Type} {r : Rep α} {P : Program} {t e : TypeId} (ht : P.underlying t = some (.slice e)) : ∀ (w : World) (base : Nat) (v : Value), Value.okWide P w .any base t v → v = r.list.wrap v.cells.toList :=
  fun _ _ _ h => by obtain ⟨a, n, c, rfl⟩ := okWide_slice ht h; rfl
theorem wrap_agg {α : Type} {r : Rep α} {P : Program} {t : TypeId} {fs : Array Field} (ht : P.underlying t = some (.struct fs)) (hr : ∀ cs, r.wrap cs = .agg cs.toArray) : ∀ (w : World) (base : Nat) (v : Value), Value.okWide P w .any base t v → v = r.wrap v.cells.toList :=
  fun _ _ _ h => by obtain ⟨cs, rfl, _⟩ := okWide_struct ht h; rw [hr]; simp [Value.cells]
end Rep
end Go.Proofs.Ytcfgckpjgihcgaa
/- A struct's reading as0 data is this word's. -/
namespace Go.Proofs.Ytcfgckpjgihcgaa
open Go.ChangeShapes Go.WideShapes Go.ChangeAt Go.RowKit
namespace Rep

/-- Fields, one behind the other, from the offset o on. -/
def Fields {α : Type} (r : Rep α) (P : Program) (fs : List Field) (o : Nat) : Prop :=
  (∀ f ∈ fs, o ≤ f.offset) ∧ ∀ (H : Type) (enc : TypeId × Value → H) (w : World) (n : Nat) (cs : List Value), cs.length = r.size →
    (∀ f ∈ fs, ∃ x, DataW.trod enc P w 0 (fun _ => true) true n f.type ((cs.drop (f.offset - o)).take (P.cellsOf f.type)) = some x) → ∃ y, r.rd (fun _ => True) w cs y

theorem fields_one {α : Type} {r : Rep α} {P : Program} {f : Field} {o : Nat} (ho : f.offset = o) (h : r.Of P f.type) : r.Fields P [f] o :=
  ⟨(fun g hg => by
    have : g = f := by simpa using hg
    rw [this]; omega), fun H enc w n cs hl hf => by
    obtain ⟨x, hx⟩ := hf f (by simp)
    rw [ho, Nat.sub_self, List.drop_zero, h.1, ← hl, List.take_length] at hx
    exact h.2 H enc w n cs x hx⟩
theorem fields_cons {α β : Type} {r : Rep α} {s : Rep β} {P : Program} {f : Field} {fs : List Field} {o : Nat} (ho : f.offset = o) (h : r.Of P f.type) (hs : s.Fields P fs (o + r.size)) : (r.pair s).Fields P (f :: fs) o :=
  ⟨(fun g hg => by
    rcases List.mem_cons.1 hg with rfl | hg
    · omega
    · have := hs.1 g hg; omega), fun H enc w n cs hl hf => by
    have hl' : cs.length = r.size + s.size := hl
    obtain ⟨x, hx⟩ := hf f (by simp)
    rw [ho, Nat.sub_self, List.drop_zero, h.1] at hx
    obtain ⟨y, hy⟩ := h.2 H enc w n _ x hx
    obtain ⟨z, hz⟩ := hs.2 H enc w n (cs.drop r.size) (by rw [List.length_drop]; omega) (fun g hg => by
      obtain ⟨x', hx'⟩ := hf g (by simp [hg])
      refine ⟨x', ?_⟩
      have := hs.1 g hg
      rw [List.drop_drop, show r.size + (g.offset - (o + r.size)) = g.offset - o by omega]
      exact hx')
    exact ⟨(y, z), cs.take r.size, cs.drop r.size, (List.take_append_drop _ _).symm, hy, hz⟩⟩

theorem of_struct {α β : Type} {r : Rep α} {P : Program} {t : TypeId} {fs : Array Field} (f : β → α) (g : α → β) (hfg : ∀ x, f (g x) = x) (ht : P.underlying t = some (.struct fs)) (hc : P.cellsOf t = r.size) (h : r.Fields P fs.toList 0) : (r.iso f).Of P t :=
  ⟨hc, fun H enc w fuel cs x hx => by
    obtain ⟨xs, n, _, rfl, hl, hlen, hf⟩ := DataW.trod_struct ht hx
    obtain ⟨y, hy⟩ := h.2 H enc w n cs (by rw [hl, hc]) (fun fd hfd => by
      obtain ⟨i, hi, rfl⟩ := List.getElem_of_mem hfd
      have hi' : i < fs.size := by simpa using hi
      have := hf i fs[i] (by simp [hi'])
      refine ⟨xs[i]'(by omega), ?_⟩
      simp only [Nat.sub_zero, Array.getElem_toList]
      rw [this]
      simp)
    exact ⟨g y, by show r.rd _ _ _ (f (g y)); rw [hfg]; exact hy⟩⟩
end Rep
theorem of_ID : rID.Of Try.prog 36 :=
  Rep.of_struct _ (fun x => ⟨x.1, x.2⟩) (fun _ => rfl) Try.underlying36 (by kernel_rfl) (Rep.fields_cons rfl (Rep.of_int Try.underlying3 (by kernel_rfl)) (Rep.fields_one rfl (Rep.of_int Try.underlying3 (by kernel_rfl))))
theorem of_Part : rPart.Of Try.prog 176 :=
  Rep.of_struct _ (fun x => ⟨x.1, x.2⟩) (fun _ => rfl) Try.underlying176 (by kernel_rfl) (Rep.fields_cons rfl (Rep.of_int Try.underlying3 (by kernel_rfl)) (Rep.fields_one rfl (Rep.of_list Try.underlying22 (by kernel_rfl) (by decide) (Rep.of_byte Try.underlying5 (by kernel_rfl)))))
theorem of_Ent : rEnt.Of Try.prog 39 :=
  Rep.of_struct _ (fun x => ⟨x.1, x.2⟩) (fun _ => rfl) Try.underlying39 (by kernel_rfl) (Rep.fields_cons rfl of_ID (Rep.fields_one rfl (Rep.of_list Try.underlying37 (by kernel_rfl) (by decide) of_Part)))
theorem of_State : rState.Of Try.prog 33 :=
  Rep.of_struct _ (fun x => ⟨x.1, x.2.1, x.2.2⟩) (fun _ => rfl) Try.underlying33 (by kernel_rfl) (Rep.fields_cons rfl (Rep.of_list Try.underlying30 (by kernel_rfl) (by decide) (Rep.of_int Try.underlying3 (by kernel_rfl))) (Rep.fields_cons rfl (Rep.of_list Try.underlying30 (by kernel_rfl) (by decide) (Rep.of_int Try.underlying3 (by kernel_rfl))) (Rep.fields_one rfl (Rep.of_list Try.underlying31 (by kernel_rfl) (by decide) of_Ent))))
theorem of_Term : rTerm.Of Try.prog 41 :=
  Rep.of_struct _ (fun x => ⟨x.1, x.2.1, x.2.2⟩) (fun _ => rfl) Try.underlying41 (by kernel_rfl) (Rep.fields_cons rfl (Rep.of_int Try.underlying3 (by kernel_rfl)) (Rep.fields_cons rfl (Rep.of_int Try.underlying3 (by kernel_rfl)) (Rep.fields_one rfl (Rep.of_list Try.underlying22 (by kernel_rfl) (by decide) (Rep.of_byte Try.underlying5 (by kernel_rfl))))))
theorem of_Comp : rComp.Of Try.prog 206 :=
  Rep.of_struct _ (fun x => ⟨x.1, x.2⟩) (fun _ => rfl) Try.underlying206 (by kernel_rfl) (Rep.fields_cons rfl (Rep.of_text Try.underlying9 (by kernel_rfl)) (Rep.fields_one rfl (Rep.of_int Try.underlying3 (by kernel_rfl))))
theorem of_Conf : rConf.Of Try.prog 77 :=
  Rep.of_struct _ (fun x => ⟨x.1, x.2.1, x.2.2.1, x.2.2.2.1, x.2.2.2.2⟩) (fun _ => rfl) Try.underlying77 (by kernel_rfl) (Rep.fields_cons rfl (Rep.of_int Try.underlying3 (by kernel_rfl)) (Rep.fields_cons rfl (Rep.of_int Try.underlying3 (by kernel_rfl)) (Rep.fields_cons rfl (Rep.of_int Try.underlying3 (by kernel_rfl)) (Rep.fields_cons rfl (Rep.of_int Try.underlying3 (by kernel_rfl)) (Rep.fields_one rfl (Rep.of_list Try.underlying75 (by kernel_rfl) (by decide) of_Comp))))))
theorem of_Key : rKey.Of Try.prog 59 :=
  Rep.of_struct _ (fun x => ⟨x.1, x.2.1, x.2.2⟩) (fun _ => rfl) Try.underlying59 (by kernel_rfl) (Rep.fields_cons rfl (Rep.of_int Try.underlying3 (by kernel_rfl)) (Rep.fields_cons rfl (Rep.of_int Try.underlying44 (by kernel_rfl)) (Rep.fields_one rfl (Rep.of_int Try.underlying3 (by kernel_rfl)))))
theorem of_Stream : rStream.Of Try.prog 63 :=
  Rep.of_struct _ (fun x => ⟨x.1, x.2⟩) (fun _ => rfl) Try.underlying63 (by kernel_rfl) (Rep.fields_cons rfl of_Key (Rep.fields_one rfl (Rep.of_list Try.underlying22 (by kernel_rfl) (by decide) (Rep.of_byte Try.underlying5 (by kernel_rfl)))))
theorem of_Flow : rFlow.Of Try.prog 61 :=
  Rep.of_struct _ (fun x => ⟨x.1, x.2.1, x.2.2⟩) (fun _ => rfl) Try.underlying61 (by kernel_rfl) (Rep.fields_cons rfl of_Key (Rep.fields_cons rfl (Rep.of_list Try.underlying22 (by kernel_rfl) (by decide) (Rep.of_byte Try.underlying5 (by kernel_rfl))) (Rep.fields_one rfl (Rep.of_list Try.underlying30 (by kernel_rfl) (by decide) (Rep.of_int Try.underlying3 (by kernel_rfl))))))
theorem of_Entry : rEntry.Of Try.prog 142 :=
  Rep.of_struct _ (fun x => ⟨x.1, x.2.1, x.2.2⟩) (fun _ => rfl) Try.underlying142 (by kernel_rfl) (Rep.fields_cons rfl of_Key (Rep.fields_cons rfl (Rep.of_int Try.underlying3 (by kernel_rfl)) (Rep.fields_one rfl (Rep.of_list Try.underlying30 (by kernel_rfl) (by decide) (Rep.of_int Try.underlying3 (by kernel_rfl))))))
theorem of_Cmd : rCmd.Of Try.prog 220 :=
  Rep.of_struct _ (fun x => ⟨x.1, x.2.1, x.2.2.1, x.2.2.2.1, x.2.2.2.2⟩) (fun _ => rfl) Try.underlying220 (by kernel_rfl) (Rep.fields_cons rfl (Rep.of_int Try.underlying3 (by kernel_rfl)) (Rep.fields_cons rfl (Rep.of_bool Try.underlying4 (by kernel_rfl)) (Rep.fields_cons rfl of_ID (Rep.fields_cons rfl (Rep.of_int Try.underlying3 (by kernel_rfl)) (Rep.fields_one rfl (Rep.of_list Try.underlying22 (by kernel_rfl) (by decide) (Rep.of_byte Try.underlying5 (by kernel_rfl))))))))
end Go.Proofs.Ytcfgckpjgihcgaa
/- A step of a device's script, as0 a statement's argument. -/
namespace Go.Proofs.Ytcfgckpjgihcgaa
open Go.ChangeShapes Go.WideShapes Go.ChangeAt Go.RowKit
theorem of_Fate : rFate.Of Try.prog 233 :=
  Rep.of_struct _ (fun x => ⟨x.1, x.2⟩) (fun _ => rfl) Try.underlying233 (by kernel_rfl) (Rep.fields_cons rfl (Rep.of_int Try.underlying3 (by kernel_rfl)) (Rep.fields_one rfl (Rep.of_int Try.underlying3 (by kernel_rfl))))
theorem of_DiskStep : rStep.Of Try.prog 110 :=
  Rep.of_struct _ (fun x => ⟨x.1, x.2.1, x.2.2.1, x.2.2.2⟩) (fun _ => rfl) Try.underlying110 (by kernel_rfl) (Rep.fields_cons rfl (Rep.of_int Try.underlying3 (by kernel_rfl)) (Rep.fields_cons rfl (Rep.of_int Try.underlying3 (by kernel_rfl)) (Rep.fields_cons rfl (Rep.of_list Try.underlying22 (by kernel_rfl) (by decide) (Rep.of_byte Try.underlying5 (by kernel_rfl))) (Rep.fields_one rfl (Rep.of_list Try.underlying108 (by kernel_rfl) (by decide) of_Fate)))))
end Go.Proofs.Ytcfgckpjgihcgaa
