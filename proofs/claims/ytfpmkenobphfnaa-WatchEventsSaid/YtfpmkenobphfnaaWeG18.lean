/- Texts on which the proofs stand: ConcatEnts, Holds, Holds2, Holds3, Ask. No condition is laid on any input. -/
import Derived.Test.YtfpmkenobphfnaaWeG11
import Derived.Test.YtfpmkenobphfnaaWeG17
import Derived.Test.YtfpmkenobphfnaaWeG2
import Derived.Test.YtfpmkenobphfnaaWeG7
import Derived.BigQuiet
import Derived.Deep.QuietTactic
import Derived.Deep.RegionHeld3
/- Walks of the library's slices.Grow of nil and slices.Concat at entities. -/
namespace Go.Proofs.Ytfpmkenobphfnaa
open Go.RowKit

/-- 'append([]T(nil), make([]T, n)...)', of elements of several cells. -/
theorem run_append_wide {P : Program} (w : World) (t u ty e : TypeId) (i : TypeInfo) (z : Value) (ht : P.underlying t = some (.slice e)) (hu : P.underlying u = some (.int .i64)) (hi : P.info? e = some i) (hz : i.zero = some z) (hz1 : 0 < i.size)
    (n : Nat) (h0 : 0 < n) (h63 : (n : Int) ≤ 9223372036854775807) (h48 : n * i.bytes ≤ 281474976710656) :
    (Builtin.append_ #[t, u] ty #[.slice none 0 0, .int .i64 (n : Int)]).run P w =
      .ok (.slice (some ⟨w.heap.size, 0, none⟩) n (grownCap w n 0 e)) (w.drew.alloc (.cells (Builtin.zeroCells z.cells n ++ Builtin.zeroCells z.cells (grownCap w n 0 e - n)) e)) := by
  have hn : n ≠ 0 := by omega
  have h63' : ¬ (9223372036854775807 < (n : Int)) := by omega
  have hw : IntKind.i64.wrap (n : Int) = n := IntWalk.i64_in _ ⟨by omega, by omega⟩
  have hb : ¬ (281474976710656 < (n : Int) * (i.bytes : Int)) := by
    have : ((n * i.bytes : Nat) : Int) ≤ 281474976710656 := Int.ofNat_le.2 h48
    rw [Int.natCast_mul] at this; omega
  have h48' : ¬ (281474976710656 < Builtin.nextslicecap n 0 * i.bytes) := by rw [nextslicecap_zero h0]; omega
  have hneg : ¬ (n : Int) < 0 := by omega
  have hz2 : ¬ n * i.size = 0 := fun h => by rcases Nat.mul_eq_zero.1 h with h | h <;> omega
  simp [Builtin.append_, asInt, asIntOf, hneg, run_underlying ht, run_underlying hu, sizeOf, typeInfo, zeroValue, hi, hz, hz2, hn, hw, hb, h63', h48', Question.forced, run_firstCells_none, newRow, grownCap]

theorem infoEnt : (Try.prog.info? 189).map (fun i => (i.zero, i.size, i.bytes)) = some (some (.agg #[.int .i64 0, .int .i64 0, .slice none 0 0]), 3, 40) := by kernel_rfl
theorem grown_ents {w : World} {n : Nat} (h0 : 0 < n) (hn : n ≤ 1000000000000) :
    ∃ cap w', (Builtin.append_ #[107, 3] 107 #[.slice none 0 0, .int .i64 (n : Int)]).run Try.prog w = .ok (.slice (some ⟨w.heap.size, 0, none⟩) n cap) w' ∧ n ≤ cap ∧ cap ≤ maxLen ∧ rEnt.acc 189 w.heap.size (fun b => b < w.heap.size) w' (.slice (some ⟨w.heap.size, 0, none⟩) 0 cap) [] ∧ Below w.heap.size w w' := by
  obtain ⟨i, hi, hh⟩ := Option.map_eq_some_iff.1 infoEnt
  simp only [Prod.mk.injEq] at hh
  obtain ⟨hz, hs, hby⟩ := hh
  have hr := run_append_wide (P := Try.prog) w 107 3 107 189 i _ Try.underlying107 Try.underlying3 hi hz (by omega) n h0 (by omega) (by rw [hby]; omega)
  have hge := grownCap_ge w n 0 189
  have hcm : grownCap w n 0 189 ≤ maxLen := grownCap_le_maxLen w n 0 189 (by unfold maxLen; omega)
  refine ⟨_, _, hr, hge, hcm, ?_, (((Below.refl w.heap.size w).drew).alloc (Nat.le_refl _) _)⟩
  have := Rep.acc_made (r := rEnt) (e := 189) (base := w.heap.size) (Q := fun b => b < w.heap.size) w.drew (Builtin.zeroCells (Value.agg #[.int .i64 0, .int .i64 0, .slice none 0 0]).cells n ++ Builtin.zeroCells (Value.agg #[.int .i64 0, .int .i64 0, .slice none 0 0]).cells (grownCap w n 0 189 - n)) (grownCap w n 0 189) (Nat.le_refl _) hcm (by
    simp only [Array.size_append, size_zeroCells]
    show n * 3 + (grownCap w n 0 189 - n) * 3 = grownCap w n 0 189 * 3
    omega)
  exact this
def OwnEnts (w : World) (l : List DEnt) (en : Ending) (w' : World) : Prop := ∃ u, en = .returned u ∧ rEnt.acc 189 w.heap.size (fun b => b < w.heap.size) w' u l ∧ Below w.heap.size w w'
set_option maxRecDepth 100000 in
set_option maxHeartbeats 1000000 in
/-- slices.Grow of nil, at entities -/
theorem grow_ents (n : Nat) (hn : n ≤ 1000000000000) (w : World) : Calls Try.prog 230 #[.slice none 0 0, .int .i64 (n : Int)] w (OwnEnts w []) := by
  by_cases h0 : n = 0
  · subst h0
    go_enter Try.func230, Try.ntmps230
    go_wp2_with fail
    go_ret
    exact ⟨_, rfl, Rep.acc_nil, Below.refl _ _⟩
  · have hpos : 0 < n := by omega
    obtain ⟨cap, w2, hrun, hc1, hc2, hacc, hb⟩ := grown_ents (w := w) hpos hn
    have hp2 : (0 : Int) < n := by omega
    have HA := Lib.hid hacc
    have HB := Lib.hid hb
    have HR := Lib.hid hrun
    unfold maxLen at hc2
    clear hacc hb hrun
    go_enter Try.func230, Try.ntmps230
    go_wp2_with (refine wpList_run_append rfl _ _ 107 3 rfl (.slice none 0 0) (.int .i64 (n : Int)) _ (by exact rfl) (by exact rfl) HR.out ?_)
    go_ret
    exact ⟨_, rfl, HA.out, HB.out⟩

def entsLen (ls : List (List DEnt)) (k : Nat) : Nat := ((ls.take k).flatten).length
theorem ents_take_le (ls : List (List DEnt)) (k : Nat) : ((ls.take k).flatten).length ≤ ls.flatten.length := by
  have h : ls.flatten = (ls.take k).flatten ++ (ls.drop k).flatten := by rw [← List.flatten_append, List.take_append_drop]
  rw [h, List.length_append]; omega
theorem ents_take_succ {ls : List (List DEnt)} {k : Nat} {y : List DEnt} (h : ls[k]? = some y) : (ls.take (k + 1)).flatten = (ls.take k).flatten ++ y := by
  obtain ⟨hk, he⟩ := List.getElem?_eq_some_iff.1 h
  rw [List.take_succ_eq_append_getElem hk, List.flatten_append, he]; simp

set_option maxRecDepth 100000 in
set_option maxHeartbeats 2000000 in
/-- slices.Concat of entities -/
theorem concatEnts_calls {Q : Nat → Prop} {w : World} {v : Value} {ls : List (List DEnt)} (hx : rEnt.list.list.val Q w v ls) (hl : ls.flatten.length ≤ 1000000000) :
    Calls Try.prog 189 #[v] w (OwnEnts w ls.flatten) := by
  obtain ⟨A0, c0, rfl, hc1, hc2, hA⟩ := Rep.val_list hx
  unfold maxLen at hc2
  have HX := Lib.hid (show ∀ W', Below w.heap.size w W' → rEnt.list.At (fun b => b < w.heap.size) W' A0 ls from fun W' hb => Rep.At.keep (w := w) (fun b _ hl => ⟨hl.lt, hb.block b hl.lt⟩) hA)
  have HL := Lib.hid (fun k => Nat.le_trans (ents_take_le ls k) hl)
  have HL0 := Lib.hid hl
  clear hx hA hl
  go_enter Try.func189, Try.ntmps189
  go_wp2_with fail
  generalize hlen : ls.length = len at *
  have HLEN := Lib.hid hlen
  clear hlen
  go_loopw [3, 11] (fun s i wr => ∃ k : Nat, i = .int .i64 k ∧ k ≤ len ∧ s = .int .i64 (entsLen ls k : Nat) ∧ wr = w) (fun _ i _ => len - (intOf i).toNat)
  case atStart => exact ⟨0, rfl, Nat.zero_le _, rfl, rfl⟩
  case round =>
    obtain ⟨k, rfl, hk, rfl, hwr⟩ := hrel
    have hwr2 := hwr.symm
    subst hwr2
    clear hwr
    by_cases hlt : (k : Int) < len
    · obtain ⟨y, hy⟩ : ∃ y, ls[k]? = some y := ⟨_, List.getElem?_eq_getElem (by have := HLEN.out; omega)⟩
      obtain ⟨bb, off, B5, c5, rfl, hcell, hc5, hm5, hat⟩ := Rep.At.list (HX.out _ (Below.refl _ _)) hy
      have hs := ents_take_succ hy
      have hn1 : entsLen ls k ≤ 1000000000 := HL.out k
      have hn2 : entsLen ls (k + 1) ≤ 1000000000 := HL.out (k + 1)
      have hn3 : entsLen ls (k + 1) = entsLen ls k + y.length := by unfold entsLen; rw [hs, List.length_append]
      generalize entsLen ls k = a at *
      have HN3 := Lib.hid hn3
      have i1 : IntKind.i64.wrap ((a : Int) + (y.length : Int)) = (a : Int) + (y.length : Int) := IntWalk.i64_in _ ⟨by omega, by omega⟩
      have i2 : ¬ (a : Int) + (y.length : Int) < 0 := by omega
      clear hy hat hs
      rw [hn3] at hn2
      clear hn3
      go_wp2_with fail
      exact ⟨⟨k + 1, rfl, by omega, by rw [HN3.out, Int.natCast_add], trivial⟩, by show len - ((k : Int) + 1).toNat < len - (k : Int).toNat; omega⟩
    · obtain rfl : k = len := by omega
      have HT := Lib.hid (show entsLen ls k = ls.flatten.length by unfold entsLen; rw [List.take_of_length_le (by have := HLEN.out; omega)])
      go_wp2_with fail
      refine (grow_ents _ (by have := HT.out; have := HL0.out; omega) _).mono ?_
      rintro e w2 ⟨u2, rfl, hu2, hb2⟩
      have HU2 := Lib.hid hu2
      have HB2 := Lib.hid hb2
      clear hu2 hb2
      generalize entsLen ls k = tot at *
      go_wp2_with fail
      go_loopw [6, 27] (fun s i wr => ∃ j : Nat, i = .int .i64 j ∧ j ≤ k ∧ rEnt.acc 189 w.heap.size (fun b => b < w.heap.size) wr s ((ls.take j).flatten) ∧ Below w.heap.size w wr) (fun _ i _ => k - (intOf i).toNat)
      case atStart => exact ⟨0, rfl, Nat.zero_le _, by simpa using HU2.out, HB2.out⟩
      case round =>
        obtain ⟨j, rfl, hj, hacc, hbel⟩ := hrel
        obtain ⟨q, hq⟩ : ∃ q, (ls.take j).flatten = q := ⟨_, rfl⟩
        rw [hq] at hacc
        have HQ := Lib.hid hq
        clear hq
        obtain ⟨A2, c2, rfl, _, _⟩ := Rep.acc_form hacc
        have HACC := Lib.hid hacc
        have HBEL := Lib.hid hbel
        by_cases hlt : (j : Int) < k
        · obtain ⟨y, hy⟩ : ∃ y, ls[j]? = some y := ⟨_, List.getElem?_eq_getElem (by have := HLEN.out; omega)⟩
          obtain ⟨bb, off, B5, c5, rfl, hcell, hc5, hm5, hat⟩ := Rep.At.list (HX.out _ hbel) hy
          have HY := Lib.hid (Rep.list_val rfl hc5 hm5 hat)
          have HS := Lib.hid (show (ls.take (j + 1)).flatten = q ++ y by rw [ents_take_succ hy, HQ.out])
          have hn2 := HL.out (j + 1)
          rw [HS.out, List.length_append] at hn2
          have L63 := Lib.hid (show q.length + y.length ≤ maxLen ∧ (q.length + y.length) * 40 ≤ 140737488355328 by unfold maxLen; omega)
          have HSZ := Lib.hid hbel.size
          have HOW := Lib.hid (show ∀ b, b < w.heap.size → IsC wr b → b < w.heap.size ∧ (Value.slice A2 q.length c2).ownBlock ≠ some b from fun b hb _ => ⟨hb, fun e => by have := (Rep.acc_own HACC.out b e).1; omega⟩)
          clear hacc hbel hn2
          go_wp2_with (refine wpList_spread (e := 189) (base := w.heap.size) (Q := fun b => b < w.heap.size) (Q' := fun b => b < w.heap.size) (r := rEnt) rfl _ _ 107 rfl (.agg #[.int .i64 0, .int .i64 0, .slice none 0 0]) 3 40 Try.underlying107 infoEnt rfl (by decide) rfl _ _ (by exact rfl) HACC.out _ y (by exact rfl) HY.out HOW.out L63.out.1 L63.out.2 HSZ.out ?_; intro v7 w7 hacc7 hgr7 hat7)
          refine ⟨⟨j + 1, rfl, by omega, ?_, Rep.acc_below HACC.out HBEL.out hgr7 HSZ.out⟩, by show k - ((j : Int) + 1).toNat < k - (j : Int).toNat; omega⟩
          rw [HS.out]; exact hacc7
        · obtain rfl : j = k := by omega
          have HE := Lib.hid (show q = ls.flatten by rw [← HQ.out, List.take_of_length_le (by have := HLEN.out; omega)])
          clear hacc hbel
          go_wp2_with fail
          go_ret
          exact ⟨_, rfl, by rw [← HE.out]; exact HACC.out, HBEL.out⟩
end Go.Proofs.Ytfpmkenobphfnaa
/- Walks of whether an entity holds a term. -/
namespace Go.Proofs.Ytfpmkenobphfnaa
open Go.RowKit

/-- Byte by byte. -/
def belowB (a b : List UInt8) : Bool := decide (Lib.compareBytes a b < 0)
theorem belowB_cons (x : UInt8) (a b : List UInt8) : belowB (x :: a) (x :: b) = belowB a b := by
  unfold belowB
  rw [show Lib.compareBytes (x :: a) (x :: b) = if x < x then -1 else if x < x then 1 else Lib.compareBytes a b from rfl]
  simp
theorem belowB_take {a b : List UInt8} : ∀ {k : Nat}, k ≤ a.length → k ≤ b.length → a.take k = b.take k → belowB a b = belowB (a.drop k) (b.drop k)
  | 0, _, _, _ => by simp
  | k + 1, ha, hb, h => by
    cases a with
    | nil => simp at ha
    | cons x a =>
      cases b with
      | nil => simp at hb
      | cons y b =>
        simp only [List.take_succ_cons, List.cons.injEq] at h
        obtain ⟨rfl, h⟩ := h
        rw [belowB_cons, List.drop_succ_cons, List.drop_succ_cons]
        exact belowB_take (by simpa using ha) (by simpa using hb) h
theorem belowB_ne {a b : List UInt8} {k : Nat} (ha : k < a.length) (hb : k < b.length) (h : a.take k = b.take k) (hne : a[k] ≠ b[k]) : belowB a b = decide (a[k].toNat < b[k].toNat) := by
  rw [belowB_take (Nat.le_of_lt ha) (Nat.le_of_lt hb) h, ← List.getElem_cons_drop ha, ← List.getElem_cons_drop hb]
  unfold belowB Lib.compareBytes
  by_cases h1 : a[k] < b[k]
  · have h2 : a[k].toNat < b[k].toNat := h1
    rw [if_pos h1]; simp [h2]
  · have h2 : ¬ a[k].toNat < b[k].toNat := h1
    have h3 : b[k] < a[k] := UInt8.lt_of_le_of_ne (UInt8.not_lt.1 h1) (Ne.symm hne)
    rw [if_neg h1, if_pos h3]; simp [h2]
theorem belowB_end {a b : List UInt8} (h : a.take (min a.length b.length) = b.take (min a.length b.length)) : belowB a b = decide (a.length < b.length) := by
  rw [belowB_take (Nat.min_le_left _ _) (Nat.min_le_right _ _) h]
  rcases Nat.lt_or_ge a.length b.length with hl | hl
  · rw [Nat.min_eq_left (Nat.le_of_lt hl), List.drop_length, ← List.getElem_cons_drop hl]
    unfold belowB Lib.compareBytes
    simp [hl]
  · rw [Nat.min_eq_right hl, List.drop_length]
    have : ¬ a.length < b.length := by omega
    cases hd : a.drop b.length with
    | nil => unfold belowB Lib.compareBytes; simp [this]
    | cons x t => unfold belowB Lib.compareBytes; simp [this]

end Go.Proofs.Ytfpmkenobphfnaa
/- Walks of whether an entity holds a term: both texts. -/
namespace Go.Proofs.Ytfpmkenobphfnaa
open Go.RowKit

def hasPart (l : List DPart) (k : Int) : Bool := decide (0 ≤ partAt l k)
def dataPart (l : List DPart) (k : Int) : List UInt8 := if 0 ≤ partAt l k then ((l[(partAt l k).toNat]?).map (·.data)).getD [] else []
theorem partAt_cases (l : List DPart) (k : Int) : partAt l k = -1 ∨ ∃ (i : Nat) (h : i < l.length), partAt l k = i ∧ dataPart l k = l[i].data := by
  cases hf : l.findIdx? (fun p => p.comp == k) with
  | none => left; unfold partAt; rw [hf]
  | some i =>
    right
    have hi : i < l.length := (List.findIdx?_eq_some_iff_getElem.1 hf).1
    have hp : partAt l k = i := by unfold partAt; rw [hf]
    refine ⟨i, hi, hp, ?_⟩
    unfold dataPart
    rw [if_pos (by omega), hp]
    simp [List.getElem?_eq_getElem hi]
def holdsB (t : DTerm) (d : List UInt8) (has : Bool) : Bool :=
  if t.kind = 0 then has else if t.kind = 1 then !has else if t.kind = 2 then has && decide (d = t.data) else if t.kind = 3 then has && belowB d t.data else false
def holdsE (e : DEnt) (t : DTerm) : Bool := holdsB t (dataPart e.parts t.comp) (hasPart e.parts t.comp)

def DataRes (w : World) (l : List DPart) (k : Int) (e : Ending) (w' : World) : Prop :=
  ∃ u, e = .returned (.tuple #[u, .bool (hasPart l k)]) ∧ Rep.byte.list.val (fun _ => True) w' u (dataPart l k) ∧ Below w.heap.size w w'

end Go.Proofs.Ytfpmkenobphfnaa
/- Walks of whether an entity holds a term, and of those of which all hold. -/
namespace Go.Proofs.Ytfpmkenobphfnaa
open Go.RowKit

/-- Two arguments boxed: an entity and a term. -/
structure Boxes (w W2 : World) (x : DEnt) (t : DTerm) (A : Option Addr) (c : Nat) (B : Option Addr) (d : Nat) : Prop where
  bel : Below w.heap.size w W2
  sz : W2.heap.size = w.heap.size + 2
  e0 : W2.cell? ⟨w.heap.size, 0, none⟩ = some (.int .i64 x.id.index)
  e1 : W2.cell? ⟨w.heap.size, 1, none⟩ = some (.int .i64 x.id.gen)
  e2 : W2.cell? ⟨w.heap.size, 2, none⟩ = some (.slice A x.parts.length c)
  t0 : W2.cell? ⟨w.heap.size + 1, 0, none⟩ = some (.int .i64 t.kind)
  t1 : W2.cell? ⟨w.heap.size + 1, 1, none⟩ = some (.int .i64 t.comp)
  t2 : W2.cell? ⟨w.heap.size + 1, 2, none⟩ = some (.slice B t.data.length d)
theorem Boxes.made (w : World) (x : DEnt) (t : DTerm) (A : Option Addr) (c : Nat) (B : Option Addr) (d : Nat) (e1 e2 : Nat) :
    Boxes w ((w.alloc (.cells #[.int .i64 x.id.index, .int .i64 x.id.gen, .slice A x.parts.length c] e1)).alloc (.cells #[.int .i64 t.kind, .int .i64 t.comp, .slice B t.data.length d] e2)) x t A c B d :=
  ⟨((Below.refl _ _).alloc (Nat.le_refl _) _).alloc (by simp) _, by simp, by simp, by simp, by simp, by simp, by simp, by simp⟩
theorem Boxes.later {w W2 W3 : World} {x : DEnt} {t : DTerm} {A : Option Addr} {c : Nat} {B : Option Addr} {d : Nat} (h : Boxes w W2 x t A c B d) (hb : Below W2.heap.size W2 W3) :
    W3.cell? ⟨w.heap.size, 0, none⟩ = some (.int .i64 x.id.index) ∧ W3.cell? ⟨w.heap.size, 1, none⟩ = some (.int .i64 x.id.gen) ∧ W3.cell? ⟨w.heap.size, 2, none⟩ = some (.slice A x.parts.length c) ∧
    W3.cell? ⟨w.heap.size + 1, 0, none⟩ = some (.int .i64 t.kind) ∧ W3.cell? ⟨w.heap.size + 1, 1, none⟩ = some (.int .i64 t.comp) ∧ W3.cell? ⟨w.heap.size + 1, 2, none⟩ = some (.slice B t.data.length d) := by
  have hs := h.sz
  exact ⟨(hb.cell (p := ⟨w.heap.size, 0, none⟩) (show w.heap.size < _ by omega)).trans h.e0, (hb.cell (p := ⟨w.heap.size, 1, none⟩) (show w.heap.size < _ by omega)).trans h.e1, (hb.cell (p := ⟨w.heap.size, 2, none⟩) (show w.heap.size < _ by omega)).trans h.e2,
    (hb.cell (p := ⟨w.heap.size + 1, 0, none⟩) (show w.heap.size + 1 < _ by omega)).trans h.t0, (hb.cell (p := ⟨w.heap.size + 1, 1, none⟩) (show w.heap.size + 1 < _ by omega)).trans h.t1, (hb.cell (p := ⟨w.heap.size + 1, 2, none⟩) (show w.heap.size + 1 < _ by omega)).trans h.t2⟩

end Go.Proofs.Ytfpmkenobphfnaa
/- Walks of those of which all terms hold. -/
namespace Go.Proofs.Ytfpmkenobphfnaa
open Go.RowKit

/-- The place of the first one; -1: there is none. -/
def idxOf {α : Type} (p : α → Bool) (l : List α) : Int := match l.findIdx? p with
  | some i => i
  | none => -1
theorem idxOf_found {α : Type} {p : α → Bool} {l : List α} {j : Nat} (hj : j < l.length) (h : p l[j] = true) (hb : ∀ x ∈ l.take j, p x = false) : idxOf p l = j := by
  unfold idxOf
  have : l.findIdx? p = some j := by
    rw [List.findIdx?_eq_some_iff_getElem]
    refine ⟨hj, h, fun i hi => ?_⟩
    have := hb l[i] (List.mem_take_iff_getElem.2 ⟨i, by omega, rfl⟩)
    simp [this]
  rw [this]
theorem idxOf_none {α : Type} {p : α → Bool} {l : List α} (hb : ∀ x ∈ l, p x = false) : idxOf p l = -1 := by
  unfold idxOf
  have : l.findIdx? p = none := by
    rw [List.findIdx?_eq_none_iff]
    intro x hx
    simp [hb x hx]
  rw [this]
theorem idxOf_any {α : Type} (p : α → Bool) (l : List α) : decide (0 ≤ idxOf p l) = l.any p := by
  unfold idxOf
  cases h : l.findIdx? p with
  | none =>
    rw [List.findIdx?_eq_none_iff] at h
    have : l.any p = false := List.any_eq_false.2 (fun x hx => by simpa using h x hx)
    rw [this]; rfl
  | some i =>
    obtain ⟨hi, hp, _⟩ := List.findIdx?_eq_some_iff_getElem.1 h
    have : l.any p = true := List.any_eq_true.2 ⟨l[i], List.getElem_mem hi, hp⟩
    rw [this]; simp

/-- An entity in a block of its own. -/
structure EntBox (w : World) (eb : Nat) (x : DEnt) (A : Option Addr) (c : Nat) : Prop where
  e0 : w.cell? ⟨eb, 0, none⟩ = some (.int .i64 x.id.index)
  e1 : w.cell? ⟨eb, 1, none⟩ = some (.int .i64 x.id.gen)
  e2 : w.cell? ⟨eb, 2, none⟩ = some (.slice A x.parts.length c)
  f0 : (Lit.int .i64 x.id.index).wf = true
  f1 : (Lit.int .i64 x.id.gen).wf = true
  s : rPart.Sl (fun b => b < w.heap.size) w A c x.parts
  lt : eb < w.heap.size
theorem EntBox.later {w w' : World} {eb : Nat} {x : DEnt} {A : Option Addr} {c : Nat} (h : EntBox w eb x A c) (hb : Below w.heap.size w w') : EntBox w' eb x A c :=
  ⟨(hb.cell (p := ⟨eb, 0, none⟩) h.lt).trans h.e0, (hb.cell (p := ⟨eb, 1, none⟩) h.lt).trans h.e1, (hb.cell (p := ⟨eb, 2, none⟩) h.lt).trans h.e2, h.f0, h.f1, h.s.keep fun b hq hl => ⟨Nat.lt_of_lt_of_le hq hb.size, hb.block b hl.lt⟩, Nat.lt_of_lt_of_le h.lt hb.size⟩
theorem EntBox.val {w : World} {eb : Nat} {x : DEnt} {A : Option Addr} {c : Nat} (h : EntBox w eb x A c) : rEnt.val (fun b => b < w.heap.size) w (.agg #[.int .i64 x.id.index, .int .i64 x.id.gen, .slice A x.parts.length c]) x := rEnt_agg h.f0 h.f1 h.s

def askE (l : List DTerm) (x : DEnt) : Bool := l.all (holdsE x)
theorem not_any_ask (l : List DTerm) (x : DEnt) : (l.any fun t => !holdsE x t) = !askE l x := by
  unfold askE
  rw [Bool.eq_iff_iff]
  simp
def askOf (ents : List DEnt) (l : List DTerm) : List DID := (ents.filter (askE l)).map (·.id)
theorem askOf_yes {ents : List DEnt} {l : List DTerm} {k : Nat} (hk : k < ents.length) (h : askE l ents[k] = true) : askOf (ents.take (k + 1)) l = askOf (ents.take k) l ++ [ents[k].id] := by
  unfold askOf; rw [List.take_succ_eq_append_getElem hk, List.filter_append, List.map_append]; simp [h]
theorem askOf_no {ents : List DEnt} {l : List DTerm} {k : Nat} (hk : k < ents.length) (h : askE l ents[k] = false) : askOf (ents.take (k + 1)) l = askOf (ents.take k) l := by
  unfold askOf; rw [List.take_succ_eq_append_getElem hk, List.filter_append, List.map_append]; simp [h]
theorem askOf_len (ents : List DEnt) (l : List DTerm) : (askOf ents l).length ≤ ents.length := by unfold askOf; rw [List.length_map]; exact List.length_filter_le _ _
theorem infoID : (Try.prog.info? 175).map (fun i => (i.zero, i.size, i.bytes)) = some (some (.agg #[.int .i64 0, .int .i64 0]), 2, 16) := by kernel_rfl

end Go.Proofs.Ytfpmkenobphfnaa
