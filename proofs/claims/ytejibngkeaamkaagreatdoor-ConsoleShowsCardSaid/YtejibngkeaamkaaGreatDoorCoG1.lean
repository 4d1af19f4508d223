/- Texts on which the proofs stand: Core, Bytes, Clone, Le, Text, Types, Comp, Conf, RConf, RRight, Reader, Same, RDirGet, Region, HeldTail, Short, Frame, WordMath, Tabs, Laid39, Structs, ActType, StructsAct, Page, Most, CmdCheck, ConMath, ConLaw, Sector, Seal, Disk, Boxes. No condition is laid on any input. -/
import Derived.WalkKit
import Derived.WalkSpells
import Derived.Carry
import Derived.ChangeArms
import Derived.ChangeOld
import Derived.Lib.Hide
import Derived.Deep.Draws
import Derived.Laws.OwnMore
import Derived.Maps.AppendAt
import Derived.Deep.OwnRows
import Derived.Test.YtejibngkeaamkaaGreatDoorProg
import Derived.BigQuiet
import Derived.Deep.QuietTactic
import Derived.Lib.AppendStr
import Derived.Lib.ConvBytes
import Derived.Laws.IdiomStrings
import Derived.Deep.RegionHeld3
import Derived.WalkMore
import Derived.StillTailTactics
import Derived.Deep.RegionWith
import Derived.RangeFuncNested
import Derived.RangeFuncBound
import Derived.RangeFuncCalls
import Derived.RangeFuncLeaves
import Derived.RangeFuncBox
import Derived.Orders
import Derived.OrdersIn
import Derived.Test.YtejibngkeaamkaaGreatDoorRows
import Derived.ProofKit
import Derived.OpenShut
import Derived.ShutString
import Derived.Below
import Derived.Lib.AtoiAllCases
import Derived.Lib.ItoaLen
import Derived.Test.YtejibngkeaamkaaGreatDoorShelf
import Derived.Lib.AppendIntMem
import Derived.Lib.AtoiErrMem
import Derived.Lib.LaidTab
import Derived.Shelf.Vars
import Derived.LaidMore
import Derived.Lay
import Derived.HandedShaped
import Derived.Handed
import Derived.Stop.Joined
import Derived.Lib.Join
import Derived.Lib.Split
import Derived.Deep.WholeRow
import Derived.Deep.RegionLaw
import Derived.Deep.MidRow
import Derived.OwnWalk
import Derived.Stop.BytesEq
import Derived.Laws.CopyOwn
import Derived.Laws.BitsAllLaws
import Derived.Maps.OwnSet
import Derived.Deep.RegionHeld
import Derived.Laws.Cover3
namespace Go.Proofs.YtejibngkeaamkaaGreatDoor
open Go.RowKit

/-- A block of cells. -/
def IsC (w : World) (b : Nat) : Prop := ∃ c e f, w.heap[b]? = some (.cells c e f)
theorem IsC.lt {w : World} {b : Nat} (h : IsC w b) : b < w.heap.size := by
  obtain ⟨c, e, f, h⟩ := h
  exact (Array.getElem?_eq_some_iff.1 h).1
theorem IsC.same {w w' : World} {b : Nat} (h : IsC w b) (he : w'.heap[b]? = w.heap[b]?) : IsC w' b := by
  obtain ⟨c, e, f, h⟩ := h
  exact ⟨c, e, f, he.trans h⟩

/-- How values of a Lean type lie in cells; Q holds of every block that is read. -/
structure Rep (α : Type) where
  size : Nat
  wrap : List Value → Value
  rd : (Nat → Prop) → World → List Value → α → Prop
  len : ∀ {Q w cs x}, rd Q w cs x → cs.length = size
  one : ∀ {Q w cs x}, rd Q w cs x → ∀ u ∈ cs, u.oneCell' = true
  back : ∀ {Q w cs x}, rd Q w cs x → (wrap cs).cells.toList = cs
  keep : ∀ {Q Q' : Nat → Prop} {w w' : World} {cs x}, (∀ b, Q b → IsC w b → Q' b ∧ w'.heap[b]? = w.heap[b]?) → rd Q w cs x → rd Q' w' cs x

namespace Rep
variable {α β : Type}

theorem mono (r : Rep α) {Q Q' : Nat → Prop} {w : World} {cs x} (hq : ∀ b, Q b → IsC w b → Q' b) (h : r.rd Q w cs x) : r.rd Q' w cs x :=
  r.keep (fun b hb hl => ⟨hq b hb hl, rfl⟩) h

/-- An integer of a kind. -/
def int (k : IntKind) : Rep Int where
  size := 1
  wrap cs := cs.headD undef
  rd _ _ cs n := cs = [.int k n] ∧ (Lit.int k n).wf = true
  len h := by rw [h.1]; rfl
  one h := by rw [h.1]; simp [Value.oneCell']
  back h := by rw [h.1]; rfl
  keep _ h := h

/-- A byte. -/
def byte : Rep UInt8 where
  size := 1
  wrap cs := cs.headD undef
  rd _ _ cs n := cs = [.int .u8 (n.toNat : Int)]
  len h := by rw [h]; rfl
  one h := by rw [h]; simp [Value.oneCell']
  back h := by rw [h]; rfl
  keep _ h := h

def bool : Rep Bool where
  size := 1
  wrap cs := cs.headD undef
  rd _ _ cs n := cs = [.bool n]
  len h := by rw [h]; rfl
  one h := by rw [h]; simp [Value.oneCell']
  back h := by rw [h]; rfl
  keep _ h := h

/-- A text. -/
def text : Rep (List UInt8) where
  size := 1
  wrap cs := cs.headD undef
  rd _ _ cs l := cs = [.string ⟨l.toArray⟩] ∧ l.length ≤ maxLen
  len h := by rw [h.1]; rfl
  one h := by rw [h.1]; simp [Value.oneCell']
  back h := by rw [h.1]; rfl
  keep _ h := h

/-- Two, one behind the other. -/
def pair (r : Rep α) (s : Rep β) : Rep (α × β) where
  size := r.size + s.size
  wrap cs := .agg cs.toArray
  rd Q w cs x := ∃ as0 bs, cs = as0 ++ bs ∧ r.rd Q w as0 x.1 ∧ s.rd Q w bs x.2
  len h := by obtain ⟨as0, bs, rfl, h1, h2⟩ := h; rw [List.length_append, r.len h1, s.len h2]
  one h := by
    obtain ⟨as0, bs, rfl, h1, h2⟩ := h
    intro u hu
    rcases List.mem_append.1 hu with hu | hu
    · exact r.one h1 u hu
    · exact s.one h2 u hu
  back h := by simp [Value.cells]
  keep hk h := by
    obtain ⟨as0, bs, rfl, h1, h2⟩ := h
    exact ⟨as0, bs, rfl, r.keep hk h1, s.keep hk h2⟩

/-- The same cells, read as0 another type. -/
def iso (r : Rep α) (f : β → α) : Rep β where
  size := r.size
  wrap := r.wrap
  rd Q w cs x := r.rd Q w cs (f x)
  len h := r.len h
  one h := r.one h
  back h := r.back h
  keep hk h := r.keep hk h

/-- Elements, one behind the other. -/
def row (r : Rep α) (Q : Nat → Prop) (w : World) : List Value → List α → Prop
  | cs, [] => cs = []
  | cs, x :: xs => ∃ es rest, cs = es ++ rest ∧ r.rd Q w es x ∧ r.row Q w rest xs

section
variable {r : Rep α} {Q Q' : Nat → Prop} {w w' : World}

theorem row_len : ∀ {xs : List α} {cs : List Value}, r.row Q w cs xs → cs.length = xs.length * r.size
  | [], cs, h => by have : cs = [] := h; subst this; simp
  | x :: xs, cs, h => by
    obtain ⟨es, rest, rfl, h1, h2⟩ := h
    rw [List.length_append, r.len h1, row_len h2, List.length_cons, Nat.add_mul]; omega

theorem row_one : ∀ {xs : List α} {cs : List Value}, r.row Q w cs xs → ∀ u ∈ cs, u.oneCell' = true
  | [], cs, h => by have : cs = [] := h; subst this; simp
  | x :: xs, cs, h => by
    obtain ⟨es, rest, rfl, h1, h2⟩ := h
    intro u hu
    rcases List.mem_append.1 hu with hu | hu
    · exact r.one h1 u hu
    · exact row_one h2 u hu

theorem row_keep (hk : ∀ b, Q b → IsC w b → Q' b ∧ w'.heap[b]? = w.heap[b]?) : ∀ {xs : List α} {cs : List Value}, r.row Q w cs xs → r.row Q' w' cs xs
  | [], _, h => h
  | x :: xs, _, h => by
    obtain ⟨es, rest, rfl, h1, h2⟩ := h
    exact ⟨es, rest, rfl, r.keep hk h1, row_keep hk h2⟩

theorem row_append : ∀ {xs ys : List α} {cs ds : List Value}, r.row Q w cs xs → r.row Q w ds ys → r.row Q w (cs ++ ds) (xs ++ ys)
  | [], ys, cs, ds, h, h' => by have : cs = [] := h; subst this; simpa using h'
  | x :: xs, ys, cs, ds, h, h' => by
    obtain ⟨es, rest, rfl, h1, h2⟩ := h
    exact ⟨es, rest ++ ds, by simp, h1, row_append h2 h'⟩

theorem row_one_elem {x : α} {es : List Value} (h : r.rd Q w es x) : r.row Q w es [x] := ⟨es, [], by simp, h, rfl⟩

theorem row_split : ∀ {xs ys : List α} {cs : List Value}, r.row Q w cs (xs ++ ys) → ∃ as0 bs, cs = as0 ++ bs ∧ r.row Q w as0 xs ∧ r.row Q w bs ys
  | [], ys, cs, h => ⟨[], cs, rfl, rfl, h⟩
  | x :: xs, ys, cs, h => by
    obtain ⟨es, rest, rfl, h1, h2⟩ := h
    obtain ⟨as0, bs, rfl, h3, h4⟩ := row_split h2
    exact ⟨es ++ as0, bs, by simp, ⟨es, as0, rfl, h1, h3⟩, h4⟩

theorem row_get {xs : List α} {cs : List Value} (h : r.row Q w cs xs) {i : Nat} {x : α} (hx : xs[i]? = some x) :
    ∃ es, r.rd Q w es x ∧ ∀ j u, es[j]? = some u → cs[i * r.size + j]? = some u := by
  have hi : i < xs.length := (List.getElem?_eq_some_iff.1 hx).1
  have hsp : xs = xs.take i ++ (x :: xs.drop (i + 1)) := by
    have := (List.getElem?_eq_some_iff.1 hx).2
    rw [← this, List.getElem_cons_drop, List.take_append_drop]
  rw [hsp] at h
  obtain ⟨as0, bs, rfl, h1, es, rest, rfl, h2, _⟩ := row_split h
  refine ⟨es, h2, fun j u hj => ?_⟩
  have hl := row_len h1
  rw [List.length_take, Nat.min_eq_left (Nat.le_of_lt hi)] at hl
  have hj' := (List.getElem?_eq_some_iff.1 hj).1
  rw [List.getElem?_append_right (by omega), show i * r.size + j - as0.length = j by omega, List.getElem?_append_left hj']
  exact hj
end

/-- A slice: its cell; where it has elements, they lie in one block, which is of Q. -/
def list (r : Rep α) : Rep (List α) where
  size := 1
  wrap cs := cs.headD undef
  rd Q w cs xs := ∃ A c es, cs = [.slice A xs.length c] ∧ xs.length ≤ c ∧ c ≤ maxLen ∧ r.row Q w es xs ∧
    (0 < xs.length → ∃ b off, A = some ⟨b, off, none⟩ ∧ Q b ∧ IsC w b ∧ ∀ j u, es[j]? = some u → w.cell? ⟨b, off + j, none⟩ = some u)
  len h := by obtain ⟨A, c, es, rfl, _⟩ := h; rfl
  one h := by obtain ⟨A, c, es, rfl, _⟩ := h; simp [Value.oneCell']
  back h := by obtain ⟨A, c, es, rfl, _⟩ := h; rfl
  keep hk h := by
    obtain ⟨A, c, es, rfl, h1, h2, h3, h4⟩ := h
    refine ⟨A, c, es, rfl, h1, h2, row_keep hk h3, fun hn => ?_⟩
    obtain ⟨b, off, rfl, hq, hb, hc⟩ := h4 hn
    obtain ⟨hq', he⟩ := hk b hq hb
    refine ⟨b, off, rfl, hq', hb.same he, fun j u hj => ?_⟩
    · rw [World.cell?_of_block (w := _) (w' := _) (a := ⟨b, off + j, none⟩) he]
      exact hc j u hj

/-- A value (of one cell, or of several) that reads as0 x. -/
def val (r : Rep α) (Q : Nat → Prop) (w : World) (v : Value) (x : α) : Prop := ∃ cs, v = r.wrap cs ∧ r.rd Q w cs x

section
variable {r : Rep α} {Q Q' : Nat → Prop} {w w' : World} {v : Value}

theorem val_keep {x : α} (hk : ∀ b, Q b → IsC w b → Q' b ∧ w'.heap[b]? = w.heap[b]?) (h : r.val Q w v x) : r.val Q' w' v x := by
  obtain ⟨cs, hv, h⟩ := h
  exact ⟨cs, hv, r.keep hk h⟩

theorem val_mono {x : α} (hq : ∀ b, Q b → IsC w b → Q' b) (h : r.val Q w v x) : r.val Q' w v x := val_keep (fun b hb hl => ⟨hq b hb hl, rfl⟩) h

/-- What a slice's value is, and its elements' cells. -/
def At (r : Rep α) (Q : Nat → Prop) (w : World) (A : Option Addr) (xs : List α) : Prop :=
  ∃ es, r.row Q w es xs ∧ (0 < xs.length → ∃ b off, A = some ⟨b, off, none⟩ ∧ Q b ∧ IsC w b ∧ ∀ j u, es[j]? = some u → w.cell? ⟨b, off + j, none⟩ = some u)

theorem val_list {xs : List α} (h : r.list.val Q w v xs) : ∃ A c, v = .slice A xs.length c ∧ xs.length ≤ c ∧ c ≤ maxLen ∧ r.At Q w A xs := by
  obtain ⟨cs, rfl, A, c, es, rfl, h1, h2, h3, h4⟩ := h
  exact ⟨A, c, rfl, h1, h2, es, h3, h4⟩
theorem list_val {xs : List α} {A : Option Addr} {n c : Nat} (hn : n = xs.length) (h1 : n ≤ c) (h2 : c ≤ maxLen) (h : r.At Q w A xs) : r.list.val Q w (.slice A n c) xs := by
  subst hn
  obtain ⟨es, h3, h4⟩ := h
  exact ⟨_, rfl, A, c, es, rfl, h1, h2, h3, h4⟩
theorem val_nil {c : Nat} (h : c ≤ maxLen) : r.list.val Q w (.slice none 0 c) ([] : List α) := list_val rfl (Nat.zero_le _) h ⟨[], rfl, fun h => absurd h (by simp)⟩
theorem At.keep {A : Option Addr} {xs : List α} (hk : ∀ b, Q b → IsC w b → Q' b ∧ w'.heap[b]? = w.heap[b]?) (h : r.At Q w A xs) : r.At Q' w' A xs := by
  obtain ⟨es, h3, h4⟩ := h
  refine ⟨es, row_keep hk h3, fun hn => ?_⟩
  obtain ⟨b, off, rfl, hq, hb, hc⟩ := h4 hn
  obtain ⟨hq', he⟩ := hk b hq hb
  refine ⟨b, off, rfl, hq', hb.same he, fun j u hj => ?_⟩
  · rw [World.cell?_of_block (w := w) (w' := w') (a := ⟨b, off + j, none⟩) he]
    exact hc j u hj

theorem At.drewN {A : Option Addr} {xs : List α} (h : r.At Q w A xs) (n : Nat) : r.At Q (w.drewN n) A xs := At.keep (w := w) (w' := w.drewN n) (fun _ hb _ => ⟨hb, rfl⟩) h
/-- An element: where it lies. -/
theorem At.get {A : Option Addr} {xs : List α} (h : r.At Q w A xs) {i : Nat} {x : α} (hx : xs[i]? = some x) :
    ∃ b off es, A = some ⟨b, off, none⟩ ∧ Q b ∧ IsC w b ∧ r.rd Q w es x ∧ ∀ j u, es[j]? = some u → w.cell? ⟨b, off + i * r.size + j, none⟩ = some u := by
  obtain ⟨cs, h3, h4⟩ := h
  have hi : i < xs.length := (List.getElem?_eq_some_iff.1 hx).1
  obtain ⟨b, off, rfl, hq, hb, hc⟩ := h4 (by omega)
  obtain ⟨es, h5, h6⟩ := row_get h3 hx
  exact ⟨b, off, es, rfl, hq, hb, h5, fun j u hj => by rw [Nat.add_assoc]; exact hc _ _ (h6 j u hj)⟩
end

end Rep


theorem foldl_set (xs : List Value) : ∀ (pre ys : List Value), ys.length = xs.length →
    (xs.zipIdx pre.length).foldl (fun (cs : Array Value) (p : Value × Nat) => cs.setIfInBounds p.2 p.1) (pre ++ ys).toArray = (pre ++ xs).toArray := by
  induction xs with
  | nil => intro pre ys h; have : ys = [] := List.eq_nil_of_length_eq_zero h; subst this; simp
  | cons x xs ih =>
    intro pre ys h
    cases ys with
    | nil => simp at h
    | cons y ys =>
      have hh := ih (pre ++ [x]) ys (by simpa using h)
      simp only [List.append_assoc, List.singleton_append, List.length_append, List.length_singleton] at hh
      simp only [List.zipIdx_cons, List.foldl_cons]
      rw [← hh]
      congr 1
      simp

theorem fill_one (size : Nat) (cells : Array Value) (v : Value) (hv : v.cells.size = size) (hc : cells.size = size) :
    Instr.fill (fun i => some (i * size, size)) cells [(0, v)] = some v.cells := by
  have h := foldl_set v.cells.toList [] cells.toList (by simp [hv, hc])
  simp only [Instr.fill]
  rw [if_neg (by simp [hv, hc])]
  congr 1
  simp only [List.nil_append, List.length_nil, Array.toArray_toList] at h
  rw [← Array.foldl_toList, Array.toList_zipIdx, Nat.zero_mul]
  simp only [Nat.zero_add]
  exact h

theorem run_buildSlice_one {P : Program} (w : World) (t e : TypeId) (z : Value) (size : Nat) (ht : P.underlying t = some (.slice e)) (hi : (P.info? e).map (fun i => (i.zero, i.size)) = some (some z, size))
    (v : Value) (hv : v.cells.size = size) (h0 : 0 < size) (hs : size ≤ 1000) :
    (Instr.buildSlice t 1 #[(0, v)]).run P w = .ok (.slice (some ⟨w.heap.size, 0, none⟩) 1 1) (w.alloc (.cells v.cells e)) := by
  obtain ⟨i, hi, hh⟩ := Option.map_eq_some_iff.1 hi
  simp only [Prod.mk.injEq] at hh
  obtain ⟨hz, hs'⟩ := hh
  have hf := fill_one size ((Array.range (1 * size)).map (fun k => z.cells[k % z.cells.size]!)) v hv (by simp)
  unfold Instr.buildSlice
  simp only [Sem.run_bind, run_underlying ht, Result.andThen_ok, sizeOf, typeInfo, run_program, hi, hs', Sem.run_pure]
  simp only [Nat.one_mul] at hf ⊢
  rw [if_neg (by omega)]
  simp [show ¬ size = 0 by omega, zeroValue, hi, hz, hf, newRow, typeInfo]


namespace Rep
variable {α : Type} {r : Rep α} {e base : Nat} {Q Q' : Nat → Prop} {w w' : World} {v : Value} {xs ys : List α}

/-- A slice of the call's own, to which it appends: its block is one from 'base' on, the elements read blocks of Q, and none of them is the slice's own. -/
def acc (r : Rep α) (e base : Nat) (Q : Nat → Prop) (w : World) (v : Value) (xs : List α) : Prop :=
  ∃ cells, w.ownsRow base e r.size v xs.length cells ∧ r.row (fun b => Q b ∧ v.ownBlock ≠ some b) w cells xs

theorem acc_nil : r.acc e base Q w (.slice none 0 0) [] := ⟨[], by simpa using World.ownsRow_nil w base e r.size, rfl⟩

theorem acc_form (h : r.acc e base Q w v xs) : ∃ A c, v = .slice A xs.length c ∧ xs.length ≤ c ∧ c ≤ maxLen := by
  obtain ⟨cells, h1, h2⟩ := h
  rcases h1.2 with ⟨rfl, h0⟩ | ⟨g, cap, cur, rfl, _, _, h3, h4, _⟩
  · exact ⟨none, 0, by rw [h0], by omega, by simp [maxLen]⟩
  · exact ⟨_, cap, rfl, h3, h4⟩

theorem acc_own (h : r.acc e base Q w v xs) : ∀ k, v.ownBlock = some k → base ≤ k ∧ k < w.heap.size := by
  obtain ⟨cells, h1, _⟩ := h
  exact h1.lt

theorem acc_val (h : r.acc e base Q w v xs) : r.list.val (fun b => Q b ∨ v.ownBlock = some b) w v xs := by
  obtain ⟨cells, h1, h2⟩ := h
  have h2' : r.row (fun b => Q b ∨ v.ownBlock = some b) w cells xs := row_keep (fun b hb _ => ⟨.inl hb.1, rfl⟩) h2
  rcases h1.2 with ⟨rfl, h0⟩ | ⟨g, cap, cur, rfl, hb, hg, h3, h4, h5, h6⟩
  · refine list_val h0.symm (Nat.le_refl _) (by simp [maxLen]) ⟨cells, h2', fun h => absurd h (by omega)⟩
  · refine list_val rfl h3 h4 ⟨cells, h2', fun hn => ⟨g, 0, rfl, .inr rfl, ⟨cur, e, (0, 0), hg⟩, fun j u hj => ?_⟩⟩
    have := h1.cells (g := g) rfl j u hj
    rwa [Addr.add_lit] at this

theorem acc_keep (hk : ∀ b, (Q b ∨ v.ownBlock = some b) → IsC w b → w'.heap[b]? = w.heap[b]?) (hq : ∀ b, Q b → IsC w b → Q' b) (h : r.acc e base Q w v xs) : r.acc e base Q' w' v xs := by
  obtain ⟨cells, h1, h2⟩ := h
  refine ⟨cells, ⟨h1.1, ?_⟩, row_keep (fun b hb hl => ⟨⟨hq b hb.1 hl, hb.2⟩, hk b (.inl hb.1) hl⟩) h2⟩
  rcases h1.2 with hn | ⟨g, cap, cur, rfl, hb, hg, rest⟩
  · exact .inl hn
  · exact .inr ⟨g, cap, cur, rfl, hb, (hk g (.inr rfl) ⟨cur, e, (0, 0), hg⟩).trans hg, rest⟩

/-- What an append leaves. -/
theorem acc_more {P : Program} {t ty : TypeId} {z : Value} {size bytes : Nat} (ht : P.underlying t = some (.slice e)) (hi : (P.info? e).map (fun i => (i.zero, i.size, i.bytes)) = some (some z, size, bytes))
    (hzs : z.cells.size = size) (hsz : 0 < size) (hr : r.size = size) (h : r.acc e base Q w v xs)
    {A : Option Addr} {m c : Nat} (hm : m = ys.length) {es : List Value} (h3' : r.row (fun b => Q b ∧ v.ownBlock ≠ some b) w es ys)
    (h4 : 0 < ys.length → ∃ b off, A = some ⟨b, off, none⟩ ∧ ∀ j u, es[j]? = some u → w.cell? ⟨b, off + j, none⟩ = some u)
    (h63 : xs.length + ys.length ≤ maxLen) (hbytes : (xs.length + ys.length) * bytes ≤ 140737488355328) (hbase : base ≤ w.heap.size) :
    ∃ v' w', (Builtin.append_ #[t, t] ty #[v, .slice A m c]).run P w = .ok v' w' ∧ r.acc e base Q w' v' (xs ++ ys) ∧ w.grownBy w' v.ownBlock ∧ (v'.ownBlock = v.ownBlock ∨ v'.ownBlock = some w.heap.size) := by
  subst hm
  obtain ⟨i, hi, hh⟩ := Option.map_eq_some_iff.1 hi
  simp only [Prod.mk.injEq] at hh
  obtain ⟨hz, hs', hby⟩ := hh
  obtain ⟨cells, h1, h2⟩ := h
  have hl : es.length = ys.length * size := by rw [row_len h3', hr]
  have key : ∃ v' w', (Builtin.append_ #[t, t] ty #[v, .slice A ys.length c]).run P w = .ok v' w' ∧ w'.ownsRow base e size v' (xs.length + ys.length) (cells ++ es) ∧ w.grownBy w' v.ownBlock ∧ (v'.ownBlock = v.ownBlock ∨ v'.ownBlock = some w.heap.size) := by
    cases hA : A with
    | none =>
      have hn : ys = [] := by
        cases ys with
        | nil => rfl
        | cons y ys =>
          obtain ⟨b, off, hb, _⟩ := h4 (by simp)
          rw [hA] at hb; cases hb
      subst hn
      have he : es = [] := h3'
      subst he
      refine ⟨v, w, ?_, by simpa [hr] using h1, World.grownBy.refl w _, .inl rfl⟩
      rcases h1.2 with ⟨rfl, _⟩ | ⟨g, cap, cur, rfl, _, _, hnc, _⟩
      · simp [Builtin.append_, run_underlying ht, sizeOf, typeInfo, hi, Builtin.lenOf, Builtin.firstCells]
      · simp [Builtin.append_, run_underlying ht, sizeOf, typeInfo, hi, Builtin.lenOf, Builtin.firstCells, hnc, storeCells]
    | some ad =>
      obtain ⟨v', w', q1, q2, q3, _, q4⟩ := run_append_own_at (P := P) w base t ty e i z size bytes ht hi hz hs' hby hzs hsz v xs.length cells (hr ▸ h1) ad ys.length c es hl (by
        intro j u hj
        have hp : 0 < ys.length := by
          have := (List.getElem?_eq_some_iff.1 hj).1
          rcases Nat.eq_zero_or_pos ys.length with h0 | h0
          · rw [h0] at hl; omega
          · exact h0
        obtain ⟨b, off, hb, hc⟩ := h4 hp
        rw [hA] at hb
        obtain rfl : ad = ⟨b, off, none⟩ := by injection hb
        rw [Addr.add_lit]
        exact hc j u hj) (row_one h3') h63 hbytes hbase
      exact ⟨v', w', q1, q2, q3, q4⟩
  obtain ⟨v', w', q1, q2, q3, q4⟩ := key
  refine ⟨v', w', q1, ⟨cells ++ es, by rw [hr, List.length_append]; exact q2, ?_⟩, q3, q4⟩
  refine row_keep (fun b hb hl => ⟨⟨hb.1, ?_⟩, q3.block b hl.lt (fun e => hb.2 e.symm)⟩) (row_append h2 h3')
  rcases q4 with q4 | q4 <;> rw [q4]
  · exact hb.2
  · intro hc; injection hc with hc; have := hl.lt; omega

end Rep

section
variable {α : Type} {r : Rep α} {e base : Nat} {Q Q' : Nat → Prop} {P : Program} {w : World}

/-- 'append(s, x)'. -/
theorem wpList_snoc {ops : Array Oper} {rest : List Oper} {o1 o2 : Oper} {a : Act} {R : Exit → Act → World → Prop} (hg1 : o1.guard = none) (hg2 : o2.guard = none) (x s : Operand) (t : TypeId) (d : Tmp)
    (ho1 : o1.op = .buildSlice t 1 #[(0, x)]) (hd : o1.dst = some d) (ho2 : o2.op = .call { callee := .builtin .append, args := #[s, .tmp d], argTypes := #[t, t] })
    (z : Value) (size bytes : Nat) (ht : P.underlying t = some (.slice e)) (hi : (P.info? e).map (fun i => (i.zero, i.size, i.bytes)) = some (some z, size, bytes)) (hzs : z.cells.size = size) (hsz : 0 < size ∧ size ≤ 1000)
    (hr : r.size = size) (v : Value) (xs : List α) (h : r.acc e base Q w v xs) (y : α) (vy : Value) (hx : a.eval x = vy) (hy : r.val (fun b => Q b ∧ v.ownBlock ≠ some b) w vy y)
    (hs : (a.put (some d) (.slice (some ⟨w.heap.size, 0, none⟩) 1 1)).eval s = v) (he : (a.put (some d) (.slice (some ⟨w.heap.size, 0, none⟩) 1 1)).eval (.tmp d) = .slice (some ⟨w.heap.size, 0, none⟩) 1 1)
    (h63 : xs.length + 1 ≤ maxLen) (hbytes : (xs.length + 1) * bytes ≤ 140737488355328) (hbase : base ≤ w.heap.size)
    (K : ∀ v' w', r.acc e base Q w' v' (xs ++ [y]) → w.grownBy w' v.ownBlock → (v'.ownBlock = v.ownBlock ∨ v'.ownBlock = some (w.heap.size + 1)) →
      wpList P ops R rest ((a.put (some d) (.slice (some ⟨w.heap.size, 0, none⟩) 1 1)).put o2.dst v') w') :
    wpList P ops R (o1 :: o2 :: rest) a w := by
  obtain ⟨cs, hv, hrd⟩ := hy
  have hcl := r.len hrd
  have hcells : vy.cells.toList = cs := by rw [hv]; exact r.back hrd
  have hi' : (P.info? e).map (fun i => (i.zero, i.size)) = some (some z, size) := by
    obtain ⟨i, hi, hh⟩ := Option.map_eq_some_iff.1 hi
    simp only [Prod.mk.injEq] at hh
    simp [hi, hh]
  refine wpList_plain hg1 fun K1 hK1 => ?_
  have hb := run_buildSlice_one (P := P) w t e z size ht hi' vy (by rw [← Array.length_toList, hcells, hcl, hr]) hsz.1 hsz.2
  unfold Oper.wp
  simp only [execOp, ho1, List.map_toArray, List.map_cons, List.map_nil, hx]
  simp only [Sem.run_bind, hb, Result.andThen_ok, Sem.run_pure, Oper.upon_value]
  apply hK1
  rw [hd]
  refine wpList_plain hg2 fun K2 hK2 => ?_
  have hkeep : ∀ b, b < w.heap.size → (w.alloc (.cells vy.cells e)).heap[b]? = w.heap[b]? := fun b hb => Below.heap_alloc _ _ _ hb
  have hacc' : r.acc e base Q (w.alloc (.cells vy.cells e)) v xs := Rep.acc_keep (fun b _ hl => hkeep b hl.lt) (fun _ hb _ => hb) h
  have hbn : (w.alloc (.cells vy.cells e)).heap[w.heap.size]? = some (.cells vy.cells e) := heap_alloc_new w _
  obtain ⟨v', w', q1, q2, q3, q4⟩ := Rep.acc_more (P := P) (w := w.alloc (.cells vy.cells e)) (ty := o2.type) (ys := [y]) (A := some ⟨w.heap.size, 0, none⟩) (m := 1) (c := 1) (es := cs)
    ht hi hzs hsz.1 hr hacc' rfl
    (Rep.row_one_elem (r.keep (fun b hb hl => ⟨hb, hkeep b hl.lt⟩) hrd)) (fun _ => ⟨w.heap.size, 0, rfl, fun j u hj => by
      rw [cell_of_row _ _ _ _ _ _ hbn, Nat.zero_add, ← hj, ← hcells]; simp⟩)
    (by simpa using h63) (by simpa using hbytes) (by simp; omega)
  unfold Oper.wp execOp
  simp only [ho2, resolve, invoke, builtin, Sem.run_bind, Sem.run_pure, Result.andThen_ok, List.map_toArray, List.map_cons, List.map_nil, hs, he, q1]
  refine hK2 _ _ (K v' w' q2 ?_ (by simpa using q4))
  exact (World.grownBy_alloc w _ _).trans q3

end

namespace Rep
theorem row_byte {Q : Nat → Prop} {w : World} : ∀ {l : List UInt8} {es : List Value}, Rep.byte.row Q w es l → es = l.map fun x => .int .u8 (x.toNat : Int)
  | [], _, h => h
  | x :: l, _, h => by
    obtain ⟨as0, rest, rfl, h1, h2⟩ := h
    obtain rfl : as0 = [.int .u8 (x.toNat : Int)] := h1
    rw [row_byte h2]; rfl

theorem byte_row {Q : Nat → Prop} {w : World} : ∀ (l : List UInt8), Rep.byte.row Q w (l.map fun x => .int .u8 (x.toNat : Int)) l
  | [] => rfl
  | x :: l => ⟨[.int .u8 (x.toNat : Int)], l.map fun x => .int .u8 (x.toNat : Int), rfl, rfl, byte_row l⟩

theorem At.byte {Q : Nat → Prop} {w : World} {A : Option Addr} {xs : List UInt8} (h : Rep.byte.At Q w A xs) {i : Nat} {x : UInt8} (hx : xs[i]? = some x) :
    ∃ b off, A = some ⟨b, off, none⟩ ∧ w.cell? ⟨b, off + i, none⟩ = some (.int .u8 (x.toNat : Int)) := by
  obtain ⟨b, off, es, h1, _, _, rfl, h4⟩ := h.get hx
  exact ⟨b, off, h1, by simpa [Rep.byte] using h4 0 _ rfl⟩

theorem At.int {k : IntKind} {Q : Nat → Prop} {w : World} {A : Option Addr} {xs : List Int} (h : (Rep.int k).At Q w A xs) {i : Nat} {x : Int} (hx : xs[i]? = some x) :
    ∃ b off, A = some ⟨b, off, none⟩ ∧ w.cell? ⟨b, off + i, none⟩ = some (.int k x) ∧ (Lit.int k x).wf = true := by
  obtain ⟨b, off, es, h1, _, _, ⟨rfl, h3⟩, h4⟩ := h.get hx
  exact ⟨b, off, h1, by simpa [Rep.int] using h4 0 _ rfl, h3⟩

/-- An element that is a slice. -/
theorem At.list {α : Type} {r : Rep α} {Q : Nat → Prop} {w : World} {A : Option Addr} {xs : List (List α)} (h : r.list.At Q w A xs) {i : Nat} {x : List α} (hx : xs[i]? = some x) :
    ∃ b off B c, A = some ⟨b, off, none⟩ ∧ w.cell? ⟨b, off + i, none⟩ = some (.slice B x.length c) ∧ x.length ≤ c ∧ c ≤ maxLen ∧ r.At Q w B x := by
  obtain ⟨b, off, es, h1, _, _, ⟨B, c, es', rfl, h2, h3, h4, h5⟩, h6⟩ := h.get hx
  exact ⟨b, off, B, c, h1, by simpa [Rep.list] using h6 0 _ rfl, h2, h3, es', h4, h5⟩

/-- 'string(b)'. -/
theorem At.toText {P : Program} {Q : Nat → Prop} {w : World} {A : Option Addr} {l : List UInt8} {src dst e : TypeId} (h : Rep.byte.At Q w A l) (hs : P.underlying src = some (.slice e)) (he : P.underlying e = some (.int .u8)) (hd : P.underlying dst = some .string) (c : Nat) :
    (convert src dst (.slice A l.length c)).run P w = .ok (.string ⟨l.toArray⟩) w := by
  have key : (convert src dst (.slice A l.length c)).run P w = .ok (.string (strOfNums (l.map fun x => (x.toNat : Int)))) w := by
    rcases Nat.eq_zero_or_pos l.length with h0 | h0
    · have : l = [] := List.eq_nil_of_length_eq_zero h0
      subst this
      cases A with
      | none => rw [run_convert_bytes_nil (P := P) w src e hs he _ c dst hd]; rfl
      | some a =>
        have hl : (loadCells a 0).run P w = .ok (([] : List Int).map (Value.int .u8)).toArray w := by simp [loadCells, loadCellsFrom]
        rw [run_convert_bytes_string w src dst e _ _ c hs he hd]
        exact run_bytesToString w a 0 c [] hl
    · obtain ⟨es, h1, h2⟩ := h
      obtain ⟨b, off, rfl, _, _, hc⟩ := h2 h0
      refine run_convert_bytes_arg (P := P) w src e hs he b off l.length c (l.map fun x => (x.toNat : Int)) (by simp) (fun i hi => ?_) dst hd
      refine hc i _ ?_
      rw [row_byte h1]
      simp [List.getElem?_map, List.getElem?_eq_getElem hi, List.getD]
  rw [key]
  congr 2
  have hm : (l.map fun x => (x.toNat : Int)).map (fun n => UInt8.ofNat n.toNat) = l := by
    rw [List.map_map]
    have : ((fun n : Int => UInt8.ofNat n.toNat) ∘ fun x : UInt8 => (x.toNat : Int)) = id := by funext x; simp
    rw [this, List.map_id]
  simp only [strOfNums, hm]
end Rep

namespace Rep
theorem row_take {α : Type} {r : Rep α} {Q : Nat → Prop} {w : World} {xs : List α} {es : List Value} (h : r.row Q w es xs) (n : Nat) : r.row Q w (es.take (n * r.size)) (xs.take n) := by
  have h' : r.row Q w es (xs.take n ++ xs.drop n) := by rwa [List.take_append_drop]
  obtain ⟨as0, bs, rfl, h1, h2⟩ := row_split h'
  have l1 := row_len h1
  by_cases hn : n ≤ xs.length
  · rw [List.length_take, Nat.min_eq_left hn] at l1
    rw [← l1, List.take_left]; exact h1
  · have hd : xs.drop n = [] := List.drop_eq_nil_of_le (by omega)
    rw [hd] at h2
    obtain rfl : bs = [] := h2
    rw [List.append_nil, List.take_of_length_le]
    · exact h1
    · rw [l1, List.length_take]; exact Nat.mul_le_mul_right _ (Nat.min_le_left _ _)

theorem row_drop {α : Type} {r : Rep α} {Q : Nat → Prop} {w : World} {xs : List α} {es : List Value} (h : r.row Q w es xs) {n : Nat} (hn : n ≤ xs.length) : r.row Q w (es.drop (n * r.size)) (xs.drop n) := by
  have h' : r.row Q w es (xs.take n ++ xs.drop n) := by rwa [List.take_append_drop]
  obtain ⟨as0, bs, rfl, h1, h2⟩ := row_split h'
  have l1 := row_len h1
  rw [List.length_take, Nat.min_eq_left hn] at l1
  rw [← l1, List.drop_left]; exact h2

/-- 's[:n]'. -/
theorem At.take {α : Type} {r : Rep α} {Q : Nat → Prop} {w : World} {A : Option Addr} {xs : List α} (h : r.At Q w A xs) (n : Nat) : r.At Q w A (xs.take n) := by
  obtain ⟨es, h1, h2⟩ := h
  refine ⟨_, row_take h1 n, fun hn => ?_⟩
  obtain ⟨b, off, hA, hq, hb, hc⟩ := h2 (by rw [List.length_take] at hn; omega)
  refine ⟨b, off, hA, hq, hb, fun j u hj => hc j u ?_⟩
  rw [List.getElem?_take] at hj
  split at hj
  · exact hj
  · cases hj

/-- 's[n:]' (below the capacity). -/
theorem At.drop {α : Type} {r : Rep α} {Q : Nat → Prop} {w : World} {b off : Nat} {xs : List α} (h : r.At Q w (some ⟨b, off, none⟩) xs) {n : Nat} (hn : n ≤ xs.length) : r.At Q w (some ⟨b, off + n * r.size, none⟩) (xs.drop n) := by
  obtain ⟨es, h1, h2⟩ := h
  refine ⟨_, row_drop h1 hn, fun hp => ?_⟩
  obtain ⟨b', off', hA, hq, hb, hc⟩ := h2 (by rw [List.length_drop] at hp; omega)
  injection hA with hA
  injection hA with e1 e2
  subst e1 e2
  refine ⟨b, off + n * r.size, rfl, hq, hb, fun j u hj => ?_⟩
  rw [Nat.add_assoc]
  exact hc _ u (by rw [← hj, List.getElem?_drop])

theorem At.addr {α : Type} {r : Rep α} {Q : Nat → Prop} {w : World} {A : Option Addr} {xs : List α} (h : r.At Q w A xs) (hn : 0 < xs.length) : ∃ b off, A = .some ⟨b, off, none⟩ := by
  obtain ⟨es, h1, h2⟩ := h
  obtain ⟨b, off, hA, _⟩ := h2 hn
  exact ⟨b, off, hA⟩
end Rep

theorem Rep.At.grown {α : Type} {r : Rep α} {Q : Nat → Prop} {w w' : World} {A : Option Addr} {xs : List α} {row : Option Nat} (h : r.At Q w A xs) (hg : w.grownBy w' row) (hr : ∀ b, Q b → row ≠ some b) : r.At Q w' A xs :=
  h.keep fun b hb hl => ⟨hb, hg.block b hl.lt (fun e => hr b hb e.symm)⟩
theorem Rep.At.below {α : Type} {r : Rep α} {Q : Nat → Prop} {w w' : World} {A : Option Addr} {xs : List α} {B : Nat} (h : r.At Q w A xs) (hb : Below B w w') (hr : ∀ b, Q b → IsC w b → b < B) : r.At Q w' A xs :=
  h.keep fun b hq hl => ⟨hq, hb.block b (hr b hq hl)⟩
/-- A call that returns a value that reads as0 x, out of blocks of Q, and leaves what there was. -/
def Res {α : Type} (r : Rep α) (Q : Nat → Prop) (w : World) (x : α) (e : Ending) (w' : World) : Prop := ∃ u, e = .returned u ∧ r.val Q w' u x ∧ Below w.heap.size w w'

theorem Rep.acc_made {α : Type} {r : Rep α} {e base : Nat} {Q : Nat → Prop} (w : World) (cur : Array Value) (cap : Nat) (hb : base ≤ w.heap.size) (hm : cap ≤ maxLen) (hs : cur.size = cap * r.size) :
    r.acc e base Q (w.alloc (.cells cur e)) (.slice (some ⟨w.heap.size, 0, none⟩) 0 cap) [] := ⟨[], World.ownsRow_made w cur cap hb hm hs, rfl⟩

/-- Values without blocks of their own. -/
def Rep.Leaf {α : Type} (r : Rep α) : Prop := ∀ (Q Q' : Nat → Prop) (w w' : World) (cs : List Value) (x : α), r.rd Q w cs x → r.rd Q' w' cs x
theorem Rep.leaf_int (k : IntKind) : (Rep.int k).Leaf := fun _ _ _ _ _ _ h => h
theorem Rep.leaf_byte : Rep.byte.Leaf := fun _ _ _ _ _ _ h => h
theorem Rep.row_leaf {α : Type} {r : Rep α} (hr : r.Leaf) {Q Q' : Nat → Prop} {w w' : World} : ∀ {xs : List α} {es : List Value}, r.row Q w es xs → r.row Q' w' es xs
  | [], _, h => h
  | x :: xs, _, h => by
    obtain ⟨as0, rest, rfl, h1, h2⟩ := h
    exact ⟨as0, rest, rfl, hr _ _ _ _ _ _ h1, row_leaf hr h2⟩

/-- 'append(s, xs...)' of values without blocks of their own. -/
theorem wpList_spread_leaf {α : Type} {r : Rep α} {e base : Nat} {Q Q' : Nat → Prop} {P : Program} {w : World} (hleaf : r.Leaf) {ops : Array Oper} {rest : List Oper} {o : Oper} {a : Act} {R : Exit → Act → World → Prop} (hg : o.guard = none) (s x : Operand) (t : TypeId)
    (ho : o.op = .call { callee := .builtin .append, args := #[s, x], argTypes := #[t, t] })
    (z : Value) (size bytes : Nat) (ht : P.underlying t = some (.slice e)) (hi : (P.info? e).map (fun i => (i.zero, i.size, i.bytes)) = some (some z, size, bytes)) (hzs : z.cells.size = size) (hsz : 0 < size)
    (hr : r.size = size) (v : Value) (xs : List α) (hs : a.eval s = v) (h : r.acc e base Q w v xs) (u : Value) (ys : List α) (hx : a.eval x = u) (hy : r.list.val Q' w u ys)
    (h63 : xs.length + ys.length ≤ maxLen) (hbytes : (xs.length + ys.length) * bytes ≤ 140737488355328) (hbase : base ≤ w.heap.size)
    (K : ∀ v' w', r.acc e base Q w' v' (xs ++ ys) → w.grownBy w' v.ownBlock → (v'.ownBlock = v.ownBlock ∨ v'.ownBlock = some w.heap.size) → wpList P ops R rest (a.put o.dst v') w') :
    wpList P ops R (o :: rest) a w := by
  obtain ⟨A, c, rfl, h1, h2, es, h3, h4⟩ := Rep.val_list hy
  refine wpList_plain hg fun K2 hK2 => ?_
  obtain ⟨v', w', q1, q2, q3, q4⟩ := Rep.acc_more (P := P) (ty := o.type) (c := c) ht hi hzs hsz hr h rfl (Rep.row_leaf hleaf h3)
    (fun hn => by obtain ⟨b, off, q1, _, _, q2⟩ := h4 hn; exact ⟨b, off, q1, q2⟩) h63 hbytes hbase
  unfold Oper.wp execOp
  simp only [ho, resolve, invoke, builtin, Sem.run_bind, Sem.run_pure, Result.andThen_ok, List.map_toArray, List.map_cons, List.map_nil, hs, hx, q1]
  exact hK2 _ _ (K v' w' q2 q3 q4)

/-- What a slice of the call's own reads as0, its elements without blocks. -/
theorem Rep.acc_fresh {α : Type} {r : Rep α} {e base : Nat} {w : World} {v : Value} {xs : List α} (h : r.acc e base (fun _ => False) w v xs) : r.list.val (fun b => base ≤ b) w v xs :=
  Rep.val_mono (fun b hb _ => by
    rcases hb with hb | hb
    · exact hb.elim
    · exact (Rep.acc_own h b hb).1) (Rep.acc_val h)

/-- The world behind an append: what lay below stands. -/
theorem Rep.acc_below {α : Type} {r : Rep α} {e base : Nat} {Q : Nat → Prop} {w0 w w' : World} {v : Value} {xs : List α} (h : r.acc e base Q w v xs) (hb : Below base w0 w) (hg : w.grownBy w' v.ownBlock) (hB : base ≤ w.heap.size) : Below base w0 w' :=
  hb.grown hg hB fun k hk => (Rep.acc_own h k hk).1

def zeroBytes (n : Nat) : Array Value := madeCells #[.int .u8 0] n

theorem run_make_bytes {P : Program} {t e : TypeId} (ht : P.underlying t = some (.slice e)) (hi : (P.info? e).map (fun i => (i.zero, i.size, i.bytes)) = some (some (.int .u8 0), 1, 1)) (n : Nat) (hn : n ≤ 1000000000000) (w : World) :
    (Instr.makeSlice t (.int .i64 (n : Int)) (.int .i64 (n : Int))).run P w = .ok (.slice (some ⟨w.heap.size, 0, none⟩) n n) (w.alloc (.cells (zeroBytes n) e)) :=
  run_make_row' t e (.int .u8 0) 1 ht hi rfl .i64 .i64 n (by omega) (by omega) w

theorem below_drewN {B : Nat} {a w : World} (h : Below B a w) (n : Nat) : Below B a (w.drewN n) := ⟨h.os, h.tape, h.output, h.size, h.block⟩

end Go.Proofs.YtejibngkeaamkaaGreatDoor
namespace Go.Proofs.YtejibngkeaamkaaGreatDoor
open Go.RowKit

/-- ref01.Same -/
theorem sameBytes {Q Q' : Nat → Prop} {w : World} {v u : Value} {xs ys : List UInt8} (hx : Rep.byte.list.val Q w v xs) (hy : Rep.byte.list.val Q' w u ys) :
    Calls Tryz.prog 21 #[v, u] w fun e w' => e = .returned (.bool (decide (xs = ys))) ∧ w' = w := by
  obtain ⟨A, c, rfl, hc1, hc2, hA⟩ := Rep.val_list hx
  obtain ⟨B, d, rfl, hd1, hd2, hB⟩ := Rep.val_list hy
  have h1 := hA.toText (P := Tryz.prog) Tryz.underlying27 Tryz.underlying5 Tryz.underlying9 c
  have h2 := hB.toText (P := Tryz.prog) Tryz.underlying27 Tryz.underlying5 Tryz.underlying9 d
  clear hx hy hA hB hc1 hc2 hd1 hd2
  go_enter Tryz.func21, Tryz.ntmps21
  go_wp2_with fail
  go_ret
  exact ⟨by simp [Bool.beq_eq_decide_eq], rfl⟩

end Go.Proofs.YtejibngkeaamkaaGreatDoor
namespace Go.Proofs.YtejibngkeaamkaaGreatDoor
open Go.RowKit

theorem info5 : (Tryz.prog.info? 5).map (fun i => (i.zero, i.size, i.bytes)) = some (some (.int .u8 0), 1, 1) := by kernel_rfl

/-- bytes.Clone -/
theorem bytesClone {Q : Nat → Prop} {w : World} {v : Value} {l : List UInt8} (hx : Rep.byte.list.val Q w v l) (hl : l.length ≤ 100000000000000) :
    Calls Tryz.prog 79 #[v] w (Res Rep.byte.list (fun b => w.heap.size ≤ b) w l) := by
  obtain ⟨A, c, rfl, hc1, hc2, hA⟩ := Rep.val_list hx
  unfold maxLen at hc2
  cases A with
  | none =>
    have hnil : l = [] := by
      rcases Nat.eq_zero_or_pos l.length with h | h
      · exact List.eq_nil_of_length_eq_zero h
      · obtain ⟨b, off, h⟩ := hA.addr h; cases h
    subst hnil
    have he := fun w => Lib.run_eql_slice_nil (P := Tryz.prog) w 27 5 none 0 c 0 0 Tryz.underlying27
    go_enter Tryz.func79, Tryz.ntmps79
    go_wp2_with fail
    go_ret
    exact ⟨_, rfl, Rep.val_nil (by simp [maxLen]), Below.refl _ _⟩
  | some a =>
    have he := fun w => Lib.run_eql_slice_nil (P := Tryz.prog) w 27 5 (some a) l.length c 0 0 Tryz.underlying27
    have HX := Lib.hid (show Rep.byte.list.val (fun b => b < w.heap.size) (w.alloc (.cells #[] 5)) (.slice (some a) l.length c) l from Rep.val_keep (w := w) (fun b _ hl => ⟨hl.lt, Below.heap_alloc _ _ _ hl.lt⟩) hx)
    have HA := Lib.hid (show Rep.byte.acc 5 w.heap.size (fun _ => False) (w.alloc (.cells #[] 5)) (.slice (some ⟨w.heap.size, 0, none⟩) 0 0) [] from Rep.acc_made w #[] 0 (Nat.le_refl _) (by simp [maxLen]) (by simp))
    have HB1 := Lib.hid (show ([] : List UInt8).length + l.length ≤ maxLen from by simp [maxLen]; omega)
    have HB2 := Lib.hid (show (([] : List UInt8).length + l.length) * 1 ≤ 140737488355328 from by simp; omega)
    have HB3 := Lib.hid (show w.heap.size ≤ (w.alloc (.cells #[] 5)).heap.size from by simp)
    clear hx hA
    go_enter Tryz.func79, Tryz.ntmps79
    go_wp2_with (refine wpList_spread_leaf (e := 5) (base := w.heap.size) (Q := fun _ => False) Rep.leaf_byte rfl _ _ 27 rfl (.int .u8 0) 1 1 Tryz.underlying27 info5 rfl (by decide) rfl _ [] (by exact rfl) HA.out _ l (by exact rfl) HX.out HB1.out HB2.out HB3.out ?_; intro v' w' hacc' hgr hat)
    go_ret
    exact ⟨_, rfl, by simpa using Rep.acc_fresh hacc', Rep.acc_below HA.out ((Below.refl _ w).alloc (Nat.le_refl _) _) hgr HB3.out⟩
end Go.Proofs.YtejibngkeaamkaaGreatDoor
namespace Go.Proofs.YtejibngkeaamkaaGreatDoor
open Go.RowKit

def wide (n : Int) : Int := if n < 1 then 1 else if 8 < n then 8 else n
theorem Rep.acc_later {α : Type} {r : Rep α} {e base : Nat} {Q : Nat → Prop} {w w' : World} {v : Value} {xs : List α} (h : r.acc e base Q w v xs) (hb : Below w.heap.size w w') : r.acc e base Q w' v xs :=
  Rep.acc_keep (fun b _ hl => hb.block b hl.lt) (fun _ h _ => h) h

/-- The bytes of a number. -/
def digit (n : Int) (i : Nat) : UInt8 := UInt8.ofNat (n / 2 ^ (8 * i) % 256).toNat
def num (width n : Int) : List UInt8 := (List.range (wide width).toNat).map (digit n)
end Go.Proofs.YtejibngkeaamkaaGreatDoor
namespace Go.Proofs.YtejibngkeaamkaaGreatDoor
open Go.RowKit

theorem wf_i64 {n : Int} (h1 : -9223372036854775808 ≤ n) (h2 : n ≤ 9223372036854775807) : (Lit.int .i64 n).wf = true := by
  simp [Lit.wf, IntKind.min, IntKind.max, IntKind.signed, IntKind.bits]; omega
end Go.Proofs.YtejibngkeaamkaaGreatDoor
namespace Go.Proofs.YtejibngkeaamkaaGreatDoor
open Go.RowKit

/-- What is known of a slice in a cell. -/
def Rep.Sl {α : Type} (r : Rep α) (Q : Nat → Prop) (w : World) (A : Option Addr) (c : Nat) (xs : List α) : Prop := xs.length ≤ c ∧ c ≤ maxLen ∧ r.At Q w A xs
theorem Rep.Sl.val {α : Type} {r : Rep α} {Q : Nat → Prop} {w : World} {A : Option Addr} {c : Nat} {xs : List α} (h : r.Sl Q w A c xs) : r.list.val Q w (.slice A xs.length c) xs := Rep.list_val rfl h.1 h.2.1 h.2.2
theorem Rep.val_sl {α : Type} {r : Rep α} {Q : Nat → Prop} {w : World} {v : Value} {xs : List α} (h : r.list.val Q w v xs) : ∃ A c, v = .slice A xs.length c ∧ r.Sl Q w A c xs := by
  obtain ⟨A, c, rfl, h1, h2, h3⟩ := Rep.val_list h
  exact ⟨A, c, rfl, h1, h2, h3⟩
theorem Rep.Sl.keep {α : Type} {r : Rep α} {Q Q' : Nat → Prop} {w w' : World} {A : Option Addr} {c : Nat} {xs : List α} (hk : ∀ b, Q b → IsC w b → Q' b ∧ w'.heap[b]? = w.heap[b]?) (h : r.Sl Q w A c xs) : r.Sl Q' w' A c xs := ⟨h.1, h.2.1, h.2.2.keep hk⟩
theorem Rep.Sl.drewN {α : Type} {r : Rep α} {Q : Nat → Prop} {w : World} {A : Option Addr} {c : Nat} {xs : List α} (h : r.Sl Q w A c xs) (n : Nat) : r.Sl Q (w.drewN n) A c xs := ⟨h.1, h.2.1, h.2.2.drewN n⟩
theorem Rep.Sl.below {α : Type} {r : Rep α} {Q : Nat → Prop} {w w' : World} {A : Option Addr} {c : Nat} {xs : List α} {B : Nat} (h : r.Sl Q w A c xs) (hb : Below B w w') (hr : ∀ b, Q b → IsC w b → b < B) : r.Sl Q w' A c xs := ⟨h.1, h.2.1, h.2.2.below hb hr⟩
theorem Rep.sl_rd {α : Type} {r : Rep α} {Q : Nat → Prop} {w : World} {A : Option Addr} {c : Nat} {xs : List α} (h : r.Sl Q w A c xs) : r.list.rd Q w [.slice A xs.length c] xs := by
  obtain ⟨h1, h2, es, h3, h4⟩ := h
  exact ⟨A, c, es, rfl, h1, h2, h3, h4⟩
theorem Rep.rd_sl {α : Type} {r : Rep α} {Q : Nat → Prop} {w : World} {cs : List Value} {xs : List α} (h : r.list.rd Q w cs xs) : ∃ A c, cs = [.slice A xs.length c] ∧ r.Sl Q w A c xs := by
  obtain ⟨A, c, es, rfl, h1, h2, h3, h4⟩ := h
  exact ⟨A, c, rfl, h1, h2, es, h3, h4⟩

@[ext] structure DID where
  index : Int
  gen : Int
  deriving DecidableEq

def rID : Rep DID := ((Rep.int .i64).pair (Rep.int .i64)).iso fun x => (x.index, x.gen)
theorem rID_open {Q : Nat → Prop} {w : World} {cs : List Value} {x : DID} (h : rID.rd Q w cs x) : cs = [.int .i64 x.index, .int .i64 x.gen] ∧ (Lit.int .i64 x.index).wf = true ∧ (Lit.int .i64 x.gen).wf = true := by
  obtain ⟨a0, b0, rfl, h0, g0⟩ := h
  obtain ⟨e0, w0⟩ := h0
  subst e0
  obtain ⟨e1, w1⟩ := g0
  subst e1
  exact ⟨rfl, w0, w1⟩
theorem rID_mk {Q : Nat → Prop} {w : World} {x : DID}  (f0 : (Lit.int .i64 x.index).wf = true) (f1 : (Lit.int .i64 x.gen).wf = true) : rID.rd Q w [.int .i64 x.index, .int .i64 x.gen] x := by
  exact ⟨_, _, rfl, ⟨rfl, f0⟩, ⟨rfl, f1⟩⟩
@[ext] structure DComp where
  name : List UInt8
  size : Int
  deriving DecidableEq

def rComp : Rep DComp := (Rep.text.pair (Rep.int .i64)).iso fun x => (x.name, x.size)
theorem rComp_size : rComp.size = 2 := rfl
theorem rComp_open {Q : Nat → Prop} {w : World} {cs : List Value} {x : DComp} (h : rComp.rd Q w cs x) : cs = [.string ⟨x.name.toArray⟩, .int .i64 x.size] ∧ x.name.length ≤ maxLen ∧ (Lit.int .i64 x.size).wf = true := by
  obtain ⟨a0, b0, rfl, h0, g0⟩ := h
  obtain ⟨e0, w0⟩ := h0
  subst e0
  obtain ⟨e1, w1⟩ := g0
  subst e1
  exact ⟨rfl, w0, w1⟩
theorem rComp_at {Q : Nat → Prop} {w : World} {A : Option Addr} {xs : List DComp} (h : rComp.At Q w A xs) {i : Nat} {x : DComp} (hx : xs[i]? = some x) :
    ∃ (b off : Nat), A = some ⟨b, off, none⟩ ∧ IsC w b ∧ w.cell? ⟨b, off + i * 2, none⟩ = some (.string ⟨x.name.toArray⟩) ∧ w.cell? ⟨b, off + i * 2 + 1, none⟩ = some (.int .i64 x.size) ∧ x.name.length ≤ maxLen ∧ (Lit.int .i64 x.size).wf = true := by
  obtain ⟨b, off, es, h1, _, h2, h3, h4⟩ := h.get hx
  obtain ⟨e, f0, f1⟩ := rComp_open h3
  subst e
  rw [rComp_size] at h4
  exact ⟨b, off, h1, h2, h4 0 _ rfl, h4 1 _ rfl, f0, f1⟩
@[ext] structure DConf where
  log : Int
  pages : Int
  entities : Int
  gens : Int
  comps : List DComp
  deriving DecidableEq

def rConf : Rep DConf := ((Rep.int .i64).pair ((Rep.int .i64).pair ((Rep.int .i64).pair ((Rep.int .i64).pair rComp.list)))).iso fun x => (x.log, x.pages, x.entities, x.gens, x.comps)
theorem rConf_open {Q : Nat → Prop} {w : World} {cs : List Value} {x : DConf} (h : rConf.rd Q w cs x) : ∃ (A_comps : Option Addr) (c_comps : Nat), cs = [.int .i64 x.log, .int .i64 x.pages, .int .i64 x.entities, .int .i64 x.gens, .slice A_comps x.comps.length c_comps] ∧ (Lit.int .i64 x.log).wf = true ∧ (Lit.int .i64 x.pages).wf = true ∧ (Lit.int .i64 x.entities).wf = true ∧ (Lit.int .i64 x.gens).wf = true ∧ rComp.Sl Q w A_comps c_comps x.comps := by
  obtain ⟨a0, b0, rfl, h0, g0⟩ := h
  obtain ⟨e0, w0⟩ := h0
  subst e0
  obtain ⟨a1, b1, rfl, h1, g1⟩ := g0
  obtain ⟨e1, w1⟩ := h1
  subst e1
  obtain ⟨a2, b2, rfl, h2, g2⟩ := g1
  obtain ⟨e2, w2⟩ := h2
  subst e2
  obtain ⟨a3, b3, rfl, h3, g3⟩ := g2
  obtain ⟨e3, w3⟩ := h3
  subst e3
  obtain ⟨A4, c4, e4, w4⟩ := Rep.rd_sl g3
  subst e4
  exact ⟨A4, c4, rfl, w0, w1, w2, w3, w4⟩
theorem rConf_mk {Q : Nat → Prop} {w : World} {x : DConf} {A_comps : Option Addr} {c_comps : Nat} (f0 : (Lit.int .i64 x.log).wf = true) (f1 : (Lit.int .i64 x.pages).wf = true) (f2 : (Lit.int .i64 x.entities).wf = true) (f3 : (Lit.int .i64 x.gens).wf = true) (f4 : rComp.Sl Q w A_comps c_comps x.comps) : rConf.rd Q w [.int .i64 x.log, .int .i64 x.pages, .int .i64 x.entities, .int .i64 x.gens, .slice A_comps x.comps.length c_comps] x := by
  exact ⟨_, _, rfl, ⟨rfl, f0⟩, ⟨_, _, rfl, ⟨rfl, f1⟩, ⟨_, _, rfl, ⟨rfl, f2⟩, ⟨_, _, rfl, ⟨rfl, f3⟩, Rep.sl_rd f4⟩⟩⟩⟩
theorem rConf_val {Q : Nat → Prop} {w : World} {v : Value} {x : DConf} (h : rConf.val Q w v x) : ∃ (A_comps : Option Addr) (c_comps : Nat), v = .agg #[.int .i64 x.log, .int .i64 x.pages, .int .i64 x.entities, .int .i64 x.gens, .slice A_comps x.comps.length c_comps] ∧ (Lit.int .i64 x.log).wf = true ∧ (Lit.int .i64 x.pages).wf = true ∧ (Lit.int .i64 x.entities).wf = true ∧ (Lit.int .i64 x.gens).wf = true ∧ rComp.Sl Q w A_comps c_comps x.comps := by
  obtain ⟨cs, rfl, h⟩ := h
  obtain ⟨A_comps, c_comps, e, f0, f1, f2, f3, f4⟩ := rConf_open h
  subst e
  exact ⟨A_comps, c_comps, rfl, f0, f1, f2, f3, f4⟩
theorem rConf_agg {Q : Nat → Prop} {w : World} {x : DConf} {A_comps : Option Addr} {c_comps : Nat} (f0 : (Lit.int .i64 x.log).wf = true) (f1 : (Lit.int .i64 x.pages).wf = true) (f2 : (Lit.int .i64 x.entities).wf = true) (f3 : (Lit.int .i64 x.gens).wf = true) (f4 : rComp.Sl Q w A_comps c_comps x.comps) : rConf.val Q w (.agg #[.int .i64 x.log, .int .i64 x.pages, .int .i64 x.entities, .int .i64 x.gens, .slice A_comps x.comps.length c_comps]) x := ⟨_, rfl, rConf_mk f0 f1 f2 f3 f4⟩

@[ext] structure DSeal where
  epoch : Int
  no : Int
  kind : Int
  body : List UInt8
  deriving DecidableEq

@[ext] structure DPolicy where
  room : Int
  frames : Int
  deriving DecidableEq

def rPolicy : Rep DPolicy := ((Rep.int .i64).pair (Rep.int .i64)).iso fun x => (x.room, x.frames)
theorem rPolicy_open {Q : Nat → Prop} {w : World} {cs : List Value} {x : DPolicy} (h : rPolicy.rd Q w cs x) : cs = [.int .i64 x.room, .int .i64 x.frames] ∧ (Lit.int .i64 x.room).wf = true ∧ (Lit.int .i64 x.frames).wf = true := by
  obtain ⟨a0, b0, rfl, h0, g0⟩ := h
  obtain ⟨e0, w0⟩ := h0
  subst e0
  obtain ⟨e1, w1⟩ := g0
  subst e1
  exact ⟨rfl, w0, w1⟩
theorem rPolicy_mk {Q : Nat → Prop} {w : World} {x : DPolicy}  (f0 : (Lit.int .i64 x.room).wf = true) (f1 : (Lit.int .i64 x.frames).wf = true) : rPolicy.rd Q w [.int .i64 x.room, .int .i64 x.frames] x := by
  exact ⟨_, _, rfl, ⟨rfl, f0⟩, ⟨rfl, f1⟩⟩
@[ext] structure DCmd where
  kind : Int
  loc : Bool
  id : DID
  comp : Int
  data : List UInt8
  deriving DecidableEq

def rCmd : Rep DCmd := ((Rep.int .i64).pair (Rep.bool.pair (rID.pair ((Rep.int .i64).pair Rep.byte.list)))).iso fun x => (x.kind, x.loc, x.id, x.comp, x.data)
theorem rCmd_open {Q : Nat → Prop} {w : World} {cs : List Value} {x : DCmd} (h : rCmd.rd Q w cs x) : ∃ (A_data : Option Addr) (c_data : Nat), cs = [.int .i64 x.kind, .bool x.loc, .int .i64 x.id.index, .int .i64 x.id.gen, .int .i64 x.comp, .slice A_data x.data.length c_data] ∧ (Lit.int .i64 x.kind).wf = true ∧ (Lit.int .i64 x.id.index).wf = true ∧ (Lit.int .i64 x.id.gen).wf = true ∧ (Lit.int .i64 x.comp).wf = true ∧ Rep.byte.Sl Q w A_data c_data x.data := by
  obtain ⟨a0, b0, rfl, h0, g0⟩ := h
  obtain ⟨e0, w0⟩ := h0
  subst e0
  obtain ⟨a1, b1, rfl, h1, g1⟩ := g0
  have e1 := h1
  subst e1
  obtain ⟨a2, b2, rfl, h2, g2⟩ := g1
  obtain ⟨e2, w2_0, w2_1⟩ := rID_open h2
  subst e2
  obtain ⟨a3, b3, rfl, h3, g3⟩ := g2
  obtain ⟨e3, w3⟩ := h3
  subst e3
  obtain ⟨A4, c4, e4, w4⟩ := Rep.rd_sl g3
  subst e4
  exact ⟨A4, c4, rfl, w0, w2_0, w2_1, w3, w4⟩
theorem rCmd_mk {Q : Nat → Prop} {w : World} {x : DCmd} {A_data : Option Addr} {c_data : Nat} (f0 : (Lit.int .i64 x.kind).wf = true) (f1 : (Lit.int .i64 x.id.index).wf = true) (f2 : (Lit.int .i64 x.id.gen).wf = true) (f3 : (Lit.int .i64 x.comp).wf = true) (f4 : Rep.byte.Sl Q w A_data c_data x.data) : rCmd.rd Q w [.int .i64 x.kind, .bool x.loc, .int .i64 x.id.index, .int .i64 x.id.gen, .int .i64 x.comp, .slice A_data x.data.length c_data] x := by
  exact ⟨_, _, rfl, ⟨rfl, f0⟩, ⟨_, _, rfl, rfl, ⟨_, _, rfl, rID_mk f1 f2, ⟨_, _, rfl, ⟨rfl, f3⟩, Rep.sl_rd f4⟩⟩⟩⟩
theorem rCmd_val {Q : Nat → Prop} {w : World} {v : Value} {x : DCmd} (h : rCmd.val Q w v x) : ∃ (A_data : Option Addr) (c_data : Nat), v = .agg #[.int .i64 x.kind, .bool x.loc, .int .i64 x.id.index, .int .i64 x.id.gen, .int .i64 x.comp, .slice A_data x.data.length c_data] ∧ (Lit.int .i64 x.kind).wf = true ∧ (Lit.int .i64 x.id.index).wf = true ∧ (Lit.int .i64 x.id.gen).wf = true ∧ (Lit.int .i64 x.comp).wf = true ∧ Rep.byte.Sl Q w A_data c_data x.data := by
  obtain ⟨cs, rfl, h⟩ := h
  obtain ⟨A_data, c_data, e, f0, f1, f2, f3, f4⟩ := rCmd_open h
  subst e
  exact ⟨A_data, c_data, rfl, f0, f1, f2, f3, f4⟩
theorem rCmd_agg {Q : Nat → Prop} {w : World} {x : DCmd} {A_data : Option Addr} {c_data : Nat} (f0 : (Lit.int .i64 x.kind).wf = true) (f1 : (Lit.int .i64 x.id.index).wf = true) (f2 : (Lit.int .i64 x.id.gen).wf = true) (f3 : (Lit.int .i64 x.comp).wf = true) (f4 : Rep.byte.Sl Q w A_data c_data x.data) : rCmd.val Q w (.agg #[.int .i64 x.kind, .bool x.loc, .int .i64 x.id.index, .int .i64 x.id.gen, .int .i64 x.comp, .slice A_data x.data.length c_data]) x := ⟨_, rfl, rCmd_mk f0 f1 f2 f3 f4⟩

@[ext] structure DFate where
  kept : Int
  torn : Int
  deriving DecidableEq

def rFate : Rep DFate := ((Rep.int .i64).pair (Rep.int .i64)).iso fun x => (x.kept, x.torn)
theorem rFate_size : rFate.size = 2 := rfl
theorem rFate_open {Q : Nat → Prop} {w : World} {cs : List Value} {x : DFate} (h : rFate.rd Q w cs x) : cs = [.int .i64 x.kept, .int .i64 x.torn] ∧ (Lit.int .i64 x.kept).wf = true ∧ (Lit.int .i64 x.torn).wf = true := by
  obtain ⟨a0, b0, rfl, h0, g0⟩ := h
  obtain ⟨e0, w0⟩ := h0
  subst e0
  obtain ⟨e1, w1⟩ := g0
  subst e1
  exact ⟨rfl, w0, w1⟩
theorem rFate_mk {Q : Nat → Prop} {w : World} {x : DFate}  (f0 : (Lit.int .i64 x.kept).wf = true) (f1 : (Lit.int .i64 x.torn).wf = true) : rFate.rd Q w [.int .i64 x.kept, .int .i64 x.torn] x := by
  exact ⟨_, _, rfl, ⟨rfl, f0⟩, ⟨rfl, f1⟩⟩
theorem rFate_at {Q : Nat → Prop} {w : World} {A : Option Addr} {xs : List DFate} (h : rFate.At Q w A xs) {i : Nat} {x : DFate} (hx : xs[i]? = some x) :
    ∃ (b off : Nat), A = some ⟨b, off, none⟩ ∧ IsC w b ∧ w.cell? ⟨b, off + i * 2, none⟩ = some (.int .i64 x.kept) ∧ w.cell? ⟨b, off + i * 2 + 1, none⟩ = some (.int .i64 x.torn) ∧ (Lit.int .i64 x.kept).wf = true ∧ (Lit.int .i64 x.torn).wf = true := by
  obtain ⟨b, off, es, h1, _, h2, h3, h4⟩ := h.get hx
  obtain ⟨e, f0, f1⟩ := rFate_open h3
  subst e
  rw [rFate_size] at h4
  exact ⟨b, off, h1, h2, h4 0 _ rfl, h4 1 _ rfl, f0, f1⟩
theorem rFate_agg {Q : Nat → Prop} {w : World} {x : DFate}  (f0 : (Lit.int .i64 x.kept).wf = true) (f1 : (Lit.int .i64 x.torn).wf = true) : rFate.val Q w (.agg #[.int .i64 x.kept, .int .i64 x.torn]) x := ⟨_, rfl, rFate_mk f0 f1⟩

end Go.Proofs.YtejibngkeaamkaaGreatDoor
namespace Go.Proofs.YtejibngkeaamkaaGreatDoor
open Go.RowKit

def letterB (c : Int) : Bool := decide (97 ≤ c ∧ c ≤ 122) || decide (48 ≤ c ∧ c ≤ 57) || decide (c = 95)

/-- comp.letter -/
theorem letter_calls (c : Int) (w : World) (h0 : 0 ≤ c) (h1 : c ≤ 255) :
    Calls Tryz.prog 78 #[.int .u8 c] w fun e w' => e = .returned (.bool (letterB c)) ∧ w' = w := by
  obtain ⟨r, hr⟩ : ∃ r, r = letterB c := ⟨_, rfl⟩
  rw [← hr]
  unfold letterB at hr
  by_cases a1 : 97 ≤ c <;> by_cases a2 : c ≤ 122 <;> by_cases a3 : 48 ≤ c <;> by_cases a4 : c ≤ 57 <;> by_cases a5 : c = 95 <;> first | omega | skip
  all_goals
    simp [a1, a2, a3, a4, a5] at hr
    subst hr
    go_enter Tryz.func78, Tryz.ntmps78
    go_wp2_with fail
    go_ret
    exact ⟨by first | rfl | (rw [← (show (c == 95) = false by simp [a5])]; rfl), rfl⟩

def withinB (n lo hi : Int) : Bool := decide (lo ≤ n ∧ n ≤ hi)
/-- comp.within -/
theorem within_calls (n lo hi : Int) (w : World) :
    Calls Tryz.prog 55 #[.int .i64 n, .int .i64 lo, .int .i64 hi] w fun e w' => e = .returned (.bool (withinB n lo hi)) ∧ w' = w := by
  obtain ⟨r, hr⟩ : ∃ r, r = withinB n lo hi := ⟨_, rfl⟩
  rw [← hr]
  unfold withinB at hr
  by_cases a1 : lo ≤ n <;> by_cases a2 : n ≤ hi
  all_goals
    simp [a1, a2] at hr
    subst hr
    go_enter Tryz.func55, Tryz.ntmps55
    go_wp2_with fail
    go_ret
    exact ⟨rfl, rfl⟩

def nameB (s : List UInt8) : Bool := decide (1 ≤ s.length ∧ s.length ≤ 16) && s.all fun c => letterB (c.toNat : Int)

theorem all_take_succ {α : Type} {p : α → Bool} {s : List α} {k : Nat} (hk : k < s.length) (h : (s.take k).all p = true) (hc : p s[k] = true) : (s.take (k + 1)).all p = true := by
  rw [List.take_succ_eq_append_getElem hk, List.all_append, h]
  simp [hc]
theorem not_all {α : Type} {p : α → Bool} {s : List α} {k : Nat} (hk : k < s.length) (hc : p s[k] = false) : s.all p = false := by
  rw [Bool.eq_false_iff]
  intro h
  have := List.all_eq_true.1 h s[k] (List.getElem_mem hk)
  rw [hc] at this; cases this

theorem byte_le (x : UInt8) : (x.toNat : Int) ≤ 255 := by have := x.toNat_lt; omega

set_option maxRecDepth 10000 in
set_option maxHeartbeats 2000000 in
/-- comp.Name -/
theorem name_calls (s : List UInt8) (w : World) (hs : s.length ≤ maxLen) :
    Calls Tryz.prog 56 #[.string ⟨s.toArray⟩] w fun e w' => e = .returned (.bool (nameB s)) ∧ w' = w := by
  have hs' : (s.length : Int) ≤ 9223372036854775807 := by unfold maxLen at hs; omega
  have hsz : (ByteArray.mk s.toArray).size = s.length := by simp [ByteArray.size]
  by_cases hnil : s = []
  · subst hnil
    go_enter Tryz.func56, Tryz.ntmps56
    go_wp2_with fail
    go_ret
    exact ⟨rfl, rfl⟩
  have hemp : s.isEmpty = false := by simpa using hnil
  have hpos : 0 < s.length := List.length_pos_iff.2 hnil
  by_cases hlong : (16 : Int) < s.length
  · have hr : nameB s = false := by
      unfold nameB
      rw [decide_eq_false (by omega)]; rfl
    have HR := Lib.hid hr
    clear hr
    go_enter Tryz.func56, Tryz.ntmps56
    go_wp2_with fail
    go_ret
    exact ⟨by rw [HR.out]; rfl, rfl⟩
  · have hr : nameB s = s.all fun c => letterB (c.toNat : Int) := by
      unfold nameB
      rw [decide_eq_true (by omega), Bool.true_and]
    have HR := Lib.hid hr
    clear hr
    go_enter Tryz.func56, Tryz.ntmps56
    go_wp2_with fail
    go_loopw [13] (fun i wr => ∃ k : Nat, i = .int .i64 k ∧ k ≤ s.length ∧ Hid ((s.take k).all (fun c => letterB (c.toNat : Int)) = true) ∧ wr = w)
      (fun i _ => s.length - (intOf i).toNat)
    case atStart => exact ⟨0, rfl, by omega, rfl, rfl⟩
    case round =>
      obtain ⟨k, rfl, hk, hall, rfl⟩ := hrel
      by_cases hlt : (k : Int) < s.length
      · have hk' : k < s.length := by omega
        have L : ∀ w, Calls Tryz.prog 78 #[.int .u8 (((ByteArray.mk s.toArray)[k]'(by rw [hsz]; omega)).toNat : Int)] w fun e w' => e = .returned (.bool (letterB (s[k].toNat : Int))) ∧ w' = w :=
          fun w => letter_calls (s[k].toNat : Int) w (by omega) (byte_le s[k])
        cases hc : letterB (s[k].toNat : Int) with
        | true =>
          have HA := Lib.hid (all_take_succ (p := fun c : UInt8 => letterB (c.toNat : Int)) hk' hall hc)
          rw [hc] at L
          have HL := Lib.hid L
          clear hc hall L
          go_wp2_with (go_at_call 78; refine (HL.out _).mono ?_; rintro e w' ⟨rfl, rfl⟩)
          exact ⟨⟨k + 1, by go_num, by omega, HA.out, trivial⟩, by simp [intOf]; omega⟩
        | false =>
          have HF := Lib.hid (not_all (p := fun c : UInt8 => letterB (c.toNat : Int)) hk' hc)
          rw [hc] at L
          have HL := Lib.hid L
          clear hc hall L
          go_wp2_with (go_at_call 78; refine (HL.out _).mono ?_; rintro e w' ⟨rfl, rfl⟩)
          go_ret
          exact ⟨by rw [HR.out, HF.out]; rfl, rfl⟩
      · obtain rfl : k = s.length := by omega
        have HF := Lib.hid (show (s.all fun c => letterB (c.toNat : Int)) = true by have := hall.out; rwa [List.take_length] at this)
        clear hall
        go_wp2_with fail
        go_ret
        exact ⟨by rw [HR.out, HF.out]; rfl, rfl⟩
theorem dec_split (p : Prop) [Decidable p] : p ∨ (¬ p ∧ decide p = false) := by
  by_cases h : p
  · exact .inl h
  · exact .inr ⟨h, decide_eq_false h⟩

set_option maxRecDepth 10000 in
set_option maxHeartbeats 2000000 in
/-- ref07.Name -/
theorem rname_calls (s : List UInt8) (w : World) (hs : s.length ≤ maxLen) :
    Calls Tryz.prog 34 #[.string ⟨s.toArray⟩] w fun e w' => e = .returned (.bool (nameB s)) ∧ ∃ n, w' = w.drewN n := by
  have hs' : (s.length : Int) ≤ 9223372036854775807 := by unfold maxLen at hs; omega
  have hsz : (ByteArray.mk s.toArray).size = s.length := by simp [ByteArray.size]
  go_enter Tryz.func34, Tryz.ntmps34
  go_wp2_with fail
  go_loopw [3] (fun i wr => ∃ k n : Nat, i = .int .i64 k ∧ k ≤ s.length ∧ Hid ((s.take k).all (fun c => letterB (c.toNat : Int)) = true) ∧ wr = w.drewN n)
    (fun i _ => s.length - (intOf i).toNat)
  case atStart => exact ⟨0, 0, rfl, by omega, rfl, rfl⟩
  case round =>
    obtain ⟨k, n, rfl, hk, hall, rfl⟩ := hrel
    by_cases hlt : (k : Int) < s.length
    · have hk' : k < s.length := by omega
      have hx : (((ByteArray.mk s.toArray)[k]'(by rw [hsz]; omega)).toNat : Int) = (s[k].toNat : Int) := rfl
      have hb := byte_le s[k]
      have hall' := all_take_succ (p := fun c : UInt8 => letterB (c.toNat : Int)) hk' hall
      have hf := not_all (p := fun c : UInt8 => letterB (c.toNat : Int)) hk'
      rcases dec_split (97 ≤ (((ByteArray.mk s.toArray)[k]'(by rw [hsz]; omega)).toNat : Int)) with a1 | ⟨a1, d1⟩ <;>
      rcases dec_split ((((ByteArray.mk s.toArray)[k]'(by rw [hsz]; omega)).toNat : Int) ≤ 122) with a2 | ⟨a2, d2⟩ <;>
      rcases dec_split (48 ≤ (((ByteArray.mk s.toArray)[k]'(by rw [hsz]; omega)).toNat : Int)) with a3 | ⟨a3, d3⟩ <;>
      rcases dec_split ((((ByteArray.mk s.toArray)[k]'(by rw [hsz]; omega)).toNat : Int) ≤ 57) with a4 | ⟨a4, d4⟩ <;>
      rcases dec_split ((((ByteArray.mk s.toArray)[k]'(by rw [hsz]; omega)).toNat : Int) = 95) with a5 | ⟨a5, d5⟩ <;> (try (exfalso; rw [hx] at *; omega))
      all_goals
        first
        | (have hl : letterB (s[k].toNat : Int) = true := by rw [hx] at *; unfold letterB; simp only [Bool.or_eq_true, decide_eq_true_eq]; omega
           have HA := Lib.hid (hall' hl)
           clear hall' hf hl hall hx hb
           go_wp2_with fail
           go_quiet (fail)
           go_wp2_with fail
           all_goals first
             | exact ⟨⟨k + 1, _, by go_num, by omega, HA.out, rfl⟩, by simp [intOf]; omega⟩
             | (exfalso; rename_i h; simp at h; omega))
        | (have hl : letterB (s[k].toNat : Int) = false := by rw [hx] at *; unfold letterB; simp only [Bool.or_eq_false_iff, decide_eq_false_iff_not]; omega
           have HF := Lib.hid (hf hl)
           clear hall' hf hl hall hx hb
           go_wp2_with fail
           go_quiet (fail)
           go_wp2_with fail
           all_goals first
             | (go_ret; exact ⟨by rw [nameB, HF.out, Bool.and_false]; rfl, _, rfl⟩)
             | (exfalso; rename_i h; simp at h; omega))
    · obtain rfl : k = s.length := by omega
      have HF := Lib.hid (show (s.all fun c => letterB (c.toNat : Int)) = true by have := hall.out; rwa [List.take_length] at this)
      clear hall
      rcases dec_split ((1 : Int) ≤ s.length) with a1 | ⟨a1, d1⟩ <;>
      rcases dec_split ((s.length : Int) ≤ 16) with a2 | ⟨a2, d2⟩
      all_goals
        first
        | (have hr : nameB s = true := by rw [nameB, HF.out, Bool.and_true]; simp only [decide_eq_true_eq]; omega
           have HR := Lib.hid hr
           clear hr
           go_wp2_with fail
           go_ret
           exact ⟨by rw [HR.out]; rfl, _, rfl⟩)
        | (have hr : nameB s = false := by rw [nameB, HF.out, Bool.and_true]; simp only [decide_eq_false_iff_not]; omega
           have HR := Lib.hid hr
           clear hr
           go_wp2_with fail
           go_ret
           exact ⟨by rw [HR.out]; rfl, _, rfl⟩)
end Go.Proofs.YtejibngkeaamkaaGreatDoor
namespace Go.Proofs.YtejibngkeaamkaaGreatDoor
open Go.RowKit

def compOk (l : List DComp) (i : Nat) : Bool := match l[i]? with
  | some x => (l.take i).all (fun y => decide (y.name ≠ x.name)) && nameB x.name && withinB x.size 0 64
  | none => true
def confRange (c : DConf) : Bool := withinB c.log 2 1024 && withinB c.pages 4 1024 && withinB c.entities 1 1024 && withinB c.gens 1 1073741824 && decide (c.comps.length ≤ 32)
def confRight (c : DConf) : Bool := confRange c && (List.range c.comps.length).all (compOk c.comps)
def checkOf (b : Bool) : Int := if b then 0 else 1

theorem range_all_succ {p : Nat → Bool} {k : Nat} (h : (List.range k).all p = true) (hk : p k = true) : (List.range (k + 1)).all p = true := by
  rw [List.range_succ, List.all_append, h]; simp [hk]
theorem range_not_all {p : Nat → Bool} {k n : Nat} (hk : k < n) (h : p k = false) : (List.range n).all p = false := by
  rw [Bool.eq_false_iff]
  intro hh
  have := List.all_eq_true.1 hh k (List.mem_range.2 hk)
  rw [h] at this; cases this

theorem compOk_dup {l : List DComp} {j k : Nat} {x y : DComp} (hjk : j < k) (hk : k < l.length) (hx : l[k] = x) (hj : j < l.length) (hy : l[j] = y) (h : y.name = x.name) : compOk l k = false := by
  unfold compOk
  rw [List.getElem?_eq_getElem hk, hx]
  have : ((l.take k).all fun y => decide (y.name ≠ x.name)) = false := by
    rw [Bool.eq_false_iff]
    intro hh
    have hm : y ∈ l.take k := by rw [← hy]; exact List.mem_take_iff_getElem.2 ⟨j, by omega, rfl⟩
    have := List.all_eq_true.1 hh y hm
    simp [h] at this
  simp only [this, Bool.false_and]

set_option maxRecDepth 100000 in
set_option maxHeartbeats 4000000 in
/-- comp.Check -/
theorem check_calls {Q : Nat → Prop} {w : World} {v : Value} {c : DConf} (hx : rConf.val Q w v c) :
    Calls Tryz.prog 31 #[v] w fun e w' => e = .returned (.int .i64 (checkOf (confRight c))) ∧ Below w.heap.size w w' := by
  obtain ⟨A, cap, rfl, f0, f1, f2, f3, hc1, hc2, hA⟩ := rConf_val hx
  unfold maxLen at hc2
  have hlen : (c.comps.length : Int) ≤ 9223372036854775807 := by omega
  cases h0 : withinB c.log 2 1024 <;> cases h1 : withinB c.pages 4 1024 <;> cases h2 : withinB c.entities 1 1024 <;> cases h3 : withinB c.gens 1 1073741824
  case true.true.true.true =>
    have H0 := Lib.hid h0
    have H1 := Lib.hid h1
    have H2 := Lib.hid h2
    have H3 := Lib.hid h3
    by_cases hlong : (32 : Int) < c.comps.length
    · have hr : confRight c = false := by simp [confRight, confRange]; intros; omega
      have HR := Lib.hid hr
      clear hr h0 h1 h2 h3 hx hA
      go_enter Tryz.func31, Tryz.ntmps31
      go_wp2_with fail
      go_step3
      go_wp2_with (go_at_call 55; refine (within_calls _ _ _ _).mono ?_; rintro e w' ⟨rfl, rfl⟩; first | rw [H0.out] | rw [H1.out] | rw [H2.out] | rw [H3.out])
      try rw [Exit.noGoto_ret]
      go_ret
      exact ⟨by rw [HR.out]; rfl, (Below.refl _ _).alloc (Nat.le_refl _) _⟩
    · have hr : confRight c = (List.range c.comps.length).all (compOk c.comps) := by
        have : decide (c.comps.length ≤ 32) = true := by simp; omega
        simp [confRight, confRange, h0, h1, h2, h3, this]
      have HR := Lib.hid hr
      have HX := Lib.hid hA
      clear hr h0 h1 h2 h3 hx hA
      go_enter Tryz.func31, Tryz.ntmps31
      go_wp2_with fail
      go_step3
      go_wp2_with (go_at_call 55; refine (within_calls _ _ _ _).mono ?_; rintro e w' ⟨rfl, rfl⟩; first | rw [H0.out] | rw [H1.out] | rw [H2.out] | rw [H3.out])
      obtain ⟨W1, hW1⟩ : ∃ W1, w.alloc (.cells #[.int .i64 c.log, .int .i64 c.pages, .int .i64 c.entities, .int .i64 c.gens, .slice A c.comps.length cap] 24) = W1 := ⟨_, rfl⟩
      have hcell : W1.cell? ⟨w.heap.size, 4, none⟩ = some (.slice A c.comps.length cap) := by rw [← hW1]; simp
      have hbel : Below w.heap.size w W1 := by rw [← hW1]; exact (Below.refl _ _).alloc (Nat.le_refl _) _
      have hsz : W1.heap.size = w.heap.size + 1 := by rw [← hW1]; simp
      rw [hW1]
      clear hW1
      go_wp2_with fail
      go_step3
      go_wp2_with fail
      go_loopw [40] (fun i wr => ∃ k : Nat, i = .int .i64 k ∧ k ≤ c.comps.length ∧ Hid ((List.range k).all (compOk c.comps) = true) ∧ Below (w.heap.size + 1) W1 wr)
        (fun i _ => c.comps.length - (intOf i).toNat)
      case atStart => exact ⟨0, rfl, by omega, rfl, Below.refl _ _⟩
      case round =>
        obtain ⟨k, rfl, hk, hall, hb1⟩ := hrel
        by_cases hlt : (k : Int) < c.comps.length
        · have hk' : k < c.comps.length := by omega
          have hAw : rComp.At (fun b => b < w.heap.size) wr A c.comps := Rep.At.keep (w := w) (fun b _ hb => ⟨hb.lt, (hb1.block b (by have := hb.lt; omega)).trans (hbel.block b hb.lt)⟩) HX.out
          obtain ⟨b, off, rfl, hb, cx0, cx1, g0, g1⟩ := rComp_at hAw (List.getElem?_eq_getElem hk')
          generalize hxx : c.comps[k] = x at *
          have HXX := Lib.hid hxx
          clear hxx
          have hcw : wr.cell? ⟨w.heap.size, 4, none⟩ = some (.slice (some ⟨b, off, none⟩) c.comps.length cap) := (hb1.cell (p := ⟨w.heap.size, 4, none⟩) (Nat.lt_succ_self _)).trans hcell
          have hlw : w.heap.size < wr.heap.size := by have := hb1.size; omega
          have hca : ∀ o, (wr.alloc o).cell? ⟨w.heap.size, 4, none⟩ = some (.slice (some ⟨b, off, none⟩) c.comps.length cap) := fun o => (World.cell?_of_block (w := wr) (Below.heap_alloc _ _ _ hlw)).trans hcw
          have HB1 := Lib.hid hb1
          have HAW := Lib.hid hAw
          clear hb1 hAw
          go_wp2_with fail
          rename World => wo
          obtain ⟨W2, hW2⟩ : ∃ W2, wo.alloc (.cells #[.string ⟨x.name.toArray⟩, .int .i64 x.size] 57) = W2 := ⟨_, rfl⟩
          have d0 : W2.cell? ⟨wo.heap.size, 0, none⟩ = some (.string ⟨x.name.toArray⟩) := by rw [← hW2]; simp
          have d1 : W2.cell? ⟨wo.heap.size, 1, none⟩ = some (.int .i64 x.size) := by rw [← hW2]; simp
          have hb2 : Below wo.heap.size wo W2 := by rw [← hW2]; exact (Below.refl _ _).alloc (Nat.le_refl _) _
          have hs2 : W2.heap.size = wo.heap.size + 1 := by rw [← hW2]; simp
          rw [hW2]
          clear hW2 hca hcw cx0 cx1
          have HAW2 := Lib.hid (HAW.out.keep (w := wo) (w' := W2) (Q' := fun b => b < wo.heap.size) fun b _ hb => ⟨hb.lt, hb2.block b hb.lt⟩)
          have HB2 := Lib.hid hb2
          clear hb2
          go_loopw [50] (fun i wr2 => ∃ j : Nat, i = .int .i64 j ∧ j ≤ k ∧ Hid ((c.comps.take j).all (fun y => decide (y.name ≠ x.name)) = true) ∧ Below (wo.heap.size + 1) W2 wr2)
            (fun i _ => k - (intOf i).toNat)
          case atStart => exact ⟨0, rfl, by omega, rfl, Below.refl _ _⟩
          case round =>
            obtain ⟨j, rfl, hj, hdif, hb3⟩ := hrel
            by_cases hjk : (j : Int) < k
            · have hj' : j < c.comps.length := by omega
              have hA3 := HAW2.out.keep (w := W2) (w' := wr) (Q' := fun _ => True) fun b hq hb => ⟨trivial, hb3.block b (by omega)⟩
              obtain ⟨b', off', heq, hb', cy0, cy1, g3, g4⟩ := rComp_at hA3 (List.getElem?_eq_getElem hj')
              cases heq
              generalize hyy : c.comps[j] = y at *
              have HYY := Lib.hid hyy
              have d0' := (hb3.cell (p := ⟨wo.heap.size, 0, none⟩) (Nat.lt_succ_self _)).trans d0
              have hlw3 : wo.heap.size < wr.heap.size := by have := hb3.size; omega
              have hca : ∀ o, (wr.alloc o).cell? ⟨wo.heap.size, 0, none⟩ = some (.string ⟨x.name.toArray⟩) := fun o => (World.cell?_of_block (w := wr) (Below.heap_alloc _ _ _ hlw3)).trans d0'
              have HB3 := Lib.hid hb3
              clear hyy hA3 hb3
              by_cases hq : y.name = x.name
              · have HF := Lib.hid (show confRight c = false by rw [HR.out]; exact range_not_all hk' (compOk_dup (j := j) (by omega) hk' HXX.out hj' HYY.out hq))
                replace hq : (x.name == y.name) = true := by simp [hq]
                go_wp2_with fail
                try rw [Exit.noGoto_ret]
                go_ret
                refine ⟨by rw [HF.out]; rfl, ?_⟩
                exact ((((hbel.trans (HB1.out.mono (by omega))).trans (HB2.out.mono (by omega))).trans (HB3.out.mono (by omega))).alloc (by omega) _)
              · have HD := Lib.hid (show ((c.comps.take (j + 1)).all fun y => decide (y.name ≠ x.name)) = true from all_take_succ (p := fun y : DComp => decide (y.name ≠ x.name)) hj' hdif (by rw [HYY.out]; simpa using hq))
                replace hq : (x.name == y.name) = false := by simpa using fun h => hq h.symm
                go_wp2_with fail
                exact ⟨⟨j + 1, by go_num, by omega, HD, HB3.out.alloc (by omega) _⟩, by simp [intOf]; omega⟩
            · obtain rfl : j = k := by omega
              have e0 := (hb3.cell (p := ⟨wo.heap.size, 0, none⟩) (Nat.lt_succ_self _)).trans d0
              have e1 := (hb3.cell (p := ⟨wo.heap.size, 1, none⟩) (Nat.lt_succ_self _)).trans d1
              have HB3 := Lib.hid hb3
              have hcomp : compOk c.comps j = (nameB x.name && withinB x.size 0 64) := by
                unfold compOk
                rw [List.getElem?_eq_getElem hk', HXX.out]
                simp only [hdif.out, Bool.true_and]
              have HW : Below (w.heap.size + 1) W1 wr := (HB1.out.trans (HB2.out.mono (by omega))).trans (hb3.mono (by omega))
              have HBW := Lib.hid HW
              clear hb3 HW
              by_cases hn : nameB x.name = true
              · by_cases hw : withinB x.size 0 64 = true
                · have HA := Lib.hid (range_all_succ hall (by rw [hcomp, hn, hw]; rfl))
                  have HN := Lib.hid hn
                  have HWI := Lib.hid hw
                  clear hcomp hn hw
                  go_wp2_with (first
                    | (go_at_call 56; refine (name_calls _ _ g0).mono ?_; rintro e w' ⟨rfl, rfl⟩; rw [HN.out])
                    | (go_at_call 55; refine (within_calls _ _ _ _).mono ?_; rintro e w' ⟨rfl, rfl⟩; rw [HWI.out]))
                  exact ⟨⟨j + 1, by go_num, by omega, HA, HBW.out⟩, by simp [intOf]; omega⟩
                · have HF := Lib.hid (show confRight c = false by rw [HR.out]; exact range_not_all hk' (by rw [hcomp, hn]; simpa using hw))
                  have HN := Lib.hid hn
                  have HWI := Lib.hid (show withinB x.size 0 64 = false by simpa using hw)
                  clear hcomp hn hw
                  go_wp2_with (first
                    | (go_at_call 56; refine (name_calls _ _ g0).mono ?_; rintro e w' ⟨rfl, rfl⟩; rw [HN.out])
                    | (go_at_call 55; refine (within_calls _ _ _ _).mono ?_; rintro e w' ⟨rfl, rfl⟩; rw [HWI.out]))
                  try rw [Exit.noGoto_ret]
                  go_ret
                  exact ⟨by rw [HF.out]; rfl, hbel.trans (HBW.out.mono (by omega))⟩
              · have HF := Lib.hid (show confRight c = false by rw [HR.out]; exact range_not_all hk' (by rw [hcomp]; simp [hn]))
                have HN := Lib.hid (show nameB x.name = false by simpa using hn)
                clear hcomp hn
                go_wp2_with (go_at_call 56; refine (name_calls _ _ g0).mono ?_; rintro e w' ⟨rfl, rfl⟩; rw [HN.out])
                try rw [Exit.noGoto_ret]
                go_ret
                exact ⟨by rw [HF.out]; rfl, hbel.trans (HBW.out.mono (by omega))⟩
        · obtain rfl : k = c.comps.length := by omega
          have HF := Lib.hid (show confRight c = true by rw [HR.out]; exact hall.out)
          have HB1 := Lib.hid hb1
          clear hb1
          go_wp2_with fail
          try rw [Exit.noGoto_ret]
          go_ret
          exact ⟨by rw [HF.out]; rfl, hbel.trans (HB1.out.mono (by omega))⟩
  all_goals
    have hr : confRight c = false := by simp [confRight, confRange, h0, h1, h2, h3]
    have HR := Lib.hid hr
    have H0 := Lib.hid h0
    have H1 := Lib.hid h1
    have H2 := Lib.hid h2
    have H3 := Lib.hid h3
    clear hr h0 h1 h2 h3 hx hA
    go_enter Tryz.func31, Tryz.ntmps31
    go_wp2_with fail
    go_step3
    go_wp2_with (go_at_call 55; refine (within_calls _ _ _ _).mono ?_; rintro e w' ⟨rfl, rfl⟩; first | rw [H0.out] | rw [H1.out] | rw [H2.out] | rw [H3.out])
    try rw [Exit.noGoto_ret]
    go_ret
    exact ⟨by rw [HR.out]; rfl, (Below.refl _ _).alloc (Nat.le_refl _) _⟩
end Go.Proofs.YtejibngkeaamkaaGreatDoor
namespace Go.Proofs.YtejibngkeaamkaaGreatDoor
open Go.RowKit

/-- What ref07.Find answers. -/
def FindRes (l : List DComp) (s : List UInt8) (w : World) (e : Ending) (w' : World) : Prop := Below w.heap.size w w' ∧ ∃ (i : Nat) (b : Bool), e = .returned (.tuple #[.int .i64 i, .bool b]) ∧
  ((b = true ∧ (l.take i).all (fun y => decide (y.name ≠ s)) = true ∧ ∃ h : i < l.length, l[i].name = s) ∨ (b = false ∧ l.all (fun y => decide (y.name ≠ s)) = true))

set_option maxRecDepth 100000 in
set_option maxHeartbeats 4000000 in
/-- ref07.Find -/
theorem find_calls {Q : Nat → Prop} {w : World} {v : Value} {c : DConf} {s : List UInt8} (hx : rConf.val Q w v c) :
    Calls Tryz.prog 33 #[v, .string ⟨s.toArray⟩] w (FindRes c.comps s w) := by
  obtain ⟨A, cap, rfl, f0, f1, f2, f3, hc1, hc2, hA⟩ := rConf_val hx
  unfold maxLen at hc2
  have hlen : (c.comps.length : Int) ≤ 9223372036854775807 := by omega
  obtain ⟨W1, hW1⟩ : ∃ W1, w.alloc (.cells #[.int .i64 c.log, .int .i64 c.pages, .int .i64 c.entities, .int .i64 c.gens, .slice A c.comps.length cap] 24) = W1 := ⟨_, rfl⟩
  have hcell : W1.cell? ⟨w.heap.size, 4, none⟩ = some (.slice A c.comps.length cap) := by rw [← hW1]; simp
  have hbel : Below w.heap.size w W1 := by rw [← hW1]; exact (Below.refl _ _).alloc (Nat.le_refl _) _
  have hsz : W1.heap.size = w.heap.size + 1 := by rw [← hW1]; simp
  have HX := Lib.hid hA
  clear hx hA
  go_enter Tryz.func33, Tryz.ntmps33
  go_wp2_with fail
  try rw [hW1]
  clear hW1
  go_loopw [6] (fun i wr => ∃ k : Nat, i = .int .i64 k ∧ k ≤ c.comps.length ∧ Hid ((c.comps.take k).all (fun y => decide (y.name ≠ s)) = true) ∧ wr = W1)
    (fun i _ => c.comps.length - (intOf i).toNat)
  case atStart => exact ⟨0, rfl, by omega, rfl, rfl⟩
  case round =>
    obtain ⟨k, rfl, hk, hall, rfl⟩ := hrel
    by_cases hlt : (k : Int) < c.comps.length
    · have hk' : k < c.comps.length := by omega
      have hAw : rComp.At (fun b => b < w.heap.size) wr A c.comps := Rep.At.keep (w := w) (fun b _ hb => ⟨hb.lt, hbel.block b hb.lt⟩) HX.out
      obtain ⟨b, off, rfl, hb, cx0, cx1, g0, g1⟩ := rComp_at hAw (List.getElem?_eq_getElem hk')
      generalize hxx : c.comps[k] = x at *
      have HXX := Lib.hid hxx
      clear hxx hAw
      by_cases hq : x.name = s
      · have HQ := Lib.hid hq
        replace hq : (x.name == s) = true := by simp [hq]
        go_wp2_with fail
        go_ret2
        refine ⟨hbel, k, true, rfl, .inl ⟨rfl, hall, hk', by rw [HXX.out]; exact HQ.out⟩⟩
      · have HD := Lib.hid (show ((c.comps.take (k + 1)).all fun y => decide (y.name ≠ s)) = true from all_take_succ (p := fun y : DComp => decide (y.name ≠ s)) hk' hall (by rw [HXX.out]; simpa using hq))
        replace hq : (x.name == s) = false := by simpa using hq
        go_wp2_with fail
        exact ⟨⟨k + 1, by go_num, by omega, HD, trivial⟩, by simp [intOf]; omega⟩
    · obtain rfl : k = c.comps.length := by omega
      have HF := Lib.hid (show (c.comps.all fun y => decide (y.name ≠ s)) = true by have := hall.out; rwa [List.take_length] at this)
      clear hall
      go_wp2_with fail
      go_ret2
      exact ⟨hbel, 0, false, rfl, .inr ⟨rfl, HF.out⟩⟩

def muchConf (c : DConf) : Bool := (c.comps.take 50).any (fun y => decide (100 < y.name.length)) || decide (40 < c.comps.length)

set_option maxRecDepth 100000 in
set_option maxHeartbeats 4000000 in
/-- ref07.Much -/
theorem much_calls {Q : Nat → Prop} {w : World} {v : Value} {c : DConf} (hx : rConf.val Q w v c) :
    Calls Tryz.prog 5 #[v] w fun e w' => e = .returned (.bool (muchConf c)) ∧ Below w.heap.size w w' := by
  obtain ⟨A, cap, rfl, f0, f1, f2, f3, hc1, hc2, hA⟩ := rConf_val hx
  unfold maxLen at hc2
  have hlen : (c.comps.length : Int) ≤ 9223372036854775807 := by omega
  obtain ⟨W1, hW1⟩ : ∃ W1, w.alloc (.cells #[.int .i64 c.log, .int .i64 c.pages, .int .i64 c.entities, .int .i64 c.gens, .slice A c.comps.length cap] 24) = W1 := ⟨_, rfl⟩
  have hcell : W1.cell? ⟨w.heap.size, 4, none⟩ = some (.slice A c.comps.length cap) := by rw [← hW1]; simp
  have hbel : Below w.heap.size w W1 := by rw [← hW1]; exact (Below.refl _ _).alloc (Nat.le_refl _) _
  have hsz : W1.heap.size = w.heap.size + 1 := by rw [← hW1]; simp
  have HX := Lib.hid hA
  clear hx hA
  go_enter Tryz.func5, Tryz.ntmps5
  go_wp2_with fail
  try rw [hW1]
  clear hW1
  go_loopw [3] (fun i wr => ∃ k : Nat, i = .int .i64 k ∧ k ≤ c.comps.length ∧ k ≤ 50 ∧ Hid ((c.comps.take k).any (fun y => decide (100 < y.name.length)) = false) ∧ wr = W1)
    (fun i _ => c.comps.length - (intOf i).toNat)
  case atStart => exact ⟨0, rfl, by omega, by omega, rfl, rfl⟩
  case round =>
    obtain ⟨k, rfl, hk, hk50, hall, rfl⟩ := hrel
    by_cases hlt : (k : Int) < c.comps.length
    · have hk' : k < c.comps.length := by omega
      by_cases hlt5 : (k : Int) < 50
      · have hAw : rComp.At (fun b => b < w.heap.size) wr A c.comps := Rep.At.keep (w := w) (fun b _ hb => ⟨hb.lt, hbel.block b hb.lt⟩) HX.out
        obtain ⟨b, off, rfl, hb, cx0, cx1, g0, g1⟩ := rComp_at hAw (List.getElem?_eq_getElem hk')
        generalize hxx : c.comps[k] = x at *
        have HXX := Lib.hid hxx
        clear hxx hAw
        by_cases hq : (100 : Int) < x.name.length
        · have HR := Lib.hid (show muchConf c = true by
            unfold muchConf
            have : (c.comps.take 50).any (fun y => decide (100 < y.name.length)) = true := List.any_eq_true.2 ⟨x, List.mem_take_iff_getElem.2 ⟨k, by omega, HXX.out⟩, by simp; omega⟩
            rw [this]; rfl)
          go_wp2_with fail
          go_ret
          exact ⟨by rw [HR.out]; rfl, hbel⟩
        · have HD := Lib.hid (show (c.comps.take (k + 1)).any (fun y => decide (100 < y.name.length)) = false by
            rw [List.take_succ_eq_append_getElem hk', List.any_append, hall.out, HXX.out]; simp; omega)
          go_wp2_with fail
          exact ⟨⟨k + 1, by go_num, by omega, by omega, HD, trivial⟩, by simp [intOf]; omega⟩
      · have HR := Lib.hid (show muchConf c = true by unfold muchConf; rw [decide_eq_true (show 40 < c.comps.length by omega), Bool.or_true])
        have h40 : (40 : Int) < c.comps.length := by omega
        go_wp2_with fail
        go_ret
        exact ⟨by rw [HR.out]; rfl, hbel⟩
    · obtain rfl : k = c.comps.length := by omega
      have HR := Lib.hid (show muchConf c = decide ((40 : Int) < c.comps.length) by
        unfold muchConf
        have := hall.out
        rw [List.take_length] at this
        rw [List.take_of_length_le hk50, this, Bool.false_or]
        congr 1
        simp; omega)
      clear hall
      go_wp2_with fail
      go_ret
      exact ⟨by rw [HR.out]; rfl, hbel⟩
end Go.Proofs.YtejibngkeaamkaaGreatDoor
namespace Go.Proofs.YtejibngkeaamkaaGreatDoor
open Go.RowKit

set_option maxRecDepth 100000 in
set_option maxHeartbeats 8000000 in
/-- ref07.Right -/
theorem right_calls {Q : Nat → Prop} {w : World} {v : Value} {c : DConf} (hx : rConf.val Q w v c) :
    Calls Tryz.prog 11 #[v] w fun e w' => e = .returned (.bool (confRight c)) ∧ Below w.heap.size w w' := by
  obtain ⟨A, cap, rfl, f0, f1, f2, f3, hc1, hc2, hA⟩ := rConf_val hx
  unfold maxLen at hc2
  have hlen : (c.comps.length : Int) ≤ 9223372036854775807 := by omega
  have HX := Lib.hid hA
  clear hx hA
  by_cases a0 : c.log < 2
  · have HF := Lib.hid (show confRight c = false by
      have : confRange c = false := by
        rw [Bool.eq_false_iff]
        simp only [confRange, withinB, ne_eq, Bool.and_eq_true, decide_eq_true_eq]
        omega
      unfold confRight; rw [this, Bool.false_and])
    go_enter Tryz.func11, Tryz.ntmps11
    go_wp2_with fail
    go_ret
    exact ⟨by rw [HF.out]; rfl, (Below.refl _ _).alloc (Nat.le_refl _) _⟩
  by_cases a1 : 1024 < c.log
  · have HF := Lib.hid (show confRight c = false by
      have : confRange c = false := by
        rw [Bool.eq_false_iff]
        simp only [confRange, withinB, ne_eq, Bool.and_eq_true, decide_eq_true_eq]
        omega
      unfold confRight; rw [this, Bool.false_and])
    go_enter Tryz.func11, Tryz.ntmps11
    go_wp2_with fail
    go_ret
    exact ⟨by rw [HF.out]; rfl, (Below.refl _ _).alloc (Nat.le_refl _) _⟩
  by_cases a2 : c.pages < 4
  · have HF := Lib.hid (show confRight c = false by
      have : confRange c = false := by
        rw [Bool.eq_false_iff]
        simp only [confRange, withinB, ne_eq, Bool.and_eq_true, decide_eq_true_eq]
        omega
      unfold confRight; rw [this, Bool.false_and])
    go_enter Tryz.func11, Tryz.ntmps11
    go_wp2_with fail
    go_ret
    exact ⟨by rw [HF.out]; rfl, (Below.refl _ _).alloc (Nat.le_refl _) _⟩
  by_cases a3 : 1024 < c.pages
  · have HF := Lib.hid (show confRight c = false by
      have : confRange c = false := by
        rw [Bool.eq_false_iff]
        simp only [confRange, withinB, ne_eq, Bool.and_eq_true, decide_eq_true_eq]
        omega
      unfold confRight; rw [this, Bool.false_and])
    go_enter Tryz.func11, Tryz.ntmps11
    go_wp2_with fail
    go_ret
    exact ⟨by rw [HF.out]; rfl, (Below.refl _ _).alloc (Nat.le_refl _) _⟩
  by_cases a4 : c.entities < 1
  · have HF := Lib.hid (show confRight c = false by
      have : confRange c = false := by
        rw [Bool.eq_false_iff]
        simp only [confRange, withinB, ne_eq, Bool.and_eq_true, decide_eq_true_eq]
        omega
      unfold confRight; rw [this, Bool.false_and])
    go_enter Tryz.func11, Tryz.ntmps11
    go_wp2_with fail
    go_ret
    exact ⟨by rw [HF.out]; rfl, (Below.refl _ _).alloc (Nat.le_refl _) _⟩
  by_cases a5 : 1024 < c.entities
  · have HF := Lib.hid (show confRight c = false by
      have : confRange c = false := by
        rw [Bool.eq_false_iff]
        simp only [confRange, withinB, ne_eq, Bool.and_eq_true, decide_eq_true_eq]
        omega
      unfold confRight; rw [this, Bool.false_and])
    go_enter Tryz.func11, Tryz.ntmps11
    go_wp2_with fail
    go_ret
    exact ⟨by rw [HF.out]; rfl, (Below.refl _ _).alloc (Nat.le_refl _) _⟩
  by_cases a6 : c.gens < 1
  · have HF := Lib.hid (show confRight c = false by
      have : confRange c = false := by
        rw [Bool.eq_false_iff]
        simp only [confRange, withinB, ne_eq, Bool.and_eq_true, decide_eq_true_eq]
        omega
      unfold confRight; rw [this, Bool.false_and])
    go_enter Tryz.func11, Tryz.ntmps11
    go_wp2_with fail
    go_ret
    exact ⟨by rw [HF.out]; rfl, (Below.refl _ _).alloc (Nat.le_refl _) _⟩
  by_cases a7 : 1073741824 < c.gens
  · have HF := Lib.hid (show confRight c = false by
      have : confRange c = false := by
        rw [Bool.eq_false_iff]
        simp only [confRange, withinB, ne_eq, Bool.and_eq_true, decide_eq_true_eq]
        omega
      unfold confRight; rw [this, Bool.false_and])
    go_enter Tryz.func11, Tryz.ntmps11
    go_wp2_with fail
    go_ret
    exact ⟨by rw [HF.out]; rfl, (Below.refl _ _).alloc (Nat.le_refl _) _⟩
  by_cases a8 : (32 : Int) < c.comps.length
  · have HF := Lib.hid (show confRight c = false by
      have : confRange c = false := by
        rw [Bool.eq_false_iff]
        simp only [confRange, withinB, ne_eq, Bool.and_eq_true, decide_eq_true_eq]
        omega
      unfold confRight; rw [this, Bool.false_and])
    go_enter Tryz.func11, Tryz.ntmps11
    go_wp2_with fail
    go_ret
    exact ⟨by rw [HF.out]; rfl, (Below.refl _ _).alloc (Nat.le_refl _) _⟩
  have HR := Lib.hid (show confRight c = (List.range c.comps.length).all (compOk c.comps) by
    have : confRange c = true := by
      simp only [confRange, withinB, Bool.and_eq_true, decide_eq_true_eq]
      omega
    unfold confRight; rw [this, Bool.true_and])
  obtain ⟨W1, hW1⟩ : ∃ W1, w.alloc (.cells #[.int .i64 c.log, .int .i64 c.pages, .int .i64 c.entities, .int .i64 c.gens, .slice A c.comps.length cap] 24) = W1 := ⟨_, rfl⟩
  have hbel : Below w.heap.size w W1 := by rw [← hW1]; exact (Below.refl _ _).alloc (Nat.le_refl _) _
  have hsz : W1.heap.size = w.heap.size + 1 := by rw [← hW1]; simp
  have e0 : W1.cell? ⟨w.heap.size, 0, none⟩ = some (.int .i64 c.log) := by rw [← hW1]; simp
  have e1 : W1.cell? ⟨w.heap.size, 1, none⟩ = some (.int .i64 c.pages) := by rw [← hW1]; simp
  have e2 : W1.cell? ⟨w.heap.size, 2, none⟩ = some (.int .i64 c.entities) := by rw [← hW1]; simp
  have e3 : W1.cell? ⟨w.heap.size, 3, none⟩ = some (.int .i64 c.gens) := by rw [← hW1]; simp
  have e4 : W1.cell? ⟨w.heap.size, 4, none⟩ = some (.slice A c.comps.length cap) := by rw [← hW1]; simp
  go_enter Tryz.func11, Tryz.ntmps11
  go_wp2_with fail
  try rw [hW1]
  clear hW1
  go_wp2_with fail
  go_loopw [3] (fun i wr => ∃ k : Nat, i = .int .i64 k ∧ k ≤ c.comps.length ∧ Hid ((List.range k).all (compOk c.comps) = true) ∧ Below (w.heap.size + 1) W1 wr)
    (fun i _ => c.comps.length - (intOf i).toNat)
  case atStart => exact ⟨0, rfl, by omega, rfl, Below.refl _ _⟩
  case round =>
    obtain ⟨k, rfl, hk, hall, hb1⟩ := hrel
    have E0 := (hb1.cell (p := ⟨w.heap.size, 0, none⟩) (Nat.lt_succ_self _)).trans e0
    have E1 := (hb1.cell (p := ⟨w.heap.size, 1, none⟩) (Nat.lt_succ_self _)).trans e1
    have E2 := (hb1.cell (p := ⟨w.heap.size, 2, none⟩) (Nat.lt_succ_self _)).trans e2
    have E3 := (hb1.cell (p := ⟨w.heap.size, 3, none⟩) (Nat.lt_succ_self _)).trans e3
    have E4 := (hb1.cell (p := ⟨w.heap.size, 4, none⟩) (Nat.lt_succ_self _)).trans e4
    have hb0 : Below w.heap.size w wr := hbel.trans (hb1.mono (by omega))
    have HB1 := Lib.hid hb1
    clear hb1
    by_cases hlt : (k : Int) < c.comps.length
    · have hk' : k < c.comps.length := by omega
      have hAw : rComp.At (fun b => b < w.heap.size) wr A c.comps := Rep.At.keep (w := w) (fun b _ hb => ⟨hb.lt, hb0.block b hb.lt⟩) HX.out
      obtain ⟨b, off, rfl, hb, cx0, cx1, g0, g1⟩ := rComp_at hAw (List.getElem?_eq_getElem hk')
      generalize hxx : c.comps[k] = x at *
      have HXX := Lib.hid hxx
      have HV := Lib.hid (show ∀ W, Below wr.heap.size wr W → rConf.val (fun _ => True) W (.agg #[.int .i64 c.log, .int .i64 c.pages, .int .i64 c.entities, .int .i64 c.gens, .slice (some ⟨b, off, none⟩) c.comps.length cap]) c from
        fun W hW => rConf_agg f0 f1 f2 f3 ⟨hc1, by unfold maxLen; omega, hAw.keep (w := wr) (w' := W) fun b _ hb => ⟨trivial, hW.block b hb.lt⟩⟩)
      have hl : w.heap.size < wr.heap.size := by have := HB1.out.size; omega
      have hbl := hb.lt
      clear hxx hAw
      go_wp2_with fail
      go_region_held3 (fun w' => w'.cell? ⟨w.heap.size, 0, none⟩ = some (.int .i64 c.log) ∧ w'.cell? ⟨w.heap.size, 1, none⟩ = some (.int .i64 c.pages) ∧ w'.cell? ⟨w.heap.size, 2, none⟩ = some (.int .i64 c.entities) ∧ w'.cell? ⟨w.heap.size, 3, none⟩ = some (.int .i64 c.gens) ∧ w'.cell? ⟨w.heap.size, 4, none⟩ = some (.slice (some ⟨b, off, none⟩) c.comps.length cap) ∧ w'.cell? ⟨b, off + k * 2, none⟩ = some (.string ⟨x.name.toArray⟩) ∧ Below wr.heap.size wr w')
        (first
          | exact ⟨E0, E1, E2, E3, E4, cx0, (Below.refl _ _).drew⟩
          | exact ⟨(hbf.cell (p := ⟨w.heap.size, 0, none⟩) hl).trans E0, (hbf.cell (p := ⟨w.heap.size, 1, none⟩) hl).trans E1, (hbf.cell (p := ⟨w.heap.size, 2, none⟩) hl).trans E2, (hbf.cell (p := ⟨w.heap.size, 3, none⟩) hl).trans E3, (hbf.cell (p := ⟨w.heap.size, 4, none⟩) hl).trans E4, (hbf.cell (p := ⟨b, off + k * 2, none⟩) hbl).trans cx0, (Below.refl wr.heap.size wr).drew.trans hbf⟩)
        (first | (go_at_call 33; refine (find_calls (HV.out _ ((Below.refl _ _).drew))).mono ?_; rintro e w' ⟨hbf, i, bb, rfl, hfr⟩))
      rename_i hHeld
      have hW : Below wr.heap.size wr w' := (Below.refl wr.heap.size wr).drew.trans hbf
      have F4 := (hW.cell (p := ⟨w.heap.size, 4, none⟩) hl).trans E4
      have G0 := (hW.cell (p := ⟨b, off + k * 2, none⟩) hbl).trans cx0
      have G1 := (hW.cell (p := ⟨b, off + k * 2 + 1, none⟩) hbl).trans cx1
      have HBW := Lib.hid (HB1.out.trans (hW.mono (by omega)))
      clear hbf hHeld hW E0 E1 E2 E3 E4 cx0 cx1
      rcases hfr with ⟨rfl, hpre, hi, hname⟩ | ⟨_, hno⟩
      · have hik : i ≤ k := by
          rcases Nat.lt_or_ge k i with h | h
          · have hm : x ∈ c.comps.take i := by rw [← HXX.out]; exact List.mem_take_iff_getElem.2 ⟨k, by omega, rfl⟩
            have := List.all_eq_true.1 hpre x hm
            simp at this
          · exact h
        rcases Nat.lt_or_ge i k with hlt2 | hge2
        · have HF := Lib.hid (show confRight c = false by rw [HR.out]; exact range_not_all hk' (compOk_dup hlt2 hk' HXX.out hi rfl hname))
          have hne : ((i : Int) != (k : Int)) = true := by simp; omega
          clear hpre hname hi
          go_wp2_with fail
          go_ret
          exact ⟨by rw [HF.out]; rfl, hbel.trans (HBW.out.mono (by omega))⟩
        · obtain rfl : i = k := by omega
          have hcomp : compOk c.comps i = (nameB x.name && withinB x.size 0 64) := by
            unfold compOk
            rw [List.getElem?_eq_getElem hk', HXX.out]
            simp only [hpre, Bool.true_and]
          have hne : ((i : Int) != (i : Int)) = false := by simp
          clear hpre hname hi hge2
          cases hn : nameB x.name with
          | false =>
            have HN := Lib.hid hn
            have HF := Lib.hid (show confRight c = false by rw [HR.out]; exact range_not_all hk' (by rw [hcomp, hn]; rfl))
            clear hn hcomp
            go_wp2_with (go_at_call 34; refine (rname_calls _ _ g0).mono ?_; rintro e w2 ⟨rfl, nd, rfl⟩; rw [HN.out])
            go_ret
            exact ⟨by rw [HF.out]; rfl, below_drewN (hbel.trans (HBW.out.mono (by omega))) _⟩
          | true =>
            have HN := Lib.hid hn
            by_cases s0 : x.size < 0
            · have HF := Lib.hid (show confRight c = false by rw [HR.out]; exact range_not_all hk' (by rw [hcomp, hn]; simp [withinB]; omega))
              clear hn hcomp
              go_wp2_with (go_at_call 34; refine (rname_calls _ _ g0).mono ?_; rintro e w2 ⟨rfl, nd, rfl⟩; rw [HN.out])
              go_ret
              exact ⟨by rw [HF.out]; rfl, below_drewN (hbel.trans (HBW.out.mono (by omega))) _⟩
            by_cases s1 : 64 < x.size
            · have HF := Lib.hid (show confRight c = false by rw [HR.out]; exact range_not_all hk' (by rw [hcomp, hn]; simp [withinB]; omega))
              clear hn hcomp
              go_wp2_with (go_at_call 34; refine (rname_calls _ _ g0).mono ?_; rintro e w2 ⟨rfl, nd, rfl⟩; rw [HN.out])
              go_ret
              exact ⟨by rw [HF.out]; rfl, below_drewN (hbel.trans (HBW.out.mono (by omega))) _⟩
            have HA := Lib.hid (range_all_succ hall (by rw [hcomp, hn]; simp [withinB]; omega))
            clear hn hcomp
            go_wp2_with (go_at_call 34; refine (rname_calls _ _ g0).mono ?_; rintro e w2 ⟨rfl, nd, rfl⟩; rw [HN.out])
            exact ⟨⟨i + 1, by go_num, by omega, HA, below_drewN HBW.out _⟩, by simp [intOf]; omega⟩
      · exfalso
        have hm : x ∈ c.comps := by rw [← HXX.out]; exact List.getElem_mem hk'
        have := List.all_eq_true.1 hno x hm
        simp at this
    · obtain rfl : k = c.comps.length := by omega
      have HF := Lib.hid (show confRight c = true by rw [HR.out]; exact hall.out)
      clear hall
      go_wp2_with fail
      go_ret
      exact ⟨by rw [HF.out]; rfl, hb0⟩
end Go.Proofs.YtejibngkeaamkaaGreatDoor
namespace Go.Proofs.YtejibngkeaamkaaGreatDoor
open Go.RowKit

theorem heap_setRow {w : World} {b i e : Nat} {cs : Array Value} {v : Value} {f : Nat × Nat} (h : w.heap[b]? = some (.cells cs e f)) : (w.setCell ⟨b, i, none⟩ v).heap[b]? = some (.cells (cs.setIfInBounds i v) e f) := by
  simp [World.setCell, Array.getElem?_modify, h]
end Go.Proofs.YtejibngkeaamkaaGreatDoor
namespace Go.Proofs.YtejibngkeaamkaaGreatDoor
open Go.RowKit

set_option maxHeartbeats 400000 in
theorem sameList {Q Q' : Nat → Prop} {w : World} {v u : Value} {xs ys : List Int} (hx : (Rep.int .i64).list.val Q w v xs) (hy : (Rep.int .i64).list.val Q' w u ys) :
    Calls Tryz.prog 37 #[v, u] w fun e w' => e = .returned (.bool (decide (xs = ys))) ∧ ∃ n, w' = w.drewN n := by
  obtain ⟨A, c, rfl, hc1, hc2, hA⟩ := Rep.val_list hx
  obtain ⟨B, d, rfl, hd1, hd2, hB⟩ := Rep.val_list hy
  clear hx hy
  unfold maxLen at hc2 hd2
  by_cases hlen : xs.length = ys.length
  · have hne : ((xs.length : Int) != (ys.length : Int)) = false := by simp [hlen]
    have H := Lib.hid hlen
    clear hlen
    go_enter Tryz.func37, Tryz.ntmps37
    go_wp2_with fail
    go_loopw [5] (fun i wr => ∃ k : Nat, i = .int .i64 k ∧ k ≤ xs.length ∧ xs.take k = ys.take k ∧ ∃ n, w.drewN n = wr) (fun i _ => xs.length - (intOf i).toNat)
    case atStart => exact ⟨0, rfl, Nat.zero_le _, by simp, 0, rfl⟩
    case round =>
      obtain ⟨k, rfl, hk, htk, n, rfl⟩ := hrel
      by_cases hlt : k < xs.length
      · obtain ⟨b, off, rfl, cx, wx⟩ := hA.int (List.getElem?_eq_getElem hlt)
        have hlt' : k < ys.length := by rw [← H.out]; exact hlt
        obtain ⟨b', off', rfl, cy, wy⟩ := hB.int (List.getElem?_eq_getElem hlt')
        have T := Lib.hid htk
        clear htk
        have i1 : (k : Int) < (xs.length : Int) := by omega
        have i2 : (k : Int) < (ys.length : Int) := by omega
        generalize hX : xs[k] = x at *
        generalize hY : ys[k] = y at *
        have HX := Lib.hid hX
        have HY := Lib.hid hY
        clear hX hY
        by_cases hxy : x = y
        · have g1 : (x != y) = false := by simp [hxy]
          have HXY := Lib.hid hxy
          clear hxy
          go_wp2_with fail
          go_quiet (fail)
          go_wp2_with fail
          go_roundw
          case rel => exact ⟨k + 1, by go_num, by omega, by rw [List.take_succ_eq_append_getElem hlt, List.take_succ_eq_append_getElem hlt', T.out, HX.out, HY.out, HXY.out], _, rfl⟩
          case measure => simp [intOf]; omega
        · have g1 : (x != y) = true := by simp [hxy]
          have HXY := Lib.hid hxy
          clear hxy
          go_wp2_with fail
          go_quiet (fail)
          go_wp2_with fail
          go_ret
          refine ⟨?_, by rw [World.drewN_drewN]; exact ⟨_, rfl⟩⟩
          have : ¬ xs = ys := by rintro rfl; exact HXY.out (HX.out.symm.trans HY.out)
          simp [this]
      · have hk' : k = xs.length := by omega
        have hall : xs = ys := by rw [← List.take_length (l := xs), ← hk', htk, hk', H.out, List.take_length]
        have HA := Lib.hid hall
        have HK := Lib.hid hk'
        clear hall hk' htk
        have i1 : ¬ (k : Int) < (xs.length : Int) := by omega
        go_wp2_with fail
        go_ret
        exact ⟨by simp [HA.out], _, rfl⟩
  · have hne : ((xs.length : Int) != (ys.length : Int)) = true := by simp; omega
    have H := Lib.hid hlen
    clear hlen
    go_enter Tryz.func37, Tryz.ntmps37
    go_wp2_with fail
    go_ret
    refine ⟨?_, 0, rfl⟩
    have : ¬ xs = ys := by rintro rfl; exact H.out rfl
    simp [this]
end Go.Proofs.YtejibngkeaamkaaGreatDoor
namespace Go.Proofs.YtejibngkeaamkaaGreatDoor
open Go.RowKit

theorem cell_row {w : World} {b e : Nat} {cs : Array Value} {f : Nat × Nat} (h : w.heap[b]? = some (.cells cs e f)) (i : Nat) : w.cell? ⟨b, i, none⟩ = cs[i]? := by simp [World.cell?, h]
theorem frozen_row {w : World} {b e : Nat} {cs : Array Value} (h : w.heap[b]? = some (.cells cs e (0, 0))) (i : Nat) : w.frozen? ⟨b, i, none⟩ = false := by simp [World.frozen?, h]
end Go.Proofs.YtejibngkeaamkaaGreatDoor
namespace Go.Proofs.YtejibngkeaamkaaGreatDoor
open Go.RowKit

section
variable {n l : Nat} {P : Program} {ops : Array Oper} {Q : Exit → Act → World → Prop} {md : Region.Mode}

end

/-- 'append' as0 one operation. -/
theorem exec_append {P : Program} {o : Oper} {a : Act} {w w' : World} {s x : Operand} {t : TypeId} {v u v' : Value} (ho : o.op = .call { callee := .builtin .append, args := #[s, x], argTypes := #[t, t] })
    (hs : a.eval s = v) (hx : a.eval x = u) (h : (Builtin.append_ #[t, t] o.type #[v, u]).run P w = .ok v' w') : (execOp a.eval o).run P w = .ok (.value v') w' := by
  unfold execOp
  simp only [ho, resolve, invoke, builtin, Sem.run_bind, Sem.run_pure, Result.andThen_ok, List.map_toArray, List.map_cons, List.map_nil, hs, hx, h]

theorem KeepsOthers.of_below {W W' : World} (h : Below W.heap.size W W') : KeepsOthers W W' := ⟨h.size, fun k _ hk _ => (h.block k (Array.getElem?_eq_some_iff.1 hk).1).trans hk⟩

end Go.Proofs.YtejibngkeaamkaaGreatDoor
namespace Go.Proofs.YtejibngkeaamkaaGreatDoor
open Go.RowKit

/-- What waits for number i, by one or more steps (and i itself). -/
def behind (md : Region.Mode) (ops : Array Oper) (i : Nat) : List Nat :=
  (List.range ops.size).foldl (fun acc j => if (ops[j]?).any (fun o => o.after.any fun e => Region.binds md e && acc.contains e.on) then j :: acc else acc) [i]
def tailed (md : Region.Mode) (ops : Array Oper) (listed : Array Bool) (T : List Nat) (i : Nat) : Bool :=
  ((behind md ops i).all fun d => !listed.getD d false) && T.all fun j => j == i || listed.getD j false || (behind md ops i).contains j

section
variable {P : Program} {ops : Array Oper} {Q : Exit → Act → World → Prop} {md : Region.Mode} {S : World → Prop} {T : List Nat}

theorem behind_spec (md : Region.Mode) (ops : Array Oper) (i : Nat) : ∀ d ∈ behind md ops i, d = i ∨ ∃ o, ops[d]? = some o ∧ ∃ e ∈ o.after, Region.binds md e = true ∧ e.on ∈ behind md ops i := by
  have key : ∀ (l : List Nat) (acc : List Nat), (∀ d ∈ acc, d = i ∨ ∃ o, ops[d]? = some o ∧ ∃ e ∈ o.after, Region.binds md e = true ∧ e.on ∈ acc) →
      ∀ d ∈ l.foldl (fun acc j => if (ops[j]?).any (fun o => o.after.any fun e => Region.binds md e && acc.contains e.on) then j :: acc else acc) acc,
        d = i ∨ ∃ o, ops[d]? = some o ∧ ∃ e ∈ o.after, Region.binds md e = true ∧ e.on ∈ l.foldl (fun acc j => if (ops[j]?).any (fun o => o.after.any fun e => Region.binds md e && acc.contains e.on) then j :: acc else acc) acc := by
    intro l
    induction l with
    | nil => intro acc h; exact h
    | cons j l ih =>
      intro acc h
      simp only [List.foldl_cons]
      refine ih _ ?_
      split
      · rename_i hc
        intro d hd
        rcases List.mem_cons.1 hd with rfl | hd
        · right
          cases ho : ops[d]? with
          | none => rw [ho] at hc; cases hc
          | some o =>
            rw [ho] at hc
            simp only [Option.any_some, Array.any_eq_true'] at hc
            obtain ⟨e, he, hb⟩ := hc
            simp only [Bool.and_eq_true, List.contains_iff_mem] at hb
            exact ⟨o, rfl, e, he, hb.1, by simp [hb.2]⟩
        · rcases h d hd with rfl | ⟨o, ho, e, he, hb, hm⟩
          · exact .inl rfl
          · exact .inr ⟨o, ho, e, he, hb, by simp [hm]⟩
      · exact h
  exact key _ _ (by simp)

/-- While all that waits for i is not listed, none of it comes up. -/
theorem not_ready {listed : Array Bool} {i j : Nat} (hb : ∀ d ∈ behind md ops i, listed.getD d false = false) (hj : j ∈ Region.ready md ops listed) (hji : j ≠ i) : j ∉ behind md ops i := fun hm => by
  obtain ⟨_, o, ho, hall⟩ := mem_ready.1 hj
  rcases behind_spec md ops i j hm with h | ⟨o', ho', e, he, hbd, hme⟩
  · exact hji h
  · rw [ho] at ho'
    cases ho'
    have h1 := hall e he hbd
    rw [hb _ hme] at h1
    cases h1

def wpAnyT (P : Program) (md : Region.Mode) (ops : Array Oper) (Q : Exit → Act → World → Prop) (S : World → Prop) (T : List Nat) : Nat → Array Bool → Act → World → Prop
  | 0, listed, a, w => Region.ready md ops listed = [] ∧ Q .normal a w
  | fuel + 1, listed, a, w =>
    (Region.ready md ops listed = [] → Q .normal a w) ∧
    ∀ i ∈ Region.ready md ops listed, wpOp P ops Q i (fun a' w' => (i ∉ T → S w') ∧ wpAnyT P md ops Q S T fuel (listed.setIfInBounds i true) a' w') a w

theorem wpAny_of_tail : ∀ (fuel : Nat) (listed : Array Bool) (a : Act) (w : World), wpAnyT P md ops Q S T fuel listed a w → wpAny P md ops Q fuel listed a w
  | 0, _, _, _, h => h
  | fuel + 1, _, _, _, h => ⟨h.1, fun i hi => wpOp_mono (fun a' w' h' => wpAny_of_tail fuel _ a' w' h'.2) (h.2 i hi)⟩

theorem wpAnyT_first {i : Nat} {oi : Oper} {v : Value} (hi : ops[i]? = some oi) (hsel : ∀ (j : Nat) (o : Oper) cs b, ops[j]? = some o → o.op ≠ .select cs b)
    (hQ : ∀ c a w, Q (.panic c) (a.put oi.dst v) w → Q (.panic c) a w) :
    ∀ (fuel : Nat) (listed : Array Bool) (a : Act) (w : World),
      (∀ j oj, ops[j]? = some oj → j ≠ i → listed.getD j true = false → (∀ e ∈ oj.after, Region.binds md e = true → e.on ≠ i) → oi.apart ops oj = true) →
      (∀ d ∈ behind md ops i, listed.getD d false = false) → (∀ j ∈ T, j = i ∨ listed.getD j false = true ∨ j ∈ behind md ops i) →
      i ∈ Region.ready md ops listed → YieldsIf P ops S oi v a → S w →
      wpAnyT P md ops Q S T fuel (listed.setIfInBounds i true) (a.put oi.dst v) w → wpAnyT P md ops Q S T (fuel + 1) listed a w := by
  intro fuel
  induction fuel with
  | zero =>
    intro listed a w _ _ _ hr hy hS H
    refine ⟨fun h => (by rw [h] at hr; cases hr), fun j hj => ?_⟩
    by_cases hji : j = i
    · subst hji; exact hy.wpOp hi hS ⟨fun _ => hS, H⟩
    · have := ready_mono hj hji
      rw [H.1] at this
      cases this
  | succ fuel ih =>
    intro listed a w hfree hbh hT hr hy hS H
    refine ⟨fun h => (by rw [h] at hr; cases hr), fun j hj => ?_⟩
    by_cases hji : j = i
    · subst hji; exact hy.wpOp hi hS ⟨fun _ => hS, H⟩
    · have hjb := not_ready hbh hj hji
      have h1 := H.2 j (ready_mono hj hji)
      obtain ⟨hjun, oj, hoj, hall⟩ := mem_ready.1 hj
      have hjT : j ∉ T := fun hm => by
        rcases hT j hm with h | h | h
        · exact hji h
        · rcases Nat.lt_or_ge j listed.size with h' | h'
          · simp [h'] at h hjun; rw [hjun] at h; cases h
          · simp [Array.getElem?_eq_none h'] at h
        · exact hjb h
      have hnot : ∀ e ∈ oj.after, Region.binds md e = true → e.on ≠ i := fun e he hb heq => by
        have h1 := hall e he hb
        have h0 := (mem_ready.1 hr).1
        rw [heq] at h1
        rcases Nat.lt_or_ge i listed.size with h' | h'
        · simp [h'] at h0 h1; rw [h0] at h1; cases h1
        · simp [Array.getElem?_eq_none h'] at h1
      have h2 := wpOp_putIf hoj (hfree j oj hoj hji hjun hnot) (fun cs b => hsel i oi cs b hi) (fun cs b => hsel j oj cs b hoj) hQ hy h1
      have hfree' : ∀ k ok, ops[k]? = some ok → k ≠ i → (listed.setIfInBounds j true).getD k true = false →
          (∀ e ∈ ok.after, Region.binds md e = true → e.on ≠ i) → oi.apart ops ok = true := fun k ok hk hki hun hno => by
        refine hfree k ok hk hki ?_ hno
        by_cases hjk : j = k
        · subst hjk; exact hjun
        · rw [getD_set_ne true hjk] at hun; exact hun
      have hbh' : ∀ d ∈ behind md ops i, (listed.setIfInBounds j true).getD d false = false := fun d hd => by
        rw [getD_set_ne (i := j) (j := d) false (fun e => hjb (by rw [e]; exact hd))]; exact hbh d hd
      refine wpOp_mono (fun a' w' h3 => ⟨h3.2.1, ih (listed.setIfInBounds j true) a' w' hfree' hbh' (fun k hk => (hT k hk).imp id (Or.imp getD_set_true id)) (ready_mono hr (Ne.symm hji)) h3.1 (h3.2.1 hjT) ?_⟩) h2
      rw [Array.setIfInBounds_comm _ _ hji]
      exact h3.2.2

theorem wpAnyT_take {i : Nat} {oi : Oper} {v : Value} {fuel : Nat} {listed : Array Bool} {a : Act} {w : World} (hi : ops[i]? = some oi)
    (hs : Region.noSelect ops = true) (hf : Region.free md ops listed i = true) (hr : (Region.ready md ops listed).contains i = true) (ht : tailed md ops listed T i = true)
    (hQ : ∀ c a w, Q (.panic c) (a.put oi.dst v) w → Q (.panic c) a w) (hy : YieldsIf P ops S oi v a) (hS : S w)
    (h : wpAnyT P md ops Q S T fuel (listed.setIfInBounds i true) (a.put oi.dst v) w) : wpAnyT P md ops Q S T (fuel + 1) listed a w := by
  simp only [tailed, Bool.and_eq_true, List.all_eq_true, Bool.or_eq_true, Bool.not_eq_true', beq_iff_eq, List.contains_iff_mem] at ht
  exact wpAnyT_first hi (Region.noSelect_spec hs) hQ fuel listed a w (Region.free_spec hi hf) ht.1 (fun j hj => by rcases ht.2 j hj with (h | h) | h <;> simp [h]) (by simpa using hr) hy hS h

theorem wpAnyT_first0 {i : Nat} {oi : Oper} {v : Value} (hi : ops[i]? = some oi) (hsel : ∀ (j : Nat) (o : Oper) cs b, ops[j]? = some o → o.op ≠ .select cs b)
    (hQ : ∀ c a w, Q (.panic c) (a.put oi.dst v) w → Q (.panic c) a w) (hT : i ∈ T) :
    ∀ (fuel : Nat) (listed : Array Bool) (a : Act) (w : World),
      (∀ j oj, ops[j]? = some oj → j ≠ i → listed.getD j true = false → (∀ e ∈ oj.after, Region.binds md e = true → e.on ≠ i) → oi.apart ops oj = true) →
      i ∈ Region.ready md ops listed → YieldsIf P ops (fun _ => True) oi v a →
      wpAnyT P md ops Q S T fuel (listed.setIfInBounds i true) (a.put oi.dst v) w → wpAnyT P md ops Q S T (fuel + 1) listed a w := by
  intro fuel
  induction fuel with
  | zero =>
    intro listed a w _ hr hy H
    refine ⟨fun h => (by rw [h] at hr; cases hr), fun j hj => ?_⟩
    by_cases hji : j = i
    · subst hji; exact hy.wpOp hi trivial ⟨fun h => absurd hT h, H⟩
    · have := ready_mono hj hji
      rw [H.1] at this
      cases this
  | succ fuel ih =>
    intro listed a w hfree hr hy H
    refine ⟨fun h => (by rw [h] at hr; cases hr), fun j hj => ?_⟩
    by_cases hji : j = i
    · subst hji; exact hy.wpOp hi trivial ⟨fun h => absurd hT h, H⟩
    · have h1 := H.2 j (ready_mono hj hji)
      obtain ⟨hjun, oj, hoj, hall⟩ := mem_ready.1 hj
      have hnot : ∀ e ∈ oj.after, Region.binds md e = true → e.on ≠ i := fun e he hb heq => by
        have h1 := hall e he hb
        have h0 := (mem_ready.1 hr).1
        rw [heq] at h1
        rcases Nat.lt_or_ge i listed.size with h' | h'
        · simp [h'] at h0 h1; rw [h0] at h1; cases h1
        · simp [Array.getElem?_eq_none h'] at h1
      have h2 := wpOp_putIf hoj (hfree j oj hoj hji hjun hnot) (fun cs b => hsel i oi cs b hi) (fun cs b => hsel j oj cs b hoj) hQ hy h1
      have hfree' : ∀ k ok, ops[k]? = some ok → k ≠ i → (listed.setIfInBounds j true).getD k true = false →
          (∀ e ∈ ok.after, Region.binds md e = true → e.on ≠ i) → oi.apart ops ok = true := fun k ok hk hki hun hno => by
        refine hfree k ok hk hki ?_ hno
        by_cases hjk : j = k
        · subst hjk; exact hjun
        · rw [getD_set_ne true hjk] at hun; exact hun
      refine wpOp_mono (fun a' w' h3 => ⟨h3.2.1, ih (listed.setIfInBounds j true) a' w' hfree' (ready_mono hr (Ne.symm hji)) h3.1 ?_⟩) h2
      rw [Array.setIfInBounds_comm _ _ hji]
      exact h3.2.2
/-- A move that is wanted at the end alone: it yields in whatever world. -/
theorem wpAnyT_take0 {i : Nat} {oi : Oper} {v : Value} {fuel : Nat} {listed : Array Bool} {a : Act} {w : World} (hi : ops[i]? = some oi)
    (hs : Region.noSelect ops = true) (hf : Region.free md ops listed i = true) (hr : (Region.ready md ops listed).contains i = true) (ht : T.contains i = true)
    (hQ : ∀ c a w, Q (.panic c) (a.put oi.dst v) w → Q (.panic c) a w) (hy : YieldsIf P ops (fun _ => True) oi v a)
    (h : wpAnyT P md ops Q S T fuel (listed.setIfInBounds i true) (a.put oi.dst v) w) : wpAnyT P md ops Q S T (fuel + 1) listed a w :=
  wpAnyT_first0 hi (Region.noSelect_spec hs) hQ (List.contains_iff_mem.1 ht) fuel listed a w (Region.free_spec hi hf) (by simpa using hr) hy h

theorem wpAnyT_one {i : Nat} {o : Oper} {fuel : Nat} {listed : Array Bool} {a : Act} {w : World} (ho : ops[i]? = some o) (hr : Region.ready md ops listed = [i]) (hT : T.contains i = false)
    (h : ∀ K' : Act → World → Prop, (∀ a w, S w ∧ wpAnyT P md ops Q S T fuel (listed.setIfInBounds i true) a w → K' a w) → if Region.wanted o (yielded ops a.tmps) = true then Oper.wp P o a w K' Q else K' (a.put o.dst undef) w) : wpAnyT P md ops Q S T (fuel + 1) listed a w :=
  ⟨fun h0 => (by rw [hr] at h0; cases h0), fun j hj => by
    rw [hr] at hj
    obtain rfl : j = i := by simpa using hj
    exact wpOp_step ho fun K' hK => h K' fun a w hs => hK a w ⟨fun _ => hs.1, hs.2⟩⟩
theorem wpAnyT_last {i : Nat} {o : Oper} {fuel : Nat} {listed : Array Bool} {a : Act} {w : World} (ho : ops[i]? = some o) (hr : Region.ready md ops listed = [i]) (hT : T.contains i = true)
    (h : ∀ K' : Act → World → Prop, (∀ a w, wpAnyT P md ops Q S T fuel (listed.setIfInBounds i true) a w → K' a w) → if Region.wanted o (yielded ops a.tmps) = true then Oper.wp P o a w K' Q else K' (a.put o.dst undef) w) : wpAnyT P md ops Q S T (fuel + 1) listed a w :=
  ⟨fun h0 => (by rw [hr] at h0; cases h0), fun j hj => by
    rw [hr] at hj
    obtain rfl : j = i := by simpa using hj
    exact wpOp_step ho fun K' hK => h K' fun a w hs => hK a w ⟨fun hn => absurd (List.contains_iff_mem.1 hT) hn, hs⟩⟩
theorem wpAnyT_done {listed : Array Bool} {a : Act} {w : World} (hr : Region.ready md ops listed = []) (h : Q .normal a w) :
    ∀ fuel, wpAnyT P md ops Q S T fuel listed a w
  | 0 => ⟨hr, h⟩
  | _ + 1 => ⟨fun _ => h, by rw [hr]; simp⟩

theorem wp_region_tail {id : Nat} {a : Act} {w : World} (hm : P.follows .mixedOrders = true) (hS : S w.drew)
    (h : S w.drew → wpAnyT P .any ops Q S T ops.size (Array.replicate ops.size false) a w.drew) : (Code.region id ops true).wp P Q a w :=
  wp_region_any hm (wpAny_of_tail _ _ _ _ (h hS))
end

/-- 'append(s, x)' in a region that draws its order, behind the making of the slice [x]. -/
theorem step_snoc2 {α : Type} {r : Rep α} {e base : Nat} {Q : Nat → Prop} {P : Program} {w : World} {ops : Array Oper} {o : Oper} {a : Act} {K : Act → World → Prop} {R : Exit → Act → World → Prop} {E : Prop} (hg : o.guard = none) (s x : Operand) (t : TypeId)
    (ho : o.op = .call { callee := .builtin .append, args := #[s, x], argTypes := #[t, t] })
    (z : Value) (size bytes : Nat) (ht : P.underlying t = some (.slice e)) (hi : (P.info? e).map (fun i => (i.zero, i.size, i.bytes)) = some (some z, size, bytes)) (hzs : z.cells.size = size) (hsz : 0 < size)
    (hr : r.size = size) (v : Value) (xs : List α) (hs : a.eval s = v) (h : r.acc e base Q w v xs) (y : α) (vy : Value) (hy : r.val (fun b => Q b ∧ v.ownBlock ≠ some b) w vy y) (hx : a.eval x = .slice (some ⟨w.heap.size, 0, none⟩) 1 1)
    (h63 : xs.length + 1 ≤ maxLen) (hbytes : (xs.length + 1) * bytes ≤ 140737488355328) (hbase : base ≤ w.heap.size)
    (H : ∀ v' w', r.acc e base Q w' v' (xs ++ [y]) → w.grownBy w' v.ownBlock → (v'.ownBlock = v.ownBlock ∨ v'.ownBlock = some (w.heap.size + 1)) → K (a.put o.dst v') w') :
    if Region.wanted o (yielded ops a.tmps) = true then Oper.wp P o a (w.alloc (.cells vy.cells e)) K R else E := by
  have hw : Region.wanted o (yielded ops a.tmps) = true := by simp [Region.wanted, hg]
  rw [if_pos hw]
  obtain ⟨cs, hv, hrd⟩ := hy
  have hcells : vy.cells.toList = cs := by rw [hv]; exact r.back hrd
  have hkeep : ∀ b, b < w.heap.size → (w.alloc (.cells vy.cells e)).heap[b]? = w.heap[b]? := fun b hb => Below.heap_alloc _ _ _ hb
  have hacc' : r.acc e base Q (w.alloc (.cells vy.cells e)) v xs := Rep.acc_keep (fun b _ hl => hkeep b hl.lt) (fun _ hb _ => hb) h
  have hbn : (w.alloc (.cells vy.cells e)).heap[w.heap.size]? = some (.cells vy.cells e) := heap_alloc_new w _
  obtain ⟨v', w', q1, q2, q3, q4⟩ := Rep.acc_more (P := P) (w := w.alloc (.cells vy.cells e)) (ty := o.type) (ys := [y]) (A := some ⟨w.heap.size, 0, none⟩) (m := 1) (c := 1) (es := cs)
    ht hi hzs hsz hr hacc' rfl
    (Rep.row_one_elem (r.keep (fun b hb hl => ⟨hb, hkeep b hl.lt⟩) hrd)) (fun _ => ⟨w.heap.size, 0, rfl, fun j u hj => by
      rw [cell_of_row _ _ _ _ _ _ hbn, Nat.zero_add, ← hj, ← hcells]; simp⟩)
    (by simpa using h63) (by simpa using hbytes) (by simp; omega)
  unfold Oper.wp
  rw [exec_append ho hs hx q1]
  exact H _ _ q2 ((World.grownBy_alloc w _ _).trans q3) (by simpa using q4)

end Go.Proofs.YtejibngkeaamkaaGreatDoor
namespace Go.Proofs.YtejibngkeaamkaaGreatDoor
open Go.RowKit

theorem tkT {P : Program} {md : Region.Mode} {ops : Array Oper} {Q : Exit → Act → World → Prop} {S : World → Prop} {T : List Nat} {i : Nat} {oi : Oper} {v : Value} {fuel : Nat} {listed : Array Bool} {a : Act} {w : World} (hi : ops[i]? = some oi) (hy : YieldsIf P ops S oi v a) (hS : S w)
    (h : wpAnyT P md ops Q S T fuel (listed.setIfInBounds i true) (a.put oi.dst v) w)
    (hs : Region.noSelect ops = true := by kernel_rfl) (hf : Region.free md ops listed i = true := by kernel_rfl) (hr : (Region.ready md ops listed).contains i = true := by kernel_rfl) (ht : tailed md ops listed T i = true := by kernel_rfl)
    (hQ : ∀ c a w, Q (.panic c) (a.put oi.dst v) w → Q (.panic c) a w := by exact fun _ _ _ h => h) : wpAnyT P md ops Q S T (fuel + 1) listed a w := wpAnyT_take hi hs hf hr ht hQ hy hS h
theorem tkTV {P : Program} {md : Region.Mode} {ops : Array Oper} {Q : Exit → Act → World → Prop} {S : World → Prop} {T : List Nat} {i : Nat} {oi : Oper} {v : Value} {fuel : Nat} {listed : Array Bool} {a : Act} {w : World} (hi : ops[i]? = some oi) (hS : S w)
    (h : wpAnyT P md ops Q S T fuel (listed.setIfInBounds i true) (a.put oi.dst v) w) (hy : YieldsIf P ops S oi v a := by exact Or.inl ⟨by rfl, fun w' _ => by go_simp <;> omega⟩)
    (hs : Region.noSelect ops = true := by kernel_rfl) (hf : Region.free md ops listed i = true := by kernel_rfl) (hr : (Region.ready md ops listed).contains i = true := by kernel_rfl) (ht : tailed md ops listed T i = true := by kernel_rfl)
    (hQ : ∀ c a w, Q (.panic c) (a.put oi.dst v) w → Q (.panic c) a w := by exact fun _ _ _ h => h) : wpAnyT P md ops Q S T (fuel + 1) listed a w := wpAnyT_take hi hs hf hr ht hQ hy hS h
theorem tk0 {P : Program} {md : Region.Mode} {ops : Array Oper} {Q : Exit → Act → World → Prop} {S : World → Prop} {T : List Nat} {i : Nat} {oi : Oper} {v : Value} {fuel : Nat} {listed : Array Bool} {a : Act} {w : World} (hi : ops[i]? = some oi) (hy : YieldsIf P ops (fun _ => True) oi v a)
    (h : wpAnyT P md ops Q S T fuel (listed.setIfInBounds i true) (a.put oi.dst v) w)
    (hs : Region.noSelect ops = true := by kernel_rfl) (hf : Region.free md ops listed i = true := by kernel_rfl) (hr : (Region.ready md ops listed).contains i = true := by kernel_rfl) (ht : T.contains i = true := by kernel_rfl)
    (hQ : ∀ c a w, Q (.panic c) (a.put oi.dst v) w → Q (.panic c) a w := by exact fun _ _ _ h => h) : wpAnyT P md ops Q S T (fuel + 1) listed a w := wpAnyT_take0 hi hs hf hr ht hQ hy h
theorem tkH {P : Program} {md : Region.Mode} {ops : Array Oper} {Q : Exit → Act → World → Prop} {S : World → Prop} {i : Nat} {oi : Oper} {v : Value} {fuel : Nat} {listed : Array Bool} {a : Act} {w : World} (hi : ops[i]? = some oi) (hy : YieldsIf P ops S oi v a) (hS : S w)
    (h : wpAnyH P md ops Q S fuel (listed.setIfInBounds i true) (a.put oi.dst v) w)
    (hs : Region.noSelect ops = true := by kernel_rfl) (hf : Region.free md ops listed i = true := by kernel_rfl) (hr : (Region.ready md ops listed).contains i = true := by kernel_rfl)
    (hQ : ∀ c a w, Q (.panic c) (a.put oi.dst v) w → Q (.panic c) a w := by exact fun _ _ _ h => h) : wpAnyH P md ops Q S (fuel + 1) listed a w := wpAnyH_take hi hs hf hr hQ hy hS h
theorem tkHV {P : Program} {md : Region.Mode} {ops : Array Oper} {Q : Exit → Act → World → Prop} {S : World → Prop} {i : Nat} {oi : Oper} {v : Value} {fuel : Nat} {listed : Array Bool} {a : Act} {w : World} (hi : ops[i]? = some oi) (hS : S w)
    (h : wpAnyH P md ops Q S fuel (listed.setIfInBounds i true) (a.put oi.dst v) w) (hy : YieldsIf P ops S oi v a := by exact Or.inl ⟨by rfl, fun w' _ => by go_simp <;> omega⟩)
    (hs : Region.noSelect ops = true := by kernel_rfl) (hf : Region.free md ops listed i = true := by kernel_rfl) (hr : (Region.ready md ops listed).contains i = true := by kernel_rfl)
    (hQ : ∀ c a w, Q (.panic c) (a.put oi.dst v) w → Q (.panic c) a w := by exact fun _ _ _ h => h) : wpAnyH P md ops Q S (fuel + 1) listed a w := wpAnyH_take hi hs hf hr hQ hy hS h
theorem row_nm {W X : World} {b : Nat} {y : Obj} (h : W = X) (r : X.heap[b]? = some y) : W.heap[b]? = some y := h ▸ r
theorem rw1 {w : World} {b e : Nat} {cs : Array Value} (h : w.heap[b]? = some (.cells cs e (0, 0))) : w.cell? ⟨b, 0, none⟩ = cs[0]? ∧ w.frozen? ⟨b, 0, none⟩ = false := ⟨cell_row h 0, frozen_row h 0⟩
theorem rw4 {w : World} {b e : Nat} {cs : Array Value} (h : w.heap[b]? = some (.cells cs e (0, 0))) : w.cell? ⟨b, 0, none⟩ = cs[0]? ∧ w.frozen? ⟨b, 0, none⟩ = false ∧ w.cell? ⟨b, 1, none⟩ = cs[1]? ∧ w.frozen? ⟨b, 1, none⟩ = false ∧ w.cell? ⟨b, 2, none⟩ = cs[2]? ∧ w.frozen? ⟨b, 2, none⟩ = false ∧ w.cell? ⟨b, 3, none⟩ = cs[3]? ∧ w.frozen? ⟨b, 3, none⟩ = false := ⟨cell_row h 0, frozen_row h 0, cell_row h 1, frozen_row h 1, cell_row h 2, frozen_row h 2, cell_row h 3, frozen_row h 3⟩
theorem rw5 {w : World} {b e : Nat} {cs : Array Value} (h : w.heap[b]? = some (.cells cs e (0, 0))) : w.cell? ⟨b, 0, none⟩ = cs[0]? ∧ w.frozen? ⟨b, 0, none⟩ = false ∧ w.cell? ⟨b, 1, none⟩ = cs[1]? ∧ w.frozen? ⟨b, 1, none⟩ = false ∧ w.cell? ⟨b, 2, none⟩ = cs[2]? ∧ w.frozen? ⟨b, 2, none⟩ = false ∧ w.cell? ⟨b, 3, none⟩ = cs[3]? ∧ w.frozen? ⟨b, 3, none⟩ = false ∧ w.cell? ⟨b, 4, none⟩ = cs[4]? ∧ w.frozen? ⟨b, 4, none⟩ = false := ⟨cell_row h 0, frozen_row h 0, cell_row h 1, frozen_row h 1, cell_row h 2, frozen_row h 2, cell_row h 3, frozen_row h 3, cell_row h 4, frozen_row h 4⟩
theorem rw6 {w : World} {b e : Nat} {cs : Array Value} (h : w.heap[b]? = some (.cells cs e (0, 0))) : w.cell? ⟨b, 0, none⟩ = cs[0]? ∧ w.frozen? ⟨b, 0, none⟩ = false ∧ w.cell? ⟨b, 1, none⟩ = cs[1]? ∧ w.frozen? ⟨b, 1, none⟩ = false ∧ w.cell? ⟨b, 2, none⟩ = cs[2]? ∧ w.frozen? ⟨b, 2, none⟩ = false ∧ w.cell? ⟨b, 3, none⟩ = cs[3]? ∧ w.frozen? ⟨b, 3, none⟩ = false ∧ w.cell? ⟨b, 4, none⟩ = cs[4]? ∧ w.frozen? ⟨b, 4, none⟩ = false ∧ w.cell? ⟨b, 5, none⟩ = cs[5]? ∧ w.frozen? ⟨b, 5, none⟩ = false := ⟨cell_row h 0, frozen_row h 0, cell_row h 1, frozen_row h 1, cell_row h 2, frozen_row h 2, cell_row h 3, frozen_row h 3, cell_row h 4, frozen_row h 4, cell_row h 5, frozen_row h 5⟩
theorem cl6 {w : World} {b e : Nat} {cs : Array Value} {f : Nat × Nat} (h : w.heap[b]? = some (.cells cs e f)) : w.cell? ⟨b, 0, none⟩ = cs[0]? ∧ w.cell? ⟨b, 1, none⟩ = cs[1]? ∧ w.cell? ⟨b, 2, none⟩ = cs[2]? ∧ w.cell? ⟨b, 3, none⟩ = cs[3]? ∧ w.cell? ⟨b, 4, none⟩ = cs[4]? ∧ w.cell? ⟨b, 5, none⟩ = cs[5]? := ⟨cell_row h 0, cell_row h 1, cell_row h 2, cell_row h 3, cell_row h 4, cell_row h 5⟩
theorem rw12 {w : World} {b e : Nat} {cs : Array Value} (h : w.heap[b]? = some (.cells cs e (0, 0))) : w.cell? ⟨b, 0, none⟩ = cs[0]? ∧ w.frozen? ⟨b, 0, none⟩ = false ∧ w.cell? ⟨b, 1, none⟩ = cs[1]? ∧ w.frozen? ⟨b, 1, none⟩ = false ∧ w.cell? ⟨b, 2, none⟩ = cs[2]? ∧ w.frozen? ⟨b, 2, none⟩ = false ∧ w.cell? ⟨b, 3, none⟩ = cs[3]? ∧ w.frozen? ⟨b, 3, none⟩ = false ∧ w.cell? ⟨b, 4, none⟩ = cs[4]? ∧ w.frozen? ⟨b, 4, none⟩ = false ∧ w.cell? ⟨b, 5, none⟩ = cs[5]? ∧ w.frozen? ⟨b, 5, none⟩ = false ∧ w.cell? ⟨b, 6, none⟩ = cs[6]? ∧ w.frozen? ⟨b, 6, none⟩ = false ∧ w.cell? ⟨b, 7, none⟩ = cs[7]? ∧ w.frozen? ⟨b, 7, none⟩ = false ∧ w.cell? ⟨b, 8, none⟩ = cs[8]? ∧ w.frozen? ⟨b, 8, none⟩ = false ∧ w.cell? ⟨b, 9, none⟩ = cs[9]? ∧ w.frozen? ⟨b, 9, none⟩ = false ∧ w.cell? ⟨b, 10, none⟩ = cs[10]? ∧ w.frozen? ⟨b, 10, none⟩ = false ∧ w.cell? ⟨b, 11, none⟩ = cs[11]? ∧ w.frozen? ⟨b, 11, none⟩ = false := ⟨cell_row h 0, frozen_row h 0, cell_row h 1, frozen_row h 1, cell_row h 2, frozen_row h 2, cell_row h 3, frozen_row h 3, cell_row h 4, frozen_row h 4, cell_row h 5, frozen_row h 5, cell_row h 6, frozen_row h 6, cell_row h 7, frozen_row h 7, cell_row h 8, frozen_row h 8, cell_row h 9, frozen_row h 9, cell_row h 10, frozen_row h 10, cell_row h 11, frozen_row h 11⟩
theorem cl12 {w : World} {b e : Nat} {cs : Array Value} {f : Nat × Nat} (h : w.heap[b]? = some (.cells cs e f)) : w.cell? ⟨b, 0, none⟩ = cs[0]? ∧ w.cell? ⟨b, 1, none⟩ = cs[1]? ∧ w.cell? ⟨b, 2, none⟩ = cs[2]? ∧ w.cell? ⟨b, 3, none⟩ = cs[3]? ∧ w.cell? ⟨b, 4, none⟩ = cs[4]? ∧ w.cell? ⟨b, 5, none⟩ = cs[5]? ∧ w.cell? ⟨b, 6, none⟩ = cs[6]? ∧ w.cell? ⟨b, 7, none⟩ = cs[7]? ∧ w.cell? ⟨b, 8, none⟩ = cs[8]? ∧ w.cell? ⟨b, 9, none⟩ = cs[9]? ∧ w.cell? ⟨b, 10, none⟩ = cs[10]? ∧ w.cell? ⟨b, 11, none⟩ = cs[11]? := ⟨cell_row h 0, cell_row h 1, cell_row h 2, cell_row h 3, cell_row h 4, cell_row h 5, cell_row h 6, cell_row h 7, cell_row h 8, cell_row h 9, cell_row h 10, cell_row h 11⟩
end Go.Proofs.YtejibngkeaamkaaGreatDoor
namespace Go.Proofs.YtejibngkeaamkaaGreatDoor
open Go.ChangeShapes Go.WideShapes Go.ChangeAt Go.RowKit
open Go.ChangeMaps (open_string shut_string)

theorem own : ownKnob Tryz.prog.godebug = Option.none := by kernel_rfl
theorem laidOut : laidOutB Tryz.prog = true := by kernel_rfl

/-- The arguments read behind the call as0 they read before. -/
theorem trodAll_below {H : Type} {enc : TypeId × Value → H} {P : Program} (hl : laidOutB P = true) {W W' : World} (hb : Below W.heap.size W W') :
    ∀ {ts : List TypeId} {vs : List Value} {ds : List (DataW H)} {ps : List MemPlace}, (∀ t ∈ ts, P.readableRec t = true ∧ t < P.types.size) →
      DataW.TrodAll enc P W 0 (fun _ => true) true ts vs ds ps → DataW.TrodAll enc P W' 0 (fun b => decide (b < W.heap.size)) true ts vs ds ps
  | [], [], [], _, _, h => h
  | t :: ts, v :: vs, d :: ds, _, hr, h => by
    obtain ⟨p, q, h1, h2, rfl⟩ := h
    have k := hr t (by simp)
    have lt : ∀ x ∈ p, x.block < W.heap.size := by obtain ⟨m, hm⟩ := h1; exact DataW.trod_lt m _ _ _ hm
    exact ⟨p, q, Below.trod hl k.1 k.2 h1 hb lt, trodAll_below hl hb (fun t ht => hr t (by simp [ht])) h2, rfl⟩

theorem add_of_add (a : Addr) (i j : Nat) : (a.add i).add j = a.add (i + j) := by
  unfold Addr.add
  by_cases hi : i = 0 <;> by_cases hj : j = 0 <;> simp [hi, hj, Nat.add_assoc]

namespace Rep
variable {H : Type} {enc : TypeId × Value → H} {P : Program} {w : World}

/-- A type's reading as0 data is this word's. -/
def Of {α : Type} (r : Rep α) (P : Program) (t : TypeId) : Prop :=
  P.cellsOf t = r.size ∧ ∀ (H : Type) (enc : TypeId × Value → H) (w : World) (fuel : Nat) (cs : List Value) (x : DataW H × List MemPlace),
    DataW.trod enc P w 0 (fun _ => true) true fuel t cs = some x → ∃ y, r.rd (fun _ => True) w cs y

theorem of_int {k : IntKind} {t : TypeId} (ht : P.underlying t = some (.int k)) (hc : P.cellsOf t = 1) : (Rep.int k).Of P t :=
  ⟨hc, fun _ _ _ _ _ _ h => by obtain ⟨n, rfl, _, hw⟩ := DataW.trod_int ht h; exact ⟨n, rfl, hw⟩⟩
theorem of_byte {t : TypeId} (ht : P.underlying t = some (.int .u8)) (hc : P.cellsOf t = 1) : Rep.byte.Of P t :=
  ⟨hc, fun _ _ _ _ _ _ h => by
    obtain ⟨n, rfl, _, hw⟩ := DataW.trod_int ht h
    have hb : 0 ≤ n ∧ n ≤ 255 := by simpa [Lit.wf, IntKind.min, IntKind.max, IntKind.signed, IntKind.bits] using hw
    refine ⟨UInt8.ofNat n.toNat, ?_⟩
    show [Value.int .u8 n] = [.int .u8 _]
    congr 2
    have : (UInt8.ofNat n.toNat).toNat = n.toNat := by rw [UInt8.toNat_ofNat']; omega
    omega⟩
theorem of_bool {t : TypeId} (ht : P.underlying t = some .bool) (hc : P.cellsOf t = 1) : Rep.bool.Of P t :=
  ⟨hc, fun _ _ _ _ _ _ h => by obtain ⟨n, rfl, _⟩ := DataW.trod_bool ht h; exact ⟨n, rfl⟩⟩
theorem of_text {t : TypeId} (ht : P.underlying t = some .string) (hc : P.cellsOf t = 1) : Rep.text.Of P t :=
  ⟨hc, fun _ _ _ _ _ _ h => by
    obtain ⟨s, rfl, _, hs⟩ := DataW.trod_string ht h
    exact ⟨s.data.toList, rfl, by rw [Array.length_toList]; exact hs⟩⟩

theorem row_of {α : Type} {r : Rep α} {w : World} {g : Nat → Option Value} : ∀ (n : Nat), (∀ i, i < n → ∃ es y, r.rd (fun _ => True) w es y ∧ ∀ j u, es[j]? = some u → g (i * r.size + j) = some u) →
    ∃ es xs, xs.length = n ∧ r.row (fun _ => True) w es xs ∧ ∀ j u, es[j]? = some u → g j = some u
  | 0, _ => ⟨[], [], rfl, rfl, fun j u h => by simp at h⟩
  | n + 1, h => by
    obtain ⟨es, xs, h1, h2, h3⟩ := row_of n (fun i hi => h i (by omega))
    obtain ⟨fs, y, h4, h5⟩ := h n (by omega)
    refine ⟨es ++ fs, xs ++ [y], by simp [h1], row_append h2 (row_one_elem h4), fun j u hj => ?_⟩
    have hl := row_len h2
    rw [h1] at hl
    by_cases hj' : j < es.length
    · rw [List.getElem?_append_left hj'] at hj; exact h3 j u hj
    · rw [List.getElem?_append_right (by omega)] at hj
      have := h5 _ u hj
      rwa [show n * r.size + (j - es.length) = j by omega] at this

theorem of_list {α : Type} {r : Rep α} {t e : TypeId} (ht : P.underlying t = some (.slice e)) (hc : P.cellsOf t = 1) (hs : 0 < r.size) (he : r.Of P e) : r.list.Of P t :=
  ⟨hc, fun H enc w fuel cs x h => by
    rcases DataW.trod_slice ht h with ⟨rfl, _⟩ | ⟨a, len, cap, elems, rest, n, rfl, rfl, _, _, h1, h2, h3, h4, _⟩
    · exact ⟨[], none, 0, [], rfl, Nat.le_refl _, Nat.zero_le _, rfl, fun h => absurd h (by simp)⟩
    · have hcell : ∀ i, i < len → ∃ es y, r.rd (fun _ => True) w es y ∧ ∀ j u, es[j]? = some u → w.cell? (a.add (i * r.size + j)) = some u := by
        intro i hi
        have h5 := h4 i hi
        rw [List.getElem?_eq_getElem (by omega)] at h5
        obtain ⟨es, h6, h7⟩ := Option.bind_eq_some_iff.1 h5
        obtain ⟨y, hy⟩ := he.2 H enc w n es _ h7
        refine ⟨es, y, hy, fun j u hj => ?_⟩
        unfold World.cells? at h6
        rw [if_pos (Nat.zero_le _), he.1] at h6
        have hjs : j < r.size := by have := (List.getElem?_eq_some_iff.1 hj).1; rw [r.len hy] at this; exact this
        have h8 := mapM_some_get h6 j j (by simp [hjs])
        rw [hj, add_of_add] at h8
        exact h8
      obtain ⟨es, xs, q1, q2, q3⟩ := row_of (g := fun j => w.cell? (a.add j)) len hcell
      subst q1
      refine ⟨xs, some a, cap, es, rfl, h1, h2, q2, fun hn => ?_⟩
      have h0 : 0 < es.length := by rw [row_len q2]; exact Nat.mul_pos hn hs
      have hc0 := q3 0 _ (List.getElem?_eq_getElem h0)
      have hsp : a.spot = none := by
        have := World.cell?_spot hc0
        simpa [Addr.add] using this
      obtain ⟨b, off, sp⟩ := a
      obtain rfl : sp = none := hsp
      refine ⟨b, off, rfl, trivial, ?_, fun j u hj => by have := q3 j u hj; rwa [Addr.add_lit] at this⟩
      unfold World.cell? at hc0
      rw [Addr.add_zero'] at hc0
      cases hh : w.heap[b]? with
      | none => simp [hh] at hc0
      | some o =>
        cases o with
        | cells c e f => exact ⟨c, e, f, hh⟩
        | _ => simp [hh] at hc0⟩

/-- An argument, opened. -/
theorem opens {α : Type} {r : Rep α} {P : Program} {t : TypeId} (hof : r.Of P t) {H : Type} {enc : TypeId × Value → H} {w : World} {base : Nat} {v : Value} {d : DataW H} {ps : List MemPlace}
    (hwr : ∀ (w : World) (base : Nat) (v : Value), Value.okWide P w .any base t v → v = r.wrap v.cells.toList) (hv : Value.okWide P w .any base t v) (h : DataW.Trod enc P w 0 (fun _ => true) true t v d ps) : ∃ y, r.val (fun _ => True) w v y := by
  obtain ⟨fuel, h⟩ := h
  obtain ⟨y, hy⟩ := hof.2 H enc w fuel _ _ h
  exact ⟨y, _, hwr w base v hv, hy⟩

theorem wrap_agg {α : Type} {r : Rep α} {P : Program} {t : TypeId} {fs : Array Field} (ht : P.underlying t = some (.struct fs)) (hr : ∀ cs, r.wrap cs = .agg cs.toArray) : ∀ (w : World) (base : Nat) (v : Value), Value.okWide P w .any base t v → v = r.wrap v.cells.toList :=
  fun _ _ _ h => by obtain ⟨cs, rfl, _⟩ := okWide_struct ht h; rw [hr]; simp [Value.cells]
end Rep
end Go.Proofs.YtejibngkeaamkaaGreatDoor
namespace Go.Proofs.YtejibngkeaamkaaGreatDoor
open Go.Lib

/-- An int. -/
def In64 (n : Int) : Prop := -9223372036854775808 ≤ n ∧ n ≤ 9223372036854775807

/-- The number that a text spells just so. -/
def numS (s : List UInt8) : Option Int :=
  match atoiAll s with
  | .ok v => if itoa v = s then some v else none
  | _ => none

theorem parse_snoc (c : UInt8) : ∀ (l : List UInt8) (acc : Nat), parseUint10 acc (l ++ [c]) = match parseUint10 acc l with
    | .ok a => parseUint10 a [c]
    | .syntax => .syntax
    | .range => .range
  | [], acc => by simp only [List.nil_append]; rw [show parseUint10 acc [] = .ok acc from rfl]
  | d :: r, acc => by
    rw [List.cons_append]
    simp only [parseUint10]
    split
    · split
      · rfl
      · split
        · rfl
        · have := parse_snoc c r (acc * 10 + (d.toNat - 48))
          simp only [parseUint10] at this
          rw [this]
    · rfl

theorem wdigit_nat {k : Nat} (h : k < 10) : (UInt8.ofNat (48 + k)).toNat = 48 + k := by
  rw [UInt8.toNat_ofNat']; omega

theorem parse_digits : ∀ (u : Nat), u < 18446744073709551616 → parseUint10 0 (decDigits u) = .ok u := by
  intro u
  induction u using Nat.strongRecOn with
  | _ u ih =>
    intro hu
    by_cases h : u < 10
    · rw [decDigits, dif_pos h]
      simp only [parseUint10, wdigit_nat h]
      rw [if_pos (by omega), if_neg (by omega), if_neg (by omega)]
      congr 1; omega
    · rw [decDigits, dif_neg h, parse_snoc, ih (u / 10) (by omega) (by omega)]
      have h10 : u % 10 < 10 := by omega
      simp only [parseUint10, wdigit_nat h10]
      rw [if_pos (by omega), if_neg (by omega), if_neg (by omega)]
      congr 1; omega

theorem digits_ne (u : Nat) : decDigits u ≠ [] := by
  intro h
  have := decDigits_length u
  rw [h] at this
  have := nDigits_pos u
  simp at *
  omega

/-- What opens a numeral is a digit. -/
theorem digits_head : ∀ (u : Nat) (c : UInt8) (r : List UInt8), decDigits u = c :: r → 48 ≤ c.toNat ∧ c.toNat ≤ 57 := by
  intro u
  induction u using Nat.strongRecOn with
  | _ u ih =>
    intro c r h
    by_cases hu : u < 10
    · rw [decDigits, dif_pos hu] at h
      injection h with h1 h2
      rw [← h1, wdigit_nat hu]; omega
    · rw [decDigits, dif_neg hu] at h
      cases hd : decDigits (u / 10) with
      | nil => exact absurd hd (digits_ne _)
      | cons c' r' =>
        rw [hd] at h
        injection h with h1 h2
        rw [← h1]
        exact ih (u / 10) (by omega) c' r' hd

/-- All bytes of a numeral are digits. -/
theorem digits_all : ∀ (u : Nat), ∀ c ∈ decDigits u, 48 ≤ c.toNat ∧ c.toNat ≤ 57 := by
  intro u
  induction u using Nat.strongRecOn with
  | _ u ih =>
    intro c h
    by_cases hu : u < 10
    · rw [decDigits, dif_pos hu] at h
      rw [List.mem_singleton.1 h, wdigit_nat hu]; omega
    · rw [decDigits, dif_neg hu] at h
      rcases List.mem_append.1 h with h | h
      · exact ih (u / 10) (by omega) c h
      · have h10 : u % 10 < 10 := by omega
        rw [List.mem_singleton.1 h, wdigit_nat h10]; omega

theorem itoa_back {n : Int} (h : In64 n) : atoiAll (itoa n) = .ok n := by
  unfold itoa
  obtain ⟨h0, h1⟩ := h
  by_cases hn : n < 0
  · rw [if_pos hn, atoiAll_minus, parseMag, if_neg (digits_ne _), parse_digits _ (by omega)]
    simp only [signed]
    rw [if_neg (by omega)]
    congr 1; omega
  · rw [if_neg hn]
    cases hd : decDigits n.toNat with
    | nil => exact absurd hd (digits_ne _)
    | cons c r =>
      have hc := digits_head _ _ _ hd
      rw [atoiAll_plain c r (by omega) (by omega), ← hd, parseMag, if_neg (digits_ne _), parse_digits _ (by omega)]
      simp only [signless]
      rw [if_neg (by omega)]
      congr 1; omega

theorem numS_itoa {n : Int} (h : In64 n) : numS (itoa n) = some n := by
  unfold numS
  rw [itoa_back h]
  simp

theorem numS_some {s : List UInt8} {v : Int} (h : numS s = some v) : itoa v = s ∧ In64 v := by
  unfold numS at h
  split at h
  · rename_i u hu
    split at h
    · rename_i he
      injection h with h
      subst h
      exact ⟨he, atoiAll_bounds hu⟩
    · cases h
  · cases h

theorem nDigits_of_lt : ∀ (k u : Nat), u < 10 ^ (k + 1) → nDigits u ≤ k + 1
  | 0, u, h => by rw [nDigits_small (by simpa using h)]; omega
  | k + 1, u, h => by
    by_cases hu : u < 10
    · rw [nDigits_small hu]; omega
    · rw [nDigits_big hu]
      have := nDigits_of_lt k (u / 10) (by rw [Nat.pow_succ] at h; omega)
      omega

theorem itoa_len {n : Int} (h : In64 n) : (itoa n).length ≤ 20 ∧ 1 ≤ (itoa n).length := by
  obtain ⟨h0, h1⟩ := h
  unfold itoa
  split
  · rw [List.length_cons, decDigits_length]
    have := nDigits_of_lt 18 n.natAbs (by omega)
    omega
  · rw [decDigits_length]
    have := nDigits_of_lt 18 n.toNat (by omega)
    have := nDigits_pos n.toNat
    omega

/-! ### The document's number -/

/-- The hexadecimal digits. -/
def hexA : List UInt8 := [48, 49, 50, 51, 52, 53, 54, 55, 56, 57, 97, 98, 99, 100, 101, 102]
/-- The digit of one below 16. -/
def hexDig (k : Nat) : UInt8 := hexA.getD k 0
/-- The number of a digit; 16: none. -/
def nib (c : UInt8) : Nat := hexA.findIdx (· == c)
def hexOf (b : List UInt8) : List UInt8 := b.flatMap fun c => [hexDig (c.toNat / 16), hexDig (c.toNat % 16)]
/-- Bytes as0 a word. -/
def hexS (b : List UInt8) : List UInt8 := if b = [] then [45] else hexOf b
/-- Digits in pairs. -/
def pairS : List UInt8 → Option (List UInt8)
  | a :: b :: r => if nib a < 16 ∧ nib b < 16 then (pairS r).map (UInt8.ofNat (16 * nib a + nib b) :: ·) else none
  | [] => some []
  | [_] => none
/-- The bytes of a word. -/
def unhexS (s : List UInt8) : Option (List UInt8) := if s = [45] then some [] else if s = [] then none else pairS s

theorem nib_dig : ∀ k, k < 16 → nib (hexDig k) = k := by
  have : ∀ k : Fin 16, nib (hexDig k.val) = k.val := by decide +kernel
  exact fun k h => this ⟨k, h⟩
theorem dig_nib (c : UInt8) (h : nib c < 16) : hexDig (nib c) = c := by
  have hh : nib c < hexA.length := h
  have := List.findIdx_getElem (w := hh)
  unfold hexDig
  rw [List.getD_eq_getElem?_getD, List.getElem?_eq_getElem hh]
  exact of_decide_eq_true this
theorem nib_le (c : UInt8) : nib c ≤ 16 := by
  have : nib c ≤ hexA.length := List.findIdx_le_length
  exact this

theorem pair_hex : ∀ b : List UInt8, pairS (hexOf b) = some b
  | [] => rfl
  | c :: r => by
    have e : hexOf (c :: r) = hexDig (c.toNat / 16) :: hexDig (c.toNat % 16) :: hexOf r := rfl
    have hc := c.toNat_lt
    rw [e]
    simp only [pairS]
    rw [nib_dig _ (by omega), nib_dig _ (by omega), if_pos (by omega), pair_hex r]
    simp only [Option.map_some]
    congr 2
    rw [show 16 * (c.toNat / 16) + c.toNat % 16 = c.toNat by omega]
    exact UInt8.ofNat_toNat

theorem hex_pair : ∀ (s b : List UInt8), pairS s = some b → hexOf b = s
  | [], b, h => by simp only [pairS, Option.some.injEq] at h; subst h; rfl
  | [_], b, h => by simp [pairS] at h
  | x :: y :: r, b, h => by
    simp only [pairS] at h
    split at h
    · rename_i hc
      cases hp : pairS r with
      | none => rw [hp] at h; cases h
      | some t =>
        rw [hp] at h
        simp only [Option.map_some, Option.some.injEq] at h
        subst h
        have e : hexOf (UInt8.ofNat (16 * nib x + nib y) :: t) = hexDig ((UInt8.ofNat (16 * nib x + nib y)).toNat / 16) :: hexDig ((UInt8.ofNat (16 * nib x + nib y)).toNat % 16) :: hexOf t := rfl
        rw [e, UInt8.toNat_ofNat', Nat.mod_eq_of_lt (by omega), show (16 * nib x + nib y) / 16 = nib x by omega, show (16 * nib x + nib y) % 16 = nib y by omega, dig_nib _ hc.1, dig_nib _ hc.2, hex_pair r t hp]
    · cases h

theorem hexOf_ne {b : List UInt8} (h : b ≠ []) : hexOf b ≠ [] ∧ hexOf b ≠ [45] := by
  cases b with
  | nil => exact absurd rfl h
  | cons c r =>
    have e : hexOf (c :: r) = hexDig (c.toNat / 16) :: hexDig (c.toNat % 16) :: hexOf r := rfl
    rw [e]; simp
/-- Bytes are read again. -/
theorem unhex_hex (b : List UInt8) : unhexS (hexS b) = some b := by
  unfold hexS
  split
  · rename_i h; subst h; rfl
  · rename_i h
    unfold unhexS
    rw [if_neg (hexOf_ne h).2, if_neg (hexOf_ne h).1, pair_hex]
theorem hex_unhex {s b : List UInt8} (h : unhexS s = some b) : hexS b = s := by
  unfold unhexS at h
  split at h
  · rename_i e; simp only [Option.some.injEq] at h; subst h; subst e; rfl
  · split at h
    · cases h
    · rename_i h1 h2
      have := hex_pair s b h
      unfold hexS
      rw [if_neg (by rintro rfl; exact h2 this.symm), this]

/-- Digits are taken in pairs, from a place on. -/
theorem pair_drop {s l : List UInt8} {q : Nat} (h : pairS s = (pairS (s.drop q)).map (l ++ ·)) (hk : q + 1 < s.length) (ha : nib s[q] < 16) (hb : nib s[q + 1] < 16) :
    pairS s = (pairS (s.drop (q + 2))).map ((l ++ [UInt8.ofNat (16 * nib s[q] + nib s[q + 1])]) ++ ·) := by
  rw [h, List.drop_eq_getElem_cons (i := q) (by omega), List.drop_eq_getElem_cons (i := q + 1) (by omega)]
  simp only [pairS]
  rw [if_pos ⟨ha, hb⟩]
  cases pairS (s.drop (q + 1 + 1)) <;> simp
theorem pair_fail {s l : List UInt8} {q : Nat} (h : pairS s = (pairS (s.drop q)).map (l ++ ·)) (hk : q + 1 < s.length) (ha : ¬ (nib s[q] < 16 ∧ nib s[q + 1] < 16)) : unhexS s = none := by
  have h1 : pairS s = none := by
    rw [h, List.drop_eq_getElem_cons (i := q) (by omega), List.drop_eq_getElem_cons (i := q + 1) (by omega)]
    simp only [pairS]
    rw [if_neg ha]; rfl
  unfold unhexS
  rw [if_neg (by rintro rfl; simp at hk), h1]
  split <;> rfl
end Go.Proofs.YtejibngkeaamkaaGreatDoor
namespace Go.Proofs.YtejibngkeaamkaaGreatDoor
open Go.RowKit

structure Tabs (w : World) : Prop where
  big : 8 ≤ w.heap.size
  pow : Lib.TabIs Tryz.prog w "internal/strconv.uint64pow10" .u64 Lib.pow10Tab
  syn : ∃ ev, w.cell? ⟨1, 0, none⟩ = some ev ∧ (ev = .nilIface ∨ ∃ te pe, ev = .iface te pe)
  ran : ∃ ev, w.cell? ⟨2, 0, none⟩ = some ev ∧ (ev = .nilIface ∨ ∃ te pe, ev = .iface te pe)
  max : ∃ m : Int, w.cell? ⟨0, 0, none⟩ = some (.int .i64 m)

theorem gPow : Tryz.prog.globalNamed "internal/strconv.uint64pow10" = some 3 := by kernel_rfl
theorem Tabs.same {w w' : World} (h : Tabs w) (hz : w.heap.size ≤ w'.heap.size) (hb : ∀ b, b < 8 → w'.heap[b]? = w.heap[b]?) : Tabs w' where
  big := Nat.le_trans h.big hz
  pow := by
    have := h.pow
    unfold Lib.TabIs World.var? at this ⊢
    rw [gPow] at this ⊢
    simp only [Option.bind_some] at this ⊢
    rw [hb 3 (by omega)]; exact this
  syn := by obtain ⟨ev, h1, h2⟩ := h.syn; exact ⟨ev, (World.cell?_of_block (hb 1 (by omega))).trans h1, h2⟩
  ran := by obtain ⟨ev, h1, h2⟩ := h.ran; exact ⟨ev, (World.cell?_of_block (hb 2 (by omega))).trans h1, h2⟩
  max := by obtain ⟨m, h1⟩ := h.max; exact ⟨m, (World.cell?_of_block (hb 0 (by omega))).trans h1⟩
theorem Tabs.below {w w' : World} {n : Nat} (h : Tabs w) (hb : Below n w w') (hn : 8 ≤ n) : Tabs w' := h.same hb.size fun b hl => hb.block b (by omega)
theorem Tabs.call {w w' : World} (h : Tabs w) (hb : Below w.heap.size w w') : Tabs w' := h.below hb h.big

/-- What Atoi answers. -/
def AtoiRes (s : List UInt8) (w : World) (e : Ending) (w' : World) : Prop := Below w.heap.size w w' ∧ ∃ (v : Int) (er : Value), e = .returned (.tuple #[.int .i64 v, er]) ∧
  ((Lib.atoiAll s = .ok v ∧ er = .nilIface) ∨ ((∀ x, Lib.atoiAll s ≠ .ok x) ∧ ∃ t p, er = .iface t p))

theorem atoi_calls (s : List UInt8) (hs : s.length ≤ 1000000000) {w : World} (h : Tabs w) : Calls Tryz.prog 39 #[.string ⟨s.toArray⟩] w (AtoiRes s w) := by
  have hsz : (ByteArray.mk s.toArray).size = s.length := by simp [ByteArray.size]
  cases ha : Lib.atoiAll s with
  | ok v =>
    refine (Tryz.strconv_Atoi_ok ⟨s.toArray⟩ (by omega) v (by simpa using ha) w).mono ?_
    rintro e w' ⟨rfl, hw⟩
    refine ⟨?_, v, _, rfl, .inl ⟨ha, rfl⟩⟩
    rcases hw with rfl | ⟨t, rfl⟩
    · exact Below.refl _ _
    · exact Lib.bytesWorld_below _ _ _
  | «syntax» =>
    obtain ⟨ev, h1, h2⟩ := h.syn
    refine (Tryz.strconv_Atoi_syntax ⟨s.toArray⟩ (by omega) (by simpa using ha) ev w h1 h2).mono ?_
    rintro e w' ⟨N, rfl, _, _, hb⟩
    exact ⟨hb, _, _, rfl, .inr ⟨by simp [ha], _, _, rfl⟩⟩
  | range =>
    obtain ⟨ev, h1, h2⟩ := h.ran
    refine (Tryz.strconv_Atoi_range ⟨s.toArray⟩ (by omega) (by simpa using ha) ev w h1 h2).mono ?_
    rintro e w' ⟨N, rfl, _, _, hb⟩
    exact ⟨hb, _, _, rfl, .inr ⟨by simp [ha], _, _, rfl⟩⟩

theorem itoa_calls {n : Int} (hn : In64 n) {w : World} (h : Tabs w) : Calls Tryz.prog 40 #[.int .i64 n] w fun e w' => e = .returned (.string ⟨(Lib.itoa n).toArray⟩) ∧ Below w.heap.size w w' := by
  refine (Tryz.strconv_Itoa n hn.1 hn.2 w h.pow).mono ?_
  rintro e w' ⟨rfl, k, os, rfl⟩
  exact ⟨rfl, Lib.below_grow _ _ (Nat.le_refl _) k os⟩
end Go.Proofs.YtejibngkeaamkaaGreatDoor
namespace Go.Proofs.YtejibngkeaamkaaGreatDoor
open Go.ChangeShapes Go.WideShapes Go.ChangeAt Go.RowKit

theorem trod_iface_cs {H : Type} {enc : TypeId × Value → H} {P : Program} {w : World} {base : Nat} {spare : Nat → Bool} {held : Bool} {fuel : Nat} {t : TypeId} {ms} {cs : List Value} {x} (hu : P.underlying t = some (.interface ms)) (h : DataW.trod enc P w base spare held fuel t cs = some x) :
    ∃ ev, cs = [ev] ∧ (ev = .nilIface ∨ ∃ te pe, ev = .iface te pe) := by
  cases fuel with
  | zero => simp [DataW.trod] at h
  | succ fuel =>
    unfold DataW.trod at h
    rw [hu] at h
    rcases cs with _ | ⟨c, _ | ⟨d, r⟩⟩
    · simp at h
    · cases c <;> simp at h ⊢
    · simp at h

theorem gSyn : Tryz.prog.globalNamed "strconv.ErrSyntax" = some 1 := by kernel_rfl
theorem gRan : Tryz.prog.globalNamed "strconv.ErrRange" = some 2 := by kernel_rfl
theorem tPow : ∃ t e, (Tryz.prog.globals[3]?).map (·.type) = some t ∧ Tryz.prog.underlying t = some (.array 20 e) ∧ Tryz.prog.underlying e = some (.int .u64) ∧ Tryz.prog.cellsOf e = 1 ∧ Tryz.prog.cellsOf t = 20 := ⟨150, 94, by kernel_rfl, by kernel_rfl, by kernel_rfl, by kernel_rfl, by kernel_rfl⟩
theorem tErr : ∃ t ms, (Tryz.prog.globals[1]?).map (·.type) = some t ∧ (Tryz.prog.globals[2]?).map (·.type) = some t ∧ Tryz.prog.underlying t = some (.interface ms) := ⟨79, _, by kernel_rfl, by kernel_rfl, Tryz.underlying79⟩
def laid39 : List (String × DataW Unit) := [("math/bits.deBruijn32tab", Rows.laid_math_bits_deBruijn32tab), ("math/bits.deBruijn64tab", Rows.laid_math_bits_deBruijn64tab), ("internal/strconv.uint64pow10", Rows.laid_internal_strconv_uint64pow10), ("unicode/utf8.acceptRanges", Rows.laid_unicode_utf8_acceptRanges), ("strconv.ErrRange", Rows.laid_strconv_ErrRange), ("strconv.ErrSyntax", Rows.laid_strconv_ErrSyntax), ("unicode/utf8.first", Rows.laid_unicode_utf8_first)]
/-- What the condition, and the world's shape, give the walks. -/
theorem tabs_of {W : World} (h : laidMetH Tryz.prog laid39 W) (hs : W.ShapedOpen Tryz.prog) : Tabs W := by
  rw [MakeChecks.laidMetH_plain _ _ _ (by kernel_rfl)] at h
  obtain ⟨ps, ⟨g0, t0, cs0, f0, p0, q0, _, _, _, _, ⟨g1, t1, cs1, f1, p1, q1, _, _, _, _, ⟨g2, t2, cs2, f2, p2, q2, hg2, ht2, hv2, hd2, ⟨g3, t3, cs3, f3, p3, q3, _, _, _, _, ⟨g4, t4, cs4, f4, p4, q4, hg4, ht4, hv4, hd4, ⟨g5, t5, cs5, f5, p5, q5, hg5, ht5, hv5, hd5, _, _⟩, _⟩, _⟩, _⟩, _⟩, _⟩, _, _⟩ := h
  obtain rfl := Option.some.inj (gPow.symm.trans hg2)
  obtain rfl := Option.some.inj (gRan.symm.trans hg4)
  obtain rfl := Option.some.inj (gSyn.symm.trans hg5)
  obtain ⟨tp, ep, a1, a2, a3, a4, a5⟩ := tPow
  obtain rfl := Option.some.inj (a1.symm.trans ht2)
  obtain ⟨te, ms, b1, b2, b3⟩ := tErr
  obtain rfl := Option.some.inj (b1.symm.trans ht5)
  obtain rfl := Option.some.inj (b2.symm.trans ht4)
  obtain ⟨m, hm⟩ : ∃ m, W.cell? ⟨0, 0, none⟩ = some (.int .i64 m) := cell_of_shapedOpen_int (t := 3) (zero := #[.int .i64 0]) hs (Nat.lt_of_lt_of_eq (by decide : 0 < 8) (show 8 = Tryz.prog.globals.size by kernel_rfl)) (by kernel_rfl) (by kernel_rfl) (by kernel_rfl) (by kernel_rfl) (by kernel_rfl)
  refine ⟨?_, ?_, ?_, ?_, m, hm⟩
  · obtain ⟨cs, hh, _⟩ := hs.1 7 (Array.replicate 64 (.int .u8 0)) 163 (Nat.lt_of_lt_of_eq (by decide : 7 < 8) (show 8 = Tryz.prog.globals.size by kernel_rfl)) (by kernel_rfl)
    have := (Array.getElem?_eq_some_iff.1 hh).1
    omega
  · unfold Lib.TabIs
    rw [hv2, ← Lib.cells_of_tab a2 a3 a4 a5 (show _ = some (Lib.tabData .u64 Lib.pow10Tab, p2) from hd2)]
  · obtain ⟨ev, he, hev⟩ := trod_iface_cs b3 hd5
    refine ⟨ev, ?_, hev⟩
    have := World.var?_cell gSyn hv5 0
    rw [Array.eq_one_of_toList he] at this
    simpa using this
  · obtain ⟨ev, he, hev⟩ := trod_iface_cs b3 hd4
    refine ⟨ev, ?_, hev⟩
    have := World.var?_cell gRan hv4 0
    rw [Array.eq_one_of_toList he] at this
    simpa using this

/-- A contract lifted to the machine, where the row lays variables and the world keeps its shape. -/
theorem lift_laid {H : Type} {enc : TypeId × Value → H} {C : Checked} {os : Os} {f : FuncId} {fn : Func} {s : ChangeSpec} {conds : List PathCond} {X : World → Prop}
    (hX : ∀ w w' : World, w.heap = w'.heap → X w → X w')
    (own : ownKnob C.prog.godebug = none) (started : os.Started) (noInit : C.prog.inits.idxOf? f = none) (hfn : C.prog.funcs[f]? = some fn)
    (witness : ∃ (w : World) (tape : Tape) (i : Input), w.os = os ∧ (w.forCall tape i).Shaped C.prog ∧ i.vars = [] ∧ Input.okWide C.prog (w.forCall tape i) .any w.heap.size f i ∧
      ((s.pre enc C.prog fn conds false (w.forCall tape i).memory i.args ∧ X (w.forCall tape i).memory) ∧ sizedMet enc C.prog fn (OpenSpec.ofChange s) false (w.forCall tape i).memory i.args) ∧ ({} : Assume).holds C.prog (lone (Frame.enter C.prog f i.args .normal) [] (w.forCall tape i)))
    (contract : ∀ (W : World) (base : Nat) (args : Array Value) (ds gs : List (DataW H)) (before : List MemPlace),
      (∀ (j : Nat) t v, fn.params[j]? = some t → args[j]? = some v → Value.okWide C.prog W .any base t v) →
      DataW.Whole enc C.prog fn.params.toList s.vars false W args.toList ds gs before → X W → W.ShapedOpen C.prog →
      Calls C.prog f args W fun e W' => ∃ v, e = .returned v ∧ s.post enc C.prog fn false true false false W args v W') :
    ReturnsInHanded {} C os f .any (fun w args => (s.pre enc C.prog fn conds false w args ∧ X w) ∧ sizedMet enc C.prog fn (OpenSpec.ofChange s) false w args) (s.post enc C.prog fn false true false false) := by
  refine returnsInHanded_of_calls own started noInit witness ?_
  intro w tape i _ hsh _ hok hpre _
  obtain ⟨_, _, _, fn', hfn', _, _, _, _, hval⟩ := hok
  obtain rfl : fn' = fn := Option.some.inj (hfn'.symm.trans hfn)
  obtain ⟨⟨⟨ds, gs, before, hw, _⟩, hx⟩, _⟩ := hpre
  refine (contract (w.forCall tape i) w.heap.size i.args ds gs before hval (DataW.Whole.of_heap (w' := w.forCall tape i) (by rfl) hw) (hX _ _ (by rfl) hx) hsh).mono fun e W' ⟨v, he, hp⟩ => ?_
  subst he
  exact ChangeSpec.post_blind hp
theorem door39 (os : Os) (args : Array Value) : laidMetH Tryz.prog laid39 ((World.laidAll Tryz.prog os laid39).forCall (fun _ _ => 0) ⟨#[], args, []⟩).memory := by
  rw [MakeChecks.laidMetH_plain _ _ _ (by kernel_rfl)]
  exact laidMet_laidAll _ (by kernel_rfl) (by kernel_rfl)
theorem shaped39 (os : Os) (args : Array Value) : ((World.laidAll Tryz.prog os laid39).forCall (fun _ _ => 0) ⟨#[], args, []⟩).Shaped Tryz.prog := World.shaped_of_ZipB (by kernel_rfl) (by kernel_rfl)
end Go.Proofs.YtejibngkeaamkaaGreatDoor
namespace Go.Proofs.YtejibngkeaamkaaGreatDoor
open Go.ChangeShapes Go.WideShapes Go.ChangeAt Go.RowKit
namespace Rep

/-- Fields, one behind the other, from the offset o on. -/
def Fields {α : Type} (r : Rep α) (P : Program) (fs : List Field) (o : Nat) : Prop :=
  (∀ f ∈ fs, o ≤ f.offset) ∧ ∀ (H : Type) (enc : TypeId × Value → H) (w : World) (n : Nat) (cs : List Value), cs.length = r.size →
    (∀ f ∈ fs, ∃ x, DataW.trod enc P w 0 (fun _ => true) true n f.type ((cs.drop (f.offset - o)).take (P.cellsOf f.type)) = some x) → ∃ y, r.rd (fun _ => True) w cs y

theorem fields_one {α : Type} {r : Rep α} {P : Program} {f : Field} {o : Nat} (ho : f.offset = o) (h : r.Of P f.type) : r.Fields P [f] o :=
  ⟨(fun g hg => by
    have : g = f := by simpa using hg
    rw [this]; omega), fun H enc w n cs hl hf => by
    obtain ⟨x, hx⟩ := hf f (by simp)
    rw [ho, Nat.sub_self, List.drop_zero, h.1, ← hl, List.take_length] at hx
    exact h.2 H enc w n cs x hx⟩
theorem fields_cons {α β : Type} {r : Rep α} {s : Rep β} {P : Program} {f : Field} {fs : List Field} {o : Nat} (ho : f.offset = o) (h : r.Of P f.type) (hs : s.Fields P fs (o + r.size)) : (r.pair s).Fields P (f :: fs) o :=
  ⟨(fun g hg => by
    rcases List.mem_cons.1 hg with rfl | hg
    · omega
    · have := hs.1 g hg; omega), fun H enc w n cs hl hf => by
    have hl' : cs.length = r.size + s.size := hl
    obtain ⟨x, hx⟩ := hf f (by simp)
    rw [ho, Nat.sub_self, List.drop_zero, h.1] at hx
    obtain ⟨y, hy⟩ := h.2 H enc w n _ x hx
    obtain ⟨z, hz⟩ := hs.2 H enc w n (cs.drop r.size) (by rw [List.length_drop]; omega) (fun g hg => by
      obtain ⟨x', hx'⟩ := hf g (by simp [hg])
      refine ⟨x', ?_⟩
      have := hs.1 g hg
      rw [List.drop_drop, show r.size + (g.offset - (o + r.size)) = g.offset - o by omega]
      exact hx')
    exact ⟨(y, z), cs.take r.size, cs.drop r.size, (List.take_append_drop _ _).symm, hy, hz⟩⟩

theorem of_struct {α β : Type} {r : Rep α} {P : Program} {t : TypeId} {fs : Array Field} (f : β → α) (g : α → β) (hfg : ∀ x, f (g x) = x) (ht : P.underlying t = some (.struct fs)) (hc : P.cellsOf t = r.size) (h : r.Fields P fs.toList 0) : (r.iso f).Of P t :=
  ⟨hc, fun H enc w fuel cs x hx => by
    obtain ⟨xs, n, _, rfl, hl, hlen, hf⟩ := DataW.trod_struct ht hx
    obtain ⟨y, hy⟩ := h.2 H enc w n cs (by rw [hl, hc]) (fun fd hfd => by
      obtain ⟨i, hi, rfl⟩ := List.getElem_of_mem hfd
      have hi' : i < fs.size := by simpa using hi
      have := hf i fs[i] (by simp [hi'])
      refine ⟨xs[i]'(by omega), ?_⟩
      simp only [Nat.sub_zero, Array.getElem_toList]
      rw [this]
      simp)
    exact ⟨g y, by show r.rd _ _ _ (f (g y)); rw [hfg]; exact hy⟩⟩
end Rep
theorem of_ID : rID.Of Tryz.prog 26 :=
  Rep.of_struct _ (fun x => ⟨x.1, x.2⟩) (fun _ => rfl) Tryz.underlying26 (by kernel_rfl) (Rep.fields_cons rfl (Rep.of_int Tryz.underlying3 (by kernel_rfl)) (Rep.fields_one rfl (Rep.of_int Tryz.underlying3 (by kernel_rfl))))
theorem of_Comp : rComp.Of Tryz.prog 57 :=
  Rep.of_struct _ (fun x => ⟨x.1, x.2⟩) (fun _ => rfl) Tryz.underlying57 (by kernel_rfl) (Rep.fields_cons rfl (Rep.of_text Tryz.underlying9 (by kernel_rfl)) (Rep.fields_one rfl (Rep.of_int Tryz.underlying3 (by kernel_rfl))))
theorem of_Conf : rConf.Of Tryz.prog 24 :=
  Rep.of_struct _ (fun x => ⟨x.1, x.2.1, x.2.2.1, x.2.2.2.1, x.2.2.2.2⟩) (fun _ => rfl) Tryz.underlying24 (by kernel_rfl) (Rep.fields_cons rfl (Rep.of_int Tryz.underlying3 (by kernel_rfl)) (Rep.fields_cons rfl (Rep.of_int Tryz.underlying3 (by kernel_rfl)) (Rep.fields_cons rfl (Rep.of_int Tryz.underlying3 (by kernel_rfl)) (Rep.fields_cons rfl (Rep.of_int Tryz.underlying3 (by kernel_rfl)) (Rep.fields_one rfl (Rep.of_list Tryz.underlying22 (by kernel_rfl) (by decide) of_Comp))))))
theorem of_Policy : rPolicy.Of Tryz.prog 31 :=
  Rep.of_struct _ (fun x => ⟨x.1, x.2⟩) (fun _ => rfl) Tryz.underlying31 (by kernel_rfl) (Rep.fields_cons rfl (Rep.of_int Tryz.underlying3 (by kernel_rfl)) (Rep.fields_one rfl (Rep.of_int Tryz.underlying3 (by kernel_rfl))))
theorem of_Cmd : rCmd.Of Tryz.prog 29 :=
  Rep.of_struct _ (fun x => ⟨x.1, x.2.1, x.2.2.1, x.2.2.2.1, x.2.2.2.2⟩) (fun _ => rfl) Tryz.underlying29 (by kernel_rfl) (Rep.fields_cons rfl (Rep.of_int Tryz.underlying3 (by kernel_rfl)) (Rep.fields_cons rfl (Rep.of_bool Tryz.underlying4 (by kernel_rfl)) (Rep.fields_cons rfl of_ID (Rep.fields_cons rfl (Rep.of_int Tryz.underlying3 (by kernel_rfl)) (Rep.fields_one rfl (Rep.of_list Tryz.underlying27 (by kernel_rfl) (by decide) (Rep.of_byte Tryz.underlying5 (by kernel_rfl))))))))
end Go.Proofs.YtejibngkeaamkaaGreatDoor
namespace Go.Proofs.YtejibngkeaamkaaGreatDoor
open Go.RowKit

@[ext] structure DAct where
  kind : Int
  cmd : DCmd
  policy : DPolicy
  n : Int
  fates : List DFate
  fuses : List Int
  deriving DecidableEq

def rAct : Rep DAct := ((Rep.int .i64).pair (rCmd.pair (rPolicy.pair ((Rep.int .i64).pair (rFate.list.pair (Rep.int .i64).list))))).iso fun x => (x.kind, x.cmd, x.policy, x.n, x.fates, x.fuses)
theorem rAct_size : rAct.size = 12 := rfl
theorem rAct_open {Q : Nat → Prop} {w : World} {cs : List Value} {x : DAct} (h : rAct.rd Q w cs x) : ∃ (A_cmd_data : Option Addr) (c_cmd_data : Nat) (A_fates : Option Addr) (c_fates : Nat) (A_fuses : Option Addr) (c_fuses : Nat), cs = [.int .i64 x.kind, .int .i64 x.cmd.kind, .bool x.cmd.loc, .int .i64 x.cmd.id.index, .int .i64 x.cmd.id.gen, .int .i64 x.cmd.comp, .slice A_cmd_data x.cmd.data.length c_cmd_data, .int .i64 x.policy.room, .int .i64 x.policy.frames, .int .i64 x.n, .slice A_fates x.fates.length c_fates, .slice A_fuses x.fuses.length c_fuses] ∧ (Lit.int .i64 x.kind).wf = true ∧ (Lit.int .i64 x.cmd.kind).wf = true ∧ (Lit.int .i64 x.cmd.id.index).wf = true ∧ (Lit.int .i64 x.cmd.id.gen).wf = true ∧ (Lit.int .i64 x.cmd.comp).wf = true ∧ Rep.byte.Sl Q w A_cmd_data c_cmd_data x.cmd.data ∧ (Lit.int .i64 x.policy.room).wf = true ∧ (Lit.int .i64 x.policy.frames).wf = true ∧ (Lit.int .i64 x.n).wf = true ∧ rFate.Sl Q w A_fates c_fates x.fates ∧ (Rep.int .i64).Sl Q w A_fuses c_fuses x.fuses := by
  obtain ⟨a0, b0, rfl, h0, g0⟩ := h
  obtain ⟨e0, w0⟩ := h0
  subst e0
  obtain ⟨a1, b1, rfl, h1, g1⟩ := g0
  obtain ⟨A1_5, c1_5, e1, w1_0, w1_2, w1_3, w1_4, w1_5⟩ := rCmd_open h1
  subst e1
  obtain ⟨a2, b2, rfl, h2, g2⟩ := g1
  obtain ⟨e2, w2_0, w2_1⟩ := rPolicy_open h2
  subst e2
  obtain ⟨a3, b3, rfl, h3, g3⟩ := g2
  obtain ⟨e3, w3⟩ := h3
  subst e3
  obtain ⟨a4, b4, rfl, h4, g4⟩ := g3
  obtain ⟨A4, c4, e4, w4⟩ := Rep.rd_sl h4
  subst e4
  obtain ⟨A5, c5, e5, w5⟩ := Rep.rd_sl g4
  subst e5
  exact ⟨A1_5, c1_5, A4, c4, A5, c5, rfl, w0, w1_0, w1_2, w1_3, w1_4, w1_5, w2_0, w2_1, w3, w4, w5⟩
theorem rAct_mk {Q : Nat → Prop} {w : World} {x : DAct} {A_cmd_data : Option Addr} {c_cmd_data : Nat} {A_fates : Option Addr} {c_fates : Nat} {A_fuses : Option Addr} {c_fuses : Nat} (f0 : (Lit.int .i64 x.kind).wf = true) (f1 : (Lit.int .i64 x.cmd.kind).wf = true) (f2 : (Lit.int .i64 x.cmd.id.index).wf = true) (f3 : (Lit.int .i64 x.cmd.id.gen).wf = true) (f4 : (Lit.int .i64 x.cmd.comp).wf = true) (f5 : Rep.byte.Sl Q w A_cmd_data c_cmd_data x.cmd.data) (f6 : (Lit.int .i64 x.policy.room).wf = true) (f7 : (Lit.int .i64 x.policy.frames).wf = true) (f8 : (Lit.int .i64 x.n).wf = true) (f9 : rFate.Sl Q w A_fates c_fates x.fates) (f10 : (Rep.int .i64).Sl Q w A_fuses c_fuses x.fuses) : rAct.rd Q w [.int .i64 x.kind, .int .i64 x.cmd.kind, .bool x.cmd.loc, .int .i64 x.cmd.id.index, .int .i64 x.cmd.id.gen, .int .i64 x.cmd.comp, .slice A_cmd_data x.cmd.data.length c_cmd_data, .int .i64 x.policy.room, .int .i64 x.policy.frames, .int .i64 x.n, .slice A_fates x.fates.length c_fates, .slice A_fuses x.fuses.length c_fuses] x := by
  exact ⟨_, _, rfl, ⟨rfl, f0⟩, ⟨_, _, rfl, rCmd_mk f1 f2 f3 f4 f5, ⟨_, _, rfl, rPolicy_mk f6 f7, ⟨_, _, rfl, ⟨rfl, f8⟩, ⟨_, _, rfl, Rep.sl_rd f9, Rep.sl_rd f10⟩⟩⟩⟩⟩
theorem rAct_at {Q : Nat → Prop} {w : World} {A : Option Addr} {xs : List DAct} (h : rAct.At Q w A xs) {i : Nat} {x : DAct} (hx : xs[i]? = some x) :
    ∃ (b off : Nat) (A_cmd_data : Option Addr) (c_cmd_data : Nat) (A_fates : Option Addr) (c_fates : Nat) (A_fuses : Option Addr) (c_fuses : Nat), A = some ⟨b, off, none⟩ ∧ IsC w b ∧ w.cell? ⟨b, off + i * 12, none⟩ = some (.int .i64 x.kind) ∧ w.cell? ⟨b, off + i * 12 + 1, none⟩ = some (.int .i64 x.cmd.kind) ∧ w.cell? ⟨b, off + i * 12 + 2, none⟩ = some (.bool x.cmd.loc) ∧ w.cell? ⟨b, off + i * 12 + 3, none⟩ = some (.int .i64 x.cmd.id.index) ∧ w.cell? ⟨b, off + i * 12 + 4, none⟩ = some (.int .i64 x.cmd.id.gen) ∧ w.cell? ⟨b, off + i * 12 + 5, none⟩ = some (.int .i64 x.cmd.comp) ∧ w.cell? ⟨b, off + i * 12 + 6, none⟩ = some (.slice A_cmd_data x.cmd.data.length c_cmd_data) ∧ w.cell? ⟨b, off + i * 12 + 7, none⟩ = some (.int .i64 x.policy.room) ∧ w.cell? ⟨b, off + i * 12 + 8, none⟩ = some (.int .i64 x.policy.frames) ∧ w.cell? ⟨b, off + i * 12 + 9, none⟩ = some (.int .i64 x.n) ∧ w.cell? ⟨b, off + i * 12 + 10, none⟩ = some (.slice A_fates x.fates.length c_fates) ∧ w.cell? ⟨b, off + i * 12 + 11, none⟩ = some (.slice A_fuses x.fuses.length c_fuses) ∧ (Lit.int .i64 x.kind).wf = true ∧ (Lit.int .i64 x.cmd.kind).wf = true ∧ (Lit.int .i64 x.cmd.id.index).wf = true ∧ (Lit.int .i64 x.cmd.id.gen).wf = true ∧ (Lit.int .i64 x.cmd.comp).wf = true ∧ Rep.byte.Sl Q w A_cmd_data c_cmd_data x.cmd.data ∧ (Lit.int .i64 x.policy.room).wf = true ∧ (Lit.int .i64 x.policy.frames).wf = true ∧ (Lit.int .i64 x.n).wf = true ∧ rFate.Sl Q w A_fates c_fates x.fates ∧ (Rep.int .i64).Sl Q w A_fuses c_fuses x.fuses := by
  obtain ⟨b, off, es, h1, _, h2, h3, h4⟩ := h.get hx
  obtain ⟨A_cmd_data, c_cmd_data, A_fates, c_fates, A_fuses, c_fuses, e, f0, f1, f2, f3, f4, f5, f6, f7, f8, f9, f10⟩ := rAct_open h3
  subst e
  rw [rAct_size] at h4
  exact ⟨b, off, A_cmd_data, c_cmd_data, A_fates, c_fates, A_fuses, c_fuses, h1, h2, h4 0 _ rfl, h4 1 _ rfl, h4 2 _ rfl, h4 3 _ rfl, h4 4 _ rfl, h4 5 _ rfl, h4 6 _ rfl, h4 7 _ rfl, h4 8 _ rfl, h4 9 _ rfl, h4 10 _ rfl, h4 11 _ rfl, f0, f1, f2, f3, f4, f5, f6, f7, f8, f9, f10⟩
theorem rAct_val {Q : Nat → Prop} {w : World} {v : Value} {x : DAct} (h : rAct.val Q w v x) : ∃ (A_cmd_data : Option Addr) (c_cmd_data : Nat) (A_fates : Option Addr) (c_fates : Nat) (A_fuses : Option Addr) (c_fuses : Nat), v = .agg #[.int .i64 x.kind, .int .i64 x.cmd.kind, .bool x.cmd.loc, .int .i64 x.cmd.id.index, .int .i64 x.cmd.id.gen, .int .i64 x.cmd.comp, .slice A_cmd_data x.cmd.data.length c_cmd_data, .int .i64 x.policy.room, .int .i64 x.policy.frames, .int .i64 x.n, .slice A_fates x.fates.length c_fates, .slice A_fuses x.fuses.length c_fuses] ∧ (Lit.int .i64 x.kind).wf = true ∧ (Lit.int .i64 x.cmd.kind).wf = true ∧ (Lit.int .i64 x.cmd.id.index).wf = true ∧ (Lit.int .i64 x.cmd.id.gen).wf = true ∧ (Lit.int .i64 x.cmd.comp).wf = true ∧ Rep.byte.Sl Q w A_cmd_data c_cmd_data x.cmd.data ∧ (Lit.int .i64 x.policy.room).wf = true ∧ (Lit.int .i64 x.policy.frames).wf = true ∧ (Lit.int .i64 x.n).wf = true ∧ rFate.Sl Q w A_fates c_fates x.fates ∧ (Rep.int .i64).Sl Q w A_fuses c_fuses x.fuses := by
  obtain ⟨cs, rfl, h⟩ := h
  obtain ⟨A_cmd_data, c_cmd_data, A_fates, c_fates, A_fuses, c_fuses, e, f0, f1, f2, f3, f4, f5, f6, f7, f8, f9, f10⟩ := rAct_open h
  subst e
  exact ⟨A_cmd_data, c_cmd_data, A_fates, c_fates, A_fuses, c_fuses, rfl, f0, f1, f2, f3, f4, f5, f6, f7, f8, f9, f10⟩
theorem rAct_agg {Q : Nat → Prop} {w : World} {x : DAct} {A_cmd_data : Option Addr} {c_cmd_data : Nat} {A_fates : Option Addr} {c_fates : Nat} {A_fuses : Option Addr} {c_fuses : Nat} (f0 : (Lit.int .i64 x.kind).wf = true) (f1 : (Lit.int .i64 x.cmd.kind).wf = true) (f2 : (Lit.int .i64 x.cmd.id.index).wf = true) (f3 : (Lit.int .i64 x.cmd.id.gen).wf = true) (f4 : (Lit.int .i64 x.cmd.comp).wf = true) (f5 : Rep.byte.Sl Q w A_cmd_data c_cmd_data x.cmd.data) (f6 : (Lit.int .i64 x.policy.room).wf = true) (f7 : (Lit.int .i64 x.policy.frames).wf = true) (f8 : (Lit.int .i64 x.n).wf = true) (f9 : rFate.Sl Q w A_fates c_fates x.fates) (f10 : (Rep.int .i64).Sl Q w A_fuses c_fuses x.fuses) : rAct.val Q w (.agg #[.int .i64 x.kind, .int .i64 x.cmd.kind, .bool x.cmd.loc, .int .i64 x.cmd.id.index, .int .i64 x.cmd.id.gen, .int .i64 x.cmd.comp, .slice A_cmd_data x.cmd.data.length c_cmd_data, .int .i64 x.policy.room, .int .i64 x.policy.frames, .int .i64 x.n, .slice A_fates x.fates.length c_fates, .slice A_fuses x.fuses.length c_fuses]) x := ⟨_, rfl, rAct_mk f0 f1 f2 f3 f4 f5 f6 f7 f8 f9 f10⟩

end Go.Proofs.YtejibngkeaamkaaGreatDoor
namespace Go.Proofs.YtejibngkeaamkaaGreatDoor
open Go.ChangeShapes Go.WideShapes Go.ChangeAt Go.RowKit

theorem of_Fate : rFate.Of Tryz.prog 65 :=
  Rep.of_struct _ (fun x => ⟨x.1, x.2⟩) (fun _ => rfl) Tryz.underlying65 (by kernel_rfl) (Rep.fields_cons rfl (Rep.of_int Tryz.underlying3 (by kernel_rfl)) (Rep.fields_one rfl (Rep.of_int Tryz.underlying3 (by kernel_rfl))))
theorem of_Act : rAct.Of Tryz.prog 35 :=
  Rep.of_struct _ (fun x => ⟨x.1, x.2.1, x.2.2.1, x.2.2.2.1, x.2.2.2.2.1, x.2.2.2.2.2⟩) (fun _ => rfl) Tryz.underlying35 (by kernel_rfl) (Rep.fields_cons rfl (Rep.of_int Tryz.underlying3 (by kernel_rfl)) (Rep.fields_cons rfl of_Cmd (Rep.fields_cons rfl of_Policy (Rep.fields_cons rfl (Rep.of_int Tryz.underlying3 (by kernel_rfl)) (Rep.fields_cons rfl (Rep.of_list Tryz.underlying32 (by kernel_rfl) (by decide) of_Fate) (Rep.fields_one rfl (Rep.of_list Tryz.underlying33 (by kernel_rfl) (by decide) (Rep.of_int Tryz.underlying3 (by kernel_rfl)))))))))
end Go.Proofs.YtejibngkeaamkaaGreatDoor
namespace Go.Proofs.YtejibngkeaamkaaGreatDoor
open Go.RowKit

/-- The pieces. -/
def piece (l : List UInt8) (i : Nat) : List UInt8 := (l.drop (472 * i)).take 472
def pieces (l : List UInt8) (n : Nat) : List (List UInt8) := (List.range n).map (piece l)
def cut (l : List UInt8) : List (List UInt8) := pieces l ((l.length + 471) / 472)

end Go.Proofs.YtejibngkeaamkaaGreatDoor
namespace Go.Proofs.YtejibngkeaamkaaGreatDoor
open Go.RowKit

/-- A layout in a box, and what reads it. -/
structure InBox (W : World) (B : Nat) (c : DConf) (A : Option Addr) (cap : Nat) : Prop where
  c0 : W.cell? ⟨B, 0, none⟩ = some (.int .i64 c.log)
  c1 : W.cell? ⟨B, 1, none⟩ = some (.int .i64 c.pages)
  c2 : W.cell? ⟨B, 2, none⟩ = some (.int .i64 c.entities)
  c3 : W.cell? ⟨B, 3, none⟩ = some (.int .i64 c.gens)
  c4 : W.cell? ⟨B, 4, none⟩ = some (.slice A c.comps.length cap)
  val : rConf.val (fun b => b < B) W (.agg #[.int .i64 c.log, .int .i64 c.pages, .int .i64 c.entities, .int .i64 c.gens, .slice A c.comps.length cap]) c
theorem InBox.later {W W' : World} {B : Nat} {c : DConf} {A : Option Addr} {cap : Nat} (h : InBox W B c A cap) (hb : Below (B + 1) W W') : InBox W' B c A cap :=
  ⟨(hb.cell (p := ⟨B, 0, none⟩) (Nat.lt_succ_self _)).trans h.c0, (hb.cell (p := ⟨B, 1, none⟩) (Nat.lt_succ_self _)).trans h.c1, (hb.cell (p := ⟨B, 2, none⟩) (Nat.lt_succ_self _)).trans h.c2,
   (hb.cell (p := ⟨B, 3, none⟩) (Nat.lt_succ_self _)).trans h.c3, (hb.cell (p := ⟨B, 4, none⟩) (Nat.lt_succ_self _)).trans h.c4, Rep.val_keep (fun b hq _ => ⟨hq, hb.block b (by omega)⟩) h.val⟩
theorem InBox.made {Q : Nat → Prop} {w : World} {c : DConf} {A : Option Addr} {cap : Nat} (h : rConf.val Q w (.agg #[.int .i64 c.log, .int .i64 c.pages, .int .i64 c.entities, .int .i64 c.gens, .slice A c.comps.length cap]) c) (t : TypeId) :
    InBox (w.alloc (.cells #[.int .i64 c.log, .int .i64 c.pages, .int .i64 c.entities, .int .i64 c.gens, .slice A c.comps.length cap] t)) w.heap.size c A cap :=
  ⟨by simp, by simp, by simp, by simp, by simp, Rep.val_keep (w := w) (fun _ _ hl => ⟨hl.lt, Below.heap_alloc _ _ _ hl.lt⟩) h⟩

end Go.Proofs.YtejibngkeaamkaaGreatDoor
namespace Go.Proofs.YtejibngkeaamkaaGreatDoor
open Go.RowKit

def knownB (k : Int) : Bool := decide (0 ≤ k) && decide (k ≤ 3)
def checkCmd (x : DCmd) : Int := if knownB x.kind then (if 64 < x.data.length then 13 else 0) else 1
set_option maxRecDepth 100000 in
/-- cmd.known -/
theorem known_calls (k : Int) (w : World) :
    Calls Tryz.prog 68 #[.int .i64 k] w fun e w' => e = .returned (.bool (knownB k)) ∧ w' = w := by
  obtain ⟨r, hr⟩ : ∃ r, r = knownB k := ⟨_, rfl⟩
  rw [← hr]
  unfold knownB at hr
  rcases dec_split (0 ≤ k) with t1 | ⟨t1, d1⟩ <;> rcases dec_split (k ≤ 3) with t2 | ⟨t2, d2⟩
  all_goals
    simp [*] at hr
    subst hr
    go_enter Tryz.func68, Tryz.ntmps68
    go_wp2_with fail
    go_ret
    exact ⟨by first | rfl | (simp only [*]; rfl), rfl⟩

/-- A command in a box. -/
structure CmdBox (W : World) (B : Nat) (x : DCmd) (A : Option Addr) (c : Nat) : Prop where
  c0 : W.cell? ⟨B, 0, none⟩ = some (.int .i64 x.kind)
  c1 : W.cell? ⟨B, 1, none⟩ = some (.bool x.loc)
  c2 : W.cell? ⟨B, 2, none⟩ = some (.int .i64 x.id.index)
  c3 : W.cell? ⟨B, 3, none⟩ = some (.int .i64 x.id.gen)
  c4 : W.cell? ⟨B, 4, none⟩ = some (.int .i64 x.comp)
  c5 : W.cell? ⟨B, 5, none⟩ = some (.slice A x.data.length c)
  val : rCmd.val (fun b => b < B) W (.agg #[.int .i64 x.kind, .bool x.loc, .int .i64 x.id.index, .int .i64 x.id.gen, .int .i64 x.comp, .slice A x.data.length c]) x
theorem CmdBox.later {W W' : World} {B : Nat} {x : DCmd} {A : Option Addr} {c : Nat} (h : CmdBox W B x A c) (hb : Below (B + 1) W W') : CmdBox W' B x A c :=
  ⟨(hb.cell (p := ⟨B, 0, none⟩) (Nat.lt_succ_self _)).trans h.c0, (hb.cell (p := ⟨B, 1, none⟩) (Nat.lt_succ_self _)).trans h.c1, (hb.cell (p := ⟨B, 2, none⟩) (Nat.lt_succ_self _)).trans h.c2,
   (hb.cell (p := ⟨B, 3, none⟩) (Nat.lt_succ_self _)).trans h.c3, (hb.cell (p := ⟨B, 4, none⟩) (Nat.lt_succ_self _)).trans h.c4, (hb.cell (p := ⟨B, 5, none⟩) (Nat.lt_succ_self _)).trans h.c5, Rep.val_keep (fun b hq _ => ⟨hq, hb.block b (by omega)⟩) h.val⟩
theorem CmdBox.made {Q : Nat → Prop} {w : World} {x : DCmd} {A : Option Addr} {c : Nat} (h : rCmd.val Q w (.agg #[.int .i64 x.kind, .bool x.loc, .int .i64 x.id.index, .int .i64 x.id.gen, .int .i64 x.comp, .slice A x.data.length c]) x) (t : TypeId) :
    CmdBox (w.alloc (.cells #[.int .i64 x.kind, .bool x.loc, .int .i64 x.id.index, .int .i64 x.id.gen, .int .i64 x.comp, .slice A x.data.length c] t)) w.heap.size x A c :=
  ⟨by simp, by simp, by simp, by simp, by simp, by simp, Rep.val_keep (w := w) (fun _ _ hl => ⟨hl.lt, Below.heap_alloc _ _ _ hl.lt⟩) h⟩

set_option maxRecDepth 100000 in
set_option maxHeartbeats 1000000 in
/-- cmd.Check -/
theorem cmdCheck_calls {Q : Nat → Prop} {w : World} {v : Value} {x : DCmd} (hx : rCmd.val Q w v x) :
    Calls Tryz.prog 45 #[v] w fun e w' => e = .returned (.int .i64 (checkCmd x)) ∧ Below w.heap.size w w' := by
  obtain ⟨A, c, rfl, _, _, _, _, hs⟩ := rCmd_val hx
  have hm := CmdBox.made hx 29
  have hs1 := hs.1
  have hs2 := hs.2.1
  unfold maxLen at hs2
  have hbel : Below w.heap.size w (w.alloc (.cells #[.int .i64 x.kind, .bool x.loc, .int .i64 x.id.index, .int .i64 x.id.gen, .int .i64 x.comp, .slice A x.data.length c] 29)) := (Below.refl _ _).alloc (Nat.le_refl _) _
  obtain ⟨W1, hW1⟩ : ∃ W1, w.alloc (.cells #[.int .i64 x.kind, .bool x.loc, .int .i64 x.id.index, .int .i64 x.id.gen, .int .i64 x.comp, .slice A x.data.length c] 29) = W1 := ⟨_, rfl⟩
  rw [hW1] at hm hbel
  obtain ⟨c0, c1, c2, c3, c4, c5, _⟩ := hm
  have HB := Lib.hid hbel
  clear hbel hx hs
  cases hk : knownB x.kind
  case false =>
    have HK := Lib.hid hk
    have HF := Lib.hid (show checkCmd x = 1 by unfold checkCmd; rw [hk]; rfl)
    clear hk
    go_enter Tryz.func45, Tryz.ntmps45
    go_wp2_with fail
    try rw [hW1]
    clear hW1
    go_wp2_with fail
    go_wp2_with (go_at_call 68; refine (known_calls _ _).mono ?_; rintro e w' ⟨rfl, rfl⟩; rw [HK.out])
    try rw [Exit.noGoto_ret]
    go_ret
    exact ⟨by rw [HF.out]; rfl, HB.out⟩
  case true =>
    have HK := Lib.hid hk
    by_cases h64 : (64 : Int) < x.data.length
    · have HF := Lib.hid (show checkCmd x = 13 by unfold checkCmd; rw [hk, if_pos rfl, if_pos (by omega)])
      clear hk
      go_enter Tryz.func45, Tryz.ntmps45
      go_wp2_with fail
      try rw [hW1]
      clear hW1
      go_wp2_with fail
      go_wp2_with (go_at_call 68; refine (known_calls _ _).mono ?_; rintro e w' ⟨rfl, rfl⟩; rw [HK.out])
      try rw [Exit.noGoto_ret]
      go_ret
      exact ⟨by rw [HF.out]; rfl, HB.out⟩
    · have HF := Lib.hid (show checkCmd x = 0 by unfold checkCmd; rw [hk, if_pos rfl, if_neg (by omega)])
      clear hk
      go_enter Tryz.func45, Tryz.ntmps45
      go_wp2_with fail
      try rw [hW1]
      clear hW1
      go_wp2_with fail
      go_wp2_with (go_at_call 68; refine (known_calls _ _).mono ?_; rintro e w' ⟨rfl, rfl⟩; rw [HK.out])
      try rw [Exit.noGoto_ret]
      go_ret
      exact ⟨by rw [HF.out]; rfl, HB.out⟩

set_option maxRecDepth 100000 in
set_option maxHeartbeats 1000000 in
/-- ref13.Check -/
theorem rcmdCheck_calls {Q : Nat → Prop} {w : World} {v : Value} {x : DCmd} (hx : rCmd.val Q w v x) :
    Calls Tryz.prog 35 #[v] w fun e w' => e = .returned (.int .i64 (checkCmd x)) ∧ Below w.heap.size w w' := by
  obtain ⟨A, c, rfl, _, _, _, _, hs⟩ := rCmd_val hx
  have hm := CmdBox.made hx 29
  have hs1 := hs.1
  have hs2 := hs.2.1
  unfold maxLen at hs2
  have hbel : Below w.heap.size w (w.alloc (.cells #[.int .i64 x.kind, .bool x.loc, .int .i64 x.id.index, .int .i64 x.id.gen, .int .i64 x.comp, .slice A x.data.length c] 29)) := (Below.refl _ _).alloc (Nat.le_refl _) _
  obtain ⟨W1, hW1⟩ : ∃ W1, w.alloc (.cells #[.int .i64 x.kind, .bool x.loc, .int .i64 x.id.index, .int .i64 x.id.gen, .int .i64 x.comp, .slice A x.data.length c] 29) = W1 := ⟨_, rfl⟩
  rw [hW1] at hm hbel
  obtain ⟨c0, c1, c2, c3, c4, c5, _⟩ := hm
  have HB := Lib.hid hbel
  clear hbel hx hs
  obtain ⟨r, hr⟩ : ∃ r, r = checkCmd x := ⟨_, rfl⟩
  rw [← hr]
  unfold checkCmd knownB at hr
  rcases dec_split (x.kind < 0) with t1 | ⟨t1, d1⟩ <;> rcases dec_split (3 < x.kind) with t2 | ⟨t2, d2⟩ <;> rcases dec_split ((64 : Int) < x.data.length) with t3 | ⟨t3, d3⟩
  all_goals
    try omega
  all_goals
    simp at hr
    (first | rw [if_pos (by omega), if_pos (by omega)] at hr | rw [if_pos (by omega), if_neg (by omega)] at hr | rw [if_neg (by omega)] at hr)
    subst hr
    go_enter Tryz.func35, Tryz.ntmps35
    go_wp2_with fail
    try rw [hW1]
    clear hW1
    go_wp2_with fail
    go_ret
    exact ⟨by first | rfl | (simp only [*]; rfl), HB.out⟩
end Go.Proofs.YtejibngkeaamkaaGreatDoor
namespace Go.Proofs.YtejibngkeaamkaaGreatDoor
open Go.RowKit Go.Lib

/-- Words between a byte. -/
def splitC (c : UInt8) : List UInt8 → List (List UInt8)
  | [] => [[]]
  | x :: xs => if x = c then [] :: splitC c xs else match splitC c xs with
    | [] => [[x]]
    | w :: ws => (x :: w) :: ws
theorem splitC_ne (c : UInt8) : ∀ s, splitC c s ≠ []
  | [] => by simp [splitC]
  | x :: xs => by
    unfold splitC
    split
    · simp
    · split <;> simp
theorem splitC_word (c : UInt8) : ∀ (w s : List UInt8), c ∉ w → splitC c (w ++ s) = match splitC c s with
    | [] => [w]
    | v :: vs => (w ++ v) :: vs
  | [], s, _ => by
    have := splitC_ne c s
    cases h : splitC c s <;> simp_all
  | x :: w, s, h => by
    have hx : ¬ x = c := fun e => h (by simp [e])
    have hw : c ∉ w := fun e => h (by simp [e])
    rw [List.cons_append, splitC, if_neg hx, splitC_word c w s hw]
    cases h2 : splitC c s <;> simp
theorem splitC_join (c : UInt8) : ∀ (ws : List (List UInt8)), ws ≠ [] → (∀ w ∈ ws, c ∉ w) → splitC c (join ws [c]) = ws
  | [w], _, h => by
    have := splitC_word c w [] (h w (by simp))
    simpa [join, List.intercalate, splitC] using this
  | w :: v :: ws, _, h => by
    have e : join (w :: v :: ws) [c] = w ++ c :: join (v :: ws) [c] := by simp [join, List.intercalate, List.intersperse]
    have ih := splitC_join c (v :: ws) (by simp) (fun x hx => h x (by simp [hx]))
    rw [e, splitC_word c w _ (h w (by simp)), splitC, if_pos rfl, ih]
    simp
theorem index_none {c : UInt8} : ∀ {s : List UInt8}, index s [c] = -1 ↔ c ∉ s
  | [] => by simp [index]
  | x :: xs => by
    unfold index
    by_cases hx : c = x
    · simp [hx, List.isPrefixOf]
    · have ih := index_none (c := c) (s := xs)
      have hp : ([c] : List UInt8).isPrefixOf (x :: xs) = false := by simp [List.isPrefixOf, hx]
      rw [hp]
      have hg := index_ge xs [c]
      constructor
      · intro h
        have : index xs [c] = -1 := by
          by_cases h1 : index xs [c] = -1
          · exact h1
          · have : (index xs [c] == -1) = false := by simp [h1]
            simp [this] at h; omega
        have := ih.1 this
        simp [hx, this]
      · intro h
        have h1 : index xs [c] = -1 := ih.2 (fun e => h (by simp [e]))
        simp [h1]
theorem index_at {c : UInt8} : ∀ {a b : List UInt8}, c ∉ a → index (a ++ c :: b) [c] = a.length
  | [], b, _ => by simp [index, List.isPrefixOf]
  | x :: a, b, h => by
    have hx : ¬ c = x := fun e => h (by simp [e])
    have ih := index_at (c := c) (a := a) (b := b) (fun e => h (by simp [e]))
    rw [List.cons_append, index]
    have hp : ([c] : List UInt8).isPrefixOf (x :: (a ++ c :: b)) = false := by simp [List.isPrefixOf, hx]
    have h1 : (index (a ++ c :: b) [c] == -1) = false := by rw [ih]; simp
    rw [hp, h1, ih]
    simp
theorem cut_at {c : UInt8} {a b : List UInt8} (h : c ∉ a) : Lib.cut (a ++ c :: b) [c] = (a, b, true) := by
  unfold Lib.cut
  rw [index_at h, if_pos (by omega)]
  simp
theorem split_byte (c : UInt8) (s : List UInt8) : (∃ a b, c ∉ a ∧ s = a ++ c :: b) ∨ c ∉ s := by
  by_cases h : c ∈ s
  · obtain ⟨a, b, h1, h2⟩ := List.eq_append_cons_of_mem h
    exact .inl ⟨a, b, h2, h1⟩
  · exact .inr h
theorem count_at {c : UInt8} {a b : List UInt8} (h : c ∉ a) : count (a ++ c :: b) [c] = count b [c] + 1 := by
  have go : ∀ (f g : Nat) (s : List UInt8), s.length < f → s.length < g → countFrom [c] f s = countFrom [c] g s := by
    intro f
    induction f with
    | zero => intro g s h; omega
    | succ f ih =>
      intro g s hf hg
      cases g with
      | zero => omega
      | succ g =>
        simp only [countFrom]
        split
        · rfl
        · rename_i hne
          have hq : 0 ≤ index s [c] := by have := index_ge s [c]; simp at hne; omega
          have hr := index_room s [c] hq
          simp at hr
          rw [ih g _ (by simp; omega) (by simp; omega)]
  unfold count
  rw [countFrom, index_at h, if_neg (by simp)]
  have e : (a ++ c :: b).drop ((a.length : Int).toNat + [c].length) = b := by simp
  rw [e, go _ (b.length + 1) b (by simp; omega) (by omega)]
  omega
theorem count_none {c : UInt8} {s : List UInt8} (h : c ∉ s) : count s [c] = 0 := by
  unfold count
  rw [countFrom, index_none.2 h]; simp
/-- strings.Split at a byte. -/
theorem split_eq (c : UInt8) : ∀ (n : Nat) (s : List UInt8), s.length < n → split s [c] = splitC c s := by
  intro n
  induction n with
  | zero => intro s h; omega
  | succ n ih =>
    intro s hs
    rcases split_byte c s with ⟨a, b, h1, rfl⟩ | h1
    · have ih' := ih b (by simp at hs; omega)
      unfold split at ih' ⊢
      rw [count_at h1, splitK, index_at h1, if_neg (by simp)]
      have e : (a ++ c :: b).drop ((a.length : Int).toNat + [c].length) = b := by simp
      rw [e, ih', splitC_word c a _ h1, splitC, if_pos rfl]
      simp
    · unfold split
      rw [count_none h1]
      have := splitC_word c s [] h1
      simpa [splitK, splitC] using this.symm
theorem split_is (c : UInt8) (s : List UInt8) : split s [c] = splitC c s := split_eq c (s.length + 1) s (by omega)
end Go.Proofs.YtejibngkeaamkaaGreatDoor
namespace Go.Proofs.YtejibngkeaamkaaGreatDoor
open Go.RowKit Go.Lib

abbrev Word := List UInt8
def whomS (x : DCmd) : Word := if x.loc then 36 :: itoa x.id.index else itoa x.id.index ++ 46 :: itoa x.id.gen
/-- The first component of a name. -/
def findC (l : List DComp) (s : Word) : Option Nat := l.findIdx? fun x => decide (x.name = s)
def partS (l : List DComp) (k : Int) : Word := match l[k.toNat]? with
  | some x => if 0 ≤ k ∧ findC l x.name = some k.toNat then x.name else 35 :: itoa k
  | none => 35 :: itoa k
def wSpawn : Word := [115, 112, 97, 119, 110]
def wDespawn : Word := [100, 101, 115, 112, 97, 119, 110]
def wSet : Word := [115, 101, 116]
def wRemove : Word := [114, 101, 109, 111, 118, 101]
def wEnd : Word := [101, 110, 100]
def wSync : Word := [115, 121, 110, 99]
def wCheck : Word := [99, 104, 101, 99, 107]
def wUpkeep : Word := [117, 112, 107, 101, 101, 112]
def wFuse : Word := [102, 117, 115, 101]
def wCrash : Word := [99, 114, 97, 115, 104]
def commandS (l : List DComp) (x : DCmd) : List Word :=
  if x.kind = 1 then [wDespawn, whomS x] else if x.kind = 2 then [wSet, whomS x, partS l x.comp, hexS x.data] else if x.kind = 3 then [wRemove, whomS x, partS l x.comp] else [wSpawn]
def fateS (f : DFate) : Word := itoa f.kept ++ 58 :: itoa f.torn
def crashS (x : DAct) : List Word := wCrash :: (x.fates.map fateS ++ (if x.fuses = [] then [] else [[47]]) ++ x.fuses.map itoa)
def wordsS (l : List DComp) (x : DAct) : List Word :=
  if x.kind = 0 then commandS l x.cmd else if x.kind = 1 then [wEnd] else if x.kind = 2 then [wSync] else if x.kind = 3 then [wCheck]
  else if x.kind = 4 then [wUpkeep, itoa x.policy.room, itoa x.policy.frames] else if x.kind = 5 then [wFuse, itoa x.n] else crashS x
def rightA (x : DAct) : Bool := decide (0 ≤ x.kind) && decide (x.kind ≤ 6) && (!decide (x.kind = 0) || decide (checkCmd x.cmd = 0)) && decide (x.fates.length ≤ 65535) && decide (x.fuses.length ≤ 65535)
def showS (l : List DComp) (x : DAct) : Word := if rightA x then join (wordsS l x) [32] else [63]

def zeroC : DCmd := ⟨0, false, ⟨0, 0⟩, 0, []⟩
def zeroA : DAct := ⟨0, zeroC, ⟨0, 0⟩, 0, [], []⟩
/-- What counts of a command. -/
def plainC (x : DCmd) : DCmd := if knownB x.kind then
    ⟨x.kind, if x.kind = 0 then false else x.loc, if x.kind = 0 then ⟨0, 0⟩ else ⟨x.id.index, if x.loc then 0 else x.id.gen⟩, if x.kind = 2 ∨ x.kind = 3 then x.comp else 0, if x.kind = 2 then x.data else []⟩ else x
def plainA (x : DAct) : DAct :=
  ⟨x.kind, if x.kind = 0 then plainC x.cmd else zeroC, if x.kind = 4 then x.policy else ⟨0, 0⟩, if x.kind = 5 then x.n else 0, if x.kind = 6 then x.fates else [], if x.kind = 6 then x.fuses else []⟩

/-- The words that are left, and whether one was none. -/
structure Wds where
  l : List Word
  bad : Bool
def Wds.word (r : Wds) : Word × Wds := match r.l with
  | [] => ([], ⟨[], true⟩)
  | w :: l => (w, ⟨l, r.bad⟩)
def Wds.num (r : Wds) (w : Word) : Int × Wds := ((numS w).getD 0, ⟨r.l, r.bad || (numS w).isNone⟩)
def Wds.target (r : Wds) (x : DCmd) : DCmd × Wds :=
  if [36].isPrefixOf r.word.1 then
    ({ x with loc := true, id := ⟨(r.word.2.num (r.word.1.drop 1)).1, x.id.gen⟩ }, (r.word.2.num (r.word.1.drop 1)).2)
  else
    ({ x with id := ⟨(r.word.2.num (Lib.cut r.word.1 [46]).1).1, ((r.word.2.num (Lib.cut r.word.1 [46]).1).2.num (Lib.cut r.word.1 [46]).2.1).1⟩ }, ((r.word.2.num (Lib.cut r.word.1 [46]).1).2.num (Lib.cut r.word.1 [46]).2.1).2)
def Wds.part (r : Wds) (l : List DComp) : Int × Wds :=
  if [35].isPrefixOf r.word.1 then r.word.2.num (r.word.1.drop 1)
  else (((findC l r.word.1).getD 0 : Nat), ⟨r.word.2.l, r.word.2.bad || (findC l r.word.1).isNone⟩)
def Wds.data (r : Wds) : List UInt8 × Wds := ((unhexS r.word.1).getD [], ⟨r.word.2.l, r.word.2.bad || (unhexS r.word.1).isNone⟩)
def Wds.command (r : Wds) (l : List DComp) (w : Word) : DCmd × Wds :=
  if w = wSpawn then (zeroC, r)
  else if w = wDespawn then r.target { zeroC with kind := 1 }
  else if w = wRemove then
    let a := r.target { zeroC with kind := 3 }
    let b := a.2.part l
    ({ a.1 with comp := b.1 }, b.2)
  else if w = wSet then
    let a := r.target { zeroC with kind := 2 }
    let b := a.2.part l
    let d := b.2.data
    ({ a.1 with comp := b.1, data := d.1 }, d.2)
  else (zeroC, ⟨r.l, true⟩)
def Wds.fates : Wds → List DFate → List DFate × Wds
  | ⟨[], bad⟩, fs => (fs, ⟨[], bad⟩)
  | ⟨w :: l, bad⟩, fs => if w = [47] then (fs, ⟨w :: l, bad⟩) else
      Wds.fates ⟨l, (bad || (numS (Lib.cut w [58]).1).isNone) || (numS (Lib.cut w [58]).2.1).isNone⟩ (fs ++ [⟨(numS (Lib.cut w [58]).1).getD 0, (numS (Lib.cut w [58]).2.1).getD 0⟩])
termination_by r => r.l.length
def Wds.fuses : Wds → List Int → List Int × Wds
  | ⟨[], bad⟩, ns => (ns, ⟨[], bad⟩)
  | ⟨w :: l, bad⟩, ns => Wds.fuses ⟨l, bad || (numS w).isNone⟩ (ns ++ [(numS w).getD 0])
termination_by r => r.l.length
def Wds.skip (r : Wds) : Wds := match r.l with
  | [] => r
  | _ :: l => ⟨l, r.bad⟩
def Wds.crash (r : Wds) : (List DFate × List Int) × Wds :=
  (((r.fates []).1, ((r.fates []).2.skip.fuses []).1), ((r.fates []).2.skip.fuses []).2)
def Wds.act0 (r : Wds) (l : List DComp) : DAct × Wds :=
  let w := r.word.1
  let s := r.word.2
  if w = wEnd then ({ zeroA with kind := 1 }, s)
  else if w = wSync then ({ zeroA with kind := 2 }, s)
  else if w = wCheck then ({ zeroA with kind := 3 }, s)
  else if w = wUpkeep then
    let a := s.word.2.num s.word.1
    let b := a.2.word.2.num a.2.word.1
    ({ zeroA with kind := 4, policy := ⟨a.1, b.1⟩ }, b.2)
  else if w = wFuse then
    let a := s.word.2.num s.word.1
    ({ zeroA with kind := 5, n := a.1 }, a.2)
  else if w = wCrash then ({ zeroA with kind := 6, fates := s.crash.1.1, fuses := s.crash.1.2 }, s.crash.2)
  else ({ zeroA with cmd := (s.command l w).1 }, (s.command l w).2)
def Wds.act (r : Wds) (l : List DComp) : DAct × Wds := ((r.act0 l).1, ⟨(r.act0 l).2.l, (r.act0 l).2.bad || decide (0 < (r.act0 l).2.l.length)⟩)
/-- The act of a line. -/
def lineS (c : DConf) (s : Word) : Option DAct :=
  if (Wds.act ⟨splitC 32 s, false⟩ c.comps).2.bad = false ∧ confRight c = true ∧ rightA (Wds.act ⟨splitC 32 s, false⟩ c.comps).1 = true ∧ showS c.comps (Wds.act ⟨splitC 32 s, false⟩ c.comps).1 = s then some (plainA (Wds.act ⟨splitC 32 s, false⟩ c.comps).1) else none
end Go.Proofs.YtejibngkeaamkaaGreatDoor
namespace Go.Proofs.YtejibngkeaamkaaGreatDoor
open Go.RowKit
open Extern.Stop (cell)

theorem cells_of (l : List UInt8) : (l.map fun x => Value.int .u8 (x.toNat : Int)) = l.map cell := rfl
/-- Block S holds the bytes L. -/
structure SecAt (w : World) (S : Nat) (t : TypeId) (L : List UInt8) : Prop where
  blk : w.heap[S]? = some (.cells (L.map cell).toArray t (0, 0))
  len : L.length = 512
theorem SecAt.lt {w : World} {S : Nat} {t : TypeId} {L : List UInt8} (h : SecAt w S t L) : S < w.heap.size := IsC.lt ⟨_, _, _, h.blk⟩
theorem SecAt.keep {w w' : World} {S : Nat} {t : TypeId} {L : List UInt8} (h : SecAt w S t L) (hk : w'.heap[S]? = w.heap[S]?) : SecAt w' S t L := ⟨hk.trans h.blk, h.len⟩
theorem SecAt.below {w w' : World} {S : Nat} {t : TypeId} {L : List UInt8} (h : SecAt w S t L) (hb : Below w.heap.size w w') : SecAt w' S t L := h.keep (hb.block S h.lt)
theorem SecAt.sl {w : World} {S : Nat} {t : TypeId} {L : List UInt8} (h : SecAt w S t L) {a n c : Nat} (hn : a + n ≤ 512) (hc : n ≤ c) (hm : c ≤ maxLen) :
    Rep.byte.list.val (fun b => b = S) w (.slice (some ⟨S, a, none⟩) n c) ((L.drop a).take n) := by
  have hl := h.len
  refine Rep.list_val (by rw [List.length_take, List.length_drop]; omega) hc hm ⟨_, Rep.byte_row _, fun _ => ⟨S, a, rfl, rfl, ⟨_, _, _, h.blk⟩, fun j u hj => ?_⟩⟩
  rw [cell_of_row _ _ _ _ _ _ h.blk, ← hj, cells_of]
  have hj' := (List.getElem?_eq_some_iff.1 hj).1
  rw [List.length_map, List.length_take, List.length_drop] at hj'
  simp only [List.getElem?_toArray, List.getElem?_map, List.getElem?_take, List.getElem?_drop]
  rw [if_pos (by omega)]

end Go.Proofs.YtejibngkeaamkaaGreatDoor
namespace Go.Proofs.YtejibngkeaamkaaGreatDoor
open Go.RowKit
open Extern.Stop (cell)

/-- What stands while a sector is made: the seal in its box, the result's block. -/
structure SealBox (W : World) (B : Nat) (x : DSeal) (A : Option Addr) (c : Nat) : Prop where
  c0 : W.cell? ⟨B, 0, none⟩ = some (.int .i64 x.epoch)
  c1 : W.cell? ⟨B, 1, none⟩ = some (.int .i64 x.no)
  c2 : W.cell? ⟨B, 2, none⟩ = some (.int .i64 x.kind)
  c3 : W.cell? ⟨B, 3, none⟩ = some (.slice A x.body.length c)
  sl : Rep.byte.Sl (fun b => b < B) W A c x.body
theorem SealBox.later {W W' : World} {B : Nat} {x : DSeal} {A : Option Addr} {c : Nat} (h : SealBox W B x A c) (hb : Below (B + 1) W W') : SealBox W' B x A c :=
  ⟨(hb.cell (p := ⟨B, 0, none⟩) (Nat.lt_succ_self _)).trans h.c0, (hb.cell (p := ⟨B, 1, none⟩) (Nat.lt_succ_self _)).trans h.c1, (hb.cell (p := ⟨B, 2, none⟩) (Nat.lt_succ_self _)).trans h.c2,
   (hb.cell (p := ⟨B, 3, none⟩) (Nat.lt_succ_self _)).trans h.c3, h.sl.keep fun b hq _ => ⟨hq, hb.block b (by omega)⟩⟩
theorem SealBox.made {Q : Nat → Prop} {w : World} {x : DSeal} {A : Option Addr} {c : Nat} (h : Rep.byte.Sl Q w A c x.body) (t : TypeId) :
    SealBox (w.alloc (.cells #[.int .i64 x.epoch, .int .i64 x.no, .int .i64 x.kind, .slice A x.body.length c] t)) w.heap.size x A c :=
  ⟨by simp, by simp, by simp, by simp, h.keep fun _ _ hl => ⟨hl.lt, Below.heap_alloc _ _ _ hl.lt⟩⟩

end Go.Proofs.YtejibngkeaamkaaGreatDoor
namespace Go.Proofs.YtejibngkeaamkaaGreatDoor
open Go.RowKit
open Go.Maps (Keyed)

/-- A device: what is safe, the writes that wait for each sector, the fuse, whether it is off, and what was done. -/
structure DiskSt where
  safe : List (List UInt8)
  wait : Int → List (List UInt8)
  fuse : Int
  off : Bool
  reads : Int
  writes : Int

/-- Nothing that was there is written but blocks of F. -/
structure Only (F : Nat → Prop) (W W' : World) : Prop where
  os : W'.os = W.os
  tape : W'.tape = W.tape
  output : W'.output = W.output
  size : W.heap.size ≤ W'.heap.size
  block : ∀ b, b < W.heap.size → ¬ F b → W'.heap[b]? = W.heap[b]?
theorem Only.refl (F : Nat → Prop) (W : World) : Only F W W := ⟨rfl, rfl, rfl, Nat.le_refl _, fun _ _ _ => rfl⟩
theorem Only.trans {F : Nat → Prop} {X Y Z : World} (h : Only F X Y) (k : Only F Y Z) : Only F X Z :=
  ⟨k.os.trans h.os, k.tape.trans h.tape, k.output.trans h.output, Nat.le_trans h.size k.size, fun b hb hf => (k.block b (Nat.lt_of_lt_of_le hb h.size) hf).trans (h.block b hb hf)⟩
theorem Only.of_below {F : Nat → Prop} {X Y : World} (h : Below X.heap.size X Y) : Only F X Y := ⟨h.os, h.tape, h.output, h.size, fun b hb _ => h.block b hb⟩
theorem Only.set {F : Nat → Prop} {X : World} {P i : Nat} {v : Value} (h : F P) : Only F X (X.setCell ⟨P, i, none⟩ v) :=
  ⟨rfl, rfl, rfl, by simp, fun b _ hf => Below.heap_setCell _ _ _ _ (fun e => hf (by rw [e]; exact h))⟩
theorem Only.below {F : Nat → Prop} {X Y : World} {base : Nat} (h : Only F X Y) (hb : base ≤ X.heap.size) (hf : ∀ b, F b → base ≤ b) : Below base X Y :=
  ⟨h.os, h.tape, h.output, h.size, fun b hl => h.block b (by omega) (fun hF => by have := hf b hF; omega)⟩

namespace DiskW
variable {W W' : World} {P : Nat} {Sf : Option Addr} {cs M : Nat} {D : DataW Value} {F B : Nat → Prop} {n : Nat} {st : DiskSt}

end DiskW
end Go.Proofs.YtejibngkeaamkaaGreatDoor
namespace Go.Proofs.YtejibngkeaamkaaGreatDoor
open Go.RowKit

/-- The boxes of a call. -/
def Box (w : World) (n : Nat) (b : Nat) : Prop := w.heap.size ≤ b ∧ b < w.heap.size + n
/-- What the call reads besides. -/
def In (Q : Nat → Prop) (w : World) (n : Nat) (b : Nat) : Prop := (Q b ∧ b < w.heap.size) ∨ w.heap.size + n ≤ b
theorem In.no {Q : Nat → Prop} {w : World} {n b : Nat} (h : In Q w n b) : ¬ Box w n b := by
  unfold In at h; unfold Box; omega
theorem alloc_at {w : World} {o : Obj} {b : Nat} (h : b = w.heap.size) : (w.alloc o).heap[b]? = some o := by rw [h]; exact heap_alloc_new _ _
theorem alloc_old {w : World} {o x : Obj} {b : Nat} (h : w.heap[b]? = some x) : (w.alloc o).heap[b]? = some x :=
  (heap_alloc_old _ _ (Array.getElem?_eq_some_iff.1 h).1).trans h
theorem row_call {W W' : World} {b : Nat} {x : Obj} (h : Below W.heap.size W W') (r : W.heap[b]? = some x) : W'.heap[b]? = some x :=
  (h.block b (Array.getElem?_eq_some_iff.1 r).1).trans r
theorem row_other {W : World} {b c i : Nat} {v : Value} {x : Obj} (r : W.heap[b]? = some x) (h : b ≠ c) : (W.setCell ⟨c, i, none⟩ v).heap[b]? = some x := (Below.heap_setCell _ _ _ _ h).trans r
theorem row_only {F : Nat → Prop} {W W' : World} {b : Nat} {x : Obj} (h : Only F W W') (r : W.heap[b]? = some x) (hn : ¬ F b) : W'.heap[b]? = some x :=
  (h.block b (Array.getElem?_eq_some_iff.1 r).1 hn).trans r
theorem Only.alloc {F : Nat → Prop} {W W' : World} (h : Only F W W') (o : Obj) : Only F W (W'.alloc o) := h.trans (Only.of_below (below_alloc' _ o))
where
  below_alloc' (w : World) (o : Obj) : Below w.heap.size w (w.alloc o) := (Below.refl _ _).alloc (Nat.le_refl _) _
theorem Only.put {F : Nat → Prop} {W W' : World} {b i : Nat} {v : Value} (h : Only F W W') (hb : F b) : Only F W (W'.setCell ⟨b, i, none⟩ v) := h.trans (Only.set hb)
theorem Only.drw {F : Nat → Prop} {W W' : World} (h : Only F W W') : Only F W W'.drew := ⟨h.os, h.tape, h.output, h.size, h.block⟩
theorem Only.late {F : Nat → Prop} {W W' : World} {b i : Nat} {v : Value} (h : Only F W W') (hb : W.heap.size ≤ b) : Only F W (W'.setCell ⟨b, i, none⟩ v) :=
  ⟨h.os, h.tape, h.output, by simpa using h.size, fun c hc hf => (Below.heap_setCell _ _ _ _ (fun e => by have e2 : c = b := e; omega)).trans (h.block c hc hf)⟩
theorem Only.fin {w W0 W : World} {n : Nat} (hb : Below w.heap.size w W0) (h : Only (Box w n) W0 W) : Below w.heap.size w W :=
  hb.trans (h.below hb.size fun _ hf => hf.1)
section
variable {α : Type} {r : Rep α} {Q : Nat → Prop} {w W W' : World} {n : Nat}
theorem val_in {v : Value} {x : α} (h : r.val Q w v x) (hb : Below w.heap.size w W) : r.val (In Q w n) W v x :=
  Rep.val_keep (fun b hq hl => ⟨.inl ⟨hq, hl.lt⟩, hb.block b hl.lt⟩) h
theorem val_only {v : Value} {x : α} (h : r.val (In Q w n) W v x) (ho : Only (Box w n) W W') : r.val (In Q w n) W' v x :=
  Rep.val_keep (fun b hq hl => ⟨hq, ho.block b hl.lt hq.no⟩) h
theorem val_fresh {v : Value} {x : α} (h : r.val (fun b => W.heap.size ≤ b) W' v x) (hs : w.heap.size + n ≤ W.heap.size) : r.val (In Q w n) W' v x :=
  Rep.val_mono (fun _ hq _ => .inr (Nat.le_trans hs hq)) h
end
theorem cell_bound {W : World} {b o : Nat} {v : Value} (h : W.cell? ⟨b, o, none⟩ = some v) : b < W.heap.size := by
  unfold World.cell? at h
  by_cases hb : b < W.heap.size
  · exact hb
  · rw [Array.getElem?_eq_none (show W.heap.size ≤ b by omega)] at h
    simp at h
theorem int_at {Q : Nat → Prop} {W : World} {A : Option Addr} {xs : List Int} (h : (Rep.int .i64).At Q W A xs) {i : Nat} {x : Int} (hx : xs[i]? = some x) :
    ∃ b off, A = some ⟨b, off, none⟩ ∧ Q b ∧ W.cell? ⟨b, off + i, none⟩ = some (.int .i64 x) ∧ (Lit.int .i64 x).wf = true := by
  obtain ⟨b, off, es, h1, h2, _, h3, h4⟩ := h.get hx
  obtain ⟨he, hw⟩ := h3
  subst he
  exact ⟨b, off, h1, h2, by simpa [Rep.int] using h4 0 _ rfl, hw⟩
theorem stopOne {P : Program} {ops : Array Oper} {rest : List Oper} {o : Oper} {a : Act} {w : World} {R : Exit → Act → World → Prop} {x : Operand} {t : TypeId} (_ : o.op = .buildSlice t 1 #[(0, x)]) (h : Hid (wpList P ops R (o :: rest) a w)) : wpList P ops R (o :: rest) a w := h.out
theorem stopLoad {P : Program} {ops : Array Oper} {rest : List Oper} {o : Oper} {a : Act} {w : World} {R : Exit → Act → World → Prop} (t : TypeId) (k : Tmp) (_ : o.op = .load t (.tmp k)) (h : Hid (wpList P ops R (o :: rest) a w)) : wpList P ops R (o :: rest) a w := h.out
theorem below_put {B k : Nat} {w W : World} (h : Below B w W) (hk : B ≤ k) {i : Nat} {v : Value} : Below B w (W.setCell ⟨k, i, none⟩ v) :=
  ⟨h.os, h.tape, h.output, by simpa using h.size, fun c hc => (Below.heap_setCell _ _ _ _ (fun e => by have e2 : c = k := e; omega)).trans (h.block c hc)⟩
theorem Only.wid {F G : Nat → Prop} {X Y : World} (h : Only F X Y) (hf : ∀ b, F b → G b) : Only G X Y := ⟨h.os, h.tape, h.output, h.size, fun b hl hg => h.block b hl fun e => hg (hf b e)⟩
theorem sl_of {α : Type} {r : Rep α} {Q : Nat → Prop} {w : World} {A : Option Addr} {n c : Nat} {xs : List α} (h : r.list.val Q w (.slice A n c) xs) : r.Sl Q w A c xs := by
  obtain ⟨A2, c2, he, h1, h2, h3⟩ := Rep.val_list h
  cases he
  exact ⟨h1, h2, h3⟩
theorem nm_anyT {P : Program} {md : Region.Mode} {ops : Array Oper} {Q : Exit → Act → World → Prop} {S : World → Prop} {T : List Nat} {fuel : Nat} {listed : Array Bool} {a : Act} {w : World} (h : ∀ W, W = w → wpAnyT P md ops Q S T fuel listed a W) : wpAnyT P md ops Q S T fuel listed a w := h w rfl
theorem nm_calls {P : Program} {f : FuncId} {args : Array Value} {w : World} {R : Ending → World → Prop} (h : ∀ W, W = w → Calls P f args W R) : Calls P f args w R := h w rfl
theorem nm_region {P : Program} {id : Nat} {ops : Array Oper} {Q : Exit → Act → World → Prop} {a : Act} {w : World} (h : ∀ W, W = w → (Code.region id ops true).wp P Q a W) : (Code.region id ops true).wp P Q a w := h w rfl
theorem nm_list {P : Program} {ops : Array Oper} {Q : Exit → Act → World → Prop} {l : List Oper} {a : Act} {w : World} (h : ∀ W, W = w → wpList P ops Q l a W) : wpList P ops Q l a w := h w rfl
theorem nm_any {P : Program} {md : Region.Mode} {ops : Array Oper} {Q : Exit → Act → World → Prop} {S : World → Prop} {fuel : Nat} {listed : Array Bool} {a : Act} {w : World} (h : ∀ W, W = w → wpAnyH P md ops Q S fuel listed a W) : wpAnyH P md ops Q S fuel listed a w := h w rfl
theorem nm_post {P : Program} {fn : Func} {R : Ending → World → Prop} {x : Exit} {a : Act} {w : World} (h : ∀ W, W = w → bodyPost P fn R x a W) : bodyPost P fn R x a w := h w rfl
end Go.Proofs.YtejibngkeaamkaaGreatDoor
