/- Texts on which the proofs stand: Core, Types, Clone, Le, Text, Comp, Conf, RConf, RRight, NumMath, Get, Reader, DirMath, RDirGet, Region, HeldTail, Short, Frame, Structs, Laid34, Count, Most, CmdCheck, CrcMath, SealMath. No condition is laid on any input. -/
import Derived.WalkKit
import Derived.WalkSpells
import Derived.Carry
import Derived.ChangeArms
import Derived.ChangeOld
import Derived.Lib.Hide
import Derived.Deep.Draws
import Derived.Laws.OwnMore
import Derived.Maps.AppendAt
import Derived.Deep.OwnRows
import Derived.Test.YthkepjhfeeohdaaGreatDoorProg
import Derived.BigQuiet
import Derived.Deep.QuietTactic
import Derived.Lib.AppendStr
import Derived.Lib.ConvBytes
import Derived.Laws.IdiomStrings
import Derived.Deep.RegionHeld3
import Derived.WalkMore
import Derived.StillTailTactics
import Derived.Deep.RegionWith
import Derived.RangeFuncNested
import Derived.RangeFuncBound
import Derived.RangeFuncCalls
import Derived.RangeFuncLeaves
import Derived.RangeFuncBox
import Derived.Orders
import Derived.OrdersIn
import Derived.Test.YthkepjhfeeohdaaGreatDoorRows
import Derived.ProofKit
import Derived.OpenShut
import Derived.ShutString
import Derived.Below
import Derived.LaidMore
import Derived.Lay
import Derived.HandedShaped
import Derived.Handed
import Derived.Stop.Joined
import Derived.Laws.CopyOwn
namespace Go.Proofs.YthkepjhfeeohdaaGreatDoor
open Go.RowKit

/-- A block of cells. -/
def IsC (w : World) (b : Nat) : Prop := ∃ c e f, w.heap[b]? = some (.cells c e f)
theorem IsC.lt {w : World} {b : Nat} (h : IsC w b) : b < w.heap.size := by
  obtain ⟨c, e, f, h⟩ := h
  exact (Array.getElem?_eq_some_iff.1 h).1
theorem IsC.same {w w' : World} {b : Nat} (h : IsC w b) (he : w'.heap[b]? = w.heap[b]?) : IsC w' b := by
  obtain ⟨c, e, f, h⟩ := h
  exact ⟨c, e, f, he.trans h⟩

/-- How values of a Lean type lie in cells; Q holds of every block that is read. -/
structure Rep (α : Type) where
  size : Nat
  wrap : List Value → Value
  rd : (Nat → Prop) → World → List Value → α → Prop
  len : ∀ {Q w cs x}, rd Q w cs x → cs.length = size
  one : ∀ {Q w cs x}, rd Q w cs x → ∀ u ∈ cs, u.oneCell' = true
  back : ∀ {Q w cs x}, rd Q w cs x → (wrap cs).cells.toList = cs
  keep : ∀ {Q Q' : Nat → Prop} {w w' : World} {cs x}, (∀ b, Q b → IsC w b → Q' b ∧ w'.heap[b]? = w.heap[b]?) → rd Q w cs x → rd Q' w' cs x

namespace Rep
variable {α β : Type}

theorem mono (r : Rep α) {Q Q' : Nat → Prop} {w : World} {cs x} (hq : ∀ b, Q b → IsC w b → Q' b) (h : r.rd Q w cs x) : r.rd Q' w cs x :=
  r.keep (fun b hb hl => ⟨hq b hb hl, rfl⟩) h

/-- An integer of a kind. -/
def int (k : IntKind) : Rep Int where
  size := 1
  wrap cs := cs.headD undef
  rd _ _ cs n := cs = [.int k n] ∧ (Lit.int k n).wf = true
  len h := by rw [h.1]; rfl
  one h := by rw [h.1]; simp [Value.oneCell']
  back h := by rw [h.1]; rfl
  keep _ h := h

/-- A byte. -/
def byte : Rep UInt8 where
  size := 1
  wrap cs := cs.headD undef
  rd _ _ cs n := cs = [.int .u8 (n.toNat : Int)]
  len h := by rw [h]; rfl
  one h := by rw [h]; simp [Value.oneCell']
  back h := by rw [h]; rfl
  keep _ h := h

def bool : Rep Bool where
  size := 1
  wrap cs := cs.headD undef
  rd _ _ cs n := cs = [.bool n]
  len h := by rw [h]; rfl
  one h := by rw [h]; simp [Value.oneCell']
  back h := by rw [h]; rfl
  keep _ h := h

/-- A text. -/
def text : Rep (List UInt8) where
  size := 1
  wrap cs := cs.headD undef
  rd _ _ cs l := cs = [.string ⟨l.toArray⟩] ∧ l.length ≤ maxLen
  len h := by rw [h.1]; rfl
  one h := by rw [h.1]; simp [Value.oneCell']
  back h := by rw [h.1]; rfl
  keep _ h := h

/-- Two, one behind the other. -/
def pair (r : Rep α) (s : Rep β) : Rep (α × β) where
  size := r.size + s.size
  wrap cs := .agg cs.toArray
  rd Q w cs x := ∃ as0 bs, cs = as0 ++ bs ∧ r.rd Q w as0 x.1 ∧ s.rd Q w bs x.2
  len h := by obtain ⟨as0, bs, rfl, h1, h2⟩ := h; rw [List.length_append, r.len h1, s.len h2]
  one h := by
    obtain ⟨as0, bs, rfl, h1, h2⟩ := h
    intro u hu
    rcases List.mem_append.1 hu with hu | hu
    · exact r.one h1 u hu
    · exact s.one h2 u hu
  back h := by simp [Value.cells]
  keep hk h := by
    obtain ⟨as0, bs, rfl, h1, h2⟩ := h
    exact ⟨as0, bs, rfl, r.keep hk h1, s.keep hk h2⟩

/-- The same cells, read as0 another type. -/
def iso (r : Rep α) (f : β → α) : Rep β where
  size := r.size
  wrap := r.wrap
  rd Q w cs x := r.rd Q w cs (f x)
  len h := r.len h
  one h := r.one h
  back h := r.back h
  keep hk h := r.keep hk h

/-- Elements, one behind the other. -/
def row (r : Rep α) (Q : Nat → Prop) (w : World) : List Value → List α → Prop
  | cs, [] => cs = []
  | cs, x :: xs => ∃ es rest, cs = es ++ rest ∧ r.rd Q w es x ∧ r.row Q w rest xs

section
variable {r : Rep α} {Q Q' : Nat → Prop} {w w' : World}

theorem row_len : ∀ {xs : List α} {cs : List Value}, r.row Q w cs xs → cs.length = xs.length * r.size
  | [], cs, h => by have : cs = [] := h; subst this; simp
  | x :: xs, cs, h => by
    obtain ⟨es, rest, rfl, h1, h2⟩ := h
    rw [List.length_append, r.len h1, row_len h2, List.length_cons, Nat.add_mul]; omega

theorem row_one : ∀ {xs : List α} {cs : List Value}, r.row Q w cs xs → ∀ u ∈ cs, u.oneCell' = true
  | [], cs, h => by have : cs = [] := h; subst this; simp
  | x :: xs, cs, h => by
    obtain ⟨es, rest, rfl, h1, h2⟩ := h
    intro u hu
    rcases List.mem_append.1 hu with hu | hu
    · exact r.one h1 u hu
    · exact row_one h2 u hu

theorem row_keep (hk : ∀ b, Q b → IsC w b → Q' b ∧ w'.heap[b]? = w.heap[b]?) : ∀ {xs : List α} {cs : List Value}, r.row Q w cs xs → r.row Q' w' cs xs
  | [], _, h => h
  | x :: xs, _, h => by
    obtain ⟨es, rest, rfl, h1, h2⟩ := h
    exact ⟨es, rest, rfl, r.keep hk h1, row_keep hk h2⟩

theorem row_append : ∀ {xs ys : List α} {cs ds : List Value}, r.row Q w cs xs → r.row Q w ds ys → r.row Q w (cs ++ ds) (xs ++ ys)
  | [], ys, cs, ds, h, h' => by have : cs = [] := h; subst this; simpa using h'
  | x :: xs, ys, cs, ds, h, h' => by
    obtain ⟨es, rest, rfl, h1, h2⟩ := h
    exact ⟨es, rest ++ ds, by simp, h1, row_append h2 h'⟩

theorem row_one_elem {x : α} {es : List Value} (h : r.rd Q w es x) : r.row Q w es [x] := ⟨es, [], by simp, h, rfl⟩

theorem row_split : ∀ {xs ys : List α} {cs : List Value}, r.row Q w cs (xs ++ ys) → ∃ as0 bs, cs = as0 ++ bs ∧ r.row Q w as0 xs ∧ r.row Q w bs ys
  | [], ys, cs, h => ⟨[], cs, rfl, rfl, h⟩
  | x :: xs, ys, cs, h => by
    obtain ⟨es, rest, rfl, h1, h2⟩ := h
    obtain ⟨as0, bs, rfl, h3, h4⟩ := row_split h2
    exact ⟨es ++ as0, bs, by simp, ⟨es, as0, rfl, h1, h3⟩, h4⟩

theorem row_get {xs : List α} {cs : List Value} (h : r.row Q w cs xs) {i : Nat} {x : α} (hx : xs[i]? = some x) :
    ∃ es, r.rd Q w es x ∧ ∀ j u, es[j]? = some u → cs[i * r.size + j]? = some u := by
  have hi : i < xs.length := (List.getElem?_eq_some_iff.1 hx).1
  have hsp : xs = xs.take i ++ (x :: xs.drop (i + 1)) := by
    have := (List.getElem?_eq_some_iff.1 hx).2
    rw [← this, List.getElem_cons_drop, List.take_append_drop]
  rw [hsp] at h
  obtain ⟨as0, bs, rfl, h1, es, rest, rfl, h2, _⟩ := row_split h
  refine ⟨es, h2, fun j u hj => ?_⟩
  have hl := row_len h1
  rw [List.length_take, Nat.min_eq_left (Nat.le_of_lt hi)] at hl
  have hj' := (List.getElem?_eq_some_iff.1 hj).1
  rw [List.getElem?_append_right (by omega), show i * r.size + j - as0.length = j by omega, List.getElem?_append_left hj']
  exact hj
end

/-- A slice: its cell; where it has elements, they lie in one block, which is of Q. -/
def list (r : Rep α) : Rep (List α) where
  size := 1
  wrap cs := cs.headD undef
  rd Q w cs xs := ∃ A c es, cs = [.slice A xs.length c] ∧ xs.length ≤ c ∧ c ≤ maxLen ∧ r.row Q w es xs ∧
    (0 < xs.length → ∃ b off, A = some ⟨b, off, none⟩ ∧ Q b ∧ IsC w b ∧ ∀ j u, es[j]? = some u → w.cell? ⟨b, off + j, none⟩ = some u)
  len h := by obtain ⟨A, c, es, rfl, _⟩ := h; rfl
  one h := by obtain ⟨A, c, es, rfl, _⟩ := h; simp [Value.oneCell']
  back h := by obtain ⟨A, c, es, rfl, _⟩ := h; rfl
  keep hk h := by
    obtain ⟨A, c, es, rfl, h1, h2, h3, h4⟩ := h
    refine ⟨A, c, es, rfl, h1, h2, row_keep hk h3, fun hn => ?_⟩
    obtain ⟨b, off, rfl, hq, hb, hc⟩ := h4 hn
    obtain ⟨hq', he⟩ := hk b hq hb
    refine ⟨b, off, rfl, hq', hb.same he, fun j u hj => ?_⟩
    · rw [World.cell?_of_block (w := _) (w' := _) (a := ⟨b, off + j, none⟩) he]
      exact hc j u hj

/-- A value (of one cell, or of several) that reads as0 x. -/
def val (r : Rep α) (Q : Nat → Prop) (w : World) (v : Value) (x : α) : Prop := ∃ cs, v = r.wrap cs ∧ r.rd Q w cs x

section
variable {r : Rep α} {Q Q' : Nat → Prop} {w w' : World} {v : Value}

theorem val_keep {x : α} (hk : ∀ b, Q b → IsC w b → Q' b ∧ w'.heap[b]? = w.heap[b]?) (h : r.val Q w v x) : r.val Q' w' v x := by
  obtain ⟨cs, hv, h⟩ := h
  exact ⟨cs, hv, r.keep hk h⟩

/-- Any blocks at all. -/
theorem val_any {x : α} (h : r.val Q w v x) : r.val (fun b => b < w.heap.size) w v x := val_keep (fun _ _ hl => ⟨hl.lt, rfl⟩) h
theorem val_mono {x : α} (hq : ∀ b, Q b → IsC w b → Q' b) (h : r.val Q w v x) : r.val Q' w v x := val_keep (fun b hb hl => ⟨hq b hb hl, rfl⟩) h

/-- What a slice's value is, and its elements' cells. -/
def At (r : Rep α) (Q : Nat → Prop) (w : World) (A : Option Addr) (xs : List α) : Prop :=
  ∃ es, r.row Q w es xs ∧ (0 < xs.length → ∃ b off, A = some ⟨b, off, none⟩ ∧ Q b ∧ IsC w b ∧ ∀ j u, es[j]? = some u → w.cell? ⟨b, off + j, none⟩ = some u)

theorem val_list {xs : List α} (h : r.list.val Q w v xs) : ∃ A c, v = .slice A xs.length c ∧ xs.length ≤ c ∧ c ≤ maxLen ∧ r.At Q w A xs := by
  obtain ⟨cs, rfl, A, c, es, rfl, h1, h2, h3, h4⟩ := h
  exact ⟨A, c, rfl, h1, h2, es, h3, h4⟩
theorem list_val {xs : List α} {A : Option Addr} {n c : Nat} (hn : n = xs.length) (h1 : n ≤ c) (h2 : c ≤ maxLen) (h : r.At Q w A xs) : r.list.val Q w (.slice A n c) xs := by
  subst hn
  obtain ⟨es, h3, h4⟩ := h
  exact ⟨_, rfl, A, c, es, rfl, h1, h2, h3, h4⟩
theorem val_nil {c : Nat} (h : c ≤ maxLen) : r.list.val Q w (.slice none 0 c) ([] : List α) := list_val rfl (Nat.zero_le _) h ⟨[], rfl, fun h => absurd h (by simp)⟩
theorem At.keep {A : Option Addr} {xs : List α} (hk : ∀ b, Q b → IsC w b → Q' b ∧ w'.heap[b]? = w.heap[b]?) (h : r.At Q w A xs) : r.At Q' w' A xs := by
  obtain ⟨es, h3, h4⟩ := h
  refine ⟨es, row_keep hk h3, fun hn => ?_⟩
  obtain ⟨b, off, rfl, hq, hb, hc⟩ := h4 hn
  obtain ⟨hq', he⟩ := hk b hq hb
  refine ⟨b, off, rfl, hq', hb.same he, fun j u hj => ?_⟩
  · rw [World.cell?_of_block (w := w) (w' := w') (a := ⟨b, off + j, none⟩) he]
    exact hc j u hj

theorem At.drewN {A : Option Addr} {xs : List α} (h : r.At Q w A xs) (n : Nat) : r.At Q (w.drewN n) A xs := At.keep (w := w) (w' := w.drewN n) (fun _ hb _ => ⟨hb, rfl⟩) h
/-- An element: where it lies. -/
theorem At.get {A : Option Addr} {xs : List α} (h : r.At Q w A xs) {i : Nat} {x : α} (hx : xs[i]? = some x) :
    ∃ b off es, A = some ⟨b, off, none⟩ ∧ Q b ∧ IsC w b ∧ r.rd Q w es x ∧ ∀ j u, es[j]? = some u → w.cell? ⟨b, off + i * r.size + j, none⟩ = some u := by
  obtain ⟨cs, h3, h4⟩ := h
  have hi : i < xs.length := (List.getElem?_eq_some_iff.1 hx).1
  obtain ⟨b, off, rfl, hq, hb, hc⟩ := h4 (by omega)
  obtain ⟨es, h5, h6⟩ := row_get h3 hx
  exact ⟨b, off, es, rfl, hq, hb, h5, fun j u hj => by rw [Nat.add_assoc]; exact hc _ _ (h6 j u hj)⟩
end

end Rep


theorem foldl_set (xs : List Value) : ∀ (pre ys : List Value), ys.length = xs.length →
    (xs.zipIdx pre.length).foldl (fun (cs : Array Value) (p : Value × Nat) => cs.setIfInBounds p.2 p.1) (pre ++ ys).toArray = (pre ++ xs).toArray := by
  induction xs with
  | nil => intro pre ys h; have : ys = [] := List.eq_nil_of_length_eq_zero h; subst this; simp
  | cons x xs ih =>
    intro pre ys h
    cases ys with
    | nil => simp at h
    | cons y ys =>
      have hh := ih (pre ++ [x]) ys (by simpa using h)
      simp only [List.append_assoc, List.singleton_append, List.length_append, List.length_singleton] at hh
      simp only [List.zipIdx_cons, List.foldl_cons]
      rw [← hh]
      congr 1
      simp

theorem fill_one (size : Nat) (cells : Array Value) (v : Value) (hv : v.cells.size = size) (hc : cells.size = size) :
    Instr.fill (fun i => some (i * size, size)) cells [(0, v)] = some v.cells := by
  have h := foldl_set v.cells.toList [] cells.toList (by simp [hv, hc])
  simp only [Instr.fill]
  rw [if_neg (by simp [hv, hc])]
  congr 1
  simp only [List.nil_append, List.length_nil, Array.toArray_toList] at h
  rw [← Array.foldl_toList, Array.toList_zipIdx, Nat.zero_mul]
  simp only [Nat.zero_add]
  exact h

theorem run_buildSlice_one {P : Program} (w : World) (t e : TypeId) (z : Value) (size : Nat) (ht : P.underlying t = some (.slice e)) (hi : (P.info? e).map (fun i => (i.zero, i.size)) = some (some z, size))
    (v : Value) (hv : v.cells.size = size) (h0 : 0 < size) (hs : size ≤ 1000) :
    (Instr.buildSlice t 1 #[(0, v)]).run P w = .ok (.slice (some ⟨w.heap.size, 0, none⟩) 1 1) (w.alloc (.cells v.cells e)) := by
  obtain ⟨i, hi, hh⟩ := Option.map_eq_some_iff.1 hi
  simp only [Prod.mk.injEq] at hh
  obtain ⟨hz, hs'⟩ := hh
  have hf := fill_one size ((Array.range (1 * size)).map (fun k => z.cells[k % z.cells.size]!)) v hv (by simp)
  unfold Instr.buildSlice
  simp only [Sem.run_bind, run_underlying ht, Result.andThen_ok, sizeOf, typeInfo, run_program, hi, hs', Sem.run_pure]
  simp only [Nat.one_mul] at hf ⊢
  rw [if_neg (by omega)]
  simp [show ¬ size = 0 by omega, zeroValue, hi, hz, hf, newRow, typeInfo]


namespace Rep
variable {α : Type} {r : Rep α} {e base : Nat} {Q Q' : Nat → Prop} {w w' : World} {v : Value} {xs ys : List α}

/-- A slice of the call's own, to which it appends: its block is one from 'base' on, the elements read blocks of Q, and none of them is the slice's own. -/
def acc (r : Rep α) (e base : Nat) (Q : Nat → Prop) (w : World) (v : Value) (xs : List α) : Prop :=
  ∃ cells, w.ownsRow base e r.size v xs.length cells ∧ r.row (fun b => Q b ∧ v.ownBlock ≠ some b) w cells xs

theorem acc_nil : r.acc e base Q w (.slice none 0 0) [] := ⟨[], by simpa using World.ownsRow_nil w base e r.size, rfl⟩

theorem acc_form (h : r.acc e base Q w v xs) : ∃ A c, v = .slice A xs.length c ∧ xs.length ≤ c ∧ c ≤ maxLen := by
  obtain ⟨cells, h1, h2⟩ := h
  rcases h1.2 with ⟨rfl, h0⟩ | ⟨g, cap, cur, rfl, _, _, h3, h4, _⟩
  · exact ⟨none, 0, by rw [h0], by omega, by simp [maxLen]⟩
  · exact ⟨_, cap, rfl, h3, h4⟩

theorem acc_own (h : r.acc e base Q w v xs) : ∀ k, v.ownBlock = some k → base ≤ k ∧ k < w.heap.size := by
  obtain ⟨cells, h1, _⟩ := h
  exact h1.lt

theorem acc_val (h : r.acc e base Q w v xs) : r.list.val (fun b => Q b ∨ v.ownBlock = some b) w v xs := by
  obtain ⟨cells, h1, h2⟩ := h
  have h2' : r.row (fun b => Q b ∨ v.ownBlock = some b) w cells xs := row_keep (fun b hb _ => ⟨.inl hb.1, rfl⟩) h2
  rcases h1.2 with ⟨rfl, h0⟩ | ⟨g, cap, cur, rfl, hb, hg, h3, h4, h5, h6⟩
  · refine list_val h0.symm (Nat.le_refl _) (by simp [maxLen]) ⟨cells, h2', fun h => absurd h (by omega)⟩
  · refine list_val rfl h3 h4 ⟨cells, h2', fun hn => ⟨g, 0, rfl, .inr rfl, ⟨cur, e, (0, 0), hg⟩, fun j u hj => ?_⟩⟩
    have := h1.cells (g := g) rfl j u hj
    rwa [Addr.add_lit] at this

theorem acc_keep (hk : ∀ b, (Q b ∨ v.ownBlock = some b) → IsC w b → w'.heap[b]? = w.heap[b]?) (hq : ∀ b, Q b → IsC w b → Q' b) (h : r.acc e base Q w v xs) : r.acc e base Q' w' v xs := by
  obtain ⟨cells, h1, h2⟩ := h
  refine ⟨cells, ⟨h1.1, ?_⟩, row_keep (fun b hb hl => ⟨⟨hq b hb.1 hl, hb.2⟩, hk b (.inl hb.1) hl⟩) h2⟩
  rcases h1.2 with hn | ⟨g, cap, cur, rfl, hb, hg, rest⟩
  · exact .inl hn
  · exact .inr ⟨g, cap, cur, rfl, hb, (hk g (.inr rfl) ⟨cur, e, (0, 0), hg⟩).trans hg, rest⟩

/-- What an append leaves. -/
theorem acc_more {P : Program} {t ty : TypeId} {z : Value} {size bytes : Nat} (ht : P.underlying t = some (.slice e)) (hi : (P.info? e).map (fun i => (i.zero, i.size, i.bytes)) = some (some z, size, bytes))
    (hzs : z.cells.size = size) (hsz : 0 < size) (hr : r.size = size) (h : r.acc e base Q w v xs)
    {A : Option Addr} {m c : Nat} (hm : m = ys.length) {es : List Value} (h3' : r.row (fun b => Q b ∧ v.ownBlock ≠ some b) w es ys)
    (h4 : 0 < ys.length → ∃ b off, A = some ⟨b, off, none⟩ ∧ ∀ j u, es[j]? = some u → w.cell? ⟨b, off + j, none⟩ = some u)
    (h63 : xs.length + ys.length ≤ maxLen) (hbytes : (xs.length + ys.length) * bytes ≤ 140737488355328) (hbase : base ≤ w.heap.size) :
    ∃ v' w', (Builtin.append_ #[t, t] ty #[v, .slice A m c]).run P w = .ok v' w' ∧ r.acc e base Q w' v' (xs ++ ys) ∧ w.grownBy w' v.ownBlock ∧ (v'.ownBlock = v.ownBlock ∨ v'.ownBlock = some w.heap.size) := by
  subst hm
  obtain ⟨i, hi, hh⟩ := Option.map_eq_some_iff.1 hi
  simp only [Prod.mk.injEq] at hh
  obtain ⟨hz, hs', hby⟩ := hh
  obtain ⟨cells, h1, h2⟩ := h
  have hl : es.length = ys.length * size := by rw [row_len h3', hr]
  have key : ∃ v' w', (Builtin.append_ #[t, t] ty #[v, .slice A ys.length c]).run P w = .ok v' w' ∧ w'.ownsRow base e size v' (xs.length + ys.length) (cells ++ es) ∧ w.grownBy w' v.ownBlock ∧ (v'.ownBlock = v.ownBlock ∨ v'.ownBlock = some w.heap.size) := by
    cases hA : A with
    | none =>
      have hn : ys = [] := by
        cases ys with
        | nil => rfl
        | cons y ys =>
          obtain ⟨b, off, hb, _⟩ := h4 (by simp)
          rw [hA] at hb; cases hb
      subst hn
      have he : es = [] := h3'
      subst he
      refine ⟨v, w, ?_, by simpa [hr] using h1, World.grownBy.refl w _, .inl rfl⟩
      rcases h1.2 with ⟨rfl, _⟩ | ⟨g, cap, cur, rfl, _, _, hnc, _⟩
      · simp [Builtin.append_, run_underlying ht, sizeOf, typeInfo, hi, Builtin.lenOf, Builtin.firstCells]
      · simp [Builtin.append_, run_underlying ht, sizeOf, typeInfo, hi, Builtin.lenOf, Builtin.firstCells, hnc, storeCells]
    | some ad =>
      obtain ⟨v', w', q1, q2, q3, _, q4⟩ := run_append_own_at (P := P) w base t ty e i z size bytes ht hi hz hs' hby hzs hsz v xs.length cells (hr ▸ h1) ad ys.length c es hl (by
        intro j u hj
        have hp : 0 < ys.length := by
          have := (List.getElem?_eq_some_iff.1 hj).1
          rcases Nat.eq_zero_or_pos ys.length with h0 | h0
          · rw [h0] at hl; omega
          · exact h0
        obtain ⟨b, off, hb, hc⟩ := h4 hp
        rw [hA] at hb
        obtain rfl : ad = ⟨b, off, none⟩ := by injection hb
        rw [Addr.add_lit]
        exact hc j u hj) (row_one h3') h63 hbytes hbase
      exact ⟨v', w', q1, q2, q3, q4⟩
  obtain ⟨v', w', q1, q2, q3, q4⟩ := key
  refine ⟨v', w', q1, ⟨cells ++ es, by rw [hr, List.length_append]; exact q2, ?_⟩, q3, q4⟩
  refine row_keep (fun b hb hl => ⟨⟨hb.1, ?_⟩, q3.block b hl.lt (fun e => hb.2 e.symm)⟩) (row_append h2 h3')
  rcases q4 with q4 | q4 <;> rw [q4]
  · exact hb.2
  · intro hc; injection hc with hc; have := hl.lt; omega

end Rep

section
variable {α : Type} {r : Rep α} {e base : Nat} {Q Q' : Nat → Prop} {P : Program} {w : World}

/-- 'append(s, x)'. -/
theorem wpList_snoc {ops : Array Oper} {rest : List Oper} {o1 o2 : Oper} {a : Act} {R : Exit → Act → World → Prop} (hg1 : o1.guard = none) (hg2 : o2.guard = none) (x s : Operand) (t : TypeId) (d : Tmp)
    (ho1 : o1.op = .buildSlice t 1 #[(0, x)]) (hd : o1.dst = some d) (ho2 : o2.op = .call { callee := .builtin .append, args := #[s, .tmp d], argTypes := #[t, t] })
    (z : Value) (size bytes : Nat) (ht : P.underlying t = some (.slice e)) (hi : (P.info? e).map (fun i => (i.zero, i.size, i.bytes)) = some (some z, size, bytes)) (hzs : z.cells.size = size) (hsz : 0 < size ∧ size ≤ 1000)
    (hr : r.size = size) (v : Value) (xs : List α) (h : r.acc e base Q w v xs) (y : α) (vy : Value) (hx : a.eval x = vy) (hy : r.val (fun b => Q b ∧ v.ownBlock ≠ some b) w vy y)
    (hs : (a.put (some d) (.slice (some ⟨w.heap.size, 0, none⟩) 1 1)).eval s = v) (he : (a.put (some d) (.slice (some ⟨w.heap.size, 0, none⟩) 1 1)).eval (.tmp d) = .slice (some ⟨w.heap.size, 0, none⟩) 1 1)
    (h63 : xs.length + 1 ≤ maxLen) (hbytes : (xs.length + 1) * bytes ≤ 140737488355328) (hbase : base ≤ w.heap.size)
    (K : ∀ v' w', r.acc e base Q w' v' (xs ++ [y]) → w.grownBy w' v.ownBlock → (v'.ownBlock = v.ownBlock ∨ v'.ownBlock = some (w.heap.size + 1)) →
      wpList P ops R rest ((a.put (some d) (.slice (some ⟨w.heap.size, 0, none⟩) 1 1)).put o2.dst v') w') :
    wpList P ops R (o1 :: o2 :: rest) a w := by
  obtain ⟨cs, hv, hrd⟩ := hy
  have hcl := r.len hrd
  have hcells : vy.cells.toList = cs := by rw [hv]; exact r.back hrd
  have hi' : (P.info? e).map (fun i => (i.zero, i.size)) = some (some z, size) := by
    obtain ⟨i, hi, hh⟩ := Option.map_eq_some_iff.1 hi
    simp only [Prod.mk.injEq] at hh
    simp [hi, hh]
  refine wpList_plain hg1 fun K1 hK1 => ?_
  have hb := run_buildSlice_one (P := P) w t e z size ht hi' vy (by rw [← Array.length_toList, hcells, hcl, hr]) hsz.1 hsz.2
  unfold Oper.wp
  simp only [execOp, ho1, List.map_toArray, List.map_cons, List.map_nil, hx]
  simp only [Sem.run_bind, hb, Result.andThen_ok, Sem.run_pure, Oper.upon_value]
  apply hK1
  rw [hd]
  refine wpList_plain hg2 fun K2 hK2 => ?_
  have hkeep : ∀ b, b < w.heap.size → (w.alloc (.cells vy.cells e)).heap[b]? = w.heap[b]? := fun b hb => Below.heap_alloc _ _ _ hb
  have hacc' : r.acc e base Q (w.alloc (.cells vy.cells e)) v xs := Rep.acc_keep (fun b _ hl => hkeep b hl.lt) (fun _ hb _ => hb) h
  have hbn : (w.alloc (.cells vy.cells e)).heap[w.heap.size]? = some (.cells vy.cells e) := heap_alloc_new w _
  obtain ⟨v', w', q1, q2, q3, q4⟩ := Rep.acc_more (P := P) (w := w.alloc (.cells vy.cells e)) (ty := o2.type) (ys := [y]) (A := some ⟨w.heap.size, 0, none⟩) (m := 1) (c := 1) (es := cs)
    ht hi hzs hsz.1 hr hacc' rfl
    (Rep.row_one_elem (r.keep (fun b hb hl => ⟨hb, hkeep b hl.lt⟩) hrd)) (fun _ => ⟨w.heap.size, 0, rfl, fun j u hj => by
      rw [cell_of_row _ _ _ _ _ _ hbn, Nat.zero_add, ← hj, ← hcells]; simp⟩)
    (by simpa using h63) (by simpa using hbytes) (by simp; omega)
  unfold Oper.wp execOp
  simp only [ho2, resolve, invoke, builtin, Sem.run_bind, Sem.run_pure, Result.andThen_ok, List.map_toArray, List.map_cons, List.map_nil, hs, he, q1]
  refine hK2 _ _ (K v' w' q2 ?_ (by simpa using q4))
  exact (World.grownBy_alloc w _ _).trans q3

end

namespace Rep
theorem row_byte {Q : Nat → Prop} {w : World} : ∀ {l : List UInt8} {es : List Value}, Rep.byte.row Q w es l → es = l.map fun x => .int .u8 (x.toNat : Int)
  | [], _, h => h
  | x :: l, _, h => by
    obtain ⟨as0, rest, rfl, h1, h2⟩ := h
    obtain rfl : as0 = [.int .u8 (x.toNat : Int)] := h1
    rw [row_byte h2]; rfl

theorem byte_row {Q : Nat → Prop} {w : World} : ∀ (l : List UInt8), Rep.byte.row Q w (l.map fun x => .int .u8 (x.toNat : Int)) l
  | [] => rfl
  | x :: l => ⟨[.int .u8 (x.toNat : Int)], l.map fun x => .int .u8 (x.toNat : Int), rfl, rfl, byte_row l⟩

theorem At.byte {Q : Nat → Prop} {w : World} {A : Option Addr} {xs : List UInt8} (h : Rep.byte.At Q w A xs) {i : Nat} {x : UInt8} (hx : xs[i]? = some x) :
    ∃ b off, A = some ⟨b, off, none⟩ ∧ w.cell? ⟨b, off + i, none⟩ = some (.int .u8 (x.toNat : Int)) := by
  obtain ⟨b, off, es, h1, _, _, rfl, h4⟩ := h.get hx
  exact ⟨b, off, h1, by simpa [Rep.byte] using h4 0 _ rfl⟩

theorem At.int {k : IntKind} {Q : Nat → Prop} {w : World} {A : Option Addr} {xs : List Int} (h : (Rep.int k).At Q w A xs) {i : Nat} {x : Int} (hx : xs[i]? = some x) :
    ∃ b off, A = some ⟨b, off, none⟩ ∧ w.cell? ⟨b, off + i, none⟩ = some (.int k x) ∧ (Lit.int k x).wf = true := by
  obtain ⟨b, off, es, h1, _, _, ⟨rfl, h3⟩, h4⟩ := h.get hx
  exact ⟨b, off, h1, by simpa [Rep.int] using h4 0 _ rfl, h3⟩

/-- An element that is a slice. -/
theorem At.list {α : Type} {r : Rep α} {Q : Nat → Prop} {w : World} {A : Option Addr} {xs : List (List α)} (h : r.list.At Q w A xs) {i : Nat} {x : List α} (hx : xs[i]? = some x) :
    ∃ b off B c, A = some ⟨b, off, none⟩ ∧ w.cell? ⟨b, off + i, none⟩ = some (.slice B x.length c) ∧ x.length ≤ c ∧ c ≤ maxLen ∧ r.At Q w B x := by
  obtain ⟨b, off, es, h1, _, _, ⟨B, c, es', rfl, h2, h3, h4, h5⟩, h6⟩ := h.get hx
  exact ⟨b, off, B, c, h1, by simpa [Rep.list] using h6 0 _ rfl, h2, h3, es', h4, h5⟩

end Rep

namespace Rep
theorem row_take {α : Type} {r : Rep α} {Q : Nat → Prop} {w : World} {xs : List α} {es : List Value} (h : r.row Q w es xs) (n : Nat) : r.row Q w (es.take (n * r.size)) (xs.take n) := by
  have h' : r.row Q w es (xs.take n ++ xs.drop n) := by rwa [List.take_append_drop]
  obtain ⟨as0, bs, rfl, h1, h2⟩ := row_split h'
  have l1 := row_len h1
  by_cases hn : n ≤ xs.length
  · rw [List.length_take, Nat.min_eq_left hn] at l1
    rw [← l1, List.take_left]; exact h1
  · have hd : xs.drop n = [] := List.drop_eq_nil_of_le (by omega)
    rw [hd] at h2
    obtain rfl : bs = [] := h2
    rw [List.append_nil, List.take_of_length_le]
    · exact h1
    · rw [l1, List.length_take]; exact Nat.mul_le_mul_right _ (Nat.min_le_left _ _)

theorem row_drop {α : Type} {r : Rep α} {Q : Nat → Prop} {w : World} {xs : List α} {es : List Value} (h : r.row Q w es xs) {n : Nat} (hn : n ≤ xs.length) : r.row Q w (es.drop (n * r.size)) (xs.drop n) := by
  have h' : r.row Q w es (xs.take n ++ xs.drop n) := by rwa [List.take_append_drop]
  obtain ⟨as0, bs, rfl, h1, h2⟩ := row_split h'
  have l1 := row_len h1
  rw [List.length_take, Nat.min_eq_left hn] at l1
  rw [← l1, List.drop_left]; exact h2

/-- 's[:n]'. -/
theorem At.take {α : Type} {r : Rep α} {Q : Nat → Prop} {w : World} {A : Option Addr} {xs : List α} (h : r.At Q w A xs) (n : Nat) : r.At Q w A (xs.take n) := by
  obtain ⟨es, h1, h2⟩ := h
  refine ⟨_, row_take h1 n, fun hn => ?_⟩
  obtain ⟨b, off, hA, hq, hb, hc⟩ := h2 (by rw [List.length_take] at hn; omega)
  refine ⟨b, off, hA, hq, hb, fun j u hj => hc j u ?_⟩
  rw [List.getElem?_take] at hj
  split at hj
  · exact hj
  · cases hj

/-- 's[n:]' (below the capacity). -/
theorem At.drop {α : Type} {r : Rep α} {Q : Nat → Prop} {w : World} {b off : Nat} {xs : List α} (h : r.At Q w (some ⟨b, off, none⟩) xs) {n : Nat} (hn : n ≤ xs.length) : r.At Q w (some ⟨b, off + n * r.size, none⟩) (xs.drop n) := by
  obtain ⟨es, h1, h2⟩ := h
  refine ⟨_, row_drop h1 hn, fun hp => ?_⟩
  obtain ⟨b', off', hA, hq, hb, hc⟩ := h2 (by rw [List.length_drop] at hp; omega)
  injection hA with hA
  injection hA with e1 e2
  subst e1 e2
  refine ⟨b, off + n * r.size, rfl, hq, hb, fun j u hj => ?_⟩
  rw [Nat.add_assoc]
  exact hc _ u (by rw [← hj, List.getElem?_drop])

theorem At.addr {α : Type} {r : Rep α} {Q : Nat → Prop} {w : World} {A : Option Addr} {xs : List α} (h : r.At Q w A xs) (hn : 0 < xs.length) : ∃ b off, A = .some ⟨b, off, none⟩ := by
  obtain ⟨es, h1, h2⟩ := h
  obtain ⟨b, off, hA, _⟩ := h2 hn
  exact ⟨b, off, hA⟩
end Rep

theorem Rep.At.grown {α : Type} {r : Rep α} {Q : Nat → Prop} {w w' : World} {A : Option Addr} {xs : List α} {row : Option Nat} (h : r.At Q w A xs) (hg : w.grownBy w' row) (hr : ∀ b, Q b → row ≠ some b) : r.At Q w' A xs :=
  h.keep fun b hb hl => ⟨hb, hg.block b hl.lt (fun e => hr b hb e.symm)⟩
theorem Rep.At.below {α : Type} {r : Rep α} {Q : Nat → Prop} {w w' : World} {A : Option Addr} {xs : List α} {B : Nat} (h : r.At Q w A xs) (hb : Below B w w') (hr : ∀ b, Q b → IsC w b → b < B) : r.At Q w' A xs :=
  h.keep fun b hq hl => ⟨hq, hb.block b (hr b hq hl)⟩
theorem Rep.val_below {α : Type} {r : Rep α} {Q : Nat → Prop} {w w' : World} {v : Value} {x : α} {B : Nat} (h : r.val Q w v x) (hb : Below B w w') (hr : ∀ b, Q b → IsC w b → b < B) : r.val Q w' v x :=
  Rep.val_keep (fun b hq hl => ⟨hq, hb.block b (hr b hq hl)⟩) h

theorem Rep.acc_made {α : Type} {r : Rep α} {e base : Nat} {Q : Nat → Prop} (w : World) (cur : Array Value) (cap : Nat) (hb : base ≤ w.heap.size) (hm : cap ≤ maxLen) (hs : cur.size = cap * r.size) :
    r.acc e base Q (w.alloc (.cells cur e)) (.slice (some ⟨w.heap.size, 0, none⟩) 0 cap) [] := ⟨[], World.ownsRow_made w cur cap hb hm hs, rfl⟩

/-- Values without blocks of their own. -/
def Rep.Leaf {α : Type} (r : Rep α) : Prop := ∀ (Q Q' : Nat → Prop) (w w' : World) (cs : List Value) (x : α), r.rd Q w cs x → r.rd Q' w' cs x
theorem Rep.leaf_int (k : IntKind) : (Rep.int k).Leaf := fun _ _ _ _ _ _ h => h
theorem Rep.leaf_byte : Rep.byte.Leaf := fun _ _ _ _ _ _ h => h
theorem Rep.row_leaf {α : Type} {r : Rep α} (hr : r.Leaf) {Q Q' : Nat → Prop} {w w' : World} : ∀ {xs : List α} {es : List Value}, r.row Q w es xs → r.row Q' w' es xs
  | [], _, h => h
  | x :: xs, _, h => by
    obtain ⟨as0, rest, rfl, h1, h2⟩ := h
    exact ⟨as0, rest, rfl, hr _ _ _ _ _ _ h1, row_leaf hr h2⟩

/-- 'append(s, xs...)' of values without blocks of their own. -/
theorem wpList_spread_leaf {α : Type} {r : Rep α} {e base : Nat} {Q Q' : Nat → Prop} {P : Program} {w : World} (hleaf : r.Leaf) {ops : Array Oper} {rest : List Oper} {o : Oper} {a : Act} {R : Exit → Act → World → Prop} (hg : o.guard = none) (s x : Operand) (t : TypeId)
    (ho : o.op = .call { callee := .builtin .append, args := #[s, x], argTypes := #[t, t] })
    (z : Value) (size bytes : Nat) (ht : P.underlying t = some (.slice e)) (hi : (P.info? e).map (fun i => (i.zero, i.size, i.bytes)) = some (some z, size, bytes)) (hzs : z.cells.size = size) (hsz : 0 < size)
    (hr : r.size = size) (v : Value) (xs : List α) (hs : a.eval s = v) (h : r.acc e base Q w v xs) (u : Value) (ys : List α) (hx : a.eval x = u) (hy : r.list.val Q' w u ys)
    (h63 : xs.length + ys.length ≤ maxLen) (hbytes : (xs.length + ys.length) * bytes ≤ 140737488355328) (hbase : base ≤ w.heap.size)
    (K : ∀ v' w', r.acc e base Q w' v' (xs ++ ys) → w.grownBy w' v.ownBlock → (v'.ownBlock = v.ownBlock ∨ v'.ownBlock = some w.heap.size) → wpList P ops R rest (a.put o.dst v') w') :
    wpList P ops R (o :: rest) a w := by
  obtain ⟨A, c, rfl, h1, h2, es, h3, h4⟩ := Rep.val_list hy
  refine wpList_plain hg fun K2 hK2 => ?_
  obtain ⟨v', w', q1, q2, q3, q4⟩ := Rep.acc_more (P := P) (ty := o.type) (c := c) ht hi hzs hsz hr h rfl (Rep.row_leaf hleaf h3)
    (fun hn => by obtain ⟨b, off, q1, _, _, q2⟩ := h4 hn; exact ⟨b, off, q1, q2⟩) h63 hbytes hbase
  unfold Oper.wp execOp
  simp only [ho, resolve, invoke, builtin, Sem.run_bind, Sem.run_pure, Result.andThen_ok, List.map_toArray, List.map_cons, List.map_nil, hs, hx, q1]
  exact hK2 _ _ (K v' w' q2 q3 q4)

/-- What a slice of the call's own reads as0, its elements without blocks. -/
theorem Rep.acc_fresh {α : Type} {r : Rep α} {e base : Nat} {w : World} {v : Value} {xs : List α} (h : r.acc e base (fun _ => False) w v xs) : r.list.val (fun b => base ≤ b) w v xs :=
  Rep.val_mono (fun b hb _ => by
    rcases hb with hb | hb
    · exact hb.elim
    · exact (Rep.acc_own h b hb).1) (Rep.acc_val h)

/-- The world behind an append: what lay below stands. -/
theorem Rep.acc_below {α : Type} {r : Rep α} {e base : Nat} {Q : Nat → Prop} {w0 w w' : World} {v : Value} {xs : List α} (h : r.acc e base Q w v xs) (hb : Below base w0 w) (hg : w.grownBy w' v.ownBlock) (hB : base ≤ w.heap.size) : Below base w0 w' :=
  hb.grown hg hB fun k hk => (Rep.acc_own h k hk).1

def zeroBytes (n : Nat) : Array Value := madeCells #[.int .u8 0] n

theorem run_make_bytes {P : Program} {t e : TypeId} (ht : P.underlying t = some (.slice e)) (hi : (P.info? e).map (fun i => (i.zero, i.size, i.bytes)) = some (some (.int .u8 0), 1, 1)) (n : Nat) (hn : n ≤ 1000000000000) (w : World) :
    (Instr.makeSlice t (.int .i64 (n : Int)) (.int .i64 (n : Int))).run P w = .ok (.slice (some ⟨w.heap.size, 0, none⟩) n n) (w.alloc (.cells (zeroBytes n) e)) :=
  run_make_row' t e (.int .u8 0) 1 ht hi rfl .i64 .i64 n (by omega) (by omega) w

theorem below_drewN {B : Nat} {a w : World} (h : Below B a w) (n : Nat) : Below B a (w.drewN n) := ⟨h.os, h.tape, h.output, h.size, h.block⟩

end Go.Proofs.YthkepjhfeeohdaaGreatDoor
namespace Go.Proofs.YthkepjhfeeohdaaGreatDoor
open Go.RowKit

/-- What is known of a slice in a cell. -/
def Rep.Sl {α : Type} (r : Rep α) (Q : Nat → Prop) (w : World) (A : Option Addr) (c : Nat) (xs : List α) : Prop := xs.length ≤ c ∧ c ≤ maxLen ∧ r.At Q w A xs
theorem Rep.Sl.val {α : Type} {r : Rep α} {Q : Nat → Prop} {w : World} {A : Option Addr} {c : Nat} {xs : List α} (h : r.Sl Q w A c xs) : r.list.val Q w (.slice A xs.length c) xs := Rep.list_val rfl h.1 h.2.1 h.2.2
theorem Rep.val_sl {α : Type} {r : Rep α} {Q : Nat → Prop} {w : World} {v : Value} {xs : List α} (h : r.list.val Q w v xs) : ∃ A c, v = .slice A xs.length c ∧ r.Sl Q w A c xs := by
  obtain ⟨A, c, rfl, h1, h2, h3⟩ := Rep.val_list h
  exact ⟨A, c, rfl, h1, h2, h3⟩
theorem Rep.Sl.keep {α : Type} {r : Rep α} {Q Q' : Nat → Prop} {w w' : World} {A : Option Addr} {c : Nat} {xs : List α} (hk : ∀ b, Q b → IsC w b → Q' b ∧ w'.heap[b]? = w.heap[b]?) (h : r.Sl Q w A c xs) : r.Sl Q' w' A c xs := ⟨h.1, h.2.1, h.2.2.keep hk⟩
theorem Rep.Sl.drewN {α : Type} {r : Rep α} {Q : Nat → Prop} {w : World} {A : Option Addr} {c : Nat} {xs : List α} (h : r.Sl Q w A c xs) (n : Nat) : r.Sl Q (w.drewN n) A c xs := ⟨h.1, h.2.1, h.2.2.drewN n⟩
theorem Rep.Sl.below {α : Type} {r : Rep α} {Q : Nat → Prop} {w w' : World} {A : Option Addr} {c : Nat} {xs : List α} {B : Nat} (h : r.Sl Q w A c xs) (hb : Below B w w') (hr : ∀ b, Q b → IsC w b → b < B) : r.Sl Q w' A c xs := ⟨h.1, h.2.1, h.2.2.below hb hr⟩
theorem Rep.sl_rd {α : Type} {r : Rep α} {Q : Nat → Prop} {w : World} {A : Option Addr} {c : Nat} {xs : List α} (h : r.Sl Q w A c xs) : r.list.rd Q w [.slice A xs.length c] xs := by
  obtain ⟨h1, h2, es, h3, h4⟩ := h
  exact ⟨A, c, es, rfl, h1, h2, h3, h4⟩
theorem Rep.rd_sl {α : Type} {r : Rep α} {Q : Nat → Prop} {w : World} {cs : List Value} {xs : List α} (h : r.list.rd Q w cs xs) : ∃ A c, cs = [.slice A xs.length c] ∧ r.Sl Q w A c xs := by
  obtain ⟨A, c, es, rfl, h1, h2, h3, h4⟩ := h
  exact ⟨A, c, rfl, h1, h2, es, h3, h4⟩

@[ext] structure DID where
  index : Int
  gen : Int
  deriving DecidableEq

def rID : Rep DID := ((Rep.int .i64).pair (Rep.int .i64)).iso fun x => (x.index, x.gen)
theorem rID_open {Q : Nat → Prop} {w : World} {cs : List Value} {x : DID} (h : rID.rd Q w cs x) : cs = [.int .i64 x.index, .int .i64 x.gen] ∧ (Lit.int .i64 x.index).wf = true ∧ (Lit.int .i64 x.gen).wf = true := by
  obtain ⟨a0, b0, rfl, h0, g0⟩ := h
  obtain ⟨e0, w0⟩ := h0
  subst e0
  obtain ⟨e1, w1⟩ := g0
  subst e1
  exact ⟨rfl, w0, w1⟩
@[ext] structure DPart where
  comp : Int
  data : List UInt8
  deriving DecidableEq

def rPart : Rep DPart := ((Rep.int .i64).pair Rep.byte.list).iso fun x => (x.comp, x.data)
theorem rPart_size : rPart.size = 2 := rfl
theorem rPart_open {Q : Nat → Prop} {w : World} {cs : List Value} {x : DPart} (h : rPart.rd Q w cs x) : ∃ (A_data : Option Addr) (c_data : Nat), cs = [.int .i64 x.comp, .slice A_data x.data.length c_data] ∧ (Lit.int .i64 x.comp).wf = true ∧ Rep.byte.Sl Q w A_data c_data x.data := by
  obtain ⟨a0, b0, rfl, h0, g0⟩ := h
  obtain ⟨e0, w0⟩ := h0
  subst e0
  obtain ⟨A1, c1, e1, w1⟩ := Rep.rd_sl g0
  subst e1
  exact ⟨A1, c1, rfl, w0, w1⟩
theorem rPart_at {Q : Nat → Prop} {w : World} {A : Option Addr} {xs : List DPart} (h : rPart.At Q w A xs) {i : Nat} {x : DPart} (hx : xs[i]? = some x) :
    ∃ (b off : Nat) (A_data : Option Addr) (c_data : Nat), A = some ⟨b, off, none⟩ ∧ IsC w b ∧ w.cell? ⟨b, off + i * 2, none⟩ = some (.int .i64 x.comp) ∧ w.cell? ⟨b, off + i * 2 + 1, none⟩ = some (.slice A_data x.data.length c_data) ∧ (Lit.int .i64 x.comp).wf = true ∧ Rep.byte.Sl Q w A_data c_data x.data := by
  obtain ⟨b, off, es, h1, _, h2, h3, h4⟩ := h.get hx
  obtain ⟨A_data, c_data, e, f0, f1⟩ := rPart_open h3
  subst e
  rw [rPart_size] at h4
  exact ⟨b, off, A_data, c_data, h1, h2, h4 0 _ rfl, h4 1 _ rfl, f0, f1⟩
@[ext] structure DEnt where
  id : DID
  parts : List DPart
  deriving DecidableEq

def rEnt : Rep DEnt := (rID.pair rPart.list).iso fun x => (x.id, x.parts)
theorem rEnt_size : rEnt.size = 3 := rfl
theorem rEnt_open {Q : Nat → Prop} {w : World} {cs : List Value} {x : DEnt} (h : rEnt.rd Q w cs x) : ∃ (A_parts : Option Addr) (c_parts : Nat), cs = [.int .i64 x.id.index, .int .i64 x.id.gen, .slice A_parts x.parts.length c_parts] ∧ (Lit.int .i64 x.id.index).wf = true ∧ (Lit.int .i64 x.id.gen).wf = true ∧ rPart.Sl Q w A_parts c_parts x.parts := by
  obtain ⟨a0, b0, rfl, h0, g0⟩ := h
  obtain ⟨e0, w0_0, w0_1⟩ := rID_open h0
  subst e0
  obtain ⟨A1, c1, e1, w1⟩ := Rep.rd_sl g0
  subst e1
  exact ⟨A1, c1, rfl, w0_0, w0_1, w1⟩
theorem rEnt_at {Q : Nat → Prop} {w : World} {A : Option Addr} {xs : List DEnt} (h : rEnt.At Q w A xs) {i : Nat} {x : DEnt} (hx : xs[i]? = some x) :
    ∃ (b off : Nat) (A_parts : Option Addr) (c_parts : Nat), A = some ⟨b, off, none⟩ ∧ IsC w b ∧ w.cell? ⟨b, off + i * 3, none⟩ = some (.int .i64 x.id.index) ∧ w.cell? ⟨b, off + i * 3 + 1, none⟩ = some (.int .i64 x.id.gen) ∧ w.cell? ⟨b, off + i * 3 + 2, none⟩ = some (.slice A_parts x.parts.length c_parts) ∧ (Lit.int .i64 x.id.index).wf = true ∧ (Lit.int .i64 x.id.gen).wf = true ∧ rPart.Sl Q w A_parts c_parts x.parts := by
  obtain ⟨b, off, es, h1, _, h2, h3, h4⟩ := h.get hx
  obtain ⟨A_parts, c_parts, e, f0, f1, f2⟩ := rEnt_open h3
  subst e
  rw [rEnt_size] at h4
  exact ⟨b, off, A_parts, c_parts, h1, h2, h4 0 _ rfl, h4 1 _ rfl, h4 2 _ rfl, f0, f1, f2⟩
@[ext] structure DState where
  gens : List Int
  free : List Int
  ents : List DEnt
  deriving DecidableEq

def rState : Rep DState := ((Rep.int .i64).list.pair ((Rep.int .i64).list.pair rEnt.list)).iso fun x => (x.gens, x.free, x.ents)
theorem rState_open {Q : Nat → Prop} {w : World} {cs : List Value} {x : DState} (h : rState.rd Q w cs x) : ∃ (A_gens : Option Addr) (c_gens : Nat) (A_free : Option Addr) (c_free : Nat) (A_ents : Option Addr) (c_ents : Nat), cs = [.slice A_gens x.gens.length c_gens, .slice A_free x.free.length c_free, .slice A_ents x.ents.length c_ents] ∧ (Rep.int .i64).Sl Q w A_gens c_gens x.gens ∧ (Rep.int .i64).Sl Q w A_free c_free x.free ∧ rEnt.Sl Q w A_ents c_ents x.ents := by
  obtain ⟨a0, b0, rfl, h0, g0⟩ := h
  obtain ⟨A0, c0, e0, w0⟩ := Rep.rd_sl h0
  subst e0
  obtain ⟨a1, b1, rfl, h1, g1⟩ := g0
  obtain ⟨A1, c1, e1, w1⟩ := Rep.rd_sl h1
  subst e1
  obtain ⟨A2, c2, e2, w2⟩ := Rep.rd_sl g1
  subst e2
  exact ⟨A0, c0, A1, c1, A2, c2, rfl, w0, w1, w2⟩
theorem rState_mk {Q : Nat → Prop} {w : World} {x : DState} {A_gens : Option Addr} {c_gens : Nat} {A_free : Option Addr} {c_free : Nat} {A_ents : Option Addr} {c_ents : Nat} (f0 : (Rep.int .i64).Sl Q w A_gens c_gens x.gens) (f1 : (Rep.int .i64).Sl Q w A_free c_free x.free) (f2 : rEnt.Sl Q w A_ents c_ents x.ents) : rState.rd Q w [.slice A_gens x.gens.length c_gens, .slice A_free x.free.length c_free, .slice A_ents x.ents.length c_ents] x := by
  exact ⟨_, _, rfl, Rep.sl_rd f0, ⟨_, _, rfl, Rep.sl_rd f1, Rep.sl_rd f2⟩⟩
theorem rState_val {Q : Nat → Prop} {w : World} {v : Value} {x : DState} (h : rState.val Q w v x) : ∃ (A_gens : Option Addr) (c_gens : Nat) (A_free : Option Addr) (c_free : Nat) (A_ents : Option Addr) (c_ents : Nat), v = .agg #[.slice A_gens x.gens.length c_gens, .slice A_free x.free.length c_free, .slice A_ents x.ents.length c_ents] ∧ (Rep.int .i64).Sl Q w A_gens c_gens x.gens ∧ (Rep.int .i64).Sl Q w A_free c_free x.free ∧ rEnt.Sl Q w A_ents c_ents x.ents := by
  obtain ⟨cs, rfl, h⟩ := h
  obtain ⟨A_gens, c_gens, A_free, c_free, A_ents, c_ents, e, f0, f1, f2⟩ := rState_open h
  subst e
  exact ⟨A_gens, c_gens, A_free, c_free, A_ents, c_ents, rfl, f0, f1, f2⟩
theorem rState_agg {Q : Nat → Prop} {w : World} {x : DState} {A_gens : Option Addr} {c_gens : Nat} {A_free : Option Addr} {c_free : Nat} {A_ents : Option Addr} {c_ents : Nat} (f0 : (Rep.int .i64).Sl Q w A_gens c_gens x.gens) (f1 : (Rep.int .i64).Sl Q w A_free c_free x.free) (f2 : rEnt.Sl Q w A_ents c_ents x.ents) : rState.val Q w (.agg #[.slice A_gens x.gens.length c_gens, .slice A_free x.free.length c_free, .slice A_ents x.ents.length c_ents]) x := ⟨_, rfl, rState_mk f0 f1 f2⟩

@[ext] structure DComp where
  name : List UInt8
  size : Int
  deriving DecidableEq

def rComp : Rep DComp := (Rep.text.pair (Rep.int .i64)).iso fun x => (x.name, x.size)
theorem rComp_size : rComp.size = 2 := rfl
theorem rComp_open {Q : Nat → Prop} {w : World} {cs : List Value} {x : DComp} (h : rComp.rd Q w cs x) : cs = [.string ⟨x.name.toArray⟩, .int .i64 x.size] ∧ x.name.length ≤ maxLen ∧ (Lit.int .i64 x.size).wf = true := by
  obtain ⟨a0, b0, rfl, h0, g0⟩ := h
  obtain ⟨e0, w0⟩ := h0
  subst e0
  obtain ⟨e1, w1⟩ := g0
  subst e1
  exact ⟨rfl, w0, w1⟩
theorem rComp_at {Q : Nat → Prop} {w : World} {A : Option Addr} {xs : List DComp} (h : rComp.At Q w A xs) {i : Nat} {x : DComp} (hx : xs[i]? = some x) :
    ∃ (b off : Nat), A = some ⟨b, off, none⟩ ∧ IsC w b ∧ w.cell? ⟨b, off + i * 2, none⟩ = some (.string ⟨x.name.toArray⟩) ∧ w.cell? ⟨b, off + i * 2 + 1, none⟩ = some (.int .i64 x.size) ∧ x.name.length ≤ maxLen ∧ (Lit.int .i64 x.size).wf = true := by
  obtain ⟨b, off, es, h1, _, h2, h3, h4⟩ := h.get hx
  obtain ⟨e, f0, f1⟩ := rComp_open h3
  subst e
  rw [rComp_size] at h4
  exact ⟨b, off, h1, h2, h4 0 _ rfl, h4 1 _ rfl, f0, f1⟩
@[ext] structure DConf where
  log : Int
  pages : Int
  entities : Int
  gens : Int
  comps : List DComp
  deriving DecidableEq

def rConf : Rep DConf := ((Rep.int .i64).pair ((Rep.int .i64).pair ((Rep.int .i64).pair ((Rep.int .i64).pair rComp.list)))).iso fun x => (x.log, x.pages, x.entities, x.gens, x.comps)
theorem rConf_open {Q : Nat → Prop} {w : World} {cs : List Value} {x : DConf} (h : rConf.rd Q w cs x) : ∃ (A_comps : Option Addr) (c_comps : Nat), cs = [.int .i64 x.log, .int .i64 x.pages, .int .i64 x.entities, .int .i64 x.gens, .slice A_comps x.comps.length c_comps] ∧ (Lit.int .i64 x.log).wf = true ∧ (Lit.int .i64 x.pages).wf = true ∧ (Lit.int .i64 x.entities).wf = true ∧ (Lit.int .i64 x.gens).wf = true ∧ rComp.Sl Q w A_comps c_comps x.comps := by
  obtain ⟨a0, b0, rfl, h0, g0⟩ := h
  obtain ⟨e0, w0⟩ := h0
  subst e0
  obtain ⟨a1, b1, rfl, h1, g1⟩ := g0
  obtain ⟨e1, w1⟩ := h1
  subst e1
  obtain ⟨a2, b2, rfl, h2, g2⟩ := g1
  obtain ⟨e2, w2⟩ := h2
  subst e2
  obtain ⟨a3, b3, rfl, h3, g3⟩ := g2
  obtain ⟨e3, w3⟩ := h3
  subst e3
  obtain ⟨A4, c4, e4, w4⟩ := Rep.rd_sl g3
  subst e4
  exact ⟨A4, c4, rfl, w0, w1, w2, w3, w4⟩
theorem rConf_mk {Q : Nat → Prop} {w : World} {x : DConf} {A_comps : Option Addr} {c_comps : Nat} (f0 : (Lit.int .i64 x.log).wf = true) (f1 : (Lit.int .i64 x.pages).wf = true) (f2 : (Lit.int .i64 x.entities).wf = true) (f3 : (Lit.int .i64 x.gens).wf = true) (f4 : rComp.Sl Q w A_comps c_comps x.comps) : rConf.rd Q w [.int .i64 x.log, .int .i64 x.pages, .int .i64 x.entities, .int .i64 x.gens, .slice A_comps x.comps.length c_comps] x := by
  exact ⟨_, _, rfl, ⟨rfl, f0⟩, ⟨_, _, rfl, ⟨rfl, f1⟩, ⟨_, _, rfl, ⟨rfl, f2⟩, ⟨_, _, rfl, ⟨rfl, f3⟩, Rep.sl_rd f4⟩⟩⟩⟩
theorem rConf_val {Q : Nat → Prop} {w : World} {v : Value} {x : DConf} (h : rConf.val Q w v x) : ∃ (A_comps : Option Addr) (c_comps : Nat), v = .agg #[.int .i64 x.log, .int .i64 x.pages, .int .i64 x.entities, .int .i64 x.gens, .slice A_comps x.comps.length c_comps] ∧ (Lit.int .i64 x.log).wf = true ∧ (Lit.int .i64 x.pages).wf = true ∧ (Lit.int .i64 x.entities).wf = true ∧ (Lit.int .i64 x.gens).wf = true ∧ rComp.Sl Q w A_comps c_comps x.comps := by
  obtain ⟨cs, rfl, h⟩ := h
  obtain ⟨A_comps, c_comps, e, f0, f1, f2, f3, f4⟩ := rConf_open h
  subst e
  exact ⟨A_comps, c_comps, rfl, f0, f1, f2, f3, f4⟩
theorem rConf_agg {Q : Nat → Prop} {w : World} {x : DConf} {A_comps : Option Addr} {c_comps : Nat} (f0 : (Lit.int .i64 x.log).wf = true) (f1 : (Lit.int .i64 x.pages).wf = true) (f2 : (Lit.int .i64 x.entities).wf = true) (f3 : (Lit.int .i64 x.gens).wf = true) (f4 : rComp.Sl Q w A_comps c_comps x.comps) : rConf.val Q w (.agg #[.int .i64 x.log, .int .i64 x.pages, .int .i64 x.entities, .int .i64 x.gens, .slice A_comps x.comps.length c_comps]) x := ⟨_, rfl, rConf_mk f0 f1 f2 f3 f4⟩

@[ext] structure DSeal where
  epoch : Int
  no : Int
  kind : Int
  body : List UInt8
  deriving DecidableEq

def rSeal : Rep DSeal := ((Rep.int .i64).pair ((Rep.int .i64).pair ((Rep.int .i64).pair Rep.byte.list))).iso fun x => (x.epoch, x.no, x.kind, x.body)
theorem rSeal_open {Q : Nat → Prop} {w : World} {cs : List Value} {x : DSeal} (h : rSeal.rd Q w cs x) : ∃ (A_body : Option Addr) (c_body : Nat), cs = [.int .i64 x.epoch, .int .i64 x.no, .int .i64 x.kind, .slice A_body x.body.length c_body] ∧ (Lit.int .i64 x.epoch).wf = true ∧ (Lit.int .i64 x.no).wf = true ∧ (Lit.int .i64 x.kind).wf = true ∧ Rep.byte.Sl Q w A_body c_body x.body := by
  obtain ⟨a0, b0, rfl, h0, g0⟩ := h
  obtain ⟨e0, w0⟩ := h0
  subst e0
  obtain ⟨a1, b1, rfl, h1, g1⟩ := g0
  obtain ⟨e1, w1⟩ := h1
  subst e1
  obtain ⟨a2, b2, rfl, h2, g2⟩ := g1
  obtain ⟨e2, w2⟩ := h2
  subst e2
  obtain ⟨A3, c3, e3, w3⟩ := Rep.rd_sl g2
  subst e3
  exact ⟨A3, c3, rfl, w0, w1, w2, w3⟩
theorem rSeal_mk {Q : Nat → Prop} {w : World} {x : DSeal} {A_body : Option Addr} {c_body : Nat} (f0 : (Lit.int .i64 x.epoch).wf = true) (f1 : (Lit.int .i64 x.no).wf = true) (f2 : (Lit.int .i64 x.kind).wf = true) (f3 : Rep.byte.Sl Q w A_body c_body x.body) : rSeal.rd Q w [.int .i64 x.epoch, .int .i64 x.no, .int .i64 x.kind, .slice A_body x.body.length c_body] x := by
  exact ⟨_, _, rfl, ⟨rfl, f0⟩, ⟨_, _, rfl, ⟨rfl, f1⟩, ⟨_, _, rfl, ⟨rfl, f2⟩, Rep.sl_rd f3⟩⟩⟩
theorem rSeal_val {Q : Nat → Prop} {w : World} {v : Value} {x : DSeal} (h : rSeal.val Q w v x) : ∃ (A_body : Option Addr) (c_body : Nat), v = .agg #[.int .i64 x.epoch, .int .i64 x.no, .int .i64 x.kind, .slice A_body x.body.length c_body] ∧ (Lit.int .i64 x.epoch).wf = true ∧ (Lit.int .i64 x.no).wf = true ∧ (Lit.int .i64 x.kind).wf = true ∧ Rep.byte.Sl Q w A_body c_body x.body := by
  obtain ⟨cs, rfl, h⟩ := h
  obtain ⟨A_body, c_body, e, f0, f1, f2, f3⟩ := rSeal_open h
  subst e
  exact ⟨A_body, c_body, rfl, f0, f1, f2, f3⟩
theorem rSeal_agg {Q : Nat → Prop} {w : World} {x : DSeal} {A_body : Option Addr} {c_body : Nat} (f0 : (Lit.int .i64 x.epoch).wf = true) (f1 : (Lit.int .i64 x.no).wf = true) (f2 : (Lit.int .i64 x.kind).wf = true) (f3 : Rep.byte.Sl Q w A_body c_body x.body) : rSeal.val Q w (.agg #[.int .i64 x.epoch, .int .i64 x.no, .int .i64 x.kind, .slice A_body x.body.length c_body]) x := ⟨_, rfl, rSeal_mk f0 f1 f2 f3⟩

@[ext] structure DCmd where
  kind : Int
  loc : Bool
  id : DID
  comp : Int
  data : List UInt8
  deriving DecidableEq

def rCmd : Rep DCmd := ((Rep.int .i64).pair (Rep.bool.pair (rID.pair ((Rep.int .i64).pair Rep.byte.list)))).iso fun x => (x.kind, x.loc, x.id, x.comp, x.data)
end Go.Proofs.YthkepjhfeeohdaaGreatDoor
namespace Go.Proofs.YthkepjhfeeohdaaGreatDoor
open Go.RowKit

theorem info22 : (Tryz.prog.info? 44).map (fun i => (i.zero, i.size, i.bytes)) = some (some (.slice none 0 0), 1, 24) := by kernel_rfl
theorem info5 : (Tryz.prog.info? 5).map (fun i => (i.zero, i.size, i.bytes)) = some (some (.int .u8 0), 1, 1) := by kernel_rfl

end Go.Proofs.YthkepjhfeeohdaaGreatDoor
namespace Go.Proofs.YthkepjhfeeohdaaGreatDoor
open Go.RowKit

def wide (n : Int) : Int := if n < 1 then 1 else if 8 < n then 8 else n
theorem wide_ge (n : Int) : 1 ≤ wide n := by unfold wide; split <;> (try split) <;> omega
theorem wide_le (n : Int) : wide n ≤ 8 := by unfold wide; split <;> (try split) <;> omega

/-- le.wide -/
theorem wide_calls (n : Int) (w : World) :
    Calls Tryz.prog 192 #[.int .i64 n] w fun e w' => e = .returned (.int .i64 (wide n)) ∧ w' = w := by
  by_cases h : n < 1
  · have hf : wide n = 1 := by rw [wide, if_pos h]
    have HF := Lib.hid hf
    clear hf
    go_enter Tryz.func192, Tryz.ntmps192
    go_wp2_with fail
    go_ret
    exact ⟨by rw [HF.out]; rfl, rfl⟩
  · by_cases h' : 8 < n
    · have hf : wide n = 8 := by rw [wide, if_neg h, if_pos h']
      have HF := Lib.hid hf
      clear hf
      go_enter Tryz.func192, Tryz.ntmps192
      go_wp2_with fail
      go_ret
      exact ⟨by rw [HF.out]; rfl, rfl⟩
    · have hf : wide n = n := by rw [wide, if_neg h, if_neg h']
      have HF := Lib.hid hf
      clear hf
      go_enter Tryz.func192, Tryz.ntmps192
      go_wp2_with fail
      go_ret
      exact ⟨by rw [HF.out]; rfl, rfl⟩
/-- A call that returns a slice of its own that reads as0 x. -/
def ResA {α : Type} (r : Rep α) (e : Nat) (w : World) (x : List α) (en : Ending) (w' : World) : Prop := ∃ u, en = .returned u ∧ r.acc e w.heap.size (fun _ => False) w' u x ∧ Below w.heap.size w w'
theorem Rep.acc_later {α : Type} {r : Rep α} {e base : Nat} {Q : Nat → Prop} {w w' : World} {v : Value} {xs : List α} (h : r.acc e base Q w v xs) (hb : Below w.heap.size w w') : r.acc e base Q w' v xs :=
  Rep.acc_keep (fun b _ hl => hb.block b hl.lt) (fun _ h _ => h) h

/-- slices.Clone of bytes -/
theorem sliceClone {Q : Nat → Prop} {w : World} {v : Value} {l : List UInt8} (hx : Rep.byte.list.val Q w v l) (hl : l.length ≤ 100000000000000) :
    Calls Tryz.prog 70 #[v] w (ResA Rep.byte 5 w l) := by
  obtain ⟨A, c, rfl, hc1, hc2, hA⟩ := Rep.val_list hx
  unfold maxLen at hc2
  cases A with
  | none =>
    have hnil : l = [] := by
      rcases Nat.eq_zero_or_pos l.length with h | h
      · exact List.eq_nil_of_length_eq_zero h
      · obtain ⟨b, off, h⟩ := hA.addr h; cases h
    subst hnil
    have he := fun w => Lib.run_eql_slice_nil (P := Tryz.prog) w 44 5 none 0 c 0 0 Tryz.underlying44
    go_enter Tryz.func70, Tryz.ntmps70
    go_wp2_with fail
    go_ret
    exact ⟨_, rfl, Rep.acc_nil, Below.refl _ _⟩
  | some a =>
    have he := fun w => Lib.run_eql_slice_nil (P := Tryz.prog) w 44 5 (some a) l.length c 0 0 Tryz.underlying44
    have HX := Lib.hid (show Rep.byte.list.val (fun b => b < w.heap.size) (w.alloc (.cells #[] 5)) (.slice (some a) l.length c) l from Rep.val_keep (w := w) (fun b _ hl => ⟨hl.lt, Below.heap_alloc _ _ _ hl.lt⟩) hx)
    have HA := Lib.hid (show Rep.byte.acc 5 w.heap.size (fun _ => False) (w.alloc (.cells #[] 5)) (.slice (some ⟨w.heap.size, 0, none⟩) 0 0) [] from Rep.acc_made w #[] 0 (Nat.le_refl _) (by simp [maxLen]) (by simp))
    have HB1 := Lib.hid (show ([] : List UInt8).length + l.length ≤ maxLen from by simp [maxLen]; omega)
    have HB2 := Lib.hid (show (([] : List UInt8).length + l.length) * 1 ≤ 140737488355328 from by simp; omega)
    have HB3 := Lib.hid (show w.heap.size ≤ (w.alloc (.cells #[] 5)).heap.size from by simp)
    clear hx hA
    go_enter Tryz.func70, Tryz.ntmps70
    go_wp2_with (refine wpList_spread_leaf (e := 5) (base := w.heap.size) (Q := fun _ => False) Rep.leaf_byte rfl _ _ 44 rfl (.int .u8 0) 1 1 Tryz.underlying44 info5 rfl (by decide) rfl _ [] (by exact rfl) HA.out _ l (by exact rfl) HX.out HB1.out HB2.out HB3.out ?_; intro v' w' hacc' hgr hat)
    go_ret
    exact ⟨_, rfl, by simpa using hacc', Rep.acc_below HA.out ((Below.refl _ w).alloc (Nat.le_refl _) _) hgr HB3.out⟩

/-- The bytes of a number. -/
def digit (n : Int) (i : Nat) : UInt8 := UInt8.ofNat (n / 2 ^ (8 * i) % 256).toNat
def num (width n : Int) : List UInt8 := (List.range (wide width).toNat).map (digit n)
theorem digit_cell (n : Int) (i : Nat) {Q : Nat → Prop} {w : World} : Rep.byte.val Q w (.int .u8 (n / 2 ^ (8 * i) % 256)) (digit n i) := by
  have h : ((digit n i).toNat : Int) = n / 2 ^ (8 * i) % 256 := by
    have h1 := Int.emod_nonneg (n / 2 ^ (8 * i)) (b := 256) (by decide)
    have h2 := Int.emod_lt_of_pos (n / 2 ^ (8 * i)) (b := 256) (by decide)
    unfold digit
    simp only [UInt8.toNat_ofNat']
    omega
  exact ⟨[.int .u8 (n / 2 ^ (8 * i) % 256)], rfl, by show _ = _; rw [h]⟩
theorem digits_succ (n : Int) (k : Nat) : (List.range (k + 1)).map (digit n) = (List.range k).map (digit n) ++ [digit n k] := by simp [List.range_succ]

set_option maxRecDepth 10000 in
set_option maxHeartbeats 1000000 in
/-- le.Put -/
theorem put_calls {Q : Nat → Prop} {w : World} {v : Value} {l : List UInt8} {width n : Int} (hx : Rep.byte.list.val Q w v l) (hl : l.length ≤ 1000000000) (hw : (Lit.int .i64 width).wf = true) (hn : (Lit.int .i64 n).wf = true) :
    Calls Tryz.prog 212 #[v, .int .i64 width, .int .i64 n] w (ResA Rep.byte 5 w (l ++ num width n)) := by
  have hw1 : -9223372036854775808 ≤ width ∧ width ≤ 9223372036854775807 := by simpa [Lit.wf, IntKind.min, IntKind.max, IntKind.signed, IntKind.bits] using hw
  have hn1 : -9223372036854775808 ≤ n ∧ n ≤ 9223372036854775807 := by simpa [Lit.wf, IntKind.min, IntKind.max, IntKind.signed, IntKind.bits] using hn
  obtain ⟨A, c, rfl, hc1, hc2, hA⟩ := Rep.val_list hx
  unfold maxLen at hc2
  have HX := Lib.hid (show Rep.byte.list.val Q w (.slice A l.length l.length) l from Rep.list_val rfl (Nat.le_refl _) (by unfold maxLen; omega) hA)
  clear hx hA
  obtain ⟨W, hW⟩ : ∃ W, W = wide width := ⟨_, rfl⟩
  have g1 := wide_ge width
  have g2 := wide_le width
  rw [← hW] at g1 g2
  have HW := Lib.hid hW
  clear hW
  go_enter Tryz.func212, Tryz.ntmps212
  go_wp2_with (first | (go_at_call 70; refine (sliceClone HX.out (by omega)).mono ?_; rintro e w1 ⟨u, rfl, hu, hb⟩) | (go_at_call 192; refine (wide_calls _ _).mono ?_; rintro e w' ⟨rfl, rfl⟩; rw [← HW.out]))
  go_loopw [7, 18] (fun s i wr => ∃ k : Nat, i = .int .i64 k ∧ k ≤ W ∧ Rep.byte.acc 5 w.heap.size (fun _ => False) wr s (l ++ (List.range k).map (digit n)) ∧ Below w.heap.size w wr)
    (fun _ i _ => W.toNat - (intOf i).toNat)
  case atStart => exact ⟨0, rfl, by omega, by simpa using hu, hb⟩
  case round =>
    obtain ⟨k, rfl, hk, hacc, hbel⟩ := hrel
    have hba : w.heap.size ≤ wr.heap.size := hbel.size
    by_cases hlt : (k : Int) < W
    · have S1 := Lib.hid (show (l ++ (List.range k).map (digit n)).length + 1 ≤ maxLen by simp [maxLen]; omega)
      have S2 := Lib.hid (show ((l ++ (List.range k).map (digit n)).length + 1) * 1 ≤ 140737488355328 by simp; omega)
      go_wp2_with (refine wpList_snoc (e := 5) (base := w.heap.size) (Q := fun _ => False) (r := Rep.byte) rfl rfl _ _ 44 _ rfl rfl rfl (.int .u8 0) 1 1 Tryz.underlying44 info5 rfl (by decide) rfl _ _ hacc (digit n k) _ (by exact rfl) (digit_cell n k) (by exact rfl) (by exact rfl) S1.out S2.out hba ?_; intro s' w' hacc' hgr hat)
      exact ⟨⟨k + 1, by go_num, by omega, by rw [digits_succ, ← List.append_assoc]; exact hacc', Rep.acc_below hacc hbel hgr hba⟩, by simp [intOf]; omega⟩
    · have hkW : k = (wide width).toNat := by have := HW.out; omega
      have HK := Lib.hid hkW
      clear hkW
      go_wp2_with fail
      go_ret
      exact ⟨_, rfl, by rw [num, ← HK.out]; exact hacc, hbel⟩

end Go.Proofs.YthkepjhfeeohdaaGreatDoor
namespace Go.Proofs.YthkepjhfeeohdaaGreatDoor
open Go.RowKit

theorem wf_i64 {n : Int} (h1 : -9223372036854775808 ≤ n) (h2 : n ≤ 9223372036854775807) : (Lit.int .i64 n).wf = true := by
  simp [Lit.wf, IntKind.min, IntKind.max, IntKind.signed, IntKind.bits]; omega
end Go.Proofs.YthkepjhfeeohdaaGreatDoor
namespace Go.Proofs.YthkepjhfeeohdaaGreatDoor
open Go.RowKit

def letterB (c : Int) : Bool := decide (97 ≤ c ∧ c ≤ 122) || decide (48 ≤ c ∧ c ≤ 57) || decide (c = 95)

/-- comp.letter -/
theorem letter_calls (c : Int) (w : World) (h0 : 0 ≤ c) (h1 : c ≤ 255) :
    Calls Tryz.prog 63 #[.int .u8 c] w fun e w' => e = .returned (.bool (letterB c)) ∧ w' = w := by
  obtain ⟨r, hr⟩ : ∃ r, r = letterB c := ⟨_, rfl⟩
  rw [← hr]
  unfold letterB at hr
  by_cases a1 : 97 ≤ c <;> by_cases a2 : c ≤ 122 <;> by_cases a3 : 48 ≤ c <;> by_cases a4 : c ≤ 57 <;> by_cases a5 : c = 95 <;> first | omega | skip
  all_goals
    simp [a1, a2, a3, a4, a5] at hr
    subst hr
    go_enter Tryz.func63, Tryz.ntmps63
    go_wp2_with fail
    go_ret
    exact ⟨by first | rfl | (rw [← (show (c == 95) = false by simp [a5])]; rfl), rfl⟩

def withinB (n lo hi : Int) : Bool := decide (lo ≤ n ∧ n ≤ hi)
/-- comp.within -/
theorem within_calls (n lo hi : Int) (w : World) :
    Calls Tryz.prog 34 #[.int .i64 n, .int .i64 lo, .int .i64 hi] w fun e w' => e = .returned (.bool (withinB n lo hi)) ∧ w' = w := by
  obtain ⟨r, hr⟩ : ∃ r, r = withinB n lo hi := ⟨_, rfl⟩
  rw [← hr]
  unfold withinB at hr
  by_cases a1 : lo ≤ n <;> by_cases a2 : n ≤ hi
  all_goals
    simp [a1, a2] at hr
    subst hr
    go_enter Tryz.func34, Tryz.ntmps34
    go_wp2_with fail
    go_ret
    exact ⟨rfl, rfl⟩

def nameB (s : List UInt8) : Bool := decide (1 ≤ s.length ∧ s.length ≤ 16) && s.all fun c => letterB (c.toNat : Int)

theorem all_take_succ {α : Type} {p : α → Bool} {s : List α} {k : Nat} (hk : k < s.length) (h : (s.take k).all p = true) (hc : p s[k] = true) : (s.take (k + 1)).all p = true := by
  rw [List.take_succ_eq_append_getElem hk, List.all_append, h]
  simp [hc]
theorem not_all {α : Type} {p : α → Bool} {s : List α} {k : Nat} (hk : k < s.length) (hc : p s[k] = false) : s.all p = false := by
  rw [Bool.eq_false_iff]
  intro h
  have := List.all_eq_true.1 h s[k] (List.getElem_mem hk)
  rw [hc] at this; cases this

theorem byte_le (x : UInt8) : (x.toNat : Int) ≤ 255 := by have := x.toNat_lt; omega

set_option maxRecDepth 10000 in
set_option maxHeartbeats 2000000 in
/-- comp.Name -/
theorem name_calls (s : List UInt8) (w : World) (hs : s.length ≤ maxLen) :
    Calls Tryz.prog 35 #[.string ⟨s.toArray⟩] w fun e w' => e = .returned (.bool (nameB s)) ∧ w' = w := by
  have hs' : (s.length : Int) ≤ 9223372036854775807 := by unfold maxLen at hs; omega
  have hsz : (ByteArray.mk s.toArray).size = s.length := by simp [ByteArray.size]
  by_cases hnil : s = []
  · subst hnil
    go_enter Tryz.func35, Tryz.ntmps35
    go_wp2_with fail
    go_ret
    exact ⟨rfl, rfl⟩
  have hemp : s.isEmpty = false := by simpa using hnil
  have hpos : 0 < s.length := List.length_pos_iff.2 hnil
  by_cases hlong : (16 : Int) < s.length
  · have hr : nameB s = false := by
      unfold nameB
      rw [decide_eq_false (by omega)]; rfl
    have HR := Lib.hid hr
    clear hr
    go_enter Tryz.func35, Tryz.ntmps35
    go_wp2_with fail
    go_ret
    exact ⟨by rw [HR.out]; rfl, rfl⟩
  · have hr : nameB s = s.all fun c => letterB (c.toNat : Int) := by
      unfold nameB
      rw [decide_eq_true (by omega), Bool.true_and]
    have HR := Lib.hid hr
    clear hr
    go_enter Tryz.func35, Tryz.ntmps35
    go_wp2_with fail
    go_loopw [13] (fun i wr => ∃ k : Nat, i = .int .i64 k ∧ k ≤ s.length ∧ Hid ((s.take k).all (fun c => letterB (c.toNat : Int)) = true) ∧ wr = w)
      (fun i _ => s.length - (intOf i).toNat)
    case atStart => exact ⟨0, rfl, by omega, rfl, rfl⟩
    case round =>
      obtain ⟨k, rfl, hk, hall, rfl⟩ := hrel
      by_cases hlt : (k : Int) < s.length
      · have hk' : k < s.length := by omega
        have L : ∀ w, Calls Tryz.prog 63 #[.int .u8 (((ByteArray.mk s.toArray)[k]'(by rw [hsz]; omega)).toNat : Int)] w fun e w' => e = .returned (.bool (letterB (s[k].toNat : Int))) ∧ w' = w :=
          fun w => letter_calls (s[k].toNat : Int) w (by omega) (byte_le s[k])
        cases hc : letterB (s[k].toNat : Int) with
        | true =>
          have HA := Lib.hid (all_take_succ (p := fun c : UInt8 => letterB (c.toNat : Int)) hk' hall hc)
          rw [hc] at L
          have HL := Lib.hid L
          clear hc hall L
          go_wp2_with (go_at_call 63; refine (HL.out _).mono ?_; rintro e w' ⟨rfl, rfl⟩)
          exact ⟨⟨k + 1, by go_num, by omega, HA.out, trivial⟩, by simp [intOf]; omega⟩
        | false =>
          have HF := Lib.hid (not_all (p := fun c : UInt8 => letterB (c.toNat : Int)) hk' hc)
          rw [hc] at L
          have HL := Lib.hid L
          clear hc hall L
          go_wp2_with (go_at_call 63; refine (HL.out _).mono ?_; rintro e w' ⟨rfl, rfl⟩)
          go_ret
          exact ⟨by rw [HR.out, HF.out]; rfl, rfl⟩
      · obtain rfl : k = s.length := by omega
        have HF := Lib.hid (show (s.all fun c => letterB (c.toNat : Int)) = true by have := hall.out; rwa [List.take_length] at this)
        clear hall
        go_wp2_with fail
        go_ret
        exact ⟨by rw [HR.out, HF.out]; rfl, rfl⟩
theorem dec_split (p : Prop) [Decidable p] : p ∨ (¬ p ∧ decide p = false) := by
  by_cases h : p
  · exact .inl h
  · exact .inr ⟨h, decide_eq_false h⟩

set_option maxRecDepth 10000 in
set_option maxHeartbeats 2000000 in
/-- ref07.Name -/
theorem rname_calls (s : List UInt8) (w : World) (hs : s.length ≤ maxLen) :
    Calls Tryz.prog 41 #[.string ⟨s.toArray⟩] w fun e w' => e = .returned (.bool (nameB s)) ∧ ∃ n, w' = w.drewN n := by
  have hs' : (s.length : Int) ≤ 9223372036854775807 := by unfold maxLen at hs; omega
  have hsz : (ByteArray.mk s.toArray).size = s.length := by simp [ByteArray.size]
  go_enter Tryz.func41, Tryz.ntmps41
  go_wp2_with fail
  go_loopw [3] (fun i wr => ∃ k n : Nat, i = .int .i64 k ∧ k ≤ s.length ∧ Hid ((s.take k).all (fun c => letterB (c.toNat : Int)) = true) ∧ wr = w.drewN n)
    (fun i _ => s.length - (intOf i).toNat)
  case atStart => exact ⟨0, 0, rfl, by omega, rfl, rfl⟩
  case round =>
    obtain ⟨k, n, rfl, hk, hall, rfl⟩ := hrel
    by_cases hlt : (k : Int) < s.length
    · have hk' : k < s.length := by omega
      have hx : (((ByteArray.mk s.toArray)[k]'(by rw [hsz]; omega)).toNat : Int) = (s[k].toNat : Int) := rfl
      have hb := byte_le s[k]
      have hall' := all_take_succ (p := fun c : UInt8 => letterB (c.toNat : Int)) hk' hall
      have hf := not_all (p := fun c : UInt8 => letterB (c.toNat : Int)) hk'
      rcases dec_split (97 ≤ (((ByteArray.mk s.toArray)[k]'(by rw [hsz]; omega)).toNat : Int)) with a1 | ⟨a1, d1⟩ <;>
      rcases dec_split ((((ByteArray.mk s.toArray)[k]'(by rw [hsz]; omega)).toNat : Int) ≤ 122) with a2 | ⟨a2, d2⟩ <;>
      rcases dec_split (48 ≤ (((ByteArray.mk s.toArray)[k]'(by rw [hsz]; omega)).toNat : Int)) with a3 | ⟨a3, d3⟩ <;>
      rcases dec_split ((((ByteArray.mk s.toArray)[k]'(by rw [hsz]; omega)).toNat : Int) ≤ 57) with a4 | ⟨a4, d4⟩ <;>
      rcases dec_split ((((ByteArray.mk s.toArray)[k]'(by rw [hsz]; omega)).toNat : Int) = 95) with a5 | ⟨a5, d5⟩ <;> (try (exfalso; rw [hx] at *; omega))
      all_goals
        first
        | (have hl : letterB (s[k].toNat : Int) = true := by rw [hx] at *; unfold letterB; simp only [Bool.or_eq_true, decide_eq_true_eq]; omega
           have HA := Lib.hid (hall' hl)
           clear hall' hf hl hall hx hb
           go_wp2_with fail
           go_quiet (fail)
           go_wp2_with fail
           all_goals first
             | exact ⟨⟨k + 1, _, by go_num, by omega, HA.out, rfl⟩, by simp [intOf]; omega⟩
             | (exfalso; rename_i h; simp at h; omega))
        | (have hl : letterB (s[k].toNat : Int) = false := by rw [hx] at *; unfold letterB; simp only [Bool.or_eq_false_iff, decide_eq_false_iff_not]; omega
           have HF := Lib.hid (hf hl)
           clear hall' hf hl hall hx hb
           go_wp2_with fail
           go_quiet (fail)
           go_wp2_with fail
           all_goals first
             | (go_ret; exact ⟨by rw [nameB, HF.out, Bool.and_false]; rfl, _, rfl⟩)
             | (exfalso; rename_i h; simp at h; omega))
    · obtain rfl : k = s.length := by omega
      have HF := Lib.hid (show (s.all fun c => letterB (c.toNat : Int)) = true by have := hall.out; rwa [List.take_length] at this)
      clear hall
      rcases dec_split ((1 : Int) ≤ s.length) with a1 | ⟨a1, d1⟩ <;>
      rcases dec_split ((s.length : Int) ≤ 16) with a2 | ⟨a2, d2⟩
      all_goals
        first
        | (have hr : nameB s = true := by rw [nameB, HF.out, Bool.and_true]; simp only [decide_eq_true_eq]; omega
           have HR := Lib.hid hr
           clear hr
           go_wp2_with fail
           go_ret
           exact ⟨by rw [HR.out]; rfl, _, rfl⟩)
        | (have hr : nameB s = false := by rw [nameB, HF.out, Bool.and_true]; simp only [decide_eq_false_iff_not]; omega
           have HR := Lib.hid hr
           clear hr
           go_wp2_with fail
           go_ret
           exact ⟨by rw [HR.out]; rfl, _, rfl⟩)
end Go.Proofs.YthkepjhfeeohdaaGreatDoor
namespace Go.Proofs.YthkepjhfeeohdaaGreatDoor
open Go.RowKit

def compOk (l : List DComp) (i : Nat) : Bool := match l[i]? with
  | some x => (l.take i).all (fun y => decide (y.name ≠ x.name)) && nameB x.name && withinB x.size 0 64
  | none => true
def confRange (c : DConf) : Bool := withinB c.log 2 1024 && withinB c.pages 4 1024 && withinB c.entities 1 1024 && withinB c.gens 1 1073741824 && decide (c.comps.length ≤ 32)
def confRight (c : DConf) : Bool := confRange c && (List.range c.comps.length).all (compOk c.comps)
def checkOf (b : Bool) : Int := if b then 0 else 1

theorem range_all_succ {p : Nat → Bool} {k : Nat} (h : (List.range k).all p = true) (hk : p k = true) : (List.range (k + 1)).all p = true := by
  rw [List.range_succ, List.all_append, h]; simp [hk]
theorem range_not_all {p : Nat → Bool} {k n : Nat} (hk : k < n) (h : p k = false) : (List.range n).all p = false := by
  rw [Bool.eq_false_iff]
  intro hh
  have := List.all_eq_true.1 hh k (List.mem_range.2 hk)
  rw [h] at this; cases this

theorem compOk_dup {l : List DComp} {j k : Nat} {x y : DComp} (hjk : j < k) (hk : k < l.length) (hx : l[k] = x) (hj : j < l.length) (hy : l[j] = y) (h : y.name = x.name) : compOk l k = false := by
  unfold compOk
  rw [List.getElem?_eq_getElem hk, hx]
  have : ((l.take k).all fun y => decide (y.name ≠ x.name)) = false := by
    rw [Bool.eq_false_iff]
    intro hh
    have hm : y ∈ l.take k := by rw [← hy]; exact List.mem_take_iff_getElem.2 ⟨j, by omega, rfl⟩
    have := List.all_eq_true.1 hh y hm
    simp [h] at this
  simp only [this, Bool.false_and]

set_option maxRecDepth 100000 in
set_option maxHeartbeats 4000000 in
/-- comp.Check -/
theorem check_calls {Q : Nat → Prop} {w : World} {v : Value} {c : DConf} (hx : rConf.val Q w v c) :
    Calls Tryz.prog 15 #[v] w fun e w' => e = .returned (.int .i64 (checkOf (confRight c))) ∧ Below w.heap.size w w' := by
  obtain ⟨A, cap, rfl, f0, f1, f2, f3, hc1, hc2, hA⟩ := rConf_val hx
  unfold maxLen at hc2
  have hlen : (c.comps.length : Int) ≤ 9223372036854775807 := by omega
  cases h0 : withinB c.log 2 1024 <;> cases h1 : withinB c.pages 4 1024 <;> cases h2 : withinB c.entities 1 1024 <;> cases h3 : withinB c.gens 1 1073741824
  case true.true.true.true =>
    have H0 := Lib.hid h0
    have H1 := Lib.hid h1
    have H2 := Lib.hid h2
    have H3 := Lib.hid h3
    by_cases hlong : (32 : Int) < c.comps.length
    · have hr : confRight c = false := by simp [confRight, confRange]; intros; omega
      have HR := Lib.hid hr
      clear hr h0 h1 h2 h3 hx hA
      go_enter Tryz.func15, Tryz.ntmps15
      go_wp2_with fail
      go_step3
      go_wp2_with (go_at_call 34; refine (within_calls _ _ _ _).mono ?_; rintro e w' ⟨rfl, rfl⟩; first | rw [H0.out] | rw [H1.out] | rw [H2.out] | rw [H3.out])
      try rw [Exit.noGoto_ret]
      go_ret
      exact ⟨by rw [HR.out]; rfl, (Below.refl _ _).alloc (Nat.le_refl _) _⟩
    · have hr : confRight c = (List.range c.comps.length).all (compOk c.comps) := by
        have : decide (c.comps.length ≤ 32) = true := by simp; omega
        simp [confRight, confRange, h0, h1, h2, h3, this]
      have HR := Lib.hid hr
      have HX := Lib.hid hA
      clear hr h0 h1 h2 h3 hx hA
      go_enter Tryz.func15, Tryz.ntmps15
      go_wp2_with fail
      go_step3
      go_wp2_with (go_at_call 34; refine (within_calls _ _ _ _).mono ?_; rintro e w' ⟨rfl, rfl⟩; first | rw [H0.out] | rw [H1.out] | rw [H2.out] | rw [H3.out])
      obtain ⟨W1, hW1⟩ : ∃ W1, w.alloc (.cells #[.int .i64 c.log, .int .i64 c.pages, .int .i64 c.entities, .int .i64 c.gens, .slice A c.comps.length cap] 24) = W1 := ⟨_, rfl⟩
      have hcell : W1.cell? ⟨w.heap.size, 4, none⟩ = some (.slice A c.comps.length cap) := by rw [← hW1]; simp
      have hbel : Below w.heap.size w W1 := by rw [← hW1]; exact (Below.refl _ _).alloc (Nat.le_refl _) _
      have hsz : W1.heap.size = w.heap.size + 1 := by rw [← hW1]; simp
      rw [hW1]
      clear hW1
      go_wp2_with fail
      go_step3
      go_wp2_with fail
      go_loopw [40] (fun i wr => ∃ k : Nat, i = .int .i64 k ∧ k ≤ c.comps.length ∧ Hid ((List.range k).all (compOk c.comps) = true) ∧ Below (w.heap.size + 1) W1 wr)
        (fun i _ => c.comps.length - (intOf i).toNat)
      case atStart => exact ⟨0, rfl, by omega, rfl, Below.refl _ _⟩
      case round =>
        obtain ⟨k, rfl, hk, hall, hb1⟩ := hrel
        by_cases hlt : (k : Int) < c.comps.length
        · have hk' : k < c.comps.length := by omega
          have hAw : rComp.At (fun b => b < w.heap.size) wr A c.comps := Rep.At.keep (w := w) (fun b _ hb => ⟨hb.lt, (hb1.block b (by have := hb.lt; omega)).trans (hbel.block b hb.lt)⟩) HX.out
          obtain ⟨b, off, rfl, hb, cx0, cx1, g0, g1⟩ := rComp_at hAw (List.getElem?_eq_getElem hk')
          generalize hxx : c.comps[k] = x at *
          have HXX := Lib.hid hxx
          clear hxx
          have hcw : wr.cell? ⟨w.heap.size, 4, none⟩ = some (.slice (some ⟨b, off, none⟩) c.comps.length cap) := (hb1.cell (p := ⟨w.heap.size, 4, none⟩) (Nat.lt_succ_self _)).trans hcell
          have hlw : w.heap.size < wr.heap.size := by have := hb1.size; omega
          have hca : ∀ o, (wr.alloc o).cell? ⟨w.heap.size, 4, none⟩ = some (.slice (some ⟨b, off, none⟩) c.comps.length cap) := fun o => (World.cell?_of_block (w := wr) (Below.heap_alloc _ _ _ hlw)).trans hcw
          have HB1 := Lib.hid hb1
          have HAW := Lib.hid hAw
          clear hb1 hAw
          go_wp2_with fail
          rename World => wo
          obtain ⟨W2, hW2⟩ : ∃ W2, wo.alloc (.cells #[.string ⟨x.name.toArray⟩, .int .i64 x.size] 38) = W2 := ⟨_, rfl⟩
          have d0 : W2.cell? ⟨wo.heap.size, 0, none⟩ = some (.string ⟨x.name.toArray⟩) := by rw [← hW2]; simp
          have d1 : W2.cell? ⟨wo.heap.size, 1, none⟩ = some (.int .i64 x.size) := by rw [← hW2]; simp
          have hb2 : Below wo.heap.size wo W2 := by rw [← hW2]; exact (Below.refl _ _).alloc (Nat.le_refl _) _
          have hs2 : W2.heap.size = wo.heap.size + 1 := by rw [← hW2]; simp
          rw [hW2]
          clear hW2 hca hcw cx0 cx1
          have HAW2 := Lib.hid (HAW.out.keep (w := wo) (w' := W2) (Q' := fun b => b < wo.heap.size) fun b _ hb => ⟨hb.lt, hb2.block b hb.lt⟩)
          have HB2 := Lib.hid hb2
          clear hb2
          go_loopw [50] (fun i wr2 => ∃ j : Nat, i = .int .i64 j ∧ j ≤ k ∧ Hid ((c.comps.take j).all (fun y => decide (y.name ≠ x.name)) = true) ∧ Below (wo.heap.size + 1) W2 wr2)
            (fun i _ => k - (intOf i).toNat)
          case atStart => exact ⟨0, rfl, by omega, rfl, Below.refl _ _⟩
          case round =>
            obtain ⟨j, rfl, hj, hdif, hb3⟩ := hrel
            by_cases hjk : (j : Int) < k
            · have hj' : j < c.comps.length := by omega
              have hA3 := HAW2.out.keep (w := W2) (w' := wr) (Q' := fun _ => True) fun b hq hb => ⟨trivial, hb3.block b (by omega)⟩
              obtain ⟨b', off', heq, hb', cy0, cy1, g3, g4⟩ := rComp_at hA3 (List.getElem?_eq_getElem hj')
              cases heq
              generalize hyy : c.comps[j] = y at *
              have HYY := Lib.hid hyy
              have d0' := (hb3.cell (p := ⟨wo.heap.size, 0, none⟩) (Nat.lt_succ_self _)).trans d0
              have hlw3 : wo.heap.size < wr.heap.size := by have := hb3.size; omega
              have hca : ∀ o, (wr.alloc o).cell? ⟨wo.heap.size, 0, none⟩ = some (.string ⟨x.name.toArray⟩) := fun o => (World.cell?_of_block (w := wr) (Below.heap_alloc _ _ _ hlw3)).trans d0'
              have HB3 := Lib.hid hb3
              clear hyy hA3 hb3
              by_cases hq : y.name = x.name
              · have HF := Lib.hid (show confRight c = false by rw [HR.out]; exact range_not_all hk' (compOk_dup (j := j) (by omega) hk' HXX.out hj' HYY.out hq))
                replace hq : (x.name == y.name) = true := by simp [hq]
                go_wp2_with fail
                try rw [Exit.noGoto_ret]
                go_ret
                refine ⟨by rw [HF.out]; rfl, ?_⟩
                exact ((((hbel.trans (HB1.out.mono (by omega))).trans (HB2.out.mono (by omega))).trans (HB3.out.mono (by omega))).alloc (by omega) _)
              · have HD := Lib.hid (show ((c.comps.take (j + 1)).all fun y => decide (y.name ≠ x.name)) = true from all_take_succ (p := fun y : DComp => decide (y.name ≠ x.name)) hj' hdif (by rw [HYY.out]; simpa using hq))
                replace hq : (x.name == y.name) = false := by simpa using fun h => hq h.symm
                go_wp2_with fail
                exact ⟨⟨j + 1, by go_num, by omega, HD, HB3.out.alloc (by omega) _⟩, by simp [intOf]; omega⟩
            · obtain rfl : j = k := by omega
              have e0 := (hb3.cell (p := ⟨wo.heap.size, 0, none⟩) (Nat.lt_succ_self _)).trans d0
              have e1 := (hb3.cell (p := ⟨wo.heap.size, 1, none⟩) (Nat.lt_succ_self _)).trans d1
              have HB3 := Lib.hid hb3
              have hcomp : compOk c.comps j = (nameB x.name && withinB x.size 0 64) := by
                unfold compOk
                rw [List.getElem?_eq_getElem hk', HXX.out]
                simp only [hdif.out, Bool.true_and]
              have HW : Below (w.heap.size + 1) W1 wr := (HB1.out.trans (HB2.out.mono (by omega))).trans (hb3.mono (by omega))
              have HBW := Lib.hid HW
              clear hb3 HW
              by_cases hn : nameB x.name = true
              · by_cases hw : withinB x.size 0 64 = true
                · have HA := Lib.hid (range_all_succ hall (by rw [hcomp, hn, hw]; rfl))
                  have HN := Lib.hid hn
                  have HWI := Lib.hid hw
                  clear hcomp hn hw
                  go_wp2_with (first
                    | (go_at_call 35; refine (name_calls _ _ g0).mono ?_; rintro e w' ⟨rfl, rfl⟩; rw [HN.out])
                    | (go_at_call 34; refine (within_calls _ _ _ _).mono ?_; rintro e w' ⟨rfl, rfl⟩; rw [HWI.out]))
                  exact ⟨⟨j + 1, by go_num, by omega, HA, HBW.out⟩, by simp [intOf]; omega⟩
                · have HF := Lib.hid (show confRight c = false by rw [HR.out]; exact range_not_all hk' (by rw [hcomp, hn]; simpa using hw))
                  have HN := Lib.hid hn
                  have HWI := Lib.hid (show withinB x.size 0 64 = false by simpa using hw)
                  clear hcomp hn hw
                  go_wp2_with (first
                    | (go_at_call 35; refine (name_calls _ _ g0).mono ?_; rintro e w' ⟨rfl, rfl⟩; rw [HN.out])
                    | (go_at_call 34; refine (within_calls _ _ _ _).mono ?_; rintro e w' ⟨rfl, rfl⟩; rw [HWI.out]))
                  try rw [Exit.noGoto_ret]
                  go_ret
                  exact ⟨by rw [HF.out]; rfl, hbel.trans (HBW.out.mono (by omega))⟩
              · have HF := Lib.hid (show confRight c = false by rw [HR.out]; exact range_not_all hk' (by rw [hcomp]; simp [hn]))
                have HN := Lib.hid (show nameB x.name = false by simpa using hn)
                clear hcomp hn
                go_wp2_with (go_at_call 35; refine (name_calls _ _ g0).mono ?_; rintro e w' ⟨rfl, rfl⟩; rw [HN.out])
                try rw [Exit.noGoto_ret]
                go_ret
                exact ⟨by rw [HF.out]; rfl, hbel.trans (HBW.out.mono (by omega))⟩
        · obtain rfl : k = c.comps.length := by omega
          have HF := Lib.hid (show confRight c = true by rw [HR.out]; exact hall.out)
          have HB1 := Lib.hid hb1
          clear hb1
          go_wp2_with fail
          try rw [Exit.noGoto_ret]
          go_ret
          exact ⟨by rw [HF.out]; rfl, hbel.trans (HB1.out.mono (by omega))⟩
  all_goals
    have hr : confRight c = false := by simp [confRight, confRange, h0, h1, h2, h3]
    have HR := Lib.hid hr
    have H0 := Lib.hid h0
    have H1 := Lib.hid h1
    have H2 := Lib.hid h2
    have H3 := Lib.hid h3
    clear hr h0 h1 h2 h3 hx hA
    go_enter Tryz.func15, Tryz.ntmps15
    go_wp2_with fail
    go_step3
    go_wp2_with (go_at_call 34; refine (within_calls _ _ _ _).mono ?_; rintro e w' ⟨rfl, rfl⟩; first | rw [H0.out] | rw [H1.out] | rw [H2.out] | rw [H3.out])
    try rw [Exit.noGoto_ret]
    go_ret
    exact ⟨by rw [HR.out]; rfl, (Below.refl _ _).alloc (Nat.le_refl _) _⟩
end Go.Proofs.YthkepjhfeeohdaaGreatDoor
namespace Go.Proofs.YthkepjhfeeohdaaGreatDoor
open Go.RowKit

/-- What ref07.Find answers. -/
def FindRes (l : List DComp) (s : List UInt8) (w : World) (e : Ending) (w' : World) : Prop := Below w.heap.size w w' ∧ ∃ (i : Nat) (b : Bool), e = .returned (.tuple #[.int .i64 i, .bool b]) ∧
  ((b = true ∧ (l.take i).all (fun y => decide (y.name ≠ s)) = true ∧ ∃ h : i < l.length, l[i].name = s) ∨ (b = false ∧ l.all (fun y => decide (y.name ≠ s)) = true))

set_option maxRecDepth 100000 in
set_option maxHeartbeats 4000000 in
/-- ref07.Find -/
theorem find_calls {Q : Nat → Prop} {w : World} {v : Value} {c : DConf} {s : List UInt8} (hx : rConf.val Q w v c) :
    Calls Tryz.prog 40 #[v, .string ⟨s.toArray⟩] w (FindRes c.comps s w) := by
  obtain ⟨A, cap, rfl, f0, f1, f2, f3, hc1, hc2, hA⟩ := rConf_val hx
  unfold maxLen at hc2
  have hlen : (c.comps.length : Int) ≤ 9223372036854775807 := by omega
  obtain ⟨W1, hW1⟩ : ∃ W1, w.alloc (.cells #[.int .i64 c.log, .int .i64 c.pages, .int .i64 c.entities, .int .i64 c.gens, .slice A c.comps.length cap] 24) = W1 := ⟨_, rfl⟩
  have hcell : W1.cell? ⟨w.heap.size, 4, none⟩ = some (.slice A c.comps.length cap) := by rw [← hW1]; simp
  have hbel : Below w.heap.size w W1 := by rw [← hW1]; exact (Below.refl _ _).alloc (Nat.le_refl _) _
  have hsz : W1.heap.size = w.heap.size + 1 := by rw [← hW1]; simp
  have HX := Lib.hid hA
  clear hx hA
  go_enter Tryz.func40, Tryz.ntmps40
  go_wp2_with fail
  try rw [hW1]
  clear hW1
  go_loopw [6] (fun i wr => ∃ k : Nat, i = .int .i64 k ∧ k ≤ c.comps.length ∧ Hid ((c.comps.take k).all (fun y => decide (y.name ≠ s)) = true) ∧ wr = W1)
    (fun i _ => c.comps.length - (intOf i).toNat)
  case atStart => exact ⟨0, rfl, by omega, rfl, rfl⟩
  case round =>
    obtain ⟨k, rfl, hk, hall, rfl⟩ := hrel
    by_cases hlt : (k : Int) < c.comps.length
    · have hk' : k < c.comps.length := by omega
      have hAw : rComp.At (fun b => b < w.heap.size) wr A c.comps := Rep.At.keep (w := w) (fun b _ hb => ⟨hb.lt, hbel.block b hb.lt⟩) HX.out
      obtain ⟨b, off, rfl, hb, cx0, cx1, g0, g1⟩ := rComp_at hAw (List.getElem?_eq_getElem hk')
      generalize hxx : c.comps[k] = x at *
      have HXX := Lib.hid hxx
      clear hxx hAw
      by_cases hq : x.name = s
      · have HQ := Lib.hid hq
        replace hq : (x.name == s) = true := by simp [hq]
        go_wp2_with fail
        go_ret2
        refine ⟨hbel, k, true, rfl, .inl ⟨rfl, hall, hk', by rw [HXX.out]; exact HQ.out⟩⟩
      · have HD := Lib.hid (show ((c.comps.take (k + 1)).all fun y => decide (y.name ≠ s)) = true from all_take_succ (p := fun y : DComp => decide (y.name ≠ s)) hk' hall (by rw [HXX.out]; simpa using hq))
        replace hq : (x.name == s) = false := by simpa using hq
        go_wp2_with fail
        exact ⟨⟨k + 1, by go_num, by omega, HD, trivial⟩, by simp [intOf]; omega⟩
    · obtain rfl : k = c.comps.length := by omega
      have HF := Lib.hid (show (c.comps.all fun y => decide (y.name ≠ s)) = true by have := hall.out; rwa [List.take_length] at this)
      clear hall
      go_wp2_with fail
      go_ret2
      exact ⟨hbel, 0, false, rfl, .inr ⟨rfl, HF.out⟩⟩

def muchConf (c : DConf) : Bool := (c.comps.take 50).any (fun y => decide (100 < y.name.length)) || decide (40 < c.comps.length)

set_option maxRecDepth 100000 in
set_option maxHeartbeats 4000000 in
/-- ref07.Much -/
theorem much_calls {Q : Nat → Prop} {w : World} {v : Value} {c : DConf} (hx : rConf.val Q w v c) :
    Calls Tryz.prog 4 #[v] w fun e w' => e = .returned (.bool (muchConf c)) ∧ Below w.heap.size w w' := by
  obtain ⟨A, cap, rfl, f0, f1, f2, f3, hc1, hc2, hA⟩ := rConf_val hx
  unfold maxLen at hc2
  have hlen : (c.comps.length : Int) ≤ 9223372036854775807 := by omega
  obtain ⟨W1, hW1⟩ : ∃ W1, w.alloc (.cells #[.int .i64 c.log, .int .i64 c.pages, .int .i64 c.entities, .int .i64 c.gens, .slice A c.comps.length cap] 24) = W1 := ⟨_, rfl⟩
  have hcell : W1.cell? ⟨w.heap.size, 4, none⟩ = some (.slice A c.comps.length cap) := by rw [← hW1]; simp
  have hbel : Below w.heap.size w W1 := by rw [← hW1]; exact (Below.refl _ _).alloc (Nat.le_refl _) _
  have hsz : W1.heap.size = w.heap.size + 1 := by rw [← hW1]; simp
  have HX := Lib.hid hA
  clear hx hA
  go_enter Tryz.func4, Tryz.ntmps4
  go_wp2_with fail
  try rw [hW1]
  clear hW1
  go_loopw [3] (fun i wr => ∃ k : Nat, i = .int .i64 k ∧ k ≤ c.comps.length ∧ k ≤ 50 ∧ Hid ((c.comps.take k).any (fun y => decide (100 < y.name.length)) = false) ∧ wr = W1)
    (fun i _ => c.comps.length - (intOf i).toNat)
  case atStart => exact ⟨0, rfl, by omega, by omega, rfl, rfl⟩
  case round =>
    obtain ⟨k, rfl, hk, hk50, hall, rfl⟩ := hrel
    by_cases hlt : (k : Int) < c.comps.length
    · have hk' : k < c.comps.length := by omega
      by_cases hlt5 : (k : Int) < 50
      · have hAw : rComp.At (fun b => b < w.heap.size) wr A c.comps := Rep.At.keep (w := w) (fun b _ hb => ⟨hb.lt, hbel.block b hb.lt⟩) HX.out
        obtain ⟨b, off, rfl, hb, cx0, cx1, g0, g1⟩ := rComp_at hAw (List.getElem?_eq_getElem hk')
        generalize hxx : c.comps[k] = x at *
        have HXX := Lib.hid hxx
        clear hxx hAw
        by_cases hq : (100 : Int) < x.name.length
        · have HR := Lib.hid (show muchConf c = true by
            unfold muchConf
            have : (c.comps.take 50).any (fun y => decide (100 < y.name.length)) = true := List.any_eq_true.2 ⟨x, List.mem_take_iff_getElem.2 ⟨k, by omega, HXX.out⟩, by simp; omega⟩
            rw [this]; rfl)
          go_wp2_with fail
          go_ret
          exact ⟨by rw [HR.out]; rfl, hbel⟩
        · have HD := Lib.hid (show (c.comps.take (k + 1)).any (fun y => decide (100 < y.name.length)) = false by
            rw [List.take_succ_eq_append_getElem hk', List.any_append, hall.out, HXX.out]; simp; omega)
          go_wp2_with fail
          exact ⟨⟨k + 1, by go_num, by omega, by omega, HD, trivial⟩, by simp [intOf]; omega⟩
      · have HR := Lib.hid (show muchConf c = true by unfold muchConf; rw [decide_eq_true (show 40 < c.comps.length by omega), Bool.or_true])
        have h40 : (40 : Int) < c.comps.length := by omega
        go_wp2_with fail
        go_ret
        exact ⟨by rw [HR.out]; rfl, hbel⟩
    · obtain rfl : k = c.comps.length := by omega
      have HR := Lib.hid (show muchConf c = decide ((40 : Int) < c.comps.length) by
        unfold muchConf
        have := hall.out
        rw [List.take_length] at this
        rw [List.take_of_length_le hk50, this, Bool.false_or]
        congr 1
        simp; omega)
      clear hall
      go_wp2_with fail
      go_ret
      exact ⟨by rw [HR.out]; rfl, hbel⟩
end Go.Proofs.YthkepjhfeeohdaaGreatDoor
namespace Go.Proofs.YthkepjhfeeohdaaGreatDoor
open Go.RowKit

set_option maxRecDepth 100000 in
set_option maxHeartbeats 8000000 in
/-- ref07.Right -/
theorem right_calls {Q : Nat → Prop} {w : World} {v : Value} {c : DConf} (hx : rConf.val Q w v c) :
    Calls Tryz.prog 20 #[v] w fun e w' => e = .returned (.bool (confRight c)) ∧ Below w.heap.size w w' := by
  obtain ⟨A, cap, rfl, f0, f1, f2, f3, hc1, hc2, hA⟩ := rConf_val hx
  unfold maxLen at hc2
  have hlen : (c.comps.length : Int) ≤ 9223372036854775807 := by omega
  have HX := Lib.hid hA
  clear hx hA
  by_cases a0 : c.log < 2
  · have HF := Lib.hid (show confRight c = false by
      have : confRange c = false := by
        rw [Bool.eq_false_iff]
        simp only [confRange, withinB, ne_eq, Bool.and_eq_true, decide_eq_true_eq]
        omega
      unfold confRight; rw [this, Bool.false_and])
    go_enter Tryz.func20, Tryz.ntmps20
    go_wp2_with fail
    go_ret
    exact ⟨by rw [HF.out]; rfl, (Below.refl _ _).alloc (Nat.le_refl _) _⟩
  by_cases a1 : 1024 < c.log
  · have HF := Lib.hid (show confRight c = false by
      have : confRange c = false := by
        rw [Bool.eq_false_iff]
        simp only [confRange, withinB, ne_eq, Bool.and_eq_true, decide_eq_true_eq]
        omega
      unfold confRight; rw [this, Bool.false_and])
    go_enter Tryz.func20, Tryz.ntmps20
    go_wp2_with fail
    go_ret
    exact ⟨by rw [HF.out]; rfl, (Below.refl _ _).alloc (Nat.le_refl _) _⟩
  by_cases a2 : c.pages < 4
  · have HF := Lib.hid (show confRight c = false by
      have : confRange c = false := by
        rw [Bool.eq_false_iff]
        simp only [confRange, withinB, ne_eq, Bool.and_eq_true, decide_eq_true_eq]
        omega
      unfold confRight; rw [this, Bool.false_and])
    go_enter Tryz.func20, Tryz.ntmps20
    go_wp2_with fail
    go_ret
    exact ⟨by rw [HF.out]; rfl, (Below.refl _ _).alloc (Nat.le_refl _) _⟩
  by_cases a3 : 1024 < c.pages
  · have HF := Lib.hid (show confRight c = false by
      have : confRange c = false := by
        rw [Bool.eq_false_iff]
        simp only [confRange, withinB, ne_eq, Bool.and_eq_true, decide_eq_true_eq]
        omega
      unfold confRight; rw [this, Bool.false_and])
    go_enter Tryz.func20, Tryz.ntmps20
    go_wp2_with fail
    go_ret
    exact ⟨by rw [HF.out]; rfl, (Below.refl _ _).alloc (Nat.le_refl _) _⟩
  by_cases a4 : c.entities < 1
  · have HF := Lib.hid (show confRight c = false by
      have : confRange c = false := by
        rw [Bool.eq_false_iff]
        simp only [confRange, withinB, ne_eq, Bool.and_eq_true, decide_eq_true_eq]
        omega
      unfold confRight; rw [this, Bool.false_and])
    go_enter Tryz.func20, Tryz.ntmps20
    go_wp2_with fail
    go_ret
    exact ⟨by rw [HF.out]; rfl, (Below.refl _ _).alloc (Nat.le_refl _) _⟩
  by_cases a5 : 1024 < c.entities
  · have HF := Lib.hid (show confRight c = false by
      have : confRange c = false := by
        rw [Bool.eq_false_iff]
        simp only [confRange, withinB, ne_eq, Bool.and_eq_true, decide_eq_true_eq]
        omega
      unfold confRight; rw [this, Bool.false_and])
    go_enter Tryz.func20, Tryz.ntmps20
    go_wp2_with fail
    go_ret
    exact ⟨by rw [HF.out]; rfl, (Below.refl _ _).alloc (Nat.le_refl _) _⟩
  by_cases a6 : c.gens < 1
  · have HF := Lib.hid (show confRight c = false by
      have : confRange c = false := by
        rw [Bool.eq_false_iff]
        simp only [confRange, withinB, ne_eq, Bool.and_eq_true, decide_eq_true_eq]
        omega
      unfold confRight; rw [this, Bool.false_and])
    go_enter Tryz.func20, Tryz.ntmps20
    go_wp2_with fail
    go_ret
    exact ⟨by rw [HF.out]; rfl, (Below.refl _ _).alloc (Nat.le_refl _) _⟩
  by_cases a7 : 1073741824 < c.gens
  · have HF := Lib.hid (show confRight c = false by
      have : confRange c = false := by
        rw [Bool.eq_false_iff]
        simp only [confRange, withinB, ne_eq, Bool.and_eq_true, decide_eq_true_eq]
        omega
      unfold confRight; rw [this, Bool.false_and])
    go_enter Tryz.func20, Tryz.ntmps20
    go_wp2_with fail
    go_ret
    exact ⟨by rw [HF.out]; rfl, (Below.refl _ _).alloc (Nat.le_refl _) _⟩
  by_cases a8 : (32 : Int) < c.comps.length
  · have HF := Lib.hid (show confRight c = false by
      have : confRange c = false := by
        rw [Bool.eq_false_iff]
        simp only [confRange, withinB, ne_eq, Bool.and_eq_true, decide_eq_true_eq]
        omega
      unfold confRight; rw [this, Bool.false_and])
    go_enter Tryz.func20, Tryz.ntmps20
    go_wp2_with fail
    go_ret
    exact ⟨by rw [HF.out]; rfl, (Below.refl _ _).alloc (Nat.le_refl _) _⟩
  have HR := Lib.hid (show confRight c = (List.range c.comps.length).all (compOk c.comps) by
    have : confRange c = true := by
      simp only [confRange, withinB, Bool.and_eq_true, decide_eq_true_eq]
      omega
    unfold confRight; rw [this, Bool.true_and])
  obtain ⟨W1, hW1⟩ : ∃ W1, w.alloc (.cells #[.int .i64 c.log, .int .i64 c.pages, .int .i64 c.entities, .int .i64 c.gens, .slice A c.comps.length cap] 24) = W1 := ⟨_, rfl⟩
  have hbel : Below w.heap.size w W1 := by rw [← hW1]; exact (Below.refl _ _).alloc (Nat.le_refl _) _
  have hsz : W1.heap.size = w.heap.size + 1 := by rw [← hW1]; simp
  have e0 : W1.cell? ⟨w.heap.size, 0, none⟩ = some (.int .i64 c.log) := by rw [← hW1]; simp
  have e1 : W1.cell? ⟨w.heap.size, 1, none⟩ = some (.int .i64 c.pages) := by rw [← hW1]; simp
  have e2 : W1.cell? ⟨w.heap.size, 2, none⟩ = some (.int .i64 c.entities) := by rw [← hW1]; simp
  have e3 : W1.cell? ⟨w.heap.size, 3, none⟩ = some (.int .i64 c.gens) := by rw [← hW1]; simp
  have e4 : W1.cell? ⟨w.heap.size, 4, none⟩ = some (.slice A c.comps.length cap) := by rw [← hW1]; simp
  go_enter Tryz.func20, Tryz.ntmps20
  go_wp2_with fail
  try rw [hW1]
  clear hW1
  go_wp2_with fail
  go_loopw [3] (fun i wr => ∃ k : Nat, i = .int .i64 k ∧ k ≤ c.comps.length ∧ Hid ((List.range k).all (compOk c.comps) = true) ∧ Below (w.heap.size + 1) W1 wr)
    (fun i _ => c.comps.length - (intOf i).toNat)
  case atStart => exact ⟨0, rfl, by omega, rfl, Below.refl _ _⟩
  case round =>
    obtain ⟨k, rfl, hk, hall, hb1⟩ := hrel
    have E0 := (hb1.cell (p := ⟨w.heap.size, 0, none⟩) (Nat.lt_succ_self _)).trans e0
    have E1 := (hb1.cell (p := ⟨w.heap.size, 1, none⟩) (Nat.lt_succ_self _)).trans e1
    have E2 := (hb1.cell (p := ⟨w.heap.size, 2, none⟩) (Nat.lt_succ_self _)).trans e2
    have E3 := (hb1.cell (p := ⟨w.heap.size, 3, none⟩) (Nat.lt_succ_self _)).trans e3
    have E4 := (hb1.cell (p := ⟨w.heap.size, 4, none⟩) (Nat.lt_succ_self _)).trans e4
    have hb0 : Below w.heap.size w wr := hbel.trans (hb1.mono (by omega))
    have HB1 := Lib.hid hb1
    clear hb1
    by_cases hlt : (k : Int) < c.comps.length
    · have hk' : k < c.comps.length := by omega
      have hAw : rComp.At (fun b => b < w.heap.size) wr A c.comps := Rep.At.keep (w := w) (fun b _ hb => ⟨hb.lt, hb0.block b hb.lt⟩) HX.out
      obtain ⟨b, off, rfl, hb, cx0, cx1, g0, g1⟩ := rComp_at hAw (List.getElem?_eq_getElem hk')
      generalize hxx : c.comps[k] = x at *
      have HXX := Lib.hid hxx
      have HV := Lib.hid (show ∀ W, Below wr.heap.size wr W → rConf.val (fun _ => True) W (.agg #[.int .i64 c.log, .int .i64 c.pages, .int .i64 c.entities, .int .i64 c.gens, .slice (some ⟨b, off, none⟩) c.comps.length cap]) c from
        fun W hW => rConf_agg f0 f1 f2 f3 ⟨hc1, by unfold maxLen; omega, hAw.keep (w := wr) (w' := W) fun b _ hb => ⟨trivial, hW.block b hb.lt⟩⟩)
      have hl : w.heap.size < wr.heap.size := by have := HB1.out.size; omega
      have hbl := hb.lt
      clear hxx hAw
      go_wp2_with fail
      go_region_held3 (fun w' => w'.cell? ⟨w.heap.size, 0, none⟩ = some (.int .i64 c.log) ∧ w'.cell? ⟨w.heap.size, 1, none⟩ = some (.int .i64 c.pages) ∧ w'.cell? ⟨w.heap.size, 2, none⟩ = some (.int .i64 c.entities) ∧ w'.cell? ⟨w.heap.size, 3, none⟩ = some (.int .i64 c.gens) ∧ w'.cell? ⟨w.heap.size, 4, none⟩ = some (.slice (some ⟨b, off, none⟩) c.comps.length cap) ∧ w'.cell? ⟨b, off + k * 2, none⟩ = some (.string ⟨x.name.toArray⟩) ∧ Below wr.heap.size wr w')
        (first
          | exact ⟨E0, E1, E2, E3, E4, cx0, (Below.refl _ _).drew⟩
          | exact ⟨(hbf.cell (p := ⟨w.heap.size, 0, none⟩) hl).trans E0, (hbf.cell (p := ⟨w.heap.size, 1, none⟩) hl).trans E1, (hbf.cell (p := ⟨w.heap.size, 2, none⟩) hl).trans E2, (hbf.cell (p := ⟨w.heap.size, 3, none⟩) hl).trans E3, (hbf.cell (p := ⟨w.heap.size, 4, none⟩) hl).trans E4, (hbf.cell (p := ⟨b, off + k * 2, none⟩) hbl).trans cx0, (Below.refl wr.heap.size wr).drew.trans hbf⟩)
        (first | (go_at_call 40; refine (find_calls (HV.out _ ((Below.refl _ _).drew))).mono ?_; rintro e w' ⟨hbf, i, bb, rfl, hfr⟩))
      rename_i hHeld
      have hW : Below wr.heap.size wr w' := (Below.refl wr.heap.size wr).drew.trans hbf
      have F4 := (hW.cell (p := ⟨w.heap.size, 4, none⟩) hl).trans E4
      have G0 := (hW.cell (p := ⟨b, off + k * 2, none⟩) hbl).trans cx0
      have G1 := (hW.cell (p := ⟨b, off + k * 2 + 1, none⟩) hbl).trans cx1
      have HBW := Lib.hid (HB1.out.trans (hW.mono (by omega)))
      clear hbf hHeld hW E0 E1 E2 E3 E4 cx0 cx1
      rcases hfr with ⟨rfl, hpre, hi, hname⟩ | ⟨_, hno⟩
      · have hik : i ≤ k := by
          rcases Nat.lt_or_ge k i with h | h
          · have hm : x ∈ c.comps.take i := by rw [← HXX.out]; exact List.mem_take_iff_getElem.2 ⟨k, by omega, rfl⟩
            have := List.all_eq_true.1 hpre x hm
            simp at this
          · exact h
        rcases Nat.lt_or_ge i k with hlt2 | hge2
        · have HF := Lib.hid (show confRight c = false by rw [HR.out]; exact range_not_all hk' (compOk_dup hlt2 hk' HXX.out hi rfl hname))
          have hne : ((i : Int) != (k : Int)) = true := by simp; omega
          clear hpre hname hi
          go_wp2_with fail
          go_ret
          exact ⟨by rw [HF.out]; rfl, hbel.trans (HBW.out.mono (by omega))⟩
        · obtain rfl : i = k := by omega
          have hcomp : compOk c.comps i = (nameB x.name && withinB x.size 0 64) := by
            unfold compOk
            rw [List.getElem?_eq_getElem hk', HXX.out]
            simp only [hpre, Bool.true_and]
          have hne : ((i : Int) != (i : Int)) = false := by simp
          clear hpre hname hi hge2
          cases hn : nameB x.name with
          | false =>
            have HN := Lib.hid hn
            have HF := Lib.hid (show confRight c = false by rw [HR.out]; exact range_not_all hk' (by rw [hcomp, hn]; rfl))
            clear hn hcomp
            go_wp2_with (go_at_call 41; refine (rname_calls _ _ g0).mono ?_; rintro e w2 ⟨rfl, nd, rfl⟩; rw [HN.out])
            go_ret
            exact ⟨by rw [HF.out]; rfl, below_drewN (hbel.trans (HBW.out.mono (by omega))) _⟩
          | true =>
            have HN := Lib.hid hn
            by_cases s0 : x.size < 0
            · have HF := Lib.hid (show confRight c = false by rw [HR.out]; exact range_not_all hk' (by rw [hcomp, hn]; simp [withinB]; omega))
              clear hn hcomp
              go_wp2_with (go_at_call 41; refine (rname_calls _ _ g0).mono ?_; rintro e w2 ⟨rfl, nd, rfl⟩; rw [HN.out])
              go_ret
              exact ⟨by rw [HF.out]; rfl, below_drewN (hbel.trans (HBW.out.mono (by omega))) _⟩
            by_cases s1 : 64 < x.size
            · have HF := Lib.hid (show confRight c = false by rw [HR.out]; exact range_not_all hk' (by rw [hcomp, hn]; simp [withinB]; omega))
              clear hn hcomp
              go_wp2_with (go_at_call 41; refine (rname_calls _ _ g0).mono ?_; rintro e w2 ⟨rfl, nd, rfl⟩; rw [HN.out])
              go_ret
              exact ⟨by rw [HF.out]; rfl, below_drewN (hbel.trans (HBW.out.mono (by omega))) _⟩
            have HA := Lib.hid (range_all_succ hall (by rw [hcomp, hn]; simp [withinB]; omega))
            clear hn hcomp
            go_wp2_with (go_at_call 41; refine (rname_calls _ _ g0).mono ?_; rintro e w2 ⟨rfl, nd, rfl⟩; rw [HN.out])
            exact ⟨⟨i + 1, by go_num, by omega, HA, below_drewN HBW.out _⟩, by simp [intOf]; omega⟩
      · exfalso
        have hm : x ∈ c.comps := by rw [← HXX.out]; exact List.getElem_mem hk'
        have := List.all_eq_true.1 hno x hm
        simp at this
    · obtain rfl : k = c.comps.length := by omega
      have HF := Lib.hid (show confRight c = true by rw [HR.out]; exact hall.out)
      clear hall
      go_wp2_with fail
      go_ret
      exact ⟨by rw [HF.out]; rfl, hb0⟩
end Go.Proofs.YthkepjhfeeohdaaGreatDoor
namespace Go.Proofs.YthkepjhfeeohdaaGreatDoor
open Go.RowKit

/-- The number that bytes are, the lowest first. -/
def leNat : List UInt8 → Nat
  | [] => 0
  | c :: l => c.toNat + 256 * leNat l
theorem leNat_lt : ∀ l : List UInt8, leNat l < 256 ^ l.length
  | [] => by simp [leNat]
  | c :: l => by
    have h := leNat_lt l
    have hc := c.toNat_lt
    have e : 256 ^ (c :: l).length = 256 * 256 ^ l.length := by rw [List.length_cons, Nat.pow_succ, Nat.mul_comm]
    simp only [leNat, e]
    omega
theorem leNat_append : ∀ l m : List UInt8, leNat (l ++ m) = leNat l + 256 ^ l.length * leNat m
  | [], m => by simp [leNat]
  | c :: l, m => by
    simp only [List.cons_append, leNat, leNat_append l m, List.length_cons, Nat.pow_succ]
    rw [Nat.mul_add, ← Nat.mul_assoc, Nat.mul_comm 256 (256 ^ l.length)]
    omega

/-- As a signed number of 64 bits. -/
def i64of (n : Nat) : Int := IntKind.i64.wrap (n : Int)
theorem i64of_small {n : Nat} (h : n < 9223372036854775808) : i64of n = n := by
  unfold i64of
  exact IntWalk.i64_in _ ⟨by omega, by omega⟩
theorem i64of_wf (n : Nat) : (Lit.int .i64 (i64of n)).wf = true := by
  unfold i64of
  simp [Lit.wf, IntKind.min, IntKind.max, IntKind.signed, IntKind.bits, IntKind.wrap]
  split <;> omega
/-- A number out of bytes, from a place on. -/
def getNum (b : List UInt8) (at_ width : Int) : Option Int :=
  if 0 ≤ at_ ∧ at_ + wide width ≤ b.length then some (i64of (leNat ((b.drop at_.toNat).take (wide width).toNat))) else none

end Go.Proofs.YthkepjhfeeohdaaGreatDoor
namespace Go.Proofs.YthkepjhfeeohdaaGreatDoor
open Go.RowKit

theorem ofInt_i64of (n : Nat) : BitVec.ofInt 64 (i64of n) = BitVec.ofNat 64 n := by
  apply BitVec.eq_of_toNat_eq
  unfold i64of
  rw [IntKind.wrap_i64]
  simp only [BitVec.toNat_ofInt, BitVec.toNat_ofNat]
  omega
theorem wrap64_i64of (n : Nat) : wrap64 (n : Int) = i64of n := (IntWalk.i64_left _).symm
/-- A byte laid beside what there is. -/
theorem or_byte (M : Nat) (k : Nat) (hM : M < 256 ^ k) (hk : k < 8) (x : UInt8) : bits BinOp.or IntKind.i64 (i64of M) (wrap64 (wrap64 (x.toNat : Int) * 2 ^ (8 * k))) = i64of (M + 256 ^ k * x.toNat) := by
  have hx := x.toNat_lt
  have e1 : wrap64 (x.toNat : Int) = x.toNat := IntWalk.wrap64_in _ ⟨by omega, by omega⟩
  have e2 : (x.toNat : Int) * 2 ^ (8 * k) = ((x.toNat * 2 ^ (8 * k) : Nat) : Int) := by simp
  have hp : 256 ^ k = 2 ^ (8 * k) := by rw [Nat.pow_mul]
  have hpos : 0 < 2 ^ (8 * k) := Nat.pow_pos (by decide)
  have h64 : 2 ^ (8 * k) * 256 ≤ 2 ^ 64 := by
    rw [show (256 : Nat) = 2 ^ 8 from rfl, ← Nat.pow_add]
    exact Nat.pow_le_pow_right (by decide) (by omega)
  have hmul : x.toNat * 2 ^ (8 * k) + 2 ^ (8 * k) ≤ 2 ^ (8 * k) * 256 := by
    have : x.toNat + 1 ≤ 256 := by omega
    calc x.toNat * 2 ^ (8 * k) + 2 ^ (8 * k) = (x.toNat + 1) * 2 ^ (8 * k) := by rw [Nat.add_mul, Nat.one_mul]
      _ ≤ 256 * 2 ^ (8 * k) := Nat.mul_le_mul_right _ this
      _ = _ := Nat.mul_comm _ _
  rw [hp] at hM ⊢
  rw [e1, e2]
  have e3 := wrap64_i64of (x.toNat * 2 ^ (8 * k))
  rw [e3]
  unfold bits
  simp only [IntKind.bits, ofInt_i64of]
  have e4 : (BitVec.ofNat 64 M ||| BitVec.ofNat 64 (x.toNat * 2 ^ (8 * k))).toNat = M + 2 ^ (8 * k) * x.toNat := by
    rw [BitVec.toNat_or, BitVec.toNat_ofNat, BitVec.toNat_ofNat, Nat.mod_eq_of_lt (by omega), Nat.mod_eq_of_lt (by omega), Nat.or_comm, ← Nat.shiftLeft_eq, ← Nat.shiftLeft_add_eq_or_of_lt hM, Nat.shiftLeft_eq, Nat.add_comm, Nat.mul_comm]
  exact congrArg (fun n : Nat => IntKind.i64.wrap (n : Int)) e4

theorem leNat_take_succ {s : List UInt8} {k : Nat} (h : k < s.length) : leNat (s.take (k + 1)) = leNat (s.take k) + 256 ^ k * s[k].toNat := by
  rw [List.take_succ_eq_append_getElem h, leNat_append]
  simp [leNat, Nat.min_eq_left (Nat.le_of_lt h)]
theorem getNum_some {b : List UInt8} {p k0 : Nat} {width : Int} (hW : (k0 : Int) = wide width) (h : p + k0 ≤ b.length) : getNum b p width = some (i64of (leNat ((b.drop p).take k0))) := by
  rw [getNum, ← hW, if_pos ⟨by omega, by omega⟩]; simp
theorem getNum_none {b : List UInt8} {at_ width : Int} (h : ¬ (0 ≤ at_ ∧ at_ + wide width ≤ b.length)) : getNum b at_ width = none := by
  rw [getNum, if_neg h]
set_option maxRecDepth 10000 in
set_option maxHeartbeats 1000000 in
/-- le.Get -/
theorem get_calls {Q : Nat → Prop} {w : World} {v : Value} {b : List UInt8} {at_ width : Int} (hx : Rep.byte.list.val Q w v b) (ha : (Lit.int .i64 at_).wf = true) :
    Calls Tryz.prog 157 #[v, .int .i64 at_, .int .i64 width] w fun e w' => e = .returned (.tuple #[.int .i64 ((getNum b at_ width).getD 0), .bool (getNum b at_ width).isSome]) ∧ w' = w := by
  have ha1 : -9223372036854775808 ≤ at_ ∧ at_ ≤ 9223372036854775807 := by simpa [Lit.wf, IntKind.min, IntKind.max, IntKind.signed, IntKind.bits] using ha
  obtain ⟨A, c, rfl, hc1, hc2, hA⟩ := Rep.val_list hx
  unfold maxLen at hc2
  obtain ⟨W, hW⟩ : ∃ W, W = wide width := ⟨_, rfl⟩
  have g1 := wide_ge width
  have g2 := wide_le width
  rw [← hW] at g1 g2
  by_cases hok : 0 ≤ at_ ∧ at_ + W ≤ b.length
  · have HW := Lib.hid hW
    clear hW hx
    obtain ⟨h0, h1⟩ := hok
    obtain ⟨p, rfl⟩ : ∃ p : Nat, at_ = p := ⟨at_.toNat, by omega⟩
    obtain ⟨k0, hk0⟩ : ∃ k0 : Nat, W = k0 := ⟨W.toNat, by omega⟩
    subst hk0
    have HR := Lib.hid (getNum_some HW.out (show p + k0 ≤ b.length by omega))
    clear ha
    have n1 : ¬ (b.length : Int) < p := by omega
    have n2 : ¬ ((b.length : Int) - p < k0) := by omega
    have HC := Lib.hid (show ∀ k : Nat, k < k0 → ∃ (b0 o0 : Nat) (h : k < ((b.drop p).take k0).length), A = some ⟨b0, o0, none⟩ ∧ w.cell? ⟨b0, o0 + p + k, none⟩ = some (.int .u8 ((((b.drop p).take k0)[k]).toNat : Int)) from fun k hk => by
      obtain ⟨b0, o0, h3, h4⟩ := hA.byte (i := p + k) (x := b[p + k]'(by omega)) (List.getElem?_eq_getElem (by omega))
      exact ⟨b0, o0, by simp; omega, h3, by rw [Nat.add_assoc, h4]; simp⟩)
    have HL := Lib.hid (show ((b.drop p).take k0).length = k0 by simp; omega)
    generalize (b.drop p).take k0 = S at *
    go_enter Tryz.func157, Tryz.ntmps157
    go_wp2_with (go_at_call 192; refine (wide_calls _ _).mono ?_; rintro e w' ⟨rfl, rfl⟩; rw [← HW.out])
    go_loop [6, 38] (fun s i => ∃ k : Nat, k ≤ k0 ∧ i = .int .i64 k ∧ s = .int .i64 (i64of (leNat (S.take k)))) (fun _ i => k0 - (intOf i).toNat)
    case atStart => exact ⟨0, by omega, rfl, by simp [leNat, i64of, IntKind.wrap, IntKind.signed, IntKind.bits]⟩
    case round =>
      obtain ⟨k, hk, rfl, rfl⟩ := hrel
      by_cases hlt : (k : Int) < k0
      · obtain ⟨b0, o0, hks, rfl, hcell⟩ := HC.out k (by omega)
        have T := Lib.hid (show ∀ x : UInt8, x = S[k] → bits BinOp.or IntKind.i64 (i64of (leNat (S.take k))) (wrap64 (wrap64 (x.toNat : Int) * 2 ^ (8 * k))) = i64of (leNat (S.take (k + 1))) from fun x hx => by
          subst hx
          rw [leNat_take_succ hks]
          refine or_byte _ k ?_ (by omega) _
          have := leNat_lt (S.take k)
          rwa [List.length_take, Nat.min_eq_left (by omega)] at this)
        generalize hxx : S[k] = x at *
        have TT := Lib.hid (T.out x rfl)
        generalize i64of (leNat (S.take k)) = m at *
        clear hxx T
        go_wp2_with fail
        go_round
        case rel => exact ⟨k + 1, by omega, by go_num, by rw [TT.out]⟩
        case measure => simp [intOf]; omega
      · obtain rfl : k = k0 := by omega
        have R := Lib.hid (show i64of (leNat (S.take k)) = i64of (leNat S) by rw [List.take_of_length_le (by rw [HL.out]; exact Nat.le_refl _)])
        generalize i64of (leNat (S.take k)) = m at *
        go_wp2_with fail
        go_ret2
        exact ⟨by rw [HR.out, ← R.out]; rfl, rfl⟩
  · have HR := Lib.hid (getNum_none (b := b) (at_ := at_) (width := width) (by rw [← hW]; exact hok))
    have HW := Lib.hid hW
    clear hW hx ha hA
    by_cases c1 : at_ < 0
    · clear hok
      go_enter Tryz.func157, Tryz.ntmps157
      go_wp2_with (go_at_call 192; refine (wide_calls _ _).mono ?_; rintro e w' ⟨rfl, rfl⟩; rw [← HW.out])
      go_ret2
      exact ⟨by rw [HR.out]; rfl, rfl⟩
    · obtain ⟨p, rfl⟩ : ∃ p : Nat, at_ = p := ⟨at_.toNat, by omega⟩
      by_cases c2 : (b.length : Int) < p
      · clear hok
        go_enter Tryz.func157, Tryz.ntmps157
        go_wp2_with (go_at_call 192; refine (wide_calls _ _).mono ?_; rintro e w' ⟨rfl, rfl⟩; rw [← HW.out])
        go_ret2
        exact ⟨by rw [HR.out]; rfl, rfl⟩
      · have c3 : (b.length : Int) - p < W := by omega
        clear hok
        go_enter Tryz.func157, Tryz.ntmps157
        go_wp2_with (go_at_call 192; refine (wide_calls _ _).mono ?_; rintro e w' ⟨rfl, rfl⟩; rw [← HW.out])
        go_ret2
        exact ⟨by rw [HR.out]; rfl, rfl⟩

end Go.Proofs.YthkepjhfeeohdaaGreatDoor
namespace Go.Proofs.YthkepjhfeeohdaaGreatDoor
open Go.RowKit

/-- A reader lies in block p: over the bytes b, at a place; whether something was not there. -/
structure RdrAt (w : World) (p : Nat) (A : Option Addr) (c : Nat) (b : List UInt8) (at_ : Nat) (bad : Bool) : Prop where
  blk : w.heap[p]? = some (.cells #[.slice A b.length c, .int .i64 at_, .bool bad] 333 (0, 0))
  sl : Rep.byte.Sl (fun x => x < p) w A c b
  le : at_ ≤ b.length
theorem RdrAt.c0 {w : World} {p : Nat} {A : Option Addr} {c : Nat} {b : List UInt8} {at_ : Nat} {bad : Bool} (h : RdrAt w p A c b at_ bad) : w.cell? ⟨p, 0, none⟩ = some (.slice A b.length c) := by simp [World.cell?, h.blk]
theorem RdrAt.c1 {w : World} {p : Nat} {A : Option Addr} {c : Nat} {b : List UInt8} {at_ : Nat} {bad : Bool} (h : RdrAt w p A c b at_ bad) : w.cell? ⟨p, 1, none⟩ = some (.int .i64 at_) := by simp [World.cell?, h.blk]
theorem RdrAt.c2 {w : World} {p : Nat} {A : Option Addr} {c : Nat} {b : List UInt8} {at_ : Nat} {bad : Bool} (h : RdrAt w p A c b at_ bad) : w.cell? ⟨p, 2, none⟩ = some (.bool bad) := by simp [World.cell?, h.blk]
theorem RdrAt.z {w : World} {p : Nat} {A : Option Addr} {c : Nat} {b : List UInt8} {at_ : Nat} {bad : Bool} (h : RdrAt w p A c b at_ bad) (i : Nat) : w.frozen? ⟨p, i, none⟩ = false := by simp [World.frozen?, h.blk]
theorem RdrAt.keep {w w' : World} {p : Nat} {A : Option Addr} {c : Nat} {b : List UInt8} {at_ : Nat} {bad : Bool} (h : RdrAt w p A c b at_ bad) (hk : ∀ x, IsC w x → w'.heap[x]? = w.heap[x]?) : RdrAt w' p A c b at_ bad :=
  ⟨(hk p ⟨_, _, _, h.blk⟩).trans h.blk, h.sl.keep fun x hx hl => ⟨hx, hk x hl⟩, h.le⟩
theorem RdrAt.drewN {w : World} {p : Nat} {A : Option Addr} {c : Nat} {b : List UInt8} {at_ : Nat} {bad : Bool} (h : RdrAt w p A c b at_ bad) (n : Nat) : RdrAt (w.drewN n) p A c b at_ bad := h.keep (w' := w.drewN n) fun _ _ => rfl
theorem RdrAt.lt {w : World} {p : Nat} {A : Option Addr} {c : Nat} {b : List UInt8} {at_ : Nat} {bad : Bool} (h : RdrAt w p A c b at_ bad) : p < w.heap.size := IsC.lt ⟨_, _, _, h.blk⟩

/-- (*le.Reader).OK -/
theorem ok_calls {w : World} {p : Nat} {A : Option Addr} {c : Nat} {b : List UInt8} {at_ : Nat} {bad : Bool} (h : RdrAt w p A c b at_ bad) :
    Calls Tryz.prog 141 #[.pointer (some ⟨p, 0, none⟩)] w fun e w' => e = .returned (.bool (!bad)) ∧ w' = w := by
  have c2 := h.c2
  clear h
  go_enter Tryz.func141, Tryz.ntmps141
  go_wp2_with fail
  go_ret
  exact ⟨rfl, rfl⟩

/-- (*le.Reader).Left -/
theorem left_calls {w : World} {p : Nat} {A : Option Addr} {c : Nat} {b : List UInt8} {at_ : Nat} {bad : Bool} (h : RdrAt w p A c b at_ bad) (hb : b.length ≤ 1000000000) :
    Calls Tryz.prog 142 #[.pointer (some ⟨p, 0, none⟩)] w fun e w' => e = .returned (.int .i64 ((b.length : Int) - at_)) ∧ ∃ n, w' = w.drewN n := by
  have c0 := h.c0
  have c1 := h.c1
  have hle := h.le
  clear h
  go_enter Tryz.func142, Tryz.ntmps142
  go_wp2_with fail
  go_quiet (fail)
  go_wp2_with fail
  go_ret
  exact ⟨rfl, _, rfl⟩

/-- A reader of its own over the bytes. -/
def ReadRes (w : World) (b : List UInt8) (e : Ending) (w' : World) : Prop :=
  ∃ p A c, e = .returned (.pointer (some ⟨p, 0, none⟩)) ∧ RdrAt w' p A c b 0 false ∧ w.heap.size ≤ p ∧ Below w.heap.size w w' ∧ Rep.byte.Sl (fun x => w.heap.size ≤ x ∧ x ≠ p) w' A c b

/-- le.Read -/
theorem read_calls {Q : Nat → Prop} {w : World} {v : Value} {b : List UInt8} (hx : Rep.byte.list.val Q w v b) (hl : b.length ≤ 1000000000) :
    Calls Tryz.prog 139 #[v] w (ReadRes w b) := by
  obtain ⟨A, c, rfl, _, _, _⟩ := Rep.val_list hx
  have HX := Lib.hid hx
  clear hx
  go_enter Tryz.func139, Tryz.ntmps139
  go_wp2_with (go_at_call 70; refine (sliceClone HX.out (by omega)).mono ?_; rintro e w1 ⟨u, rfl, hu, hb⟩; have HU := Lib.hid hu; obtain ⟨A2, c2, rfl, _, _⟩ := Rep.acc_form hu; clear hu)
  go_ret
  have hs := Rep.val_sl (Rep.acc_fresh HU.out)
  obtain ⟨A3, c3, he, hs⟩ := hs
  cases he
  have hb' : Below w1.heap.size w1 (w1.alloc (.cells #[.slice A2 b.length c2, .int .i64 0, .bool false] 333)) := (Below.refl _ _).alloc (Nat.le_refl _) _
  refine ⟨w1.heap.size, A2, c2, rfl, ⟨heap_alloc_new w1 _, hs.keep fun x hx hl => ⟨?_, hb'.block x hl.lt⟩, Nat.zero_le _⟩, hb.size, hb.trans (hb'.mono hb.size), hs.keep fun x hx hl => ⟨⟨hx, ?_⟩, hb'.block x hl.lt⟩⟩
  · have := hl.lt; omega
  · have := hl.lt; omega

/-- What the next number is, where the reader is then, and whether something was not there. -/
def rdNum (b : List UInt8) (at_ : Nat) (bad : Bool) (width : Int) : Int × Nat × Bool :=
  if bad then (0, at_, true) else match getNum b at_ width with
    | none => (0, at_, true)
    | some n => (n, at_ + (wide width).toNat, false)
theorem getNum_le {b : List UInt8} {at_ : Nat} {width n : Int} (h : getNum b at_ width = some n) : (at_ : Int) + wide width ≤ b.length := by
  unfold getNum at h
  split at h
  · rename_i hh; exact hh.2
  · cases h
def NumRes (w : World) (p : Nat) (A : Option Addr) (c : Nat) (b : List UInt8) (r : Int × Nat × Bool) (e : Ending) (w' : World) : Prop :=
  e = .returned (.int .i64 r.1) ∧ RdrAt w' p A c b r.2.1 r.2.2 ∧ w.grownBy w' (some p)

theorem heap_setRow {w : World} {b i e : Nat} {cs : Array Value} {v : Value} {f : Nat × Nat} (h : w.heap[b]? = some (.cells cs e f)) : (w.setCell ⟨b, i, none⟩ v).heap[b]? = some (.cells (cs.setIfInBounds i v) e f) := by
  simp [World.setCell, Array.getElem?_modify, h]
theorem grownBy_drewN (w : World) (n : Nat) (row : Option Nat) : w.grownBy (w.drewN n) row := ⟨rfl, rfl, rfl, Nat.le_refl _, fun _ _ _ => rfl⟩

theorem grownBy_setCell (w : World) (a : Addr) (v : Value) : w.grownBy (w.setCell a v) (some a.block) :=
  ⟨rfl, rfl, rfl, by simp, fun b _ hne => Below.heap_setCell _ _ _ _ (fun e => hne (by rw [e]))⟩
theorem setBad {w : World} {p : Nat} {A : Option Addr} {c : Nat} {b : List UInt8} {at_ : Nat} {bad : Bool} (h : RdrAt w p A c b at_ bad) : RdrAt (w.setCell ⟨p, 2, none⟩ (.bool true)) p A c b at_ true :=
  ⟨by rw [heap_setRow h.blk]; rfl, h.sl.keep fun x hx _ => ⟨hx, Below.heap_setCell _ _ _ _ (Nat.ne_of_lt hx)⟩, h.le⟩
theorem setAt {w : World} {p : Nat} {A : Option Addr} {c : Nat} {b : List UInt8} {at_ at2 : Nat} {bad : Bool} (h : RdrAt w p A c b at_ bad) (hl : at2 ≤ b.length) : RdrAt (w.setCell ⟨p, 1, none⟩ (.int .i64 at2)) p A c b at2 bad :=
  ⟨by rw [heap_setRow h.blk]; rfl, h.sl.keep fun x hx _ => ⟨hx, Below.heap_setCell _ _ _ _ (Nat.ne_of_lt hx)⟩, hl⟩

set_option maxRecDepth 100000 in
set_option maxHeartbeats 1000000 in
/-- (*le.Reader).Num -/
theorem rdnum_calls {w : World} {p : Nat} {A : Option Addr} {c : Nat} {b : List UInt8} {at_ : Nat} {bad : Bool} {width : Int} (h : RdrAt w p A c b at_ bad) (hb : b.length ≤ 1000000000) :
    Calls Tryz.prog 140 #[.pointer (some ⟨p, 0, none⟩), .int .i64 width] w (NumRes w p A c b (rdNum b at_ bad width)) := by
  have c0 := h.c0
  have c1 := h.c1
  have c2 := h.c2
  have z1 := h.z 1
  have z2 := h.z 2
  have hle := h.le
  have HWF := Lib.hid (show (Lit.int .i64 (at_ : Int)).wf = true from wf_i64 (by omega) (by omega))
  have H := Lib.hid h
  clear h
  cases bad with
  | true =>
    have R := Lib.hid (show rdNum b at_ true width = (0, at_, true) from rfl)
    go_enter Tryz.func140, Tryz.ntmps140
    go_wp2_with (go_at_call 141; refine (ok_calls H.out).mono ?_; rintro e w' ⟨rfl, rfl⟩)
    go_ret
    rw [R.out]
    exact ⟨rfl, H.out, World.grownBy.refl _ _⟩
  | false =>
    cases hg : getNum b at_ width with
    | none =>
      have R := Lib.hid (show rdNum b at_ false width = (0, at_, true) by simp [rdNum, hg])
      have G := Lib.hid hg
      clear hg
      go_enter Tryz.func140, Tryz.ntmps140
      go_wp2_with (go_at_call 141; refine (ok_calls H.out).mono ?_; rintro e w' ⟨rfl, rfl⟩)
      go_quiet ((go_at_call 157; exact Calls.quiet_of_same (get_calls (H.out.drewN _).sl.val HWF.out)))
      rw [G.out]
      go_wp2_with fail
      go_ret
      rw [R.out]
      have hg := grownBy_drewN w' nq (some p)
      generalize hW : w'.drewN nq = W at *
      have h1 : RdrAt W p A c b at_ false := by rw [← hW]; exact H.out.drewN nq
      exact ⟨rfl, setBad h1, hg.trans (grownBy_setCell _ _ _)⟩
    | some n =>
      have R := Lib.hid (show rdNum b at_ false width = (n, at_ + (wide width).toNat, false) by simp [rdNum, hg])
      have G := Lib.hid hg
      clear hg
      go_enter Tryz.func140, Tryz.ntmps140
      go_wp2_with (go_at_call 141; refine (ok_calls H.out).mono ?_; rintro e w' ⟨rfl, rfl⟩)
      go_quiet ((go_at_call 157; exact Calls.quiet_of_same (get_calls (H.out.drewN _).sl.val HWF.out)))
      rw [G.out]
      simp only [Option.getD_some, Option.isSome_some]
      go_wp2_with fail
      have h1 : RdrAt (w'.drewN nq) p A c b at_ false := H.out.drewN nq
      have hg := grownBy_drewN w' nq (some p)
      generalize w'.drewN nq = W1 at *
      have d1 := h1.c1
      have y1 := h1.z 1
      have HG := Lib.hid hg
      have H1 := Lib.hid h1
      have g1 := wide_ge width
      have g2 := wide_le width
      obtain ⟨k, hk⟩ : ∃ k : Nat, wide width = k := ⟨(wide width).toNat, by omega⟩
      rw [hk] at g1 g2
      have hle2 := getNum_le G.out
      have hs : IntKind.i64.wrap ((at_ : Int) + (k : Int)) = ((at_ + k : Nat) : Int) := by rw [IntWalk.i64_in _ ⟨by omega, by omega⟩]; rfl
      have HL := Lib.hid (show at_ + k ≤ b.length by omega)
      have HK := Lib.hid hk
      clear hk hle2 c0 c1 c2 z1 z2 hg h1
      go_region_with ((go_at_call 192; refine (wide_calls _ _).mono ?_; rintro e w' ⟨rfl, rfl⟩; rw [HK.out]))
      all_goals
        go_wp2_with fail
        go_ret
        rw [R.out, HK.out]
        exact ⟨rfl, (setAt H1.out HL.out).drewN 1, (HG.out.trans (grownBy_setCell _ _ _)).trans (grownBy_drewN _ 1 _)⟩
end Go.Proofs.YthkepjhfeeohdaaGreatDoor
namespace Go.Proofs.YthkepjhfeeohdaaGreatDoor
open Go.RowKit

/-- The number at a place, of so many bytes. -/
def natAt (b : List UInt8) (at_ w : Nat) : Nat := leNat ((b.drop at_).take w)
theorem natAt_lt (b : List UInt8) (at_ w : Nat) : natAt b at_ w < 256 ^ w := by
  refine Nat.lt_of_lt_of_le (leNat_lt _) (Nat.pow_le_pow_right (by decide) ?_)
  rw [List.length_take]; exact Nat.min_le_left _ _
theorem wide_small {w : Nat} (h1 : 1 ≤ w) (h8 : w ≤ 8) : wide (w : Int) = w := by
  unfold wide; rw [if_neg (by omega), if_neg (by omega)]
theorem getNum_nat (b : List UInt8) (at_ : Nat) {w : Nat} (h1 : 1 ≤ w) (h8 : w ≤ 8) : getNum b at_ (w : Int) = if at_ + w ≤ b.length then some (i64of (natAt b at_ w)) else none := by
  unfold getNum
  rw [wide_small h1 h8]
  by_cases h : at_ + w ≤ b.length
  · rw [if_pos h, if_pos ⟨by omega, by omega⟩]; rfl
  · rw [if_neg h, if_neg (by omega)]
theorem i64of_natAt (b : List UInt8) (at_ w : Nat) (h : w ≤ 7) : i64of (natAt b at_ w) = natAt b at_ w := by
  apply i64of_small
  refine Nat.lt_of_lt_of_le (natAt_lt b at_ w) (Nat.le_trans (Nat.pow_le_pow_right (by decide) h) (by decide))
end Go.Proofs.YthkepjhfeeohdaaGreatDoor
namespace Go.Proofs.YthkepjhfeeohdaaGreatDoor
open Go.RowKit

theorem cell_row {w : World} {b e : Nat} {cs : Array Value} {f : Nat × Nat} (h : w.heap[b]? = some (.cells cs e f)) (i : Nat) : w.cell? ⟨b, i, none⟩ = cs[i]? := by simp [World.cell?, h]
theorem frozen_row {w : World} {b e : Nat} {cs : Array Value} (h : w.heap[b]? = some (.cells cs e (0, 0))) (i : Nat) : w.frozen? ⟨b, i, none⟩ = false := by simp [World.frozen?, h]
end Go.Proofs.YthkepjhfeeohdaaGreatDoor
namespace Go.Proofs.YthkepjhfeeohdaaGreatDoor
open Go.RowKit

section
variable {n l : Nat} {P : Program} {ops : Array Oper} {Q : Exit → Act → World → Prop} {md : Region.Mode}

/-- One step: the operations that may come next, one by one. -/
theorem any_step {fuel : Nat} {listed : Array Bool} {a : Act} {w : World} (rs : List Nat) (hr : Region.ready md ops listed = rs) (hne : rs ≠ [])
    (h : ∀ i ∈ rs, wpOp P ops Q i (wpAny P md ops Q fuel (listed.setIfInBounds i true)) a w) : wpAny P md ops Q (fuel + 1) listed a w := wpAny_ready hr hne h

end

/-- 'append' as0 one operation. -/
theorem exec_append {P : Program} {o : Oper} {a : Act} {w w' : World} {s x : Operand} {t : TypeId} {v u v' : Value} (ho : o.op = .call { callee := .builtin .append, args := #[s, x], argTypes := #[t, t] })
    (hs : a.eval s = v) (hx : a.eval x = u) (h : (Builtin.append_ #[t, t] o.type #[v, u]).run P w = .ok v' w') : (execOp a.eval o).run P w = .ok (.value v') w' := by
  unfold execOp
  simp only [ho, resolve, invoke, builtin, Sem.run_bind, Sem.run_pure, Result.andThen_ok, List.map_toArray, List.map_cons, List.map_nil, hs, hx, h]

/-- '[]T{x}' as0 one operation. -/
theorem exec_buildSlice {P : Program} {o : Oper} {a : Act} {w : World} {x : Operand} {t e : TypeId} {vy : Value} (ho : o.op = .buildSlice t 1 #[(0, x)])
    (z : Value) (size : Nat) (ht : P.underlying t = some (.slice e)) (hi : (P.info? e).map (fun i => (i.zero, i.size)) = some (some z, size)) (hx : a.eval x = vy) (hc : vy.cells.size = size) (hsz : 0 < size ∧ size ≤ 1000) :
    (execOp a.eval o).run P w = .ok (.value (.slice (some ⟨w.heap.size, 0, none⟩) 1 1)) (w.alloc (.cells vy.cells e)) := by
  have hb := run_buildSlice_one (P := P) w t e z size ht hi vy hc hsz.1 hsz.2
  simp only [execOp, ho, List.map_toArray, List.map_cons, List.map_nil, hx]
  simp only [Sem.run_bind, hb, Result.andThen_ok, Sem.run_pure]


theorem KeepsOthers.of_below {W W' : World} (h : Below W.heap.size W W') : KeepsOthers W W' := ⟨h.size, fun k _ hk _ => (h.block k (Array.getElem?_eq_some_iff.1 hk).1).trans hk⟩

theorem step_run {P : Program} {ops : Array Oper} {o : Oper} {a : Act} {w w' : World} {v : Value} {K : Act → World → Prop} {Q : Exit → Act → World → Prop} {E : Prop} (hg : o.guard = none) (hrun : (execOp a.eval o).run P w = .ok (.value v) w') (h : K (a.put o.dst v) w') :
    if Region.wanted o (yielded ops a.tmps) = true then Oper.wp P o a w K Q else E := by
  have hw : Region.wanted o (yielded ops a.tmps) = true := by simp [Region.wanted, hg]
  rw [if_pos hw]
  unfold Oper.wp
  rw [hrun]
  exact h
end Go.Proofs.YthkepjhfeeohdaaGreatDoor
namespace Go.Proofs.YthkepjhfeeohdaaGreatDoor
open Go.RowKit

/-- What waits for number i, by one or more steps (and i itself). -/
def behind (md : Region.Mode) (ops : Array Oper) (i : Nat) : List Nat :=
  (List.range ops.size).foldl (fun acc j => if (ops[j]?).any (fun o => o.after.any fun e => Region.binds md e && acc.contains e.on) then j :: acc else acc) [i]
def tailed (md : Region.Mode) (ops : Array Oper) (listed : Array Bool) (T : List Nat) (i : Nat) : Bool :=
  ((behind md ops i).all fun d => !listed.getD d false) && T.all fun j => j == i || listed.getD j false || (behind md ops i).contains j

section
variable {P : Program} {ops : Array Oper} {Q : Exit → Act → World → Prop} {md : Region.Mode} {S : World → Prop} {T : List Nat}

theorem behind_spec (md : Region.Mode) (ops : Array Oper) (i : Nat) : ∀ d ∈ behind md ops i, d = i ∨ ∃ o, ops[d]? = some o ∧ ∃ e ∈ o.after, Region.binds md e = true ∧ e.on ∈ behind md ops i := by
  have key : ∀ (l : List Nat) (acc : List Nat), (∀ d ∈ acc, d = i ∨ ∃ o, ops[d]? = some o ∧ ∃ e ∈ o.after, Region.binds md e = true ∧ e.on ∈ acc) →
      ∀ d ∈ l.foldl (fun acc j => if (ops[j]?).any (fun o => o.after.any fun e => Region.binds md e && acc.contains e.on) then j :: acc else acc) acc,
        d = i ∨ ∃ o, ops[d]? = some o ∧ ∃ e ∈ o.after, Region.binds md e = true ∧ e.on ∈ l.foldl (fun acc j => if (ops[j]?).any (fun o => o.after.any fun e => Region.binds md e && acc.contains e.on) then j :: acc else acc) acc := by
    intro l
    induction l with
    | nil => intro acc h; exact h
    | cons j l ih =>
      intro acc h
      simp only [List.foldl_cons]
      refine ih _ ?_
      split
      · rename_i hc
        intro d hd
        rcases List.mem_cons.1 hd with rfl | hd
        · right
          cases ho : ops[d]? with
          | none => rw [ho] at hc; cases hc
          | some o =>
            rw [ho] at hc
            simp only [Option.any_some, Array.any_eq_true'] at hc
            obtain ⟨e, he, hb⟩ := hc
            simp only [Bool.and_eq_true, List.contains_iff_mem] at hb
            exact ⟨o, rfl, e, he, hb.1, by simp [hb.2]⟩
        · rcases h d hd with rfl | ⟨o, ho, e, he, hb, hm⟩
          · exact .inl rfl
          · exact .inr ⟨o, ho, e, he, hb, by simp [hm]⟩
      · exact h
  exact key _ _ (by simp)

/-- While all that waits for i is not listed, none of it comes up. -/
theorem not_ready {listed : Array Bool} {i j : Nat} (hb : ∀ d ∈ behind md ops i, listed.getD d false = false) (hj : j ∈ Region.ready md ops listed) (hji : j ≠ i) : j ∉ behind md ops i := fun hm => by
  obtain ⟨_, o, ho, hall⟩ := mem_ready.1 hj
  rcases behind_spec md ops i j hm with h | ⟨o', ho', e, he, hbd, hme⟩
  · exact hji h
  · rw [ho] at ho'
    cases ho'
    have h1 := hall e he hbd
    rw [hb _ hme] at h1
    cases h1

def wpAnyT (P : Program) (md : Region.Mode) (ops : Array Oper) (Q : Exit → Act → World → Prop) (S : World → Prop) (T : List Nat) : Nat → Array Bool → Act → World → Prop
  | 0, listed, a, w => Region.ready md ops listed = [] ∧ Q .normal a w
  | fuel + 1, listed, a, w =>
    (Region.ready md ops listed = [] → Q .normal a w) ∧
    ∀ i ∈ Region.ready md ops listed, wpOp P ops Q i (fun a' w' => (i ∉ T → S w') ∧ wpAnyT P md ops Q S T fuel (listed.setIfInBounds i true) a' w') a w

theorem wpAny_of_tail : ∀ (fuel : Nat) (listed : Array Bool) (a : Act) (w : World), wpAnyT P md ops Q S T fuel listed a w → wpAny P md ops Q fuel listed a w
  | 0, _, _, _, h => h
  | fuel + 1, _, _, _, h => ⟨h.1, fun i hi => wpOp_mono (fun a' w' h' => wpAny_of_tail fuel _ a' w' h'.2) (h.2 i hi)⟩

theorem wpAnyT_first {i : Nat} {oi : Oper} {v : Value} (hi : ops[i]? = some oi) (hsel : ∀ (j : Nat) (o : Oper) cs b, ops[j]? = some o → o.op ≠ .select cs b)
    (hQ : ∀ c a w, Q (.panic c) (a.put oi.dst v) w → Q (.panic c) a w) :
    ∀ (fuel : Nat) (listed : Array Bool) (a : Act) (w : World),
      (∀ j oj, ops[j]? = some oj → j ≠ i → listed.getD j true = false → (∀ e ∈ oj.after, Region.binds md e = true → e.on ≠ i) → oi.apart ops oj = true) →
      (∀ d ∈ behind md ops i, listed.getD d false = false) → (∀ j ∈ T, j = i ∨ listed.getD j false = true ∨ j ∈ behind md ops i) →
      i ∈ Region.ready md ops listed → YieldsIf P ops S oi v a → S w →
      wpAnyT P md ops Q S T fuel (listed.setIfInBounds i true) (a.put oi.dst v) w → wpAnyT P md ops Q S T (fuel + 1) listed a w := by
  intro fuel
  induction fuel with
  | zero =>
    intro listed a w _ _ _ hr hy hS H
    refine ⟨fun h => (by rw [h] at hr; cases hr), fun j hj => ?_⟩
    by_cases hji : j = i
    · subst hji; exact hy.wpOp hi hS ⟨fun _ => hS, H⟩
    · have := ready_mono hj hji
      rw [H.1] at this
      cases this
  | succ fuel ih =>
    intro listed a w hfree hbh hT hr hy hS H
    refine ⟨fun h => (by rw [h] at hr; cases hr), fun j hj => ?_⟩
    by_cases hji : j = i
    · subst hji; exact hy.wpOp hi hS ⟨fun _ => hS, H⟩
    · have hjb := not_ready hbh hj hji
      have h1 := H.2 j (ready_mono hj hji)
      obtain ⟨hjun, oj, hoj, hall⟩ := mem_ready.1 hj
      have hjT : j ∉ T := fun hm => by
        rcases hT j hm with h | h | h
        · exact hji h
        · rcases Nat.lt_or_ge j listed.size with h' | h'
          · simp [h'] at h hjun; rw [hjun] at h; cases h
          · simp [Array.getElem?_eq_none h'] at h
        · exact hjb h
      have hnot : ∀ e ∈ oj.after, Region.binds md e = true → e.on ≠ i := fun e he hb heq => by
        have h1 := hall e he hb
        have h0 := (mem_ready.1 hr).1
        rw [heq] at h1
        rcases Nat.lt_or_ge i listed.size with h' | h'
        · simp [h'] at h0 h1; rw [h0] at h1; cases h1
        · simp [Array.getElem?_eq_none h'] at h1
      have h2 := wpOp_putIf hoj (hfree j oj hoj hji hjun hnot) (fun cs b => hsel i oi cs b hi) (fun cs b => hsel j oj cs b hoj) hQ hy h1
      have hfree' : ∀ k ok, ops[k]? = some ok → k ≠ i → (listed.setIfInBounds j true).getD k true = false →
          (∀ e ∈ ok.after, Region.binds md e = true → e.on ≠ i) → oi.apart ops ok = true := fun k ok hk hki hun hno => by
        refine hfree k ok hk hki ?_ hno
        by_cases hjk : j = k
        · subst hjk; exact hjun
        · rw [getD_set_ne true hjk] at hun; exact hun
      have hbh' : ∀ d ∈ behind md ops i, (listed.setIfInBounds j true).getD d false = false := fun d hd => by
        rw [getD_set_ne (i := j) (j := d) false (fun e => hjb (by rw [e]; exact hd))]; exact hbh d hd
      refine wpOp_mono (fun a' w' h3 => ⟨h3.2.1, ih (listed.setIfInBounds j true) a' w' hfree' hbh' (fun k hk => (hT k hk).imp id (Or.imp getD_set_true id)) (ready_mono hr (Ne.symm hji)) h3.1 (h3.2.1 hjT) ?_⟩) h2
      rw [Array.setIfInBounds_comm _ _ hji]
      exact h3.2.2

theorem wpAnyT_take {i : Nat} {oi : Oper} {v : Value} {fuel : Nat} {listed : Array Bool} {a : Act} {w : World} (hi : ops[i]? = some oi)
    (hs : Region.noSelect ops = true) (hf : Region.free md ops listed i = true) (hr : (Region.ready md ops listed).contains i = true) (ht : tailed md ops listed T i = true)
    (hQ : ∀ c a w, Q (.panic c) (a.put oi.dst v) w → Q (.panic c) a w) (hy : YieldsIf P ops S oi v a) (hS : S w)
    (h : wpAnyT P md ops Q S T fuel (listed.setIfInBounds i true) (a.put oi.dst v) w) : wpAnyT P md ops Q S T (fuel + 1) listed a w := by
  simp only [tailed, Bool.and_eq_true, List.all_eq_true, Bool.or_eq_true, Bool.not_eq_true', beq_iff_eq, List.contains_iff_mem] at ht
  exact wpAnyT_first hi (Region.noSelect_spec hs) hQ fuel listed a w (Region.free_spec hi hf) ht.1 (fun j hj => by rcases ht.2 j hj with (h | h) | h <;> simp [h]) (by simpa using hr) hy hS h

theorem wpAnyT_first0 {i : Nat} {oi : Oper} {v : Value} (hi : ops[i]? = some oi) (hsel : ∀ (j : Nat) (o : Oper) cs b, ops[j]? = some o → o.op ≠ .select cs b)
    (hQ : ∀ c a w, Q (.panic c) (a.put oi.dst v) w → Q (.panic c) a w) (hT : i ∈ T) :
    ∀ (fuel : Nat) (listed : Array Bool) (a : Act) (w : World),
      (∀ j oj, ops[j]? = some oj → j ≠ i → listed.getD j true = false → (∀ e ∈ oj.after, Region.binds md e = true → e.on ≠ i) → oi.apart ops oj = true) →
      i ∈ Region.ready md ops listed → YieldsIf P ops (fun _ => True) oi v a →
      wpAnyT P md ops Q S T fuel (listed.setIfInBounds i true) (a.put oi.dst v) w → wpAnyT P md ops Q S T (fuel + 1) listed a w := by
  intro fuel
  induction fuel with
  | zero =>
    intro listed a w _ hr hy H
    refine ⟨fun h => (by rw [h] at hr; cases hr), fun j hj => ?_⟩
    by_cases hji : j = i
    · subst hji; exact hy.wpOp hi trivial ⟨fun h => absurd hT h, H⟩
    · have := ready_mono hj hji
      rw [H.1] at this
      cases this
  | succ fuel ih =>
    intro listed a w hfree hr hy H
    refine ⟨fun h => (by rw [h] at hr; cases hr), fun j hj => ?_⟩
    by_cases hji : j = i
    · subst hji; exact hy.wpOp hi trivial ⟨fun h => absurd hT h, H⟩
    · have h1 := H.2 j (ready_mono hj hji)
      obtain ⟨hjun, oj, hoj, hall⟩ := mem_ready.1 hj
      have hnot : ∀ e ∈ oj.after, Region.binds md e = true → e.on ≠ i := fun e he hb heq => by
        have h1 := hall e he hb
        have h0 := (mem_ready.1 hr).1
        rw [heq] at h1
        rcases Nat.lt_or_ge i listed.size with h' | h'
        · simp [h'] at h0 h1; rw [h0] at h1; cases h1
        · simp [Array.getElem?_eq_none h'] at h1
      have h2 := wpOp_putIf hoj (hfree j oj hoj hji hjun hnot) (fun cs b => hsel i oi cs b hi) (fun cs b => hsel j oj cs b hoj) hQ hy h1
      have hfree' : ∀ k ok, ops[k]? = some ok → k ≠ i → (listed.setIfInBounds j true).getD k true = false →
          (∀ e ∈ ok.after, Region.binds md e = true → e.on ≠ i) → oi.apart ops ok = true := fun k ok hk hki hun hno => by
        refine hfree k ok hk hki ?_ hno
        by_cases hjk : j = k
        · subst hjk; exact hjun
        · rw [getD_set_ne true hjk] at hun; exact hun
      refine wpOp_mono (fun a' w' h3 => ⟨h3.2.1, ih (listed.setIfInBounds j true) a' w' hfree' (ready_mono hr (Ne.symm hji)) h3.1 ?_⟩) h2
      rw [Array.setIfInBounds_comm _ _ hji]
      exact h3.2.2
/-- A move that is wanted at the end alone: it yields in whatever world. -/
theorem wpAnyT_take0 {i : Nat} {oi : Oper} {v : Value} {fuel : Nat} {listed : Array Bool} {a : Act} {w : World} (hi : ops[i]? = some oi)
    (hs : Region.noSelect ops = true) (hf : Region.free md ops listed i = true) (hr : (Region.ready md ops listed).contains i = true) (ht : T.contains i = true)
    (hQ : ∀ c a w, Q (.panic c) (a.put oi.dst v) w → Q (.panic c) a w) (hy : YieldsIf P ops (fun _ => True) oi v a)
    (h : wpAnyT P md ops Q S T fuel (listed.setIfInBounds i true) (a.put oi.dst v) w) : wpAnyT P md ops Q S T (fuel + 1) listed a w :=
  wpAnyT_first0 hi (Region.noSelect_spec hs) hQ (List.contains_iff_mem.1 ht) fuel listed a w (Region.free_spec hi hf) (by simpa using hr) hy h

theorem wpAnyT_one {i : Nat} {o : Oper} {fuel : Nat} {listed : Array Bool} {a : Act} {w : World} (ho : ops[i]? = some o) (hr : Region.ready md ops listed = [i]) (hT : T.contains i = false)
    (h : ∀ K' : Act → World → Prop, (∀ a w, S w ∧ wpAnyT P md ops Q S T fuel (listed.setIfInBounds i true) a w → K' a w) → if Region.wanted o (yielded ops a.tmps) = true then Oper.wp P o a w K' Q else K' (a.put o.dst undef) w) : wpAnyT P md ops Q S T (fuel + 1) listed a w :=
  ⟨fun h0 => (by rw [hr] at h0; cases h0), fun j hj => by
    rw [hr] at hj
    obtain rfl : j = i := by simpa using hj
    exact wpOp_step ho fun K' hK => h K' fun a w hs => hK a w ⟨fun _ => hs.1, hs.2⟩⟩
theorem wpAnyT_last {i : Nat} {o : Oper} {fuel : Nat} {listed : Array Bool} {a : Act} {w : World} (ho : ops[i]? = some o) (hr : Region.ready md ops listed = [i]) (hT : T.contains i = true)
    (h : ∀ K' : Act → World → Prop, (∀ a w, wpAnyT P md ops Q S T fuel (listed.setIfInBounds i true) a w → K' a w) → if Region.wanted o (yielded ops a.tmps) = true then Oper.wp P o a w K' Q else K' (a.put o.dst undef) w) : wpAnyT P md ops Q S T (fuel + 1) listed a w :=
  ⟨fun h0 => (by rw [hr] at h0; cases h0), fun j hj => by
    rw [hr] at hj
    obtain rfl : j = i := by simpa using hj
    exact wpOp_step ho fun K' hK => h K' fun a w hs => hK a w ⟨fun hn => absurd (List.contains_iff_mem.1 hT) hn, hs⟩⟩
theorem wpAnyT_done {listed : Array Bool} {a : Act} {w : World} (hr : Region.ready md ops listed = []) (h : Q .normal a w) :
    ∀ fuel, wpAnyT P md ops Q S T fuel listed a w
  | 0 => ⟨hr, h⟩
  | _ + 1 => ⟨fun _ => h, by rw [hr]; simp⟩

theorem wp_region_tail {id : Nat} {a : Act} {w : World} (hm : P.follows .mixedOrders = true) (hS : S w.drew)
    (h : S w.drew → wpAnyT P .any ops Q S T ops.size (Array.replicate ops.size false) a w.drew) : (Code.region id ops true).wp P Q a w :=
  wp_region_any hm (wpAny_of_tail _ _ _ _ (h hS))
end

/-- 'append(s, x)' in a region that draws its order, behind the making of the slice [x]. -/
theorem step_snoc2 {α : Type} {r : Rep α} {e base : Nat} {Q : Nat → Prop} {P : Program} {w : World} {ops : Array Oper} {o : Oper} {a : Act} {K : Act → World → Prop} {R : Exit → Act → World → Prop} {E : Prop} (hg : o.guard = none) (s x : Operand) (t : TypeId)
    (ho : o.op = .call { callee := .builtin .append, args := #[s, x], argTypes := #[t, t] })
    (z : Value) (size bytes : Nat) (ht : P.underlying t = some (.slice e)) (hi : (P.info? e).map (fun i => (i.zero, i.size, i.bytes)) = some (some z, size, bytes)) (hzs : z.cells.size = size) (hsz : 0 < size)
    (hr : r.size = size) (v : Value) (xs : List α) (hs : a.eval s = v) (h : r.acc e base Q w v xs) (y : α) (vy : Value) (hy : r.val (fun b => Q b ∧ v.ownBlock ≠ some b) w vy y) (hx : a.eval x = .slice (some ⟨w.heap.size, 0, none⟩) 1 1)
    (h63 : xs.length + 1 ≤ maxLen) (hbytes : (xs.length + 1) * bytes ≤ 140737488355328) (hbase : base ≤ w.heap.size)
    (H : ∀ v' w', r.acc e base Q w' v' (xs ++ [y]) → w.grownBy w' v.ownBlock → (v'.ownBlock = v.ownBlock ∨ v'.ownBlock = some (w.heap.size + 1)) → K (a.put o.dst v') w') :
    if Region.wanted o (yielded ops a.tmps) = true then Oper.wp P o a (w.alloc (.cells vy.cells e)) K R else E := by
  have hw : Region.wanted o (yielded ops a.tmps) = true := by simp [Region.wanted, hg]
  rw [if_pos hw]
  obtain ⟨cs, hv, hrd⟩ := hy
  have hcells : vy.cells.toList = cs := by rw [hv]; exact r.back hrd
  have hkeep : ∀ b, b < w.heap.size → (w.alloc (.cells vy.cells e)).heap[b]? = w.heap[b]? := fun b hb => Below.heap_alloc _ _ _ hb
  have hacc' : r.acc e base Q (w.alloc (.cells vy.cells e)) v xs := Rep.acc_keep (fun b _ hl => hkeep b hl.lt) (fun _ hb _ => hb) h
  have hbn : (w.alloc (.cells vy.cells e)).heap[w.heap.size]? = some (.cells vy.cells e) := heap_alloc_new w _
  obtain ⟨v', w', q1, q2, q3, q4⟩ := Rep.acc_more (P := P) (w := w.alloc (.cells vy.cells e)) (ty := o.type) (ys := [y]) (A := some ⟨w.heap.size, 0, none⟩) (m := 1) (c := 1) (es := cs)
    ht hi hzs hsz hr hacc' rfl
    (Rep.row_one_elem (r.keep (fun b hb hl => ⟨hb, hkeep b hl.lt⟩) hrd)) (fun _ => ⟨w.heap.size, 0, rfl, fun j u hj => by
      rw [cell_of_row _ _ _ _ _ _ hbn, Nat.zero_add, ← hj, ← hcells]; simp⟩)
    (by simpa using h63) (by simpa using hbytes) (by simp; omega)
  unfold Oper.wp
  rw [exec_append ho hs hx q1]
  exact H _ _ q2 ((World.grownBy_alloc w _ _).trans q3) (by simpa using q4)

end Go.Proofs.YthkepjhfeeohdaaGreatDoor
namespace Go.Proofs.YthkepjhfeeohdaaGreatDoor
open Go.RowKit

theorem tkT {P : Program} {md : Region.Mode} {ops : Array Oper} {Q : Exit → Act → World → Prop} {S : World → Prop} {T : List Nat} {i : Nat} {oi : Oper} {v : Value} {fuel : Nat} {listed : Array Bool} {a : Act} {w : World} (hi : ops[i]? = some oi) (hy : YieldsIf P ops S oi v a) (hS : S w)
    (h : wpAnyT P md ops Q S T fuel (listed.setIfInBounds i true) (a.put oi.dst v) w)
    (hs : Region.noSelect ops = true := by kernel_rfl) (hf : Region.free md ops listed i = true := by kernel_rfl) (hr : (Region.ready md ops listed).contains i = true := by kernel_rfl) (ht : tailed md ops listed T i = true := by kernel_rfl)
    (hQ : ∀ c a w, Q (.panic c) (a.put oi.dst v) w → Q (.panic c) a w := by exact fun _ _ _ h => h) : wpAnyT P md ops Q S T (fuel + 1) listed a w := wpAnyT_take hi hs hf hr ht hQ hy hS h
theorem tkTV {P : Program} {md : Region.Mode} {ops : Array Oper} {Q : Exit → Act → World → Prop} {S : World → Prop} {T : List Nat} {i : Nat} {oi : Oper} {v : Value} {fuel : Nat} {listed : Array Bool} {a : Act} {w : World} (hi : ops[i]? = some oi) (hS : S w)
    (h : wpAnyT P md ops Q S T fuel (listed.setIfInBounds i true) (a.put oi.dst v) w) (hy : YieldsIf P ops S oi v a := by exact Or.inl ⟨by rfl, fun w' _ => by go_simp <;> omega⟩)
    (hs : Region.noSelect ops = true := by kernel_rfl) (hf : Region.free md ops listed i = true := by kernel_rfl) (hr : (Region.ready md ops listed).contains i = true := by kernel_rfl) (ht : tailed md ops listed T i = true := by kernel_rfl)
    (hQ : ∀ c a w, Q (.panic c) (a.put oi.dst v) w → Q (.panic c) a w := by exact fun _ _ _ h => h) : wpAnyT P md ops Q S T (fuel + 1) listed a w := wpAnyT_take hi hs hf hr ht hQ hy hS h
theorem tk0 {P : Program} {md : Region.Mode} {ops : Array Oper} {Q : Exit → Act → World → Prop} {S : World → Prop} {T : List Nat} {i : Nat} {oi : Oper} {v : Value} {fuel : Nat} {listed : Array Bool} {a : Act} {w : World} (hi : ops[i]? = some oi) (hy : YieldsIf P ops (fun _ => True) oi v a)
    (h : wpAnyT P md ops Q S T fuel (listed.setIfInBounds i true) (a.put oi.dst v) w)
    (hs : Region.noSelect ops = true := by kernel_rfl) (hf : Region.free md ops listed i = true := by kernel_rfl) (hr : (Region.ready md ops listed).contains i = true := by kernel_rfl) (ht : T.contains i = true := by kernel_rfl)
    (hQ : ∀ c a w, Q (.panic c) (a.put oi.dst v) w → Q (.panic c) a w := by exact fun _ _ _ h => h) : wpAnyT P md ops Q S T (fuel + 1) listed a w := wpAnyT_take0 hi hs hf hr ht hQ hy h
theorem tkH {P : Program} {md : Region.Mode} {ops : Array Oper} {Q : Exit → Act → World → Prop} {S : World → Prop} {i : Nat} {oi : Oper} {v : Value} {fuel : Nat} {listed : Array Bool} {a : Act} {w : World} (hi : ops[i]? = some oi) (hy : YieldsIf P ops S oi v a) (hS : S w)
    (h : wpAnyH P md ops Q S fuel (listed.setIfInBounds i true) (a.put oi.dst v) w)
    (hs : Region.noSelect ops = true := by kernel_rfl) (hf : Region.free md ops listed i = true := by kernel_rfl) (hr : (Region.ready md ops listed).contains i = true := by kernel_rfl)
    (hQ : ∀ c a w, Q (.panic c) (a.put oi.dst v) w → Q (.panic c) a w := by exact fun _ _ _ h => h) : wpAnyH P md ops Q S (fuel + 1) listed a w := wpAnyH_take hi hs hf hr hQ hy hS h
theorem tkHV {P : Program} {md : Region.Mode} {ops : Array Oper} {Q : Exit → Act → World → Prop} {S : World → Prop} {i : Nat} {oi : Oper} {v : Value} {fuel : Nat} {listed : Array Bool} {a : Act} {w : World} (hi : ops[i]? = some oi) (hS : S w)
    (h : wpAnyH P md ops Q S fuel (listed.setIfInBounds i true) (a.put oi.dst v) w) (hy : YieldsIf P ops S oi v a := by exact Or.inl ⟨by rfl, fun w' _ => by go_simp <;> omega⟩)
    (hs : Region.noSelect ops = true := by kernel_rfl) (hf : Region.free md ops listed i = true := by kernel_rfl) (hr : (Region.ready md ops listed).contains i = true := by kernel_rfl)
    (hQ : ∀ c a w, Q (.panic c) (a.put oi.dst v) w → Q (.panic c) a w := by exact fun _ _ _ h => h) : wpAnyH P md ops Q S (fuel + 1) listed a w := wpAnyH_take hi hs hf hr hQ hy hS h
theorem row_nm {W X : World} {b : Nat} {y : Obj} (h : W = X) (r : X.heap[b]? = some y) : W.heap[b]? = some y := h ▸ r
theorem rw1 {w : World} {b e : Nat} {cs : Array Value} (h : w.heap[b]? = some (.cells cs e (0, 0))) : w.cell? ⟨b, 0, none⟩ = cs[0]? ∧ w.frozen? ⟨b, 0, none⟩ = false := ⟨cell_row h 0, frozen_row h 0⟩
theorem rw2 {w : World} {b e : Nat} {cs : Array Value} (h : w.heap[b]? = some (.cells cs e (0, 0))) : w.cell? ⟨b, 0, none⟩ = cs[0]? ∧ w.frozen? ⟨b, 0, none⟩ = false ∧ w.cell? ⟨b, 1, none⟩ = cs[1]? ∧ w.frozen? ⟨b, 1, none⟩ = false := ⟨cell_row h 0, frozen_row h 0, cell_row h 1, frozen_row h 1⟩
theorem rw3 {w : World} {b e : Nat} {cs : Array Value} (h : w.heap[b]? = some (.cells cs e (0, 0))) : w.cell? ⟨b, 0, none⟩ = cs[0]? ∧ w.frozen? ⟨b, 0, none⟩ = false ∧ w.cell? ⟨b, 1, none⟩ = cs[1]? ∧ w.frozen? ⟨b, 1, none⟩ = false ∧ w.cell? ⟨b, 2, none⟩ = cs[2]? ∧ w.frozen? ⟨b, 2, none⟩ = false := ⟨cell_row h 0, frozen_row h 0, cell_row h 1, frozen_row h 1, cell_row h 2, frozen_row h 2⟩
theorem rw4 {w : World} {b e : Nat} {cs : Array Value} (h : w.heap[b]? = some (.cells cs e (0, 0))) : w.cell? ⟨b, 0, none⟩ = cs[0]? ∧ w.frozen? ⟨b, 0, none⟩ = false ∧ w.cell? ⟨b, 1, none⟩ = cs[1]? ∧ w.frozen? ⟨b, 1, none⟩ = false ∧ w.cell? ⟨b, 2, none⟩ = cs[2]? ∧ w.frozen? ⟨b, 2, none⟩ = false ∧ w.cell? ⟨b, 3, none⟩ = cs[3]? ∧ w.frozen? ⟨b, 3, none⟩ = false := ⟨cell_row h 0, frozen_row h 0, cell_row h 1, frozen_row h 1, cell_row h 2, frozen_row h 2, cell_row h 3, frozen_row h 3⟩
theorem rw5 {w : World} {b e : Nat} {cs : Array Value} (h : w.heap[b]? = some (.cells cs e (0, 0))) : w.cell? ⟨b, 0, none⟩ = cs[0]? ∧ w.frozen? ⟨b, 0, none⟩ = false ∧ w.cell? ⟨b, 1, none⟩ = cs[1]? ∧ w.frozen? ⟨b, 1, none⟩ = false ∧ w.cell? ⟨b, 2, none⟩ = cs[2]? ∧ w.frozen? ⟨b, 2, none⟩ = false ∧ w.cell? ⟨b, 3, none⟩ = cs[3]? ∧ w.frozen? ⟨b, 3, none⟩ = false ∧ w.cell? ⟨b, 4, none⟩ = cs[4]? ∧ w.frozen? ⟨b, 4, none⟩ = false := ⟨cell_row h 0, frozen_row h 0, cell_row h 1, frozen_row h 1, cell_row h 2, frozen_row h 2, cell_row h 3, frozen_row h 3, cell_row h 4, frozen_row h 4⟩
theorem cl2 {w : World} {b e : Nat} {cs : Array Value} {f : Nat × Nat} (h : w.heap[b]? = some (.cells cs e f)) : w.cell? ⟨b, 0, none⟩ = cs[0]? ∧ w.cell? ⟨b, 1, none⟩ = cs[1]? := ⟨cell_row h 0, cell_row h 1⟩
theorem cl4 {w : World} {b e : Nat} {cs : Array Value} {f : Nat × Nat} (h : w.heap[b]? = some (.cells cs e f)) : w.cell? ⟨b, 0, none⟩ = cs[0]? ∧ w.cell? ⟨b, 1, none⟩ = cs[1]? ∧ w.cell? ⟨b, 2, none⟩ = cs[2]? ∧ w.cell? ⟨b, 3, none⟩ = cs[3]? := ⟨cell_row h 0, cell_row h 1, cell_row h 2, cell_row h 3⟩
theorem cl5 {w : World} {b e : Nat} {cs : Array Value} {f : Nat × Nat} (h : w.heap[b]? = some (.cells cs e f)) : w.cell? ⟨b, 0, none⟩ = cs[0]? ∧ w.cell? ⟨b, 1, none⟩ = cs[1]? ∧ w.cell? ⟨b, 2, none⟩ = cs[2]? ∧ w.cell? ⟨b, 3, none⟩ = cs[3]? ∧ w.cell? ⟨b, 4, none⟩ = cs[4]? := ⟨cell_row h 0, cell_row h 1, cell_row h 2, cell_row h 3, cell_row h 4⟩
end Go.Proofs.YthkepjhfeeohdaaGreatDoor
namespace Go.Proofs.YthkepjhfeeohdaaGreatDoor
open Go.ChangeShapes Go.WideShapes Go.ChangeAt Go.RowKit
open Go.ChangeMaps (open_string shut_string)

theorem own : ownKnob Tryz.prog.godebug = Option.none := by kernel_rfl
theorem laidOut : laidOutB Tryz.prog = true := by kernel_rfl

/-- The arguments read behind the call as0 they read before. -/
theorem trodAll_below {H : Type} {enc : TypeId × Value → H} {P : Program} (hl : laidOutB P = true) {W W' : World} (hb : Below W.heap.size W W') :
    ∀ {ts : List TypeId} {vs : List Value} {ds : List (DataW H)} {ps : List MemPlace}, (∀ t ∈ ts, P.readableRec t = true ∧ t < P.types.size) →
      DataW.TrodAll enc P W 0 (fun _ => true) true ts vs ds ps → DataW.TrodAll enc P W' 0 (fun b => decide (b < W.heap.size)) true ts vs ds ps
  | [], [], [], _, _, h => h
  | t :: ts, v :: vs, d :: ds, _, hr, h => by
    obtain ⟨p, q, h1, h2, rfl⟩ := h
    have k := hr t (by simp)
    have lt : ∀ x ∈ p, x.block < W.heap.size := by obtain ⟨m, hm⟩ := h1; exact DataW.trod_lt m _ _ _ hm
    exact ⟨p, q, Below.trod hl k.1 k.2 h1 hb lt, trodAll_below hl hb (fun t ht => hr t (by simp [ht])) h2, rfl⟩

theorem add_of_add (a : Addr) (i j : Nat) : (a.add i).add j = a.add (i + j) := by
  unfold Addr.add
  by_cases hi : i = 0 <;> by_cases hj : j = 0 <;> simp [hi, hj, Nat.add_assoc]

namespace Rep
variable {H : Type} {enc : TypeId × Value → H} {P : Program} {w : World}

/-- A type's reading as0 data is this word's. -/
def Of {α : Type} (r : Rep α) (P : Program) (t : TypeId) : Prop :=
  P.cellsOf t = r.size ∧ ∀ (H : Type) (enc : TypeId × Value → H) (w : World) (fuel : Nat) (cs : List Value) (x : DataW H × List MemPlace),
    DataW.trod enc P w 0 (fun _ => true) true fuel t cs = some x → ∃ y, r.rd (fun _ => True) w cs y

theorem of_int {k : IntKind} {t : TypeId} (ht : P.underlying t = some (.int k)) (hc : P.cellsOf t = 1) : (Rep.int k).Of P t :=
  ⟨hc, fun _ _ _ _ _ _ h => by obtain ⟨n, rfl, _, hw⟩ := DataW.trod_int ht h; exact ⟨n, rfl, hw⟩⟩
theorem of_byte {t : TypeId} (ht : P.underlying t = some (.int .u8)) (hc : P.cellsOf t = 1) : Rep.byte.Of P t :=
  ⟨hc, fun _ _ _ _ _ _ h => by
    obtain ⟨n, rfl, _, hw⟩ := DataW.trod_int ht h
    have hb : 0 ≤ n ∧ n ≤ 255 := by simpa [Lit.wf, IntKind.min, IntKind.max, IntKind.signed, IntKind.bits] using hw
    refine ⟨UInt8.ofNat n.toNat, ?_⟩
    show [Value.int .u8 n] = [.int .u8 _]
    congr 2
    have : (UInt8.ofNat n.toNat).toNat = n.toNat := by rw [UInt8.toNat_ofNat']; omega
    omega⟩
theorem of_text {t : TypeId} (ht : P.underlying t = some .string) (hc : P.cellsOf t = 1) : Rep.text.Of P t :=
  ⟨hc, fun _ _ _ _ _ _ h => by
    obtain ⟨s, rfl, _, hs⟩ := DataW.trod_string ht h
    exact ⟨s.data.toList, rfl, by rw [Array.length_toList]; exact hs⟩⟩

theorem row_of {α : Type} {r : Rep α} {w : World} {g : Nat → Option Value} : ∀ (n : Nat), (∀ i, i < n → ∃ es y, r.rd (fun _ => True) w es y ∧ ∀ j u, es[j]? = some u → g (i * r.size + j) = some u) →
    ∃ es xs, xs.length = n ∧ r.row (fun _ => True) w es xs ∧ ∀ j u, es[j]? = some u → g j = some u
  | 0, _ => ⟨[], [], rfl, rfl, fun j u h => by simp at h⟩
  | n + 1, h => by
    obtain ⟨es, xs, h1, h2, h3⟩ := row_of n (fun i hi => h i (by omega))
    obtain ⟨fs, y, h4, h5⟩ := h n (by omega)
    refine ⟨es ++ fs, xs ++ [y], by simp [h1], row_append h2 (row_one_elem h4), fun j u hj => ?_⟩
    have hl := row_len h2
    rw [h1] at hl
    by_cases hj' : j < es.length
    · rw [List.getElem?_append_left hj'] at hj; exact h3 j u hj
    · rw [List.getElem?_append_right (by omega)] at hj
      have := h5 _ u hj
      rwa [show n * r.size + (j - es.length) = j by omega] at this

theorem of_list {α : Type} {r : Rep α} {t e : TypeId} (ht : P.underlying t = some (.slice e)) (hc : P.cellsOf t = 1) (hs : 0 < r.size) (he : r.Of P e) : r.list.Of P t :=
  ⟨hc, fun H enc w fuel cs x h => by
    rcases DataW.trod_slice ht h with ⟨rfl, _⟩ | ⟨a, len, cap, elems, rest, n, rfl, rfl, _, _, h1, h2, h3, h4, _⟩
    · exact ⟨[], none, 0, [], rfl, Nat.le_refl _, Nat.zero_le _, rfl, fun h => absurd h (by simp)⟩
    · have hcell : ∀ i, i < len → ∃ es y, r.rd (fun _ => True) w es y ∧ ∀ j u, es[j]? = some u → w.cell? (a.add (i * r.size + j)) = some u := by
        intro i hi
        have h5 := h4 i hi
        rw [List.getElem?_eq_getElem (by omega)] at h5
        obtain ⟨es, h6, h7⟩ := Option.bind_eq_some_iff.1 h5
        obtain ⟨y, hy⟩ := he.2 H enc w n es _ h7
        refine ⟨es, y, hy, fun j u hj => ?_⟩
        unfold World.cells? at h6
        rw [if_pos (Nat.zero_le _), he.1] at h6
        have hjs : j < r.size := by have := (List.getElem?_eq_some_iff.1 hj).1; rw [r.len hy] at this; exact this
        have h8 := mapM_some_get h6 j j (by simp [hjs])
        rw [hj, add_of_add] at h8
        exact h8
      obtain ⟨es, xs, q1, q2, q3⟩ := row_of (g := fun j => w.cell? (a.add j)) len hcell
      subst q1
      refine ⟨xs, some a, cap, es, rfl, h1, h2, q2, fun hn => ?_⟩
      have h0 : 0 < es.length := by rw [row_len q2]; exact Nat.mul_pos hn hs
      have hc0 := q3 0 _ (List.getElem?_eq_getElem h0)
      have hsp : a.spot = none := by
        have := World.cell?_spot hc0
        simpa [Addr.add] using this
      obtain ⟨b, off, sp⟩ := a
      obtain rfl : sp = none := hsp
      refine ⟨b, off, rfl, trivial, ?_, fun j u hj => by have := q3 j u hj; rwa [Addr.add_lit] at this⟩
      unfold World.cell? at hc0
      rw [Addr.add_zero'] at hc0
      cases hh : w.heap[b]? with
      | none => simp [hh] at hc0
      | some o =>
        cases o with
        | cells c e f => exact ⟨c, e, f, hh⟩
        | _ => simp [hh] at hc0⟩

/-- An argument, opened. -/
theorem opens {α : Type} {r : Rep α} {P : Program} {t : TypeId} (hof : r.Of P t) {H : Type} {enc : TypeId × Value → H} {w : World} {base : Nat} {v : Value} {d : DataW H} {ps : List MemPlace}
    (hwr : ∀ (w : World) (base : Nat) (v : Value), Value.okWide P w .any base t v → v = r.wrap v.cells.toList) (hv : Value.okWide P w .any base t v) (h : DataW.Trod enc P w 0 (fun _ => true) true t v d ps) : ∃ y, r.val (fun _ => True) w v y := by
  obtain ⟨fuel, h⟩ := h
  obtain ⟨y, hy⟩ := hof.2 H enc w fuel _ _ h
  exact ⟨y, _, hwr w base v hv, hy⟩

theorem wrap_agg {α : Type} {r : Rep α} {P : Program} {t : TypeId} {fs : Array Field} (ht : P.underlying t = some (.struct fs)) (hr : ∀ cs, r.wrap cs = .agg cs.toArray) : ∀ (w : World) (base : Nat) (v : Value), Value.okWide P w .any base t v → v = r.wrap v.cells.toList :=
  fun _ _ _ h => by obtain ⟨cs, rfl, _⟩ := okWide_struct ht h; rw [hr]; simp [Value.cells]
end Rep
end Go.Proofs.YthkepjhfeeohdaaGreatDoor
namespace Go.Proofs.YthkepjhfeeohdaaGreatDoor
open Go.ChangeShapes Go.WideShapes Go.ChangeAt Go.RowKit
namespace Rep

/-- Fields, one behind the other, from the offset o on. -/
def Fields {α : Type} (r : Rep α) (P : Program) (fs : List Field) (o : Nat) : Prop :=
  (∀ f ∈ fs, o ≤ f.offset) ∧ ∀ (H : Type) (enc : TypeId × Value → H) (w : World) (n : Nat) (cs : List Value), cs.length = r.size →
    (∀ f ∈ fs, ∃ x, DataW.trod enc P w 0 (fun _ => true) true n f.type ((cs.drop (f.offset - o)).take (P.cellsOf f.type)) = some x) → ∃ y, r.rd (fun _ => True) w cs y

theorem fields_one {α : Type} {r : Rep α} {P : Program} {f : Field} {o : Nat} (ho : f.offset = o) (h : r.Of P f.type) : r.Fields P [f] o :=
  ⟨(fun g hg => by
    have : g = f := by simpa using hg
    rw [this]; omega), fun H enc w n cs hl hf => by
    obtain ⟨x, hx⟩ := hf f (by simp)
    rw [ho, Nat.sub_self, List.drop_zero, h.1, ← hl, List.take_length] at hx
    exact h.2 H enc w n cs x hx⟩
theorem fields_cons {α β : Type} {r : Rep α} {s : Rep β} {P : Program} {f : Field} {fs : List Field} {o : Nat} (ho : f.offset = o) (h : r.Of P f.type) (hs : s.Fields P fs (o + r.size)) : (r.pair s).Fields P (f :: fs) o :=
  ⟨(fun g hg => by
    rcases List.mem_cons.1 hg with rfl | hg
    · omega
    · have := hs.1 g hg; omega), fun H enc w n cs hl hf => by
    have hl' : cs.length = r.size + s.size := hl
    obtain ⟨x, hx⟩ := hf f (by simp)
    rw [ho, Nat.sub_self, List.drop_zero, h.1] at hx
    obtain ⟨y, hy⟩ := h.2 H enc w n _ x hx
    obtain ⟨z, hz⟩ := hs.2 H enc w n (cs.drop r.size) (by rw [List.length_drop]; omega) (fun g hg => by
      obtain ⟨x', hx'⟩ := hf g (by simp [hg])
      refine ⟨x', ?_⟩
      have := hs.1 g hg
      rw [List.drop_drop, show r.size + (g.offset - (o + r.size)) = g.offset - o by omega]
      exact hx')
    exact ⟨(y, z), cs.take r.size, cs.drop r.size, (List.take_append_drop _ _).symm, hy, hz⟩⟩

theorem of_struct {α β : Type} {r : Rep α} {P : Program} {t : TypeId} {fs : Array Field} (f : β → α) (g : α → β) (hfg : ∀ x, f (g x) = x) (ht : P.underlying t = some (.struct fs)) (hc : P.cellsOf t = r.size) (h : r.Fields P fs.toList 0) : (r.iso f).Of P t :=
  ⟨hc, fun H enc w fuel cs x hx => by
    obtain ⟨xs, n, _, rfl, hl, hlen, hf⟩ := DataW.trod_struct ht hx
    obtain ⟨y, hy⟩ := h.2 H enc w n cs (by rw [hl, hc]) (fun fd hfd => by
      obtain ⟨i, hi, rfl⟩ := List.getElem_of_mem hfd
      have hi' : i < fs.size := by simpa using hi
      have := hf i fs[i] (by simp [hi'])
      refine ⟨xs[i]'(by omega), ?_⟩
      simp only [Nat.sub_zero, Array.getElem_toList]
      rw [this]
      simp)
    exact ⟨g y, by show r.rd _ _ _ (f (g y)); rw [hfg]; exact hy⟩⟩
end Rep
theorem of_ID : rID.Of Tryz.prog 40 :=
  Rep.of_struct _ (fun x => ⟨x.1, x.2⟩) (fun _ => rfl) Tryz.underlying40 (by kernel_rfl) (Rep.fields_cons rfl (Rep.of_int Tryz.underlying3 (by kernel_rfl)) (Rep.fields_one rfl (Rep.of_int Tryz.underlying3 (by kernel_rfl))))
theorem of_Part : rPart.Of Tryz.prog 46 :=
  Rep.of_struct _ (fun x => ⟨x.1, x.2⟩) (fun _ => rfl) Tryz.underlying46 (by kernel_rfl) (Rep.fields_cons rfl (Rep.of_int Tryz.underlying3 (by kernel_rfl)) (Rep.fields_one rfl (Rep.of_list Tryz.underlying44 (by kernel_rfl) (by decide) (Rep.of_byte Tryz.underlying5 (by kernel_rfl)))))
theorem of_Ent : rEnt.Of Tryz.prog 43 :=
  Rep.of_struct _ (fun x => ⟨x.1, x.2⟩) (fun _ => rfl) Tryz.underlying43 (by kernel_rfl) (Rep.fields_cons rfl of_ID (Rep.fields_one rfl (Rep.of_list Tryz.underlying41 (by kernel_rfl) (by decide) of_Part)))
theorem of_State : rState.Of Tryz.prog 28 :=
  Rep.of_struct _ (fun x => ⟨x.1, x.2.1, x.2.2⟩) (fun _ => rfl) Tryz.underlying28 (by kernel_rfl) (Rep.fields_cons rfl (Rep.of_list Tryz.underlying25 (by kernel_rfl) (by decide) (Rep.of_int Tryz.underlying3 (by kernel_rfl))) (Rep.fields_cons rfl (Rep.of_list Tryz.underlying25 (by kernel_rfl) (by decide) (Rep.of_int Tryz.underlying3 (by kernel_rfl))) (Rep.fields_one rfl (Rep.of_list Tryz.underlying26 (by kernel_rfl) (by decide) of_Ent))))
theorem of_Comp : rComp.Of Tryz.prog 38 :=
  Rep.of_struct _ (fun x => ⟨x.1, x.2⟩) (fun _ => rfl) Tryz.underlying38 (by kernel_rfl) (Rep.fields_cons rfl (Rep.of_text Tryz.underlying9 (by kernel_rfl)) (Rep.fields_one rfl (Rep.of_int Tryz.underlying3 (by kernel_rfl))))
theorem of_Conf : rConf.Of Tryz.prog 24 :=
  Rep.of_struct _ (fun x => ⟨x.1, x.2.1, x.2.2.1, x.2.2.2.1, x.2.2.2.2⟩) (fun _ => rfl) Tryz.underlying24 (by kernel_rfl) (Rep.fields_cons rfl (Rep.of_int Tryz.underlying3 (by kernel_rfl)) (Rep.fields_cons rfl (Rep.of_int Tryz.underlying3 (by kernel_rfl)) (Rep.fields_cons rfl (Rep.of_int Tryz.underlying3 (by kernel_rfl)) (Rep.fields_cons rfl (Rep.of_int Tryz.underlying3 (by kernel_rfl)) (Rep.fields_one rfl (Rep.of_list Tryz.underlying22 (by kernel_rfl) (by decide) of_Comp))))))
end Go.Proofs.YthkepjhfeeohdaaGreatDoor
namespace Go.Proofs.YthkepjhfeeohdaaGreatDoor
open Go.ChangeShapes Go.WideShapes Go.ChangeAt Go.RowKit

def laid34 : List (String × DataW Unit) := [("math/bits.deBruijn64tab", Rows.laid_math_bits_deBruijn64tab)]
/-- A contract lifted to the machine, where the row lays variables and the world keeps its shape. -/
theorem lift_laid34 {H : Type} {enc : TypeId × Value → H} {C : Checked} {os : Os} {f : FuncId} {fn : Func} {s : ChangeSpec} {conds : List PathCond} {X : World → Prop}
    (hX : ∀ w w' : World, w.heap = w'.heap → X w → X w')
    (own : ownKnob C.prog.godebug = none) (started : os.Started) (noInit : C.prog.inits.idxOf? f = none) (hfn : C.prog.funcs[f]? = some fn)
    (witness : ∃ (w : World) (tape : Tape) (i : Input), w.os = os ∧ (w.forCall tape i).Shaped C.prog ∧ i.vars = [] ∧ Input.okWide C.prog (w.forCall tape i) .any w.heap.size f i ∧
      ((s.pre enc C.prog fn conds false (w.forCall tape i).memory i.args ∧ X (w.forCall tape i).memory) ∧ sizedMet enc C.prog fn (OpenSpec.ofChange s) false (w.forCall tape i).memory i.args) ∧ ({} : Assume).holds C.prog (lone (Frame.enter C.prog f i.args .normal) [] (w.forCall tape i)))
    (contract : ∀ (W : World) (base : Nat) (args : Array Value) (ds gs : List (DataW H)) (before : List MemPlace),
      (∀ (j : Nat) t v, fn.params[j]? = some t → args[j]? = some v → Value.okWide C.prog W .any base t v) →
      DataW.Whole enc C.prog fn.params.toList s.vars false W args.toList ds gs before → X W → W.ShapedOpen C.prog →
      Calls C.prog f args W fun e W' => ∃ v, e = .returned v ∧ s.post enc C.prog fn false true false false W args v W') :
    ReturnsInHanded {} C os f .any (fun w args => (s.pre enc C.prog fn conds false w args ∧ X w) ∧ sizedMet enc C.prog fn (OpenSpec.ofChange s) false w args) (s.post enc C.prog fn false true false false) := by
  refine returnsInHanded_of_calls own started noInit witness ?_
  intro w tape i _ hsh _ hok hpre _
  obtain ⟨_, _, _, fn', hfn', _, _, _, _, hval⟩ := hok
  obtain rfl : fn' = fn := Option.some.inj (hfn'.symm.trans hfn)
  obtain ⟨⟨⟨ds, gs, before, hw, _⟩, hx⟩, _⟩ := hpre
  refine (contract (w.forCall tape i) w.heap.size i.args ds gs before hval (DataW.Whole.of_heap (w' := w.forCall tape i) (by rfl) hw) (hX _ _ (by rfl) hx) hsh).mono fun e W' ⟨v, he, hp⟩ => ?_
  subst he
  exact ChangeSpec.post_blind hp
theorem door34 (os : Os) (args : Array Value) : laidMetH Tryz.prog laid34 ((World.laidAll Tryz.prog os laid34).forCall (fun _ _ => 0) ⟨#[], args, []⟩).memory := by
  rw [MakeChecks.laidMetH_plain _ _ _ (by kernel_rfl)]
  exact laidMet_laidAll _ (by kernel_rfl) (by kernel_rfl)
theorem shaped34 (os : Os) (args : Array Value) : ((World.laidAll Tryz.prog os laid34).forCall (fun _ _ => 0) ⟨#[], args, []⟩).Shaped Tryz.prog := World.shaped_of_ZipB (by kernel_rfl) (by kernel_rfl)
end Go.Proofs.YthkepjhfeeohdaaGreatDoor
namespace Go.Proofs.YthkepjhfeeohdaaGreatDoor
open Go.RowKit

theorem right_facts {c : DConf} (h : confRight c = true) : (2 ≤ c.log ∧ c.log ≤ 1024 ∧ 4 ≤ c.pages ∧ c.pages ≤ 1024 ∧ 1 ≤ c.entities ∧ c.entities ≤ 1024 ∧ 1 ≤ c.gens ∧ c.gens ≤ 1073741824 ∧ c.comps.length ≤ 32) ∧
    ∀ (k : Nat) (hk : k < c.comps.length), 0 ≤ c.comps[k].size ∧ c.comps[k].size ≤ 64 ∧ c.comps[k].name.length ≤ 16 := by
  simp only [confRight, Bool.and_eq_true] at h
  obtain ⟨h1, h2⟩ := h
  refine ⟨?_, fun k hk => ?_⟩
  · simp only [confRange, withinB, Bool.and_eq_true, decide_eq_true_eq] at h1; omega
  · have h3 := List.all_eq_true.1 h2 k (List.mem_range.2 hk)
    unfold compOk at h3
    rw [List.getElem?_eq_getElem hk] at h3
    simp only [Bool.and_eq_true] at h3
    obtain ⟨⟨_, h4⟩, h5⟩ := h3
    simp only [withinB, decide_eq_true_eq] at h5
    simp only [nameB, Bool.and_eq_true, decide_eq_true_eq] at h4
    exact ⟨h5.1, h5.2, h4.1.2⟩

end Go.Proofs.YthkepjhfeeohdaaGreatDoor
namespace Go.Proofs.YthkepjhfeeohdaaGreatDoor
open Go.RowKit

/-- A layout in a box, and what reads it. -/
structure InBox (W : World) (B : Nat) (c : DConf) (A : Option Addr) (cap : Nat) : Prop where
  c0 : W.cell? ⟨B, 0, none⟩ = some (.int .i64 c.log)
  c1 : W.cell? ⟨B, 1, none⟩ = some (.int .i64 c.pages)
  c2 : W.cell? ⟨B, 2, none⟩ = some (.int .i64 c.entities)
  c3 : W.cell? ⟨B, 3, none⟩ = some (.int .i64 c.gens)
  c4 : W.cell? ⟨B, 4, none⟩ = some (.slice A c.comps.length cap)
  val : rConf.val (fun b => b < B) W (.agg #[.int .i64 c.log, .int .i64 c.pages, .int .i64 c.entities, .int .i64 c.gens, .slice A c.comps.length cap]) c
theorem InBox.later {W W' : World} {B : Nat} {c : DConf} {A : Option Addr} {cap : Nat} (h : InBox W B c A cap) (hb : Below (B + 1) W W') : InBox W' B c A cap :=
  ⟨(hb.cell (p := ⟨B, 0, none⟩) (Nat.lt_succ_self _)).trans h.c0, (hb.cell (p := ⟨B, 1, none⟩) (Nat.lt_succ_self _)).trans h.c1, (hb.cell (p := ⟨B, 2, none⟩) (Nat.lt_succ_self _)).trans h.c2,
   (hb.cell (p := ⟨B, 3, none⟩) (Nat.lt_succ_self _)).trans h.c3, (hb.cell (p := ⟨B, 4, none⟩) (Nat.lt_succ_self _)).trans h.c4, Rep.val_keep (fun b hq _ => ⟨hq, hb.block b (by omega)⟩) h.val⟩
theorem InBox.made {Q : Nat → Prop} {w : World} {c : DConf} {A : Option Addr} {cap : Nat} (h : rConf.val Q w (.agg #[.int .i64 c.log, .int .i64 c.pages, .int .i64 c.entities, .int .i64 c.gens, .slice A c.comps.length cap]) c) (t : TypeId) :
    InBox (w.alloc (.cells #[.int .i64 c.log, .int .i64 c.pages, .int .i64 c.entities, .int .i64 c.gens, .slice A c.comps.length cap] t)) w.heap.size c A cap :=
  ⟨by simp, by simp, by simp, by simp, by simp, Rep.val_keep (w := w) (fun _ _ hl => ⟨hl.lt, Below.heap_alloc _ _ _ hl.lt⟩) h⟩

end Go.Proofs.YthkepjhfeeohdaaGreatDoor
namespace Go.Proofs.YthkepjhfeeohdaaGreatDoor
open Go.RowKit

/-- A command in a box. -/
structure CmdBox (W : World) (B : Nat) (x : DCmd) (A : Option Addr) (c : Nat) : Prop where
  c0 : W.cell? ⟨B, 0, none⟩ = some (.int .i64 x.kind)
  c1 : W.cell? ⟨B, 1, none⟩ = some (.bool x.loc)
  c2 : W.cell? ⟨B, 2, none⟩ = some (.int .i64 x.id.index)
  c3 : W.cell? ⟨B, 3, none⟩ = some (.int .i64 x.id.gen)
  c4 : W.cell? ⟨B, 4, none⟩ = some (.int .i64 x.comp)
  c5 : W.cell? ⟨B, 5, none⟩ = some (.slice A x.data.length c)
  val : rCmd.val (fun b => b < B) W (.agg #[.int .i64 x.kind, .bool x.loc, .int .i64 x.id.index, .int .i64 x.id.gen, .int .i64 x.comp, .slice A x.data.length c]) x
theorem CmdBox.later {W W' : World} {B : Nat} {x : DCmd} {A : Option Addr} {c : Nat} (h : CmdBox W B x A c) (hb : Below (B + 1) W W') : CmdBox W' B x A c :=
  ⟨(hb.cell (p := ⟨B, 0, none⟩) (Nat.lt_succ_self _)).trans h.c0, (hb.cell (p := ⟨B, 1, none⟩) (Nat.lt_succ_self _)).trans h.c1, (hb.cell (p := ⟨B, 2, none⟩) (Nat.lt_succ_self _)).trans h.c2,
   (hb.cell (p := ⟨B, 3, none⟩) (Nat.lt_succ_self _)).trans h.c3, (hb.cell (p := ⟨B, 4, none⟩) (Nat.lt_succ_self _)).trans h.c4, (hb.cell (p := ⟨B, 5, none⟩) (Nat.lt_succ_self _)).trans h.c5, Rep.val_keep (fun b hq _ => ⟨hq, hb.block b (by omega)⟩) h.val⟩
theorem CmdBox.made {Q : Nat → Prop} {w : World} {x : DCmd} {A : Option Addr} {c : Nat} (h : rCmd.val Q w (.agg #[.int .i64 x.kind, .bool x.loc, .int .i64 x.id.index, .int .i64 x.id.gen, .int .i64 x.comp, .slice A x.data.length c]) x) (t : TypeId) :
    CmdBox (w.alloc (.cells #[.int .i64 x.kind, .bool x.loc, .int .i64 x.id.index, .int .i64 x.id.gen, .int .i64 x.comp, .slice A x.data.length c] t)) w.heap.size x A c :=
  ⟨by simp, by simp, by simp, by simp, by simp, by simp, Rep.val_keep (w := w) (fun _ _ hl => ⟨hl.lt, Below.heap_alloc _ _ _ hl.lt⟩) h⟩

end Go.Proofs.YthkepjhfeeohdaaGreatDoor
namespace Go.Proofs.YthkepjhfeeohdaaGreatDoor

def crcBit (s : Nat) : Nat := (s / 2) ^^^ (if s % 2 = 1 then 3988292384 else 0)
def crcBits : Nat → Nat → Nat
  | 0, s => s
  | k + 1, s => crcBit (crcBits k s)
def crcByte (s : Nat) (c : UInt8) : Nat := crcBits 8 (s ^^^ c.toNat)
def crcAdd (s : Nat) (l : List UInt8) : Nat := l.foldl crcByte s
def crcOf (l : List UInt8) : Nat := 4294967295 - crcAdd 4294967295 l

theorem crcBit_lt {s : Nat} (h : s < 4294967296) : crcBit s < 4294967296 := by
  have : s / 2 < 2 ^ 32 := by omega
  unfold crcBit
  split
  · exact Nat.xor_lt_two_pow this (by decide)
  · exact Nat.xor_lt_two_pow this (by decide)
theorem crcBits_lt {s : Nat} (h : s < 4294967296) : ∀ k, crcBits k s < 4294967296
  | 0 => h
  | k + 1 => crcBit_lt (crcBits_lt h k)
theorem byte_lt (c : UInt8) : c.toNat < 256 := c.toNat_lt
theorem crcByte_lt {s : Nat} (h : s < 4294967296) (c : UInt8) : crcByte s c < 4294967296 :=
  crcBits_lt (Nat.xor_lt_two_pow (n := 32) h (by have := byte_lt c; omega)) 8
theorem crcAdd_lt : ∀ {l : List UInt8} {s : Nat}, s < 4294967296 → crcAdd s l < 4294967296
  | [], _, h => h
  | c :: l, _, h => crcAdd_lt (l := l) (crcByte_lt h c)
theorem crcAdd_snoc (s : Nat) (l : List UInt8) (c : UInt8) : crcAdd s (l ++ [c]) = crcByte (crcAdd s l) c := by unfold crcAdd; rw [List.foldl_append]; rfl
theorem crcAdd_append (s : Nat) (l m : List UInt8) : crcAdd s (l ++ m) = crcAdd (crcAdd s l) m := by unfold crcAdd; rw [List.foldl_append]
theorem crcOf_lt (l : List UInt8) : crcOf l < 4294967296 := by unfold crcOf; omega

theorem crc_not {s : Nat} (h : s < 4294967296) : 4294967295 ^^^ s = 4294967295 - s := by
  apply Nat.eq_of_testBit_eq
  intro i
  have h2 := Nat.testBit_two_pow_sub_succ (n := 32) (x := s) h i
  have h3 := Nat.testBit_two_pow_sub_one 32 i
  rw [show 2 ^ 32 - (s + 1) = 4294967295 - s by omega] at h2
  rw [show 2 ^ 32 - 1 = 4294967295 by omega] at h3
  rw [Nat.testBit_xor, h2, h3]
  by_cases hi : i < 32
  · simp [hi]
  · have : s.testBit i = false := Nat.testBit_lt_two_pow (Nat.lt_of_lt_of_le h (Nat.pow_le_pow_right (n := 2) (by omega) (show 32 ≤ i by omega)))
    simp [hi, this]
end Go.Proofs.YthkepjhfeeohdaaGreatDoor
namespace Go.Proofs.YthkepjhfeeohdaaGreatDoor
open Go.RowKit

theorem digit_nat (n k : Nat) : (digit (n : Int) k).toNat = n / 256 ^ k % 256 := by
  have e : ((n : Int) / 2 ^ (8 * k) % 256) = ((n / 256 ^ k % 256 : Nat) : Int) := by
    have e2 : (2 : Int) ^ (8 * k) = ((256 ^ k : Nat) : Int) := by rw [Int.natCast_pow, Int.pow_mul]; rfl
    rw [e2]; rfl
  unfold digit
  rw [e]
  have h : n / 256 ^ k % 256 < 256 := Nat.mod_lt _ (by decide)
  rw [Int.toNat_natCast, UInt8.toNat_ofNat']
  exact Nat.mod_eq_of_lt h
theorem leNat_digits (n : Nat) : ∀ len k, leNat ((List.range' k len).map (digit (n : Int))) = n / 256 ^ k % 256 ^ len
  | 0, k => by simp [leNat, Nat.mod_one]
  | len + 1, k => by
    rw [List.range'_succ, List.map_cons]
    show (digit (n : Int) k).toNat + 256 * leNat _ = _
    rw [leNat_digits n len (k + 1), digit_nat, Nat.pow_succ 256 len, Nat.mul_comm (256 ^ len) 256, Nat.mod_mul, Nat.pow_succ 256 k, ← Nat.div_div_eq_div_mul]
theorem leNat_num {n w : Nat} (h1 : 1 ≤ w) (h8 : w ≤ 8) (h : n < 256 ^ w) : leNat (num (w : Int) (n : Int)) = n := by
  unfold num
  rw [wide_small h1 h8, List.range_eq_range']
  show leNat ((List.range' 0 w).map _) = n
  rw [leNat_digits]
  simp
  exact Nat.mod_eq_of_lt h
theorem num_len {w : Nat} (h1 : 1 ≤ w) (h8 : w ≤ 8) (n : Int) : (num (w : Int) n).length = w := by
  unfold num
  rw [wide_small h1 h8]; simp
theorem num_len1 (n : Int) : (num 1 n).length = 1 := num_len (w := 1) (by decide) (by decide) n
theorem num_len2 (n : Int) : (num 2 n).length = 2 := num_len (w := 2) (by decide) (by decide) n
theorem num_len4 (n : Int) : (num 4 n).length = 4 := num_len (w := 4) (by decide) (by decide) n
theorem num_len8 (n : Int) : (num 8 n).length = 8 := num_len (w := 8) (by decide) (by decide) n
/-- A number, read where it was put. -/
theorem natAt_num {A C : List UInt8} {a n w : Nat} (ha : A.length = a) (h1 : 1 ≤ w) (h8 : w ≤ 8) (h : n < 256 ^ w) : natAt (A ++ (num (w : Int) (n : Int) ++ C)) a w = n := by
  unfold natAt
  rw [← ha, List.drop_left, List.take_append_of_le_length (by rw [num_len h1 h8]; exact Nat.le_refl _), List.take_of_length_le (by rw [num_len h1 h8]; exact Nat.le_refl _)]
  exact leNat_num h1 h8 h

/-- The nearest number from 0 to the highest. -/
def near (n high : Int) : Int := if n < 0 then 0 else if high < n then high else n
theorem near_ge {n high : Int} (h : 0 ≤ high) : 0 ≤ near n high := by unfold near; split <;> (try split) <;> omega
theorem near_le {n high : Int} (h : 0 ≤ high) : near n high ≤ high := by unfold near; split <;> (try split) <;> omega
def maxEpoch : Int := 281474976710656
/-- Just so many bytes. -/
def cutTo (l : List UInt8) (n : Nat) : List UInt8 := l.take n ++ List.replicate (n - l.length) 0
theorem cutTo_length (l : List UInt8) (n : Nat) : (cutTo l n).length = n := by
  unfold cutTo; rw [List.length_append, List.length_take, List.length_replicate]; omega

def sealFront (x : DSeal) : List UInt8 := num 8 (near x.epoch maxEpoch) ++ num 8 (near x.no maxEpoch)
def sealRest (x : DSeal) : List UInt8 :=
  num 1 (near x.kind 255) ++ ([0] ++ (num 2 ((x.body.take 472).length : Int) ++ (cutTo (x.body.take 472) 472 ++ (num 8 (near x.no maxEpoch) ++ num 8 (near x.epoch maxEpoch)))))
def sealBytes (x : DSeal) : List UInt8 := sealFront x ++ (num 4 (crcOf (sealFront x ++ sealRest x) : Int) ++ sealRest x)
theorem sealFront_length (x : DSeal) : (sealFront x).length = 16 := by simp [sealFront, num_len8]
theorem sealRest_length (x : DSeal) : (sealRest x).length = 492 := by simp [sealRest, num_len8, num_len1, num_len2, cutTo_length]
theorem sealBytes_length (x : DSeal) : (sealBytes x).length = 512 := by simp [sealBytes, num_len4, sealFront_length, sealRest_length]

theorem splice_skip {α : Type} {A T X : List α} {k off : Nat} (h : A.length = k) : splice (A ++ T) (k + off) X = A ++ splice T off X := by
  unfold splice
  subst h
  rw [List.take_length_add_append, Nat.add_assoc, List.drop_length_add_append, List.append_assoc]
theorem splice_here {α : Type} {B T X : List α} (h : B.length = X.length) : splice (B ++ T) 0 X = X ++ T := by
  unfold splice
  rw [Nat.zero_add, ← h, List.drop_left]; rfl
theorem splice_part {α : Type} {B C T X : List α} (h : B.length = X.length) : splice ((B ++ C) ++ T) 0 X = (X ++ C) ++ T := by
  rw [List.append_assoc, splice_here h, List.append_assoc]
theorem splice_map {α β : Type} (f : α → β) (L X : List α) (off : Nat) : (splice L off X).map f = splice (L.map f) off (X.map f) := by
  unfold splice; simp

def zeros (n : Nat) : List UInt8 := List.replicate n 0
theorem zeros_length (n : Nat) : (zeros n).length = n := List.length_replicate
theorem zeros_add (a b : Nat) : zeros (a + b) = zeros a ++ zeros b := List.replicate_append_replicate.symm

/-- The steps of the program: each number laid at its place, over zeros; then the body, the stamps once more. -/
def laid1 (x : DSeal) : List UInt8 := splice (zeros 512) 0 (num 8 (near x.epoch maxEpoch))
def laid2 (x : DSeal) : List UInt8 := splice (laid1 x) 8 (num 8 (near x.no maxEpoch))
def laid3 (x : DSeal) : List UInt8 := splice (laid2 x) 20 (num 1 (near x.kind 255))
def laid4 (x : DSeal) : List UInt8 := splice (laid3 x) 22 (num 2 ((x.body.take 472).length : Int))
def laid5 (x : DSeal) : List UInt8 := splice (laid4 x) 24 (x.body.take 472)
def laid6 (x : DSeal) : List UInt8 := splice (laid5 x) 496 (num 8 (near x.no maxEpoch))
def laid7 (x : DSeal) : List UInt8 := splice (laid6 x) 504 (num 8 (near x.epoch maxEpoch))
def laid8 (x : DSeal) : List UInt8 := splice (laid7 x) 16 (num 4 (crcOf ((laid7 x).take 16 ++ (laid7 x).drop 20) : Int))

theorem laid7_is (x : DSeal) : laid7 x = sealFront x ++ (zeros 4 ++ sealRest x) := by
  have z : zeros 512 = zeros 8 ++ (zeros 8 ++ (zeros 4 ++ (zeros 1 ++ (zeros 1 ++ (zeros 2 ++ (zeros 472 ++ (zeros 8 ++ zeros 8))))))) := by
    simp only [← zeros_add]
  have hb : (x.body.take 472).length ≤ 472 := by rw [List.length_take]; omega
  have z2 : zeros 472 = zeros (x.body.take 472).length ++ zeros (472 - (x.body.take 472).length) := by rw [← zeros_add]; congr 1; omega
  have e1 : laid1 x = num 8 (near x.epoch maxEpoch) ++ (zeros 8 ++ (zeros 4 ++ (zeros 1 ++ (zeros 1 ++ (zeros 2 ++ (zeros 472 ++ (zeros 8 ++ zeros 8))))))) := by
    rw [laid1, z, splice_here (by rw [zeros_length, num_len8])]
  have e2 : laid2 x = num 8 (near x.epoch maxEpoch) ++ (num 8 (near x.no maxEpoch) ++ (zeros 4 ++ (zeros 1 ++ (zeros 1 ++ (zeros 2 ++ (zeros 472 ++ (zeros 8 ++ zeros 8))))))) := by
    rw [laid2, e1, show 8 = 8 + 0 from rfl, splice_skip (num_len8 _), splice_here (by rw [zeros_length, num_len8])]
  have e3 : laid3 x = num 8 (near x.epoch maxEpoch) ++ (num 8 (near x.no maxEpoch) ++ (zeros 4 ++ (num 1 (near x.kind 255) ++ (zeros 1 ++ (zeros 2 ++ (zeros 472 ++ (zeros 8 ++ zeros 8))))))) := by
    rw [laid3, e2, show 20 = 8 + (8 + (4 + 0)) from rfl, splice_skip (num_len8 _), splice_skip (num_len8 _), splice_skip (zeros_length _), splice_here (by rw [zeros_length, num_len1])]
  have e4 : laid4 x = num 8 (near x.epoch maxEpoch) ++ (num 8 (near x.no maxEpoch) ++ (zeros 4 ++ (num 1 (near x.kind 255) ++ (zeros 1 ++ (num 2 ((x.body.take 472).length : Int) ++ (zeros 472 ++ (zeros 8 ++ zeros 8))))))) := by
    rw [laid4, e3, show 22 = 8 + (8 + (4 + (1 + (1 + 0)))) from rfl, splice_skip (num_len8 _), splice_skip (num_len8 _), splice_skip (zeros_length _), splice_skip (num_len1 _), splice_skip (zeros_length _), splice_here (by rw [zeros_length, num_len2])]
  have e5 : laid5 x = num 8 (near x.epoch maxEpoch) ++ (num 8 (near x.no maxEpoch) ++ (zeros 4 ++ (num 1 (near x.kind 255) ++ (zeros 1 ++ (num 2 ((x.body.take 472).length : Int) ++ (cutTo (x.body.take 472) 472 ++ (zeros 8 ++ zeros 8))))))) := by
    rw [laid5, e4, show 24 = 8 + (8 + (4 + (1 + (1 + (2 + 0))))) from rfl, splice_skip (num_len8 _), splice_skip (num_len8 _), splice_skip (zeros_length _), splice_skip (num_len1 _), splice_skip (zeros_length _), splice_skip (num_len2 _), z2, splice_part (zeros_length _)]
    rw [cutTo, List.take_take, Nat.min_self]
    rfl
  have hc : (cutTo (x.body.take 472) 472).length = 472 := cutTo_length _ _
  have e6 : laid6 x = num 8 (near x.epoch maxEpoch) ++ (num 8 (near x.no maxEpoch) ++ (zeros 4 ++ (num 1 (near x.kind 255) ++ (zeros 1 ++ (num 2 ((x.body.take 472).length : Int) ++ (cutTo (x.body.take 472) 472 ++ (num 8 (near x.no maxEpoch) ++ zeros 8))))))) := by
    rw [laid6, e5, show 496 = 8 + (8 + (4 + (1 + (1 + (2 + (472 + 0)))))) from rfl, splice_skip (num_len8 _), splice_skip (num_len8 _), splice_skip (zeros_length _), splice_skip (num_len1 _), splice_skip (zeros_length _), splice_skip (num_len2 _), splice_skip hc, splice_here (by rw [zeros_length, num_len8])]
  have e7 : laid7 x = num 8 (near x.epoch maxEpoch) ++ (num 8 (near x.no maxEpoch) ++ (zeros 4 ++ (num 1 (near x.kind 255) ++ (zeros 1 ++ (num 2 ((x.body.take 472).length : Int) ++ (cutTo (x.body.take 472) 472 ++ (num 8 (near x.no maxEpoch) ++ num 8 (near x.epoch maxEpoch)))))))) := by
    rw [laid7, e6, show 504 = 8 + (8 + (4 + (1 + (1 + (2 + (472 + (8 + 0))))))) from rfl, splice_skip (num_len8 _), splice_skip (num_len8 _), splice_skip (zeros_length _), splice_skip (num_len1 _), splice_skip (zeros_length _), splice_skip (num_len2 _), splice_skip hc, splice_skip (num_len8 _)]
    congr 8
  rw [e7, sealFront, sealRest, List.append_assoc]
  rfl
theorem laid7_sum (x : DSeal) : (laid7 x).take 16 ++ (laid7 x).drop 20 = sealFront x ++ sealRest x := by
  rw [laid7_is]
  have h1 : (sealFront x ++ (zeros 4 ++ sealRest x)).take 16 = sealFront x := by
    rw [List.take_append_of_le_length (by rw [sealFront_length]; exact Nat.le_refl _), List.take_of_length_le (by rw [sealFront_length]; exact Nat.le_refl _)]
  have h2 : (sealFront x ++ (zeros 4 ++ sealRest x)).drop 20 = sealRest x := by
    rw [← List.append_assoc]
    have : (sealFront x ++ zeros 4).length = 20 := by rw [List.length_append, sealFront_length, zeros_length]
    rw [← this, List.drop_left]
  rw [h1, h2]
theorem laid8_is (x : DSeal) : laid8 x = sealBytes x := by
  rw [laid8, laid7_sum, laid7_is, show 16 = 16 + 0 from rfl, splice_skip (sealFront_length x), splice_here (by rw [zeros_length, num_len4])]
  rfl

/-- What a sector of any bytes would be. -/
def sealRead (b : List UInt8) : DSeal := ⟨i64of (natAt b 0 8), i64of (natAt b 8 8), natAt b 20 1, (b.drop 24).take (natAt b 22 2)⟩
/-- What a sector is. -/
def sealGet (b : List UInt8) : Option DSeal := if b.length = 512 ∧ natAt b 22 2 ≤ 472 ∧ sealBytes (sealRead b) = b then some (sealRead b) else none
/-- The same, as0 the program reads it. -/
def sealRead' (b : List UInt8) : DSeal := ⟨i64of (natAt b 0 8), i64of (natAt b 8 8), natAt b 20 1, (b.drop 24).take (min (natAt b 22 2) 472)⟩
theorem sealBytes_long (x : DSeal) : natAt (sealBytes x) 22 2 = (x.body.take 472).length := by
  have hb : (x.body.take 472).length ≤ 472 := by rw [List.length_take]; omega
  have e : sealBytes x = (sealFront x ++ num 4 (crcOf (sealFront x ++ sealRest x) : Int) ++ num 1 (near x.kind 255) ++ [0]) ++ (num 2 ((x.body.take 472).length : Int) ++ (cutTo (x.body.take 472) 472 ++ (num 8 (near x.no maxEpoch) ++ num 8 (near x.epoch maxEpoch)))) := by
    simp [sealBytes, sealRest]
  rw [e]
  exact natAt_num (w := 2) (by simp [sealFront_length, num_len4, num_len1]) (by decide) (by decide) (by omega)
theorem sealGet_alt {b : List UInt8} (hl : b.length = 512) : sealGet b = if sealBytes (sealRead' b) = b then some (sealRead' b) else none := by
  unfold sealGet
  by_cases h : natAt b 22 2 ≤ 472
  · have e : sealRead' b = sealRead b := by unfold sealRead' sealRead; rw [Nat.min_eq_left h]
    rw [e]
    by_cases h2 : sealBytes (sealRead b) = b
    · rw [if_pos ⟨hl, h, h2⟩, if_pos h2]
    · rw [if_neg (fun c => h2 c.2.2), if_neg h2]
  · rw [if_neg (fun c => h c.2.1), if_neg]
    intro c
    have h3 := sealBytes_long (sealRead' b)
    rw [c] at h3
    have : ((sealRead' b).body.take 472).length ≤ 472 := by rw [List.length_take]; omega
    omega

end Go.Proofs.YthkepjhfeeohdaaGreatDoor
