/- Texts on which the proofs stand: Core, Frame, Types, Structs, Bytes, Clone, Region. No condition is laid on any input. -/
import Derived.WalkKit
import Derived.WalkSpells
import Derived.Carry
import Derived.ChangeArms
import Derived.ChangeOld
import Derived.Lib.Hide
import Derived.Deep.Draws
import Derived.Laws.OwnMore
import Derived.Maps.AppendAt
import Derived.Deep.OwnRows
import Derived.Test.YthjjnlilpklacaaRows
import Derived.ProofKit
import Derived.OpenShut
import Derived.ShutString
import Derived.Below
import Derived.Test.YthjjnlilpklacaaProg
import Derived.BigQuiet
import Derived.Deep.QuietTactic
import Derived.RangeFuncNested
import Derived.RangeFuncBound
import Derived.RangeFuncCalls
import Derived.RangeFuncLeaves
import Derived.RangeFuncBox
import Derived.Orders
import Derived.OrdersIn
/- How Go's plain data lie in memory: words for slices, structs and texts that read as0 Lean data. No program is named here. -/
namespace Go.Proofs.Ythjjnlilpklacaa
open Go.RowKit

/-- A block of cells. -/
def IsC (w : World) (b : Nat) : Prop := ∃ c e f, w.heap[b]? = some (.cells c e f)
theorem IsC.lt {w : World} {b : Nat} (h : IsC w b) : b < w.heap.size := by
  obtain ⟨c, e, f, h⟩ := h
  exact (Array.getElem?_eq_some_iff.1 h).1
theorem IsC.same {w w' : World} {b : Nat} (h : IsC w b) (he : w'.heap[b]? = w.heap[b]?) : IsC w' b := by
  obtain ⟨c, e, f, h⟩ := h
  exact ⟨c, e, f, he.trans h⟩

/-- How values of a Lean type lie in cells; Q holds of every block that is read. -/
structure Rep (α : Type) where
  size : Nat
  wrap : List Value → Value
  rd : (Nat → Prop) → World → List Value → α → Prop
  len : ∀ {Q w cs x}, rd Q w cs x → cs.length = size
  one : ∀ {Q w cs x}, rd Q w cs x → ∀ u ∈ cs, u.oneCell' = true
  back : ∀ {Q w cs x}, rd Q w cs x → (wrap cs).cells.toList = cs
  keep : ∀ {Q Q' : Nat → Prop} {w w' : World} {cs x}, (∀ b, Q b → IsC w b → Q' b ∧ w'.heap[b]? = w.heap[b]?) → rd Q w cs x → rd Q' w' cs x

namespace Rep
variable {α β : Type}

theorem mono (r : Rep α) {Q Q' : Nat → Prop} {w : World} {cs x} (hq : ∀ b, Q b → IsC w b → Q' b) (h : r.rd Q w cs x) : r.rd Q' w cs x :=
  r.keep (fun b hb hl => ⟨hq b hb hl, rfl⟩) h

/-- An integer of a kind. -/
def int (k : IntKind) : Rep Int where
  size := 1
  wrap cs := cs.headD undef
  rd _ _ cs n := cs = [.int k n] ∧ (Lit.int k n).wf = true
  len h := by rw [h.1]; rfl
  one h := by rw [h.1]; simp [Value.oneCell']
  back h := by rw [h.1]; rfl
  keep _ h := h

/-- A byte. -/
def byte : Rep UInt8 where
  size := 1
  wrap cs := cs.headD undef
  rd _ _ cs n := cs = [.int .u8 (n.toNat : Int)]
  len h := by rw [h]; rfl
  one h := by rw [h]; simp [Value.oneCell']
  back h := by rw [h]; rfl
  keep _ h := h

def bool : Rep Bool where
  size := 1
  wrap cs := cs.headD undef
  rd _ _ cs n := cs = [.bool n]
  len h := by rw [h]; rfl
  one h := by rw [h]; simp [Value.oneCell']
  back h := by rw [h]; rfl
  keep _ h := h

/-- A text. -/
def text : Rep (List UInt8) where
  size := 1
  wrap cs := cs.headD undef
  rd _ _ cs l := cs = [.string ⟨l.toArray⟩] ∧ l.length ≤ maxLen
  len h := by rw [h.1]; rfl
  one h := by rw [h.1]; simp [Value.oneCell']
  back h := by rw [h.1]; rfl
  keep _ h := h

/-- Two, one behind the other. -/
def pair (r : Rep α) (s : Rep β) : Rep (α × β) where
  size := r.size + s.size
  wrap cs := .agg cs.toArray
  rd Q w cs x := ∃ as0 bs, cs = as0 ++ bs ∧ r.rd Q w as0 x.1 ∧ s.rd Q w bs x.2
  len h := by obtain ⟨as0, bs, rfl, h1, h2⟩ := h; rw [List.length_append, r.len h1, s.len h2]
  one h := by
    obtain ⟨as0, bs, rfl, h1, h2⟩ := h
    intro u hu
    rcases List.mem_append.1 hu with hu | hu
    · exact r.one h1 u hu
    · exact s.one h2 u hu
  back h := by simp [Value.cells]
  keep hk h := by
    obtain ⟨as0, bs, rfl, h1, h2⟩ := h
    exact ⟨as0, bs, rfl, r.keep hk h1, s.keep hk h2⟩

/-- The same cells, read as0 another type. -/
def iso (r : Rep α) (f : β → α) : Rep β where
  size := r.size
  wrap := r.wrap
  rd Q w cs x := r.rd Q w cs (f x)
  len h := r.len h
  one h := r.one h
  back h := r.back h
  keep hk h := r.keep hk h

/-- Elements, one behind the other. -/
def row (r : Rep α) (Q : Nat → Prop) (w : World) : List Value → List α → Prop
  | cs, [] => cs = []
  | cs, x :: xs => ∃ es rest, cs = es ++ rest ∧ r.rd Q w es x ∧ r.row Q w rest xs

section
variable {r : Rep α} {Q Q' : Nat → Prop} {w w' : World}

theorem row_len : ∀ {xs : List α} {cs : List Value}, r.row Q w cs xs → cs.length = xs.length * r.size
  | [], cs, h => by have : cs = [] := h; subst this; simp
  | x :: xs, cs, h => by
    obtain ⟨es, rest, rfl, h1, h2⟩ := h
    rw [List.length_append, r.len h1, row_len h2, List.length_cons, Nat.add_mul]; omega

theorem row_one : ∀ {xs : List α} {cs : List Value}, r.row Q w cs xs → ∀ u ∈ cs, u.oneCell' = true
  | [], cs, h => by have : cs = [] := h; subst this; simp
  | x :: xs, cs, h => by
    obtain ⟨es, rest, rfl, h1, h2⟩ := h
    intro u hu
    rcases List.mem_append.1 hu with hu | hu
    · exact r.one h1 u hu
    · exact row_one h2 u hu

theorem row_keep (hk : ∀ b, Q b → IsC w b → Q' b ∧ w'.heap[b]? = w.heap[b]?) : ∀ {xs : List α} {cs : List Value}, r.row Q w cs xs → r.row Q' w' cs xs
  | [], _, h => h
  | x :: xs, _, h => by
    obtain ⟨es, rest, rfl, h1, h2⟩ := h
    exact ⟨es, rest, rfl, r.keep hk h1, row_keep hk h2⟩

theorem row_append : ∀ {xs ys : List α} {cs ds : List Value}, r.row Q w cs xs → r.row Q w ds ys → r.row Q w (cs ++ ds) (xs ++ ys)
  | [], ys, cs, ds, h, h' => by have : cs = [] := h; subst this; simpa using h'
  | x :: xs, ys, cs, ds, h, h' => by
    obtain ⟨es, rest, rfl, h1, h2⟩ := h
    exact ⟨es, rest ++ ds, by simp, h1, row_append h2 h'⟩

theorem row_one_elem {x : α} {es : List Value} (h : r.rd Q w es x) : r.row Q w es [x] := ⟨es, [], by simp, h, rfl⟩

theorem row_split : ∀ {xs ys : List α} {cs : List Value}, r.row Q w cs (xs ++ ys) → ∃ as0 bs, cs = as0 ++ bs ∧ r.row Q w as0 xs ∧ r.row Q w bs ys
  | [], ys, cs, h => ⟨[], cs, rfl, rfl, h⟩
  | x :: xs, ys, cs, h => by
    obtain ⟨es, rest, rfl, h1, h2⟩ := h
    obtain ⟨as0, bs, rfl, h3, h4⟩ := row_split h2
    exact ⟨es ++ as0, bs, by simp, ⟨es, as0, rfl, h1, h3⟩, h4⟩

theorem row_get {xs : List α} {cs : List Value} (h : r.row Q w cs xs) {i : Nat} {x : α} (hx : xs[i]? = some x) :
    ∃ es, r.rd Q w es x ∧ ∀ j u, es[j]? = some u → cs[i * r.size + j]? = some u := by
  have hi : i < xs.length := (List.getElem?_eq_some_iff.1 hx).1
  have hsp : xs = xs.take i ++ (x :: xs.drop (i + 1)) := by
    have := (List.getElem?_eq_some_iff.1 hx).2
    rw [← this, List.getElem_cons_drop, List.take_append_drop]
  rw [hsp] at h
  obtain ⟨as0, bs, rfl, h1, es, rest, rfl, h2, _⟩ := row_split h
  refine ⟨es, h2, fun j u hj => ?_⟩
  have hl := row_len h1
  rw [List.length_take, Nat.min_eq_left (Nat.le_of_lt hi)] at hl
  have hj' := (List.getElem?_eq_some_iff.1 hj).1
  rw [List.getElem?_append_right (by omega), show i * r.size + j - as0.length = j by omega, List.getElem?_append_left hj']
  exact hj
end

/-- A slice: its cell; where it has elements, they lie in one block, which is of Q. -/
def list (r : Rep α) : Rep (List α) where
  size := 1
  wrap cs := cs.headD undef
  rd Q w cs xs := ∃ A c es, cs = [.slice A xs.length c] ∧ xs.length ≤ c ∧ c ≤ maxLen ∧ r.row Q w es xs ∧
    (0 < xs.length → ∃ b off, A = some ⟨b, off, none⟩ ∧ Q b ∧ IsC w b ∧ ∀ j u, es[j]? = some u → w.cell? ⟨b, off + j, none⟩ = some u)
  len h := by obtain ⟨A, c, es, rfl, _⟩ := h; rfl
  one h := by obtain ⟨A, c, es, rfl, _⟩ := h; simp [Value.oneCell']
  back h := by obtain ⟨A, c, es, rfl, _⟩ := h; rfl
  keep hk h := by
    obtain ⟨A, c, es, rfl, h1, h2, h3, h4⟩ := h
    refine ⟨A, c, es, rfl, h1, h2, row_keep hk h3, fun hn => ?_⟩
    obtain ⟨b, off, rfl, hq, hb, hc⟩ := h4 hn
    obtain ⟨hq', he⟩ := hk b hq hb
    refine ⟨b, off, rfl, hq', hb.same he, fun j u hj => ?_⟩
    · rw [World.cell?_of_block (w := _) (w' := _) (a := ⟨b, off + j, none⟩) he]
      exact hc j u hj

/-- A value (of one cell, or of several) that reads as0 x. -/
def val (r : Rep α) (Q : Nat → Prop) (w : World) (v : Value) (x : α) : Prop := ∃ cs, v = r.wrap cs ∧ r.rd Q w cs x

/-- A struct of one field. -/
def solo (r : Rep α) : Rep α where
  size := r.size
  wrap cs := .agg cs.toArray
  rd := r.rd
  len h := r.len h
  one h := r.one h
  back _ := by simp [Value.cells]
  keep hk h := r.keep hk h

section
variable {r : Rep α} {Q Q' : Nat → Prop} {w w' : World} {v : Value}

theorem val_keep {x : α} (hk : ∀ b, Q b → IsC w b → Q' b ∧ w'.heap[b]? = w.heap[b]?) (h : r.val Q w v x) : r.val Q' w' v x := by
  obtain ⟨cs, hv, h⟩ := h
  exact ⟨cs, hv, r.keep hk h⟩

/-- Any blocks at all. -/
theorem val_any {x : α} (h : r.val Q w v x) : r.val (fun b => b < w.heap.size) w v x := val_keep (fun _ _ hl => ⟨hl.lt, rfl⟩) h
theorem val_mono {x : α} (hq : ∀ b, Q b → IsC w b → Q' b) (h : r.val Q w v x) : r.val Q' w v x := val_keep (fun b hb hl => ⟨hq b hb hl, rfl⟩) h

theorem val_int {k : IntKind} {n : Int} (h : (Rep.int k).val Q w v n) : v = .int k n ∧ (Lit.int k n).wf = true := by
  obtain ⟨cs, rfl, rfl, h⟩ := h; exact ⟨rfl, h⟩
theorem val_byte {n : UInt8} (h : Rep.byte.val Q w v n) : v = .int .u8 (n.toNat : Int) := by
  obtain ⟨cs, rfl, rfl⟩ := h; rfl
theorem val_bool {b : Bool} (h : Rep.bool.val Q w v b) : v = .bool b := by
  obtain ⟨cs, rfl, rfl⟩ := h; rfl
theorem val_text {l : List UInt8} (h : Rep.text.val Q w v l) : v = .string ⟨l.toArray⟩ ∧ l.length ≤ maxLen := by
  obtain ⟨cs, rfl, rfl, h⟩ := h; exact ⟨rfl, h⟩

/-- What a slice's value is, and its elements' cells. -/
def At (r : Rep α) (Q : Nat → Prop) (w : World) (A : Option Addr) (xs : List α) : Prop :=
  ∃ es, r.row Q w es xs ∧ (0 < xs.length → ∃ b off, A = some ⟨b, off, none⟩ ∧ Q b ∧ IsC w b ∧ ∀ j u, es[j]? = some u → w.cell? ⟨b, off + j, none⟩ = some u)

theorem val_list {xs : List α} (h : r.list.val Q w v xs) : ∃ A c, v = .slice A xs.length c ∧ xs.length ≤ c ∧ c ≤ maxLen ∧ r.At Q w A xs := by
  obtain ⟨cs, rfl, A, c, es, rfl, h1, h2, h3, h4⟩ := h
  exact ⟨A, c, rfl, h1, h2, es, h3, h4⟩
theorem list_val {xs : List α} {A : Option Addr} {n c : Nat} (hn : n = xs.length) (h1 : n ≤ c) (h2 : c ≤ maxLen) (h : r.At Q w A xs) : r.list.val Q w (.slice A n c) xs := by
  subst hn
  obtain ⟨es, h3, h4⟩ := h
  exact ⟨_, rfl, A, c, es, rfl, h1, h2, h3, h4⟩
theorem val_nil {c : Nat} (h : c ≤ maxLen) : r.list.val Q w (.slice none 0 c) ([] : List α) := list_val rfl (Nat.zero_le _) h ⟨[], rfl, fun h => absurd h (by simp)⟩
theorem At.keep {A : Option Addr} {xs : List α} (hk : ∀ b, Q b → IsC w b → Q' b ∧ w'.heap[b]? = w.heap[b]?) (h : r.At Q w A xs) : r.At Q' w' A xs := by
  obtain ⟨es, h3, h4⟩ := h
  refine ⟨es, row_keep hk h3, fun hn => ?_⟩
  obtain ⟨b, off, rfl, hq, hb, hc⟩ := h4 hn
  obtain ⟨hq', he⟩ := hk b hq hb
  refine ⟨b, off, rfl, hq', hb.same he, fun j u hj => ?_⟩
  · rw [World.cell?_of_block (w := w) (w' := w') (a := ⟨b, off + j, none⟩) he]
    exact hc j u hj

theorem At.drewN {A : Option Addr} {xs : List α} (h : r.At Q w A xs) (n : Nat) : r.At Q (w.drewN n) A xs := At.keep (w := w) (w' := w.drewN n) (fun _ hb _ => ⟨hb, rfl⟩) h
theorem val_drewN {x : α} (h : r.val Q w v x) (n : Nat) : r.val Q (w.drewN n) v x := val_keep (w := w) (w' := w.drewN n) (fun _ hb _ => ⟨hb, rfl⟩) h

/-- An element: where it lies. -/
theorem At.get {A : Option Addr} {xs : List α} (h : r.At Q w A xs) {i : Nat} {x : α} (hx : xs[i]? = some x) :
    ∃ b off es, A = some ⟨b, off, none⟩ ∧ Q b ∧ IsC w b ∧ r.rd Q w es x ∧ ∀ j u, es[j]? = some u → w.cell? ⟨b, off + i * r.size + j, none⟩ = some u := by
  obtain ⟨cs, h3, h4⟩ := h
  have hi : i < xs.length := (List.getElem?_eq_some_iff.1 hx).1
  obtain ⟨b, off, rfl, hq, hb, hc⟩ := h4 (by omega)
  obtain ⟨es, h5, h6⟩ := row_get h3 hx
  exact ⟨b, off, es, rfl, hq, hb, h5, fun j u hj => by rw [Nat.add_assoc]; exact hc _ _ (h6 j u hj)⟩
end

end Rep


theorem foldl_set (xs : List Value) : ∀ (pre ys : List Value), ys.length = xs.length →
    (xs.zipIdx pre.length).foldl (fun (cs : Array Value) (p : Value × Nat) => cs.setIfInBounds p.2 p.1) (pre ++ ys).toArray = (pre ++ xs).toArray := by
  induction xs with
  | nil => intro pre ys h; have : ys = [] := List.eq_nil_of_length_eq_zero h; subst this; simp
  | cons x xs ih =>
    intro pre ys h
    cases ys with
    | nil => simp at h
    | cons y ys =>
      have hh := ih (pre ++ [x]) ys (by simpa using h)
      simp only [List.append_assoc, List.singleton_append, List.length_append, List.length_singleton] at hh
      simp only [List.zipIdx_cons, List.foldl_cons]
      rw [← hh]
      congr 1
      simp

theorem fill_one (size : Nat) (cells : Array Value) (v : Value) (hv : v.cells.size = size) (hc : cells.size = size) :
    Instr.fill (fun i => some (i * size, size)) cells [(0, v)] = some v.cells := by
  have h := foldl_set v.cells.toList [] cells.toList (by simp [hv, hc])
  simp only [Instr.fill]
  rw [if_neg (by simp [hv, hc])]
  congr 1
  simp only [List.nil_append, List.length_nil, Array.toArray_toList] at h
  rw [← Array.foldl_toList, Array.toList_zipIdx, Nat.zero_mul]
  simp only [Nat.zero_add]
  exact h

theorem run_buildSlice_one {P : Program} (w : World) (t e : TypeId) (z : Value) (size : Nat) (ht : P.underlying t = some (.slice e)) (hi : (P.info? e).map (fun i => (i.zero, i.size)) = some (some z, size))
    (v : Value) (hv : v.cells.size = size) (h0 : 0 < size) (hs : size ≤ 1000) :
    (Instr.buildSlice t 1 #[(0, v)]).run P w = .ok (.slice (some ⟨w.heap.size, 0, none⟩) 1 1) (w.alloc (.cells v.cells e)) := by
  obtain ⟨i, hi, hh⟩ := Option.map_eq_some_iff.1 hi
  simp only [Prod.mk.injEq] at hh
  obtain ⟨hz, hs'⟩ := hh
  have hf := fill_one size ((Array.range (1 * size)).map (fun k => z.cells[k % z.cells.size]!)) v hv (by simp)
  unfold Instr.buildSlice
  simp only [Sem.run_bind, run_underlying ht, Result.andThen_ok, sizeOf, typeInfo, run_program, hi, hs', Sem.run_pure]
  simp only [Nat.one_mul] at hf ⊢
  rw [if_neg (by omega)]
  simp [show ¬ size = 0 by omega, zeroValue, hi, hz, hf, newRow, typeInfo]


namespace Rep
variable {α : Type} {r : Rep α} {e base : Nat} {Q Q' : Nat → Prop} {w w' : World} {v : Value} {xs ys : List α}

/-- A slice of the call's own, to which it appends: its block is one from 'base' on, the elements read blocks of Q, and none of them is the slice's own. -/
def acc (r : Rep α) (e base : Nat) (Q : Nat → Prop) (w : World) (v : Value) (xs : List α) : Prop :=
  ∃ cells, w.ownsRow base e r.size v xs.length cells ∧ r.row (fun b => Q b ∧ v.ownBlock ≠ some b) w cells xs

theorem acc_nil : r.acc e base Q w (.slice none 0 0) [] := ⟨[], by simpa using World.ownsRow_nil w base e r.size, rfl⟩

theorem acc_form (h : r.acc e base Q w v xs) : ∃ A c, v = .slice A xs.length c ∧ xs.length ≤ c ∧ c ≤ maxLen := by
  obtain ⟨cells, h1, h2⟩ := h
  rcases h1.2 with ⟨rfl, h0⟩ | ⟨g, cap, cur, rfl, _, _, h3, h4, _⟩
  · exact ⟨none, 0, by rw [h0], by omega, by simp [maxLen]⟩
  · exact ⟨_, cap, rfl, h3, h4⟩

theorem acc_own (h : r.acc e base Q w v xs) : ∀ k, v.ownBlock = some k → base ≤ k ∧ k < w.heap.size := by
  obtain ⟨cells, h1, _⟩ := h
  exact h1.lt

theorem acc_val (h : r.acc e base Q w v xs) : r.list.val (fun b => Q b ∨ v.ownBlock = some b) w v xs := by
  obtain ⟨cells, h1, h2⟩ := h
  have h2' : r.row (fun b => Q b ∨ v.ownBlock = some b) w cells xs := row_keep (fun b hb _ => ⟨.inl hb.1, rfl⟩) h2
  rcases h1.2 with ⟨rfl, h0⟩ | ⟨g, cap, cur, rfl, hb, hg, h3, h4, h5, h6⟩
  · refine list_val h0.symm (Nat.le_refl _) (by simp [maxLen]) ⟨cells, h2', fun h => absurd h (by omega)⟩
  · refine list_val rfl h3 h4 ⟨cells, h2', fun hn => ⟨g, 0, rfl, .inr rfl, ⟨cur, e, (0, 0), hg⟩, fun j u hj => ?_⟩⟩
    have := h1.cells (g := g) rfl j u hj
    rwa [Addr.add_lit] at this

theorem acc_keep (hk : ∀ b, (Q b ∨ v.ownBlock = some b) → IsC w b → w'.heap[b]? = w.heap[b]?) (hq : ∀ b, Q b → IsC w b → Q' b) (h : r.acc e base Q w v xs) : r.acc e base Q' w' v xs := by
  obtain ⟨cells, h1, h2⟩ := h
  refine ⟨cells, ⟨h1.1, ?_⟩, row_keep (fun b hb hl => ⟨⟨hq b hb.1 hl, hb.2⟩, hk b (.inl hb.1) hl⟩) h2⟩
  rcases h1.2 with hn | ⟨g, cap, cur, rfl, hb, hg, rest⟩
  · exact .inl hn
  · exact .inr ⟨g, cap, cur, rfl, hb, (hk g (.inr rfl) ⟨cur, e, (0, 0), hg⟩).trans hg, rest⟩

theorem acc_base {base' : Nat} (hb : base' ≤ base) (h : r.acc e base Q w v xs) : r.acc e base' Q w v xs := by
  obtain ⟨cells, h1, h2⟩ := h
  refine ⟨cells, ⟨h1.1, ?_⟩, h2⟩
  rcases h1.2 with hn | ⟨g, cap, cur, rfl, hb', rest⟩
  · exact .inl hn
  · exact .inr ⟨g, cap, cur, rfl, by omega, rest⟩

/-- What an append leaves. -/
theorem acc_more {P : Program} {t ty : TypeId} {z : Value} {size bytes : Nat} (ht : P.underlying t = some (.slice e)) (hi : (P.info? e).map (fun i => (i.zero, i.size, i.bytes)) = some (some z, size, bytes))
    (hzs : z.cells.size = size) (hsz : 0 < size) (hr : r.size = size) (h : r.acc e base Q w v xs)
    {A : Option Addr} {m c : Nat} (hm : m = ys.length) {es : List Value} (h3' : r.row (fun b => Q b ∧ v.ownBlock ≠ some b) w es ys)
    (h4 : 0 < ys.length → ∃ b off, A = some ⟨b, off, none⟩ ∧ ∀ j u, es[j]? = some u → w.cell? ⟨b, off + j, none⟩ = some u)
    (h63 : xs.length + ys.length ≤ maxLen) (hbytes : (xs.length + ys.length) * bytes ≤ 140737488355328) (hbase : base ≤ w.heap.size) :
    ∃ v' w', (Builtin.append_ #[t, t] ty #[v, .slice A m c]).run P w = .ok v' w' ∧ r.acc e base Q w' v' (xs ++ ys) ∧ w.grownBy w' v.ownBlock ∧ (v'.ownBlock = v.ownBlock ∨ v'.ownBlock = some w.heap.size) := by
  subst hm
  obtain ⟨i, hi, hh⟩ := Option.map_eq_some_iff.1 hi
  simp only [Prod.mk.injEq] at hh
  obtain ⟨hz, hs', hby⟩ := hh
  obtain ⟨cells, h1, h2⟩ := h
  have hl : es.length = ys.length * size := by rw [row_len h3', hr]
  have key : ∃ v' w', (Builtin.append_ #[t, t] ty #[v, .slice A ys.length c]).run P w = .ok v' w' ∧ w'.ownsRow base e size v' (xs.length + ys.length) (cells ++ es) ∧ w.grownBy w' v.ownBlock ∧ (v'.ownBlock = v.ownBlock ∨ v'.ownBlock = some w.heap.size) := by
    cases hA : A with
    | none =>
      have hn : ys = [] := by
        cases ys with
        | nil => rfl
        | cons y ys =>
          obtain ⟨b, off, hb, _⟩ := h4 (by simp)
          rw [hA] at hb; cases hb
      subst hn
      have he : es = [] := h3'
      subst he
      refine ⟨v, w, ?_, by simpa [hr] using h1, World.grownBy.refl w _, .inl rfl⟩
      rcases h1.2 with ⟨rfl, _⟩ | ⟨g, cap, cur, rfl, _, _, hnc, _⟩
      · simp [Builtin.append_, run_underlying ht, sizeOf, typeInfo, hi, Builtin.lenOf, Builtin.firstCells]
      · simp [Builtin.append_, run_underlying ht, sizeOf, typeInfo, hi, Builtin.lenOf, Builtin.firstCells, hnc, storeCells]
    | some ad =>
      obtain ⟨v', w', q1, q2, q3, _, q4⟩ := run_append_own_at (P := P) w base t ty e i z size bytes ht hi hz hs' hby hzs hsz v xs.length cells (hr ▸ h1) ad ys.length c es hl (by
        intro j u hj
        have hp : 0 < ys.length := by
          have := (List.getElem?_eq_some_iff.1 hj).1
          rcases Nat.eq_zero_or_pos ys.length with h0 | h0
          · rw [h0] at hl; omega
          · exact h0
        obtain ⟨b, off, hb, hc⟩ := h4 hp
        rw [hA] at hb
        obtain rfl : ad = ⟨b, off, none⟩ := by injection hb
        rw [Addr.add_lit]
        exact hc j u hj) (row_one h3') h63 hbytes hbase
      exact ⟨v', w', q1, q2, q3, q4⟩
  obtain ⟨v', w', q1, q2, q3, q4⟩ := key
  refine ⟨v', w', q1, ⟨cells ++ es, by rw [hr, List.length_append]; exact q2, ?_⟩, q3, q4⟩
  refine row_keep (fun b hb hl => ⟨⟨hb.1, ?_⟩, q3.block b hl.lt (fun e => hb.2 e.symm)⟩) (row_append h2 h3')
  rcases q4 with q4 | q4 <;> rw [q4]
  · exact hb.2
  · intro hc; injection hc with hc; have := hl.lt; omega

end Rep

section
variable {α : Type} {r : Rep α} {e base : Nat} {Q Q' : Nat → Prop} {P : Program} {w : World}

/-- 'append(s, x)'. -/
theorem wpList_snoc {ops : Array Oper} {rest : List Oper} {o1 o2 : Oper} {a : Act} {R : Exit → Act → World → Prop} (hg1 : o1.guard = none) (hg2 : o2.guard = none) (x s : Operand) (t : TypeId) (d : Tmp)
    (ho1 : o1.op = .buildSlice t 1 #[(0, x)]) (hd : o1.dst = some d) (ho2 : o2.op = .call { callee := .builtin .append, args := #[s, .tmp d], argTypes := #[t, t] })
    (z : Value) (size bytes : Nat) (ht : P.underlying t = some (.slice e)) (hi : (P.info? e).map (fun i => (i.zero, i.size, i.bytes)) = some (some z, size, bytes)) (hzs : z.cells.size = size) (hsz : 0 < size ∧ size ≤ 1000)
    (hr : r.size = size) (v : Value) (xs : List α) (h : r.acc e base Q w v xs) (y : α) (vy : Value) (hx : a.eval x = vy) (hy : r.val (fun b => Q b ∧ v.ownBlock ≠ some b) w vy y)
    (hs : (a.put (some d) (.slice (some ⟨w.heap.size, 0, none⟩) 1 1)).eval s = v) (he : (a.put (some d) (.slice (some ⟨w.heap.size, 0, none⟩) 1 1)).eval (.tmp d) = .slice (some ⟨w.heap.size, 0, none⟩) 1 1)
    (h63 : xs.length + 1 ≤ maxLen) (hbytes : (xs.length + 1) * bytes ≤ 140737488355328) (hbase : base ≤ w.heap.size)
    (K : ∀ v' w', r.acc e base Q w' v' (xs ++ [y]) → w.grownBy w' v.ownBlock → (v'.ownBlock = v.ownBlock ∨ v'.ownBlock = some (w.heap.size + 1)) →
      wpList P ops R rest ((a.put (some d) (.slice (some ⟨w.heap.size, 0, none⟩) 1 1)).put o2.dst v') w') :
    wpList P ops R (o1 :: o2 :: rest) a w := by
  obtain ⟨cs, hv, hrd⟩ := hy
  have hcl := r.len hrd
  have hcells : vy.cells.toList = cs := by rw [hv]; exact r.back hrd
  have hi' : (P.info? e).map (fun i => (i.zero, i.size)) = some (some z, size) := by
    obtain ⟨i, hi, hh⟩ := Option.map_eq_some_iff.1 hi
    simp only [Prod.mk.injEq] at hh
    simp [hi, hh]
  refine wpList_plain hg1 fun K1 hK1 => ?_
  have hb := run_buildSlice_one (P := P) w t e z size ht hi' vy (by rw [← Array.length_toList, hcells, hcl, hr]) hsz.1 hsz.2
  unfold Oper.wp
  simp only [execOp, ho1, List.map_toArray, List.map_cons, List.map_nil, hx]
  simp only [Sem.run_bind, hb, Result.andThen_ok, Sem.run_pure, Oper.upon_value]
  apply hK1
  rw [hd]
  refine wpList_plain hg2 fun K2 hK2 => ?_
  have hkeep : ∀ b, b < w.heap.size → (w.alloc (.cells vy.cells e)).heap[b]? = w.heap[b]? := fun b hb => Below.heap_alloc _ _ _ hb
  have hacc' : r.acc e base Q (w.alloc (.cells vy.cells e)) v xs := Rep.acc_keep (fun b _ hl => hkeep b hl.lt) (fun _ hb _ => hb) h
  have hbn : (w.alloc (.cells vy.cells e)).heap[w.heap.size]? = some (.cells vy.cells e) := heap_alloc_new w _
  obtain ⟨v', w', q1, q2, q3, q4⟩ := Rep.acc_more (P := P) (w := w.alloc (.cells vy.cells e)) (ty := o2.type) (ys := [y]) (A := some ⟨w.heap.size, 0, none⟩) (m := 1) (c := 1) (es := cs)
    ht hi hzs hsz.1 hr hacc' rfl
    (Rep.row_one_elem (r.keep (fun b hb hl => ⟨hb, hkeep b hl.lt⟩) hrd)) (fun _ => ⟨w.heap.size, 0, rfl, fun j u hj => by
      rw [cell_of_row _ _ _ _ _ _ hbn, Nat.zero_add, ← hj, ← hcells]; simp⟩)
    (by simpa using h63) (by simpa using hbytes) (by simp; omega)
  unfold Oper.wp execOp
  simp only [ho2, resolve, invoke, builtin, Sem.run_bind, Sem.run_pure, Result.andThen_ok, List.map_toArray, List.map_cons, List.map_nil, hs, he, q1]
  refine hK2 _ _ (K v' w' q2 ?_ (by simpa using q4))
  exact (World.grownBy_alloc w _ _).trans q3

/-- 'append(s, xs...)'. -/
theorem wpList_spread {ops : Array Oper} {rest : List Oper} {o : Oper} {a : Act} {R : Exit → Act → World → Prop} (hg : o.guard = none) (s x : Operand) (t : TypeId)
    (ho : o.op = .call { callee := .builtin .append, args := #[s, x], argTypes := #[t, t] })
    (z : Value) (size bytes : Nat) (ht : P.underlying t = some (.slice e)) (hi : (P.info? e).map (fun i => (i.zero, i.size, i.bytes)) = some (some z, size, bytes)) (hzs : z.cells.size = size) (hsz : 0 < size)
    (hr : r.size = size) (v : Value) (xs : List α) (hs : a.eval s = v) (h : r.acc e base Q w v xs) (u : Value) (ys : List α) (hx : a.eval x = u) (hy : r.list.val Q' w u ys)
    (hq : ∀ b, Q' b → IsC w b → Q b ∧ v.ownBlock ≠ some b)
    (h63 : xs.length + ys.length ≤ maxLen) (hbytes : (xs.length + ys.length) * bytes ≤ 140737488355328) (hbase : base ≤ w.heap.size)
    (K : ∀ v' w', r.acc e base Q w' v' (xs ++ ys) → w.grownBy w' v.ownBlock → (v'.ownBlock = v.ownBlock ∨ v'.ownBlock = some w.heap.size) → wpList P ops R rest (a.put o.dst v') w') :
    wpList P ops R (o :: rest) a w := by
  obtain ⟨A, c, rfl, h1, h2, es, h3, h4⟩ := Rep.val_list hy
  refine wpList_plain hg fun K2 hK2 => ?_
  obtain ⟨v', w', q1, q2, q3, q4⟩ := Rep.acc_more (P := P) (ty := o.type) (c := c) ht hi hzs hsz hr h rfl (Rep.row_keep (fun b hb hl => ⟨hq b hb hl, rfl⟩) h3)
    (fun hn => by obtain ⟨b, off, q1, _, _, q2⟩ := h4 hn; exact ⟨b, off, q1, q2⟩) h63 hbytes hbase
  unfold Oper.wp execOp
  simp only [ho, resolve, invoke, builtin, Sem.run_bind, Sem.run_pure, Result.andThen_ok, List.map_toArray, List.map_cons, List.map_nil, hs, hx, q1]
  exact hK2 _ _ (K v' w' q2 q3 q4)
end

namespace Rep
theorem row_byte {Q : Nat → Prop} {w : World} : ∀ {l : List UInt8} {es : List Value}, Rep.byte.row Q w es l → es = l.map fun x => .int .u8 (x.toNat : Int)
  | [], _, h => h
  | x :: l, _, h => by
    obtain ⟨as0, rest, rfl, h1, h2⟩ := h
    obtain rfl : as0 = [.int .u8 (x.toNat : Int)] := h1
    rw [row_byte h2]; rfl

theorem byte_row {Q : Nat → Prop} {w : World} : ∀ (l : List UInt8), Rep.byte.row Q w (l.map fun x => .int .u8 (x.toNat : Int)) l
  | [] => rfl
  | x :: l => ⟨[.int .u8 (x.toNat : Int)], l.map fun x => .int .u8 (x.toNat : Int), rfl, rfl, byte_row l⟩

theorem At.byte {Q : Nat → Prop} {w : World} {A : Option Addr} {xs : List UInt8} (h : Rep.byte.At Q w A xs) {i : Nat} {x : UInt8} (hx : xs[i]? = some x) :
    ∃ b off, A = some ⟨b, off, none⟩ ∧ w.cell? ⟨b, off + i, none⟩ = some (.int .u8 (x.toNat : Int)) := by
  obtain ⟨b, off, es, h1, _, _, rfl, h4⟩ := h.get hx
  exact ⟨b, off, h1, by simpa [Rep.byte] using h4 0 _ rfl⟩

theorem At.int {k : IntKind} {Q : Nat → Prop} {w : World} {A : Option Addr} {xs : List Int} (h : (Rep.int k).At Q w A xs) {i : Nat} {x : Int} (hx : xs[i]? = some x) :
    ∃ b off, A = some ⟨b, off, none⟩ ∧ w.cell? ⟨b, off + i, none⟩ = some (.int k x) ∧ (Lit.int k x).wf = true := by
  obtain ⟨b, off, es, h1, _, _, ⟨rfl, h3⟩, h4⟩ := h.get hx
  exact ⟨b, off, h1, by simpa [Rep.int] using h4 0 _ rfl, h3⟩

/-- An element that is a slice. -/
theorem At.list {α : Type} {r : Rep α} {Q : Nat → Prop} {w : World} {A : Option Addr} {xs : List (List α)} (h : r.list.At Q w A xs) {i : Nat} {x : List α} (hx : xs[i]? = some x) :
    ∃ b off B c, A = some ⟨b, off, none⟩ ∧ w.cell? ⟨b, off + i, none⟩ = some (.slice B x.length c) ∧ x.length ≤ c ∧ c ≤ maxLen ∧ r.At Q w B x := by
  obtain ⟨b, off, es, h1, _, _, ⟨B, c, es', rfl, h2, h3, h4, h5⟩, h6⟩ := h.get hx
  exact ⟨b, off, B, c, h1, by simpa [Rep.list] using h6 0 _ rfl, h2, h3, es', h4, h5⟩

/-- 'string(b)'. -/
theorem At.toText {P : Program} {Q : Nat → Prop} {w : World} {A : Option Addr} {l : List UInt8} {src dst e : TypeId} (h : Rep.byte.At Q w A l) (hs : P.underlying src = some (.slice e)) (he : P.underlying e = some (.int .u8)) (hd : P.underlying dst = some .string) (c : Nat) :
    (convert src dst (.slice A l.length c)).run P w = .ok (.string ⟨l.toArray⟩) w := by
  have key : (convert src dst (.slice A l.length c)).run P w = .ok (.string (strOfNums (l.map fun x => (x.toNat : Int)))) w := by
    rcases Nat.eq_zero_or_pos l.length with h0 | h0
    · have : l = [] := List.eq_nil_of_length_eq_zero h0
      subst this
      cases A with
      | none => rw [run_convert_bytes_nil (P := P) w src e hs he _ c dst hd]; rfl
      | some a =>
        have hl : (loadCells a 0).run P w = .ok (([] : List Int).map (Value.int .u8)).toArray w := by simp [loadCells, loadCellsFrom]
        rw [run_convert_bytes_string w src dst e _ _ c hs he hd]
        exact run_bytesToString w a 0 c [] hl
    · obtain ⟨es, h1, h2⟩ := h
      obtain ⟨b, off, rfl, _, _, hc⟩ := h2 h0
      refine run_convert_bytes_arg (P := P) w src e hs he b off l.length c (l.map fun x => (x.toNat : Int)) (by simp) (fun i hi => ?_) dst hd
      refine hc i _ ?_
      rw [row_byte h1]
      simp [List.getElem?_map, List.getElem?_eq_getElem hi, List.getD]
  rw [key]
  congr 2
  have hm : (l.map fun x => (x.toNat : Int)).map (fun n => UInt8.ofNat n.toNat) = l := by
    rw [List.map_map]
    have : ((fun n : Int => UInt8.ofNat n.toNat) ∘ fun x : UInt8 => (x.toNat : Int)) = id := by funext x; simp
    rw [this, List.map_id]
  simp only [strOfNums, hm]
end Rep

/-- A quiet call in a region behind draws. -/
theorem q_same {P : Program} {f : FuncId} {args : Array Value} {w : World} {n m : Nat} {v : Value}
    (h : Calls P f args (w.drewN (n + m)) fun e w' => e = .returned v ∧ w' = w.drewN (n + m)) : Calls P f args (w.drewN (n + m)) fun e w'' => e = .returned v ∧ ∃ k, w'' = w.drewN (n + k) :=
  h.mono fun _ _ ⟨he, hm⟩ => ⟨he, m, hm⟩
theorem q_more {P : Program} {f : FuncId} {args : Array Value} {w : World} {n m : Nat} {v : Value}
    (h : Calls P f args (w.drewN (n + m)) fun e w' => e = .returned v ∧ ∃ k, w' = (w.drewN (n + m)).drewN k) : Calls P f args (w.drewN (n + m)) fun e w'' => e = .returned v ∧ ∃ k, w'' = w.drewN (n + k) :=
  h.mono fun _ _ ⟨he, k, hm⟩ => ⟨he, m + k, by rw [hm, World.drewN_drewN, Nat.add_assoc]⟩

namespace Rep
theorem row_take {α : Type} {r : Rep α} {Q : Nat → Prop} {w : World} {xs : List α} {es : List Value} (h : r.row Q w es xs) (n : Nat) : r.row Q w (es.take (n * r.size)) (xs.take n) := by
  have h' : r.row Q w es (xs.take n ++ xs.drop n) := by rwa [List.take_append_drop]
  obtain ⟨as0, bs, rfl, h1, h2⟩ := row_split h'
  have l1 := row_len h1
  by_cases hn : n ≤ xs.length
  · rw [List.length_take, Nat.min_eq_left hn] at l1
    rw [← l1, List.take_left]; exact h1
  · have hd : xs.drop n = [] := List.drop_eq_nil_of_le (by omega)
    rw [hd] at h2
    obtain rfl : bs = [] := h2
    rw [List.append_nil, List.take_of_length_le]
    · exact h1
    · rw [l1, List.length_take]; exact Nat.mul_le_mul_right _ (Nat.min_le_left _ _)

theorem row_drop {α : Type} {r : Rep α} {Q : Nat → Prop} {w : World} {xs : List α} {es : List Value} (h : r.row Q w es xs) {n : Nat} (hn : n ≤ xs.length) : r.row Q w (es.drop (n * r.size)) (xs.drop n) := by
  have h' : r.row Q w es (xs.take n ++ xs.drop n) := by rwa [List.take_append_drop]
  obtain ⟨as0, bs, rfl, h1, h2⟩ := row_split h'
  have l1 := row_len h1
  rw [List.length_take, Nat.min_eq_left hn] at l1
  rw [← l1, List.drop_left]; exact h2

/-- 's[:n]'. -/
theorem At.take {α : Type} {r : Rep α} {Q : Nat → Prop} {w : World} {A : Option Addr} {xs : List α} (h : r.At Q w A xs) (n : Nat) : r.At Q w A (xs.take n) := by
  obtain ⟨es, h1, h2⟩ := h
  refine ⟨_, row_take h1 n, fun hn => ?_⟩
  obtain ⟨b, off, hA, hq, hb, hc⟩ := h2 (by rw [List.length_take] at hn; omega)
  refine ⟨b, off, hA, hq, hb, fun j u hj => hc j u ?_⟩
  rw [List.getElem?_take] at hj
  split at hj
  · exact hj
  · cases hj

/-- 's[n:]' (below the capacity). -/
theorem At.drop {α : Type} {r : Rep α} {Q : Nat → Prop} {w : World} {b off : Nat} {xs : List α} (h : r.At Q w (some ⟨b, off, none⟩) xs) {n : Nat} (hn : n ≤ xs.length) : r.At Q w (some ⟨b, off + n * r.size, none⟩) (xs.drop n) := by
  obtain ⟨es, h1, h2⟩ := h
  refine ⟨_, row_drop h1 hn, fun hp => ?_⟩
  obtain ⟨b', off', hA, hq, hb, hc⟩ := h2 (by rw [List.length_drop] at hp; omega)
  injection hA with hA
  injection hA with e1 e2
  subst e1 e2
  refine ⟨b, off + n * r.size, rfl, hq, hb, fun j u hj => ?_⟩
  rw [Nat.add_assoc]
  exact hc _ u (by rw [← hj, List.getElem?_drop])

theorem At.addr {α : Type} {r : Rep α} {Q : Nat → Prop} {w : World} {A : Option Addr} {xs : List α} (h : r.At Q w A xs) (hn : 0 < xs.length) : ∃ b off, A = .some ⟨b, off, none⟩ := by
  obtain ⟨es, h1, h2⟩ := h
  obtain ⟨b, off, hA, _⟩ := h2 hn
  exact ⟨b, off, hA⟩
end Rep

/-- A world grown at a row of the call's own: what lay below stands. -/
theorem grown_block {w0 w w' : World} {B : Nat} {row : Option Nat} (hb : Below B w0 w) (hg : w.grownBy w' row) (hB : B ≤ w.heap.size) (hr : ∀ k, row = some k → B ≤ k) : Below B w0 w' := hb.grown hg hB hr

theorem Rep.At.grown {α : Type} {r : Rep α} {Q : Nat → Prop} {w w' : World} {A : Option Addr} {xs : List α} {row : Option Nat} (h : r.At Q w A xs) (hg : w.grownBy w' row) (hr : ∀ b, Q b → row ≠ some b) : r.At Q w' A xs :=
  h.keep fun b hb hl => ⟨hb, hg.block b hl.lt (fun e => hr b hb e.symm)⟩
theorem Rep.val_grown {α : Type} {r : Rep α} {Q : Nat → Prop} {w w' : World} {v : Value} {x : α} {row : Option Nat} (h : r.val Q w v x) (hg : w.grownBy w' row) (hr : ∀ b, Q b → row ≠ some b) : r.val Q w' v x :=
  Rep.val_keep (fun b hb hl => ⟨hb, hg.block b hl.lt (fun e => hr b hb e.symm)⟩) h
theorem Rep.At.below {α : Type} {r : Rep α} {Q : Nat → Prop} {w w' : World} {A : Option Addr} {xs : List α} {B : Nat} (h : r.At Q w A xs) (hb : Below B w w') (hr : ∀ b, Q b → IsC w b → b < B) : r.At Q w' A xs :=
  h.keep fun b hq hl => ⟨hq, hb.block b (hr b hq hl)⟩
theorem Rep.val_below {α : Type} {r : Rep α} {Q : Nat → Prop} {w w' : World} {v : Value} {x : α} {B : Nat} (h : r.val Q w v x) (hb : Below B w w') (hr : ∀ b, Q b → IsC w b → b < B) : r.val Q w' v x :=
  Rep.val_keep (fun b hq hl => ⟨hq, hb.block b (hr b hq hl)⟩) h

/-- A call that returns a value that reads as0 x, out of blocks of Q, and leaves what there was. -/
def Res {α : Type} (r : Rep α) (Q : Nat → Prop) (w : World) (x : α) (e : Ending) (w' : World) : Prop := ∃ u, e = .returned u ∧ r.val Q w' u x ∧ Below w.heap.size w w'

theorem Rep.acc_made {α : Type} {r : Rep α} {e base : Nat} {Q : Nat → Prop} (w : World) (cur : Array Value) (cap : Nat) (hb : base ≤ w.heap.size) (hm : cap ≤ maxLen) (hs : cur.size = cap * r.size) :
    r.acc e base Q (w.alloc (.cells cur e)) (.slice (some ⟨w.heap.size, 0, none⟩) 0 cap) [] := ⟨[], World.ownsRow_made w cur cap hb hm hs, rfl⟩

/-- Values without blocks of their own. -/
def Rep.Leaf {α : Type} (r : Rep α) : Prop := ∀ (Q Q' : Nat → Prop) (w w' : World) (cs : List Value) (x : α), r.rd Q w cs x → r.rd Q' w' cs x
theorem Rep.leaf_int (k : IntKind) : (Rep.int k).Leaf := fun _ _ _ _ _ _ h => h
theorem Rep.leaf_byte : Rep.byte.Leaf := fun _ _ _ _ _ _ h => h
theorem Rep.leaf_bool : Rep.bool.Leaf := fun _ _ _ _ _ _ h => h
theorem Rep.leaf_text : Rep.text.Leaf := fun _ _ _ _ _ _ h => h
theorem Rep.leaf_pair {α β : Type} {r : Rep α} {s : Rep β} (hr : r.Leaf) (hs : s.Leaf) : (r.pair s).Leaf := fun Q Q' w w' _ x ⟨as0, bs, h, h1, h2⟩ => ⟨as0, bs, h, hr Q Q' w w' as0 x.1 h1, hs Q Q' w w' bs x.2 h2⟩
theorem Rep.leaf_iso {α β : Type} {r : Rep α} (f : β → α) (hr : r.Leaf) : (r.iso f).Leaf := fun Q Q' w w' cs x h => hr Q Q' w w' cs (f x) h
theorem Rep.row_leaf {α : Type} {r : Rep α} (hr : r.Leaf) {Q Q' : Nat → Prop} {w w' : World} : ∀ {xs : List α} {es : List Value}, r.row Q w es xs → r.row Q' w' es xs
  | [], _, h => h
  | x :: xs, _, h => by
    obtain ⟨as0, rest, rfl, h1, h2⟩ := h
    exact ⟨as0, rest, rfl, hr _ _ _ _ _ _ h1, row_leaf hr h2⟩

/-- 'append(s, xs...)' of values without blocks of their own. -/
theorem wpList_spread_leaf {α : Type} {r : Rep α} {e base : Nat} {Q Q' : Nat → Prop} {P : Program} {w : World} (hleaf : r.Leaf) {ops : Array Oper} {rest : List Oper} {o : Oper} {a : Act} {R : Exit → Act → World → Prop} (hg : o.guard = none) (s x : Operand) (t : TypeId)
    (ho : o.op = .call { callee := .builtin .append, args := #[s, x], argTypes := #[t, t] })
    (z : Value) (size bytes : Nat) (ht : P.underlying t = some (.slice e)) (hi : (P.info? e).map (fun i => (i.zero, i.size, i.bytes)) = some (some z, size, bytes)) (hzs : z.cells.size = size) (hsz : 0 < size)
    (hr : r.size = size) (v : Value) (xs : List α) (hs : a.eval s = v) (h : r.acc e base Q w v xs) (u : Value) (ys : List α) (hx : a.eval x = u) (hy : r.list.val Q' w u ys)
    (h63 : xs.length + ys.length ≤ maxLen) (hbytes : (xs.length + ys.length) * bytes ≤ 140737488355328) (hbase : base ≤ w.heap.size)
    (K : ∀ v' w', r.acc e base Q w' v' (xs ++ ys) → w.grownBy w' v.ownBlock → (v'.ownBlock = v.ownBlock ∨ v'.ownBlock = some w.heap.size) → wpList P ops R rest (a.put o.dst v') w') :
    wpList P ops R (o :: rest) a w := by
  obtain ⟨A, c, rfl, h1, h2, es, h3, h4⟩ := Rep.val_list hy
  refine wpList_plain hg fun K2 hK2 => ?_
  obtain ⟨v', w', q1, q2, q3, q4⟩ := Rep.acc_more (P := P) (ty := o.type) (c := c) ht hi hzs hsz hr h rfl (Rep.row_leaf hleaf h3)
    (fun hn => by obtain ⟨b, off, q1, _, _, q2⟩ := h4 hn; exact ⟨b, off, q1, q2⟩) h63 hbytes hbase
  unfold Oper.wp execOp
  simp only [ho, resolve, invoke, builtin, Sem.run_bind, Sem.run_pure, Result.andThen_ok, List.map_toArray, List.map_cons, List.map_nil, hs, hx, q1]
  exact hK2 _ _ (K v' w' q2 q3 q4)

/-- What a slice of the call's own reads as0, its elements without blocks. -/
theorem Rep.acc_fresh {α : Type} {r : Rep α} {e base : Nat} {w : World} {v : Value} {xs : List α} (h : r.acc e base (fun _ => False) w v xs) : r.list.val (fun b => base ≤ b) w v xs :=
  Rep.val_mono (fun b hb _ => by
    rcases hb with hb | hb
    · exact hb.elim
    · exact (Rep.acc_own h b hb).1) (Rep.acc_val h)

/-- The world behind an append: what lay below stands. -/
theorem Rep.acc_below {α : Type} {r : Rep α} {e base : Nat} {Q : Nat → Prop} {w0 w w' : World} {v : Value} {xs : List α} (h : r.acc e base Q w v xs) (hb : Below base w0 w) (hg : w.grownBy w' v.ownBlock) (hB : base ≤ w.heap.size) : Below base w0 w' :=
  hb.grown hg hB fun k hk => (Rep.acc_own h k hk).1

def zeroBytes (n : Nat) : Array Value := madeCells #[.int .u8 0] n

theorem Rep.row_map_byte {Q : Nat → Prop} {w : World} (l : List UInt8) : Rep.byte.row Q w (l.map fun x => .int .u8 (x.toNat : Int)) l := Rep.byte_row l

/-- 'make([]byte, n)' reads as0 n zeros. -/
theorem Rep.made_bytes (w : World) (n : Nat) (hn : n ≤ maxLen) : Rep.byte.list.val (fun b => w.heap.size ≤ b) (w.alloc (.cells (zeroBytes n) 5)) (.slice (some ⟨w.heap.size, 0, none⟩) n n) (List.replicate n 0) := by
  refine list_val (by simp) (Nat.le_refl _) hn ⟨_, byte_row _, fun _ => ⟨w.heap.size, 0, rfl, Nat.le_refl _, ⟨_, _, _, heap_alloc_new w _⟩, fun j u hj => ?_⟩⟩
  rw [cell_of_row _ _ _ _ _ _ (heap_alloc_new w _), Nat.zero_add, ← hj, ← Array.getElem?_toList, zeroBytes, toList_madeCells_one]
  simp

theorem run_make_bytes {P : Program} {t e : TypeId} (ht : P.underlying t = some (.slice e)) (hi : (P.info? e).map (fun i => (i.zero, i.size, i.bytes)) = some (some (.int .u8 0), 1, 1)) (n : Nat) (hn : n ≤ 1000000000000) (w : World) :
    (Instr.makeSlice t (.int .i64 (n : Int)) (.int .i64 (n : Int))).run P w = .ok (.slice (some ⟨w.heap.size, 0, none⟩) n n) (w.alloc (.cells (zeroBytes n) e)) :=
  run_make_row' t e (.int .u8 0) 1 ht hi rfl .i64 .i64 n (by omega) (by omega) w

theorem below_drewN {B : Nat} {a w : World} (h : Below B a w) (n : Nat) : Below B a (w.drewN n) := ⟨h.os, h.tape, h.output, h.size, h.block⟩

end Go.Proofs.Ythjjnlilpklacaa
/- From a walk to a given statement: what is the same for every law. -/
namespace Go.Proofs.Ythjjnlilpklacaa
open Go.ChangeShapes Go.WideShapes Go.ChangeAt Go.RowKit
open Go.ChangeMaps (open_string shut_string)

theorem own : ownKnob Try.prog.godebug = Option.none := by kernel_rfl
theorem laidOut : laidOutB Try.prog = true := by kernel_rfl

/-- The arguments read behind the call as0 they read before. -/
theorem trodAll_below {H : Type} {enc : TypeId × Value → H} {P : Program} (hl : laidOutB P = true) {W W' : World} (hb : Below W.heap.size W W') :
    ∀ {ts : List TypeId} {vs : List Value} {ds : List (DataW H)} {ps : List MemPlace}, (∀ t ∈ ts, P.readableRec t = true ∧ t < P.types.size) →
      DataW.TrodAll enc P W 0 (fun _ => true) true ts vs ds ps → DataW.TrodAll enc P W' 0 (fun b => decide (b < W.heap.size)) true ts vs ds ps
  | [], [], [], _, _, h => h
  | t :: ts, v :: vs, d :: ds, _, hr, h => by
    obtain ⟨p, q, h1, h2, rfl⟩ := h
    have k := hr t (by simp)
    have lt : ∀ x ∈ p, x.block < W.heap.size := by obtain ⟨m, hm⟩ := h1; exact DataW.trod_lt m _ _ _ hm
    exact ⟨p, q, Below.trod hl k.1 k.2 h1 hb lt, trodAll_below hl hb (fun t ht => hr t (by simp [ht])) h2, rfl⟩

theorem add_of_add (a : Addr) (i j : Nat) : (a.add i).add j = a.add (i + j) := by
  unfold Addr.add
  by_cases hi : i = 0 <;> by_cases hj : j = 0 <;> simp [hi, hj, Nat.add_assoc]

namespace Rep
variable {H : Type} {enc : TypeId × Value → H} {P : Program} {w : World}

/-- A type's reading as0 data is this word's. -/
def Of {α : Type} (r : Rep α) (P : Program) (t : TypeId) : Prop :=
  P.cellsOf t = r.size ∧ ∀ (H : Type) (enc : TypeId × Value → H) (w : World) (fuel : Nat) (cs : List Value) (x : DataW H × List MemPlace),
    DataW.trod enc P w 0 (fun _ => true) true fuel t cs = some x → ∃ y, r.rd (fun _ => True) w cs y

theorem of_int {k : IntKind} {t : TypeId} (ht : P.underlying t = some (.int k)) (hc : P.cellsOf t = 1) : (Rep.int k).Of P t :=
  ⟨hc, fun _ _ _ _ _ _ h => by obtain ⟨n, rfl, _, hw⟩ := DataW.trod_int ht h; exact ⟨n, rfl, hw⟩⟩
theorem of_byte {t : TypeId} (ht : P.underlying t = some (.int .u8)) (hc : P.cellsOf t = 1) : Rep.byte.Of P t :=
  ⟨hc, fun _ _ _ _ _ _ h => by
    obtain ⟨n, rfl, _, hw⟩ := DataW.trod_int ht h
    have hb : 0 ≤ n ∧ n ≤ 255 := by simpa [Lit.wf, IntKind.min, IntKind.max, IntKind.signed, IntKind.bits] using hw
    refine ⟨UInt8.ofNat n.toNat, ?_⟩
    show [Value.int .u8 n] = [.int .u8 _]
    congr 2
    have : (UInt8.ofNat n.toNat).toNat = n.toNat := by rw [UInt8.toNat_ofNat']; omega
    omega⟩
theorem of_bool {t : TypeId} (ht : P.underlying t = some .bool) (hc : P.cellsOf t = 1) : Rep.bool.Of P t :=
  ⟨hc, fun _ _ _ _ _ _ h => by obtain ⟨n, rfl, _⟩ := DataW.trod_bool ht h; exact ⟨n, rfl⟩⟩
theorem of_text {t : TypeId} (ht : P.underlying t = some .string) (hc : P.cellsOf t = 1) : Rep.text.Of P t :=
  ⟨hc, fun _ _ _ _ _ _ h => by
    obtain ⟨s, rfl, _, hs⟩ := DataW.trod_string ht h
    exact ⟨s.data.toList, rfl, by rw [Array.length_toList]; exact hs⟩⟩

theorem row_of {α : Type} {r : Rep α} {w : World} {g : Nat → Option Value} : ∀ (n : Nat), (∀ i, i < n → ∃ es y, r.rd (fun _ => True) w es y ∧ ∀ j u, es[j]? = some u → g (i * r.size + j) = some u) →
    ∃ es xs, xs.length = n ∧ r.row (fun _ => True) w es xs ∧ ∀ j u, es[j]? = some u → g j = some u
  | 0, _ => ⟨[], [], rfl, rfl, fun j u h => by simp at h⟩
  | n + 1, h => by
    obtain ⟨es, xs, h1, h2, h3⟩ := row_of n (fun i hi => h i (by omega))
    obtain ⟨fs, y, h4, h5⟩ := h n (by omega)
    refine ⟨es ++ fs, xs ++ [y], by simp [h1], row_append h2 (row_one_elem h4), fun j u hj => ?_⟩
    have hl := row_len h2
    rw [h1] at hl
    by_cases hj' : j < es.length
    · rw [List.getElem?_append_left hj'] at hj; exact h3 j u hj
    · rw [List.getElem?_append_right (by omega)] at hj
      have := h5 _ u hj
      rwa [show n * r.size + (j - es.length) = j by omega] at this

theorem of_list {α : Type} {r : Rep α} {t e : TypeId} (ht : P.underlying t = some (.slice e)) (hc : P.cellsOf t = 1) (hs : 0 < r.size) (he : r.Of P e) : r.list.Of P t :=
  ⟨hc, fun H enc w fuel cs x h => by
    rcases DataW.trod_slice ht h with ⟨rfl, _⟩ | ⟨a, len, cap, elems, rest, n, rfl, rfl, _, _, h1, h2, h3, h4, _⟩
    · exact ⟨[], none, 0, [], rfl, Nat.le_refl _, Nat.zero_le _, rfl, fun h => absurd h (by simp)⟩
    · have hcell : ∀ i, i < len → ∃ es y, r.rd (fun _ => True) w es y ∧ ∀ j u, es[j]? = some u → w.cell? (a.add (i * r.size + j)) = some u := by
        intro i hi
        have h5 := h4 i hi
        rw [List.getElem?_eq_getElem (by omega)] at h5
        obtain ⟨es, h6, h7⟩ := Option.bind_eq_some_iff.1 h5
        obtain ⟨y, hy⟩ := he.2 H enc w n es _ h7
        refine ⟨es, y, hy, fun j u hj => ?_⟩
        unfold World.cells? at h6
        rw [if_pos (Nat.zero_le _), he.1] at h6
        have hjs : j < r.size := by have := (List.getElem?_eq_some_iff.1 hj).1; rw [r.len hy] at this; exact this
        have h8 := mapM_some_get h6 j j (by simp [hjs])
        rw [hj, add_of_add] at h8
        exact h8
      obtain ⟨es, xs, q1, q2, q3⟩ := row_of (g := fun j => w.cell? (a.add j)) len hcell
      subst q1
      refine ⟨xs, some a, cap, es, rfl, h1, h2, q2, fun hn => ?_⟩
      have h0 : 0 < es.length := by rw [row_len q2]; exact Nat.mul_pos hn hs
      have hc0 := q3 0 _ (List.getElem?_eq_getElem h0)
      have hsp : a.spot = none := by
        have := World.cell?_spot hc0
        simpa [Addr.add] using this
      obtain ⟨b, off, sp⟩ := a
      obtain rfl : sp = none := hsp
      refine ⟨b, off, rfl, trivial, ?_, fun j u hj => by have := q3 j u hj; rwa [Addr.add_lit] at this⟩
      unfold World.cell? at hc0
      rw [Addr.add_zero'] at hc0
      cases hh : w.heap[b]? with
      | none => simp [hh] at hc0
      | some o =>
        cases o with
        | cells c e f => exact ⟨c, e, f, hh⟩
        | _ => simp [hh] at hc0⟩

/-- An argument, opened. -/
theorem opens {α : Type} {r : Rep α} {P : Program} {t : TypeId} (hof : r.Of P t) {H : Type} {enc : TypeId × Value → H} {w : World} {base : Nat} {v : Value} {d : DataW H} {ps : List MemPlace}
    (hwr : ∀ (w : World) (base : Nat) (v : Value), Value.okWide P w .any base t v → v = r.wrap v.cells.toList) (hv : Value.okWide P w .any base t v) (h : DataW.Trod enc P w 0 (fun _ => true) true t v d ps) : ∃ y, r.val (fun _ => True) w v y := by
  obtain ⟨fuel, h⟩ := h
  obtain ⟨y, hy⟩ := hof.2 H enc w fuel _ _ h
  exact ⟨y, _, hwr w base v hv, hy⟩

theorem wrap_int {k : IntKind} {P : Program} {t : TypeId} (ht : P.underlying t = some (.int k)) : ∀ (w : World) (base : Nat) (v : Value), Value.okWide P w .any base t v → v = (Rep.int k).wrap v.cells.toList :=
  fun _ _ _ h => by obtain ⟨n, rfl⟩ := okWide_int ht h; rfl
theorem wrap_bool {P : Program} {t : TypeId} (ht : P.underlying t = some .bool) : ∀ (w : World) (base : Nat) (v : Value), Value.okWide P w .any base t v → v = Rep.bool.wrap v.cells.toList :=
  fun _ _ _ h => by obtain ⟨n, rfl⟩ := okWide_bool ht h; rfl
theorem wrap_text {P : Program} {t : TypeId} (ht : P.underlying t = some .string) : ∀ (w : World) (base : Nat) (v : Value), Value.okWide P w .any base t v → v = Rep.text.wrap v.cells.toList :=
  fun _ _ _ h => by obtain ⟨n, rfl⟩ := okWide_string ht h; rfl
theorem wrap_list {α : Type} {r : Rep α} {P : Program} {t e : TypeId} (ht : P.underlying t = some (.slice e)) : ∀ (w : World) (base : Nat) (v : Value), Value.okWide P w .any base t v → v = r.list.wrap v.cells.toList :=
  fun _ _ _ h => by obtain ⟨a, n, c, rfl⟩ := okWide_slice ht h; rfl
theorem wrap_agg {α : Type} {r : Rep α} {P : Program} {t : TypeId} {fs : Array Field} (ht : P.underlying t = some (.struct fs)) (hr : ∀ cs, r.wrap cs = .agg cs.toArray) : ∀ (w : World) (base : Nat) (v : Value), Value.okWide P w .any base t v → v = r.wrap v.cells.toList :=
  fun _ _ _ h => by obtain ⟨cs, rfl, _⟩ := okWide_struct ht h; rw [hr]; simp [Value.cells]
end Rep
end Go.Proofs.Ythjjnlilpklacaa
/- The structs of package api as0 Lean structures: how they lie in cells. Printed by mkrep.py. No program is named here. -/
namespace Go.Proofs.Ythjjnlilpklacaa
open Go.RowKit

/-- What is known of a slice in a cell. -/
def Rep.Sl {α : Type} (r : Rep α) (Q : Nat → Prop) (w : World) (A : Option Addr) (c : Nat) (xs : List α) : Prop := xs.length ≤ c ∧ c ≤ maxLen ∧ r.At Q w A xs
theorem Rep.Sl.val {α : Type} {r : Rep α} {Q : Nat → Prop} {w : World} {A : Option Addr} {c : Nat} {xs : List α} (h : r.Sl Q w A c xs) : r.list.val Q w (.slice A xs.length c) xs := Rep.list_val rfl h.1 h.2.1 h.2.2
theorem Rep.val_sl {α : Type} {r : Rep α} {Q : Nat → Prop} {w : World} {v : Value} {xs : List α} (h : r.list.val Q w v xs) : ∃ A c, v = .slice A xs.length c ∧ r.Sl Q w A c xs := by
  obtain ⟨A, c, rfl, h1, h2, h3⟩ := Rep.val_list h
  exact ⟨A, c, rfl, h1, h2, h3⟩
theorem Rep.Sl.keep {α : Type} {r : Rep α} {Q Q' : Nat → Prop} {w w' : World} {A : Option Addr} {c : Nat} {xs : List α} (hk : ∀ b, Q b → IsC w b → Q' b ∧ w'.heap[b]? = w.heap[b]?) (h : r.Sl Q w A c xs) : r.Sl Q' w' A c xs := ⟨h.1, h.2.1, h.2.2.keep hk⟩
theorem Rep.Sl.drewN {α : Type} {r : Rep α} {Q : Nat → Prop} {w : World} {A : Option Addr} {c : Nat} {xs : List α} (h : r.Sl Q w A c xs) (n : Nat) : r.Sl Q (w.drewN n) A c xs := ⟨h.1, h.2.1, h.2.2.drewN n⟩
theorem Rep.Sl.below {α : Type} {r : Rep α} {Q : Nat → Prop} {w w' : World} {A : Option Addr} {c : Nat} {xs : List α} {B : Nat} (h : r.Sl Q w A c xs) (hb : Below B w w') (hr : ∀ b, Q b → IsC w b → b < B) : r.Sl Q w' A c xs := ⟨h.1, h.2.1, h.2.2.below hb hr⟩
theorem Rep.sl_rd {α : Type} {r : Rep α} {Q : Nat → Prop} {w : World} {A : Option Addr} {c : Nat} {xs : List α} (h : r.Sl Q w A c xs) : r.list.rd Q w [.slice A xs.length c] xs := by
  obtain ⟨h1, h2, es, h3, h4⟩ := h
  exact ⟨A, c, es, rfl, h1, h2, h3, h4⟩
theorem Rep.rd_sl {α : Type} {r : Rep α} {Q : Nat → Prop} {w : World} {cs : List Value} {xs : List α} (h : r.list.rd Q w cs xs) : ∃ A c, cs = [.slice A xs.length c] ∧ r.Sl Q w A c xs := by
  obtain ⟨A, c, es, rfl, h1, h2, h3, h4⟩ := h
  exact ⟨A, c, rfl, h1, h2, es, h3, h4⟩

@[ext] structure DID where
  index : Int
  gen : Int
  deriving DecidableEq

def rID : Rep DID := ((Rep.int .i64).pair (Rep.int .i64)).iso fun x => (x.index, x.gen)
theorem rID_size : rID.size = 2 := rfl
theorem rID_open {Q : Nat → Prop} {w : World} {cs : List Value} {x : DID} (h : rID.rd Q w cs x) : cs = [.int .i64 x.index, .int .i64 x.gen] ∧ (Lit.int .i64 x.index).wf = true ∧ (Lit.int .i64 x.gen).wf = true := by
  obtain ⟨a0, b0, rfl, h0, g0⟩ := h
  obtain ⟨e0, w0⟩ := h0
  subst e0
  obtain ⟨e1, w1⟩ := g0
  subst e1
  exact ⟨rfl, w0, w1⟩
theorem rID_mk {Q : Nat → Prop} {w : World} {x : DID}  (f0 : (Lit.int .i64 x.index).wf = true) (f1 : (Lit.int .i64 x.gen).wf = true) : rID.rd Q w [.int .i64 x.index, .int .i64 x.gen] x := by
  exact ⟨_, _, rfl, ⟨rfl, f0⟩, ⟨rfl, f1⟩⟩
theorem rID_at {Q : Nat → Prop} {w : World} {A : Option Addr} {xs : List DID} (h : rID.At Q w A xs) {i : Nat} {x : DID} (hx : xs[i]? = some x) :
    ∃ (b off : Nat), A = some ⟨b, off, none⟩ ∧ IsC w b ∧ w.cell? ⟨b, off + i * 2, none⟩ = some (.int .i64 x.index) ∧ w.cell? ⟨b, off + i * 2 + 1, none⟩ = some (.int .i64 x.gen) ∧ (Lit.int .i64 x.index).wf = true ∧ (Lit.int .i64 x.gen).wf = true := by
  obtain ⟨b, off, es, h1, _, h2, h3, h4⟩ := h.get hx
  obtain ⟨e, f0, f1⟩ := rID_open h3
  subst e
  rw [rID_size] at h4
  exact ⟨b, off, h1, h2, h4 0 _ rfl, h4 1 _ rfl, f0, f1⟩
theorem rID_val {Q : Nat → Prop} {w : World} {v : Value} {x : DID} (h : rID.val Q w v x) : v = .agg #[.int .i64 x.index, .int .i64 x.gen] ∧ (Lit.int .i64 x.index).wf = true ∧ (Lit.int .i64 x.gen).wf = true := by
  obtain ⟨cs, rfl, h⟩ := h
  obtain ⟨e, f0, f1⟩ := rID_open h
  subst e
  exact ⟨rfl, f0, f1⟩
theorem rID_agg {Q : Nat → Prop} {w : World} {x : DID}  (f0 : (Lit.int .i64 x.index).wf = true) (f1 : (Lit.int .i64 x.gen).wf = true) : rID.val Q w (.agg #[.int .i64 x.index, .int .i64 x.gen]) x := ⟨_, rfl, rID_mk f0 f1⟩

@[ext] structure DPart where
  comp : Int
  data : List UInt8
  deriving DecidableEq

def rPart : Rep DPart := ((Rep.int .i64).pair Rep.byte.list).iso fun x => (x.comp, x.data)
theorem rPart_size : rPart.size = 2 := rfl
theorem rPart_open {Q : Nat → Prop} {w : World} {cs : List Value} {x : DPart} (h : rPart.rd Q w cs x) : ∃ (A_data : Option Addr) (c_data : Nat), cs = [.int .i64 x.comp, .slice A_data x.data.length c_data] ∧ (Lit.int .i64 x.comp).wf = true ∧ Rep.byte.Sl Q w A_data c_data x.data := by
  obtain ⟨a0, b0, rfl, h0, g0⟩ := h
  obtain ⟨e0, w0⟩ := h0
  subst e0
  obtain ⟨A1, c1, e1, w1⟩ := Rep.rd_sl g0
  subst e1
  exact ⟨A1, c1, rfl, w0, w1⟩
theorem rPart_mk {Q : Nat → Prop} {w : World} {x : DPart} {A_data : Option Addr} {c_data : Nat} (f0 : (Lit.int .i64 x.comp).wf = true) (f1 : Rep.byte.Sl Q w A_data c_data x.data) : rPart.rd Q w [.int .i64 x.comp, .slice A_data x.data.length c_data] x := by
  exact ⟨_, _, rfl, ⟨rfl, f0⟩, Rep.sl_rd f1⟩
theorem rPart_at {Q : Nat → Prop} {w : World} {A : Option Addr} {xs : List DPart} (h : rPart.At Q w A xs) {i : Nat} {x : DPart} (hx : xs[i]? = some x) :
    ∃ (b off : Nat) (A_data : Option Addr) (c_data : Nat), A = some ⟨b, off, none⟩ ∧ IsC w b ∧ w.cell? ⟨b, off + i * 2, none⟩ = some (.int .i64 x.comp) ∧ w.cell? ⟨b, off + i * 2 + 1, none⟩ = some (.slice A_data x.data.length c_data) ∧ (Lit.int .i64 x.comp).wf = true ∧ Rep.byte.Sl Q w A_data c_data x.data := by
  obtain ⟨b, off, es, h1, _, h2, h3, h4⟩ := h.get hx
  obtain ⟨A_data, c_data, e, f0, f1⟩ := rPart_open h3
  subst e
  rw [rPart_size] at h4
  exact ⟨b, off, A_data, c_data, h1, h2, h4 0 _ rfl, h4 1 _ rfl, f0, f1⟩
theorem rPart_val {Q : Nat → Prop} {w : World} {v : Value} {x : DPart} (h : rPart.val Q w v x) : ∃ (A_data : Option Addr) (c_data : Nat), v = .agg #[.int .i64 x.comp, .slice A_data x.data.length c_data] ∧ (Lit.int .i64 x.comp).wf = true ∧ Rep.byte.Sl Q w A_data c_data x.data := by
  obtain ⟨cs, rfl, h⟩ := h
  obtain ⟨A_data, c_data, e, f0, f1⟩ := rPart_open h
  subst e
  exact ⟨A_data, c_data, rfl, f0, f1⟩
theorem rPart_agg {Q : Nat → Prop} {w : World} {x : DPart} {A_data : Option Addr} {c_data : Nat} (f0 : (Lit.int .i64 x.comp).wf = true) (f1 : Rep.byte.Sl Q w A_data c_data x.data) : rPart.val Q w (.agg #[.int .i64 x.comp, .slice A_data x.data.length c_data]) x := ⟨_, rfl, rPart_mk f0 f1⟩

@[ext] structure DEnt where
  id : DID
  parts : List DPart
  deriving DecidableEq

def rEnt : Rep DEnt := (rID.pair rPart.list).iso fun x => (x.id, x.parts)
theorem rEnt_size : rEnt.size = 3 := rfl
theorem rEnt_open {Q : Nat → Prop} {w : World} {cs : List Value} {x : DEnt} (h : rEnt.rd Q w cs x) : ∃ (A_parts : Option Addr) (c_parts : Nat), cs = [.int .i64 x.id.index, .int .i64 x.id.gen, .slice A_parts x.parts.length c_parts] ∧ (Lit.int .i64 x.id.index).wf = true ∧ (Lit.int .i64 x.id.gen).wf = true ∧ rPart.Sl Q w A_parts c_parts x.parts := by
  obtain ⟨a0, b0, rfl, h0, g0⟩ := h
  obtain ⟨e0, w0_0, w0_1⟩ := rID_open h0
  subst e0
  obtain ⟨A1, c1, e1, w1⟩ := Rep.rd_sl g0
  subst e1
  exact ⟨A1, c1, rfl, w0_0, w0_1, w1⟩
theorem rEnt_mk {Q : Nat → Prop} {w : World} {x : DEnt} {A_parts : Option Addr} {c_parts : Nat} (f0 : (Lit.int .i64 x.id.index).wf = true) (f1 : (Lit.int .i64 x.id.gen).wf = true) (f2 : rPart.Sl Q w A_parts c_parts x.parts) : rEnt.rd Q w [.int .i64 x.id.index, .int .i64 x.id.gen, .slice A_parts x.parts.length c_parts] x := by
  exact ⟨_, _, rfl, rID_mk f0 f1, Rep.sl_rd f2⟩
theorem rEnt_at {Q : Nat → Prop} {w : World} {A : Option Addr} {xs : List DEnt} (h : rEnt.At Q w A xs) {i : Nat} {x : DEnt} (hx : xs[i]? = some x) :
    ∃ (b off : Nat) (A_parts : Option Addr) (c_parts : Nat), A = some ⟨b, off, none⟩ ∧ IsC w b ∧ w.cell? ⟨b, off + i * 3, none⟩ = some (.int .i64 x.id.index) ∧ w.cell? ⟨b, off + i * 3 + 1, none⟩ = some (.int .i64 x.id.gen) ∧ w.cell? ⟨b, off + i * 3 + 2, none⟩ = some (.slice A_parts x.parts.length c_parts) ∧ (Lit.int .i64 x.id.index).wf = true ∧ (Lit.int .i64 x.id.gen).wf = true ∧ rPart.Sl Q w A_parts c_parts x.parts := by
  obtain ⟨b, off, es, h1, _, h2, h3, h4⟩ := h.get hx
  obtain ⟨A_parts, c_parts, e, f0, f1, f2⟩ := rEnt_open h3
  subst e
  rw [rEnt_size] at h4
  exact ⟨b, off, A_parts, c_parts, h1, h2, h4 0 _ rfl, h4 1 _ rfl, h4 2 _ rfl, f0, f1, f2⟩
theorem rEnt_val {Q : Nat → Prop} {w : World} {v : Value} {x : DEnt} (h : rEnt.val Q w v x) : ∃ (A_parts : Option Addr) (c_parts : Nat), v = .agg #[.int .i64 x.id.index, .int .i64 x.id.gen, .slice A_parts x.parts.length c_parts] ∧ (Lit.int .i64 x.id.index).wf = true ∧ (Lit.int .i64 x.id.gen).wf = true ∧ rPart.Sl Q w A_parts c_parts x.parts := by
  obtain ⟨cs, rfl, h⟩ := h
  obtain ⟨A_parts, c_parts, e, f0, f1, f2⟩ := rEnt_open h
  subst e
  exact ⟨A_parts, c_parts, rfl, f0, f1, f2⟩
theorem rEnt_agg {Q : Nat → Prop} {w : World} {x : DEnt} {A_parts : Option Addr} {c_parts : Nat} (f0 : (Lit.int .i64 x.id.index).wf = true) (f1 : (Lit.int .i64 x.id.gen).wf = true) (f2 : rPart.Sl Q w A_parts c_parts x.parts) : rEnt.val Q w (.agg #[.int .i64 x.id.index, .int .i64 x.id.gen, .slice A_parts x.parts.length c_parts]) x := ⟨_, rfl, rEnt_mk f0 f1 f2⟩

@[ext] structure DState where
  gens : List Int
  free : List Int
  ents : List DEnt
  deriving DecidableEq

def rState : Rep DState := ((Rep.int .i64).list.pair ((Rep.int .i64).list.pair rEnt.list)).iso fun x => (x.gens, x.free, x.ents)
theorem rState_size : rState.size = 3 := rfl
theorem rState_open {Q : Nat → Prop} {w : World} {cs : List Value} {x : DState} (h : rState.rd Q w cs x) : ∃ (A_gens : Option Addr) (c_gens : Nat) (A_free : Option Addr) (c_free : Nat) (A_ents : Option Addr) (c_ents : Nat), cs = [.slice A_gens x.gens.length c_gens, .slice A_free x.free.length c_free, .slice A_ents x.ents.length c_ents] ∧ (Rep.int .i64).Sl Q w A_gens c_gens x.gens ∧ (Rep.int .i64).Sl Q w A_free c_free x.free ∧ rEnt.Sl Q w A_ents c_ents x.ents := by
  obtain ⟨a0, b0, rfl, h0, g0⟩ := h
  obtain ⟨A0, c0, e0, w0⟩ := Rep.rd_sl h0
  subst e0
  obtain ⟨a1, b1, rfl, h1, g1⟩ := g0
  obtain ⟨A1, c1, e1, w1⟩ := Rep.rd_sl h1
  subst e1
  obtain ⟨A2, c2, e2, w2⟩ := Rep.rd_sl g1
  subst e2
  exact ⟨A0, c0, A1, c1, A2, c2, rfl, w0, w1, w2⟩
theorem rState_mk {Q : Nat → Prop} {w : World} {x : DState} {A_gens : Option Addr} {c_gens : Nat} {A_free : Option Addr} {c_free : Nat} {A_ents : Option Addr} {c_ents : Nat} (f0 : (Rep.int .i64).Sl Q w A_gens c_gens x.gens) (f1 : (Rep.int .i64).Sl Q w A_free c_free x.free) (f2 : rEnt.Sl Q w A_ents c_ents x.ents) : rState.rd Q w [.slice A_gens x.gens.length c_gens, .slice A_free x.free.length c_free, .slice A_ents x.ents.length c_ents] x := by
  exact ⟨_, _, rfl, Rep.sl_rd f0, ⟨_, _, rfl, Rep.sl_rd f1, Rep.sl_rd f2⟩⟩
theorem rState_at {Q : Nat → Prop} {w : World} {A : Option Addr} {xs : List DState} (h : rState.At Q w A xs) {i : Nat} {x : DState} (hx : xs[i]? = some x) :
    ∃ (b off : Nat) (A_gens : Option Addr) (c_gens : Nat) (A_free : Option Addr) (c_free : Nat) (A_ents : Option Addr) (c_ents : Nat), A = some ⟨b, off, none⟩ ∧ IsC w b ∧ w.cell? ⟨b, off + i * 3, none⟩ = some (.slice A_gens x.gens.length c_gens) ∧ w.cell? ⟨b, off + i * 3 + 1, none⟩ = some (.slice A_free x.free.length c_free) ∧ w.cell? ⟨b, off + i * 3 + 2, none⟩ = some (.slice A_ents x.ents.length c_ents) ∧ (Rep.int .i64).Sl Q w A_gens c_gens x.gens ∧ (Rep.int .i64).Sl Q w A_free c_free x.free ∧ rEnt.Sl Q w A_ents c_ents x.ents := by
  obtain ⟨b, off, es, h1, _, h2, h3, h4⟩ := h.get hx
  obtain ⟨A_gens, c_gens, A_free, c_free, A_ents, c_ents, e, f0, f1, f2⟩ := rState_open h3
  subst e
  rw [rState_size] at h4
  exact ⟨b, off, A_gens, c_gens, A_free, c_free, A_ents, c_ents, h1, h2, h4 0 _ rfl, h4 1 _ rfl, h4 2 _ rfl, f0, f1, f2⟩
theorem rState_val {Q : Nat → Prop} {w : World} {v : Value} {x : DState} (h : rState.val Q w v x) : ∃ (A_gens : Option Addr) (c_gens : Nat) (A_free : Option Addr) (c_free : Nat) (A_ents : Option Addr) (c_ents : Nat), v = .agg #[.slice A_gens x.gens.length c_gens, .slice A_free x.free.length c_free, .slice A_ents x.ents.length c_ents] ∧ (Rep.int .i64).Sl Q w A_gens c_gens x.gens ∧ (Rep.int .i64).Sl Q w A_free c_free x.free ∧ rEnt.Sl Q w A_ents c_ents x.ents := by
  obtain ⟨cs, rfl, h⟩ := h
  obtain ⟨A_gens, c_gens, A_free, c_free, A_ents, c_ents, e, f0, f1, f2⟩ := rState_open h
  subst e
  exact ⟨A_gens, c_gens, A_free, c_free, A_ents, c_ents, rfl, f0, f1, f2⟩
theorem rState_agg {Q : Nat → Prop} {w : World} {x : DState} {A_gens : Option Addr} {c_gens : Nat} {A_free : Option Addr} {c_free : Nat} {A_ents : Option Addr} {c_ents : Nat} (f0 : (Rep.int .i64).Sl Q w A_gens c_gens x.gens) (f1 : (Rep.int .i64).Sl Q w A_free c_free x.free) (f2 : rEnt.Sl Q w A_ents c_ents x.ents) : rState.val Q w (.agg #[.slice A_gens x.gens.length c_gens, .slice A_free x.free.length c_free, .slice A_ents x.ents.length c_ents]) x := ⟨_, rfl, rState_mk f0 f1 f2⟩

@[ext] structure DTerm where
  kind : Int
  comp : Int
  data : List UInt8
  deriving DecidableEq

def rTerm : Rep DTerm := ((Rep.int .i64).pair ((Rep.int .i64).pair Rep.byte.list)).iso fun x => (x.kind, x.comp, x.data)
theorem rTerm_size : rTerm.size = 3 := rfl
theorem rTerm_open {Q : Nat → Prop} {w : World} {cs : List Value} {x : DTerm} (h : rTerm.rd Q w cs x) : ∃ (A_data : Option Addr) (c_data : Nat), cs = [.int .i64 x.kind, .int .i64 x.comp, .slice A_data x.data.length c_data] ∧ (Lit.int .i64 x.kind).wf = true ∧ (Lit.int .i64 x.comp).wf = true ∧ Rep.byte.Sl Q w A_data c_data x.data := by
  obtain ⟨a0, b0, rfl, h0, g0⟩ := h
  obtain ⟨e0, w0⟩ := h0
  subst e0
  obtain ⟨a1, b1, rfl, h1, g1⟩ := g0
  obtain ⟨e1, w1⟩ := h1
  subst e1
  obtain ⟨A2, c2, e2, w2⟩ := Rep.rd_sl g1
  subst e2
  exact ⟨A2, c2, rfl, w0, w1, w2⟩
theorem rTerm_mk {Q : Nat → Prop} {w : World} {x : DTerm} {A_data : Option Addr} {c_data : Nat} (f0 : (Lit.int .i64 x.kind).wf = true) (f1 : (Lit.int .i64 x.comp).wf = true) (f2 : Rep.byte.Sl Q w A_data c_data x.data) : rTerm.rd Q w [.int .i64 x.kind, .int .i64 x.comp, .slice A_data x.data.length c_data] x := by
  exact ⟨_, _, rfl, ⟨rfl, f0⟩, ⟨_, _, rfl, ⟨rfl, f1⟩, Rep.sl_rd f2⟩⟩
theorem rTerm_at {Q : Nat → Prop} {w : World} {A : Option Addr} {xs : List DTerm} (h : rTerm.At Q w A xs) {i : Nat} {x : DTerm} (hx : xs[i]? = some x) :
    ∃ (b off : Nat) (A_data : Option Addr) (c_data : Nat), A = some ⟨b, off, none⟩ ∧ IsC w b ∧ w.cell? ⟨b, off + i * 3, none⟩ = some (.int .i64 x.kind) ∧ w.cell? ⟨b, off + i * 3 + 1, none⟩ = some (.int .i64 x.comp) ∧ w.cell? ⟨b, off + i * 3 + 2, none⟩ = some (.slice A_data x.data.length c_data) ∧ (Lit.int .i64 x.kind).wf = true ∧ (Lit.int .i64 x.comp).wf = true ∧ Rep.byte.Sl Q w A_data c_data x.data := by
  obtain ⟨b, off, es, h1, _, h2, h3, h4⟩ := h.get hx
  obtain ⟨A_data, c_data, e, f0, f1, f2⟩ := rTerm_open h3
  subst e
  rw [rTerm_size] at h4
  exact ⟨b, off, A_data, c_data, h1, h2, h4 0 _ rfl, h4 1 _ rfl, h4 2 _ rfl, f0, f1, f2⟩
theorem rTerm_val {Q : Nat → Prop} {w : World} {v : Value} {x : DTerm} (h : rTerm.val Q w v x) : ∃ (A_data : Option Addr) (c_data : Nat), v = .agg #[.int .i64 x.kind, .int .i64 x.comp, .slice A_data x.data.length c_data] ∧ (Lit.int .i64 x.kind).wf = true ∧ (Lit.int .i64 x.comp).wf = true ∧ Rep.byte.Sl Q w A_data c_data x.data := by
  obtain ⟨cs, rfl, h⟩ := h
  obtain ⟨A_data, c_data, e, f0, f1, f2⟩ := rTerm_open h
  subst e
  exact ⟨A_data, c_data, rfl, f0, f1, f2⟩
theorem rTerm_agg {Q : Nat → Prop} {w : World} {x : DTerm} {A_data : Option Addr} {c_data : Nat} (f0 : (Lit.int .i64 x.kind).wf = true) (f1 : (Lit.int .i64 x.comp).wf = true) (f2 : Rep.byte.Sl Q w A_data c_data x.data) : rTerm.val Q w (.agg #[.int .i64 x.kind, .int .i64 x.comp, .slice A_data x.data.length c_data]) x := ⟨_, rfl, rTerm_mk f0 f1 f2⟩

@[ext] structure DComp where
  name : List UInt8
  size : Int
  deriving DecidableEq

def rComp : Rep DComp := (Rep.text.pair (Rep.int .i64)).iso fun x => (x.name, x.size)
theorem rComp_size : rComp.size = 2 := rfl
theorem rComp_open {Q : Nat → Prop} {w : World} {cs : List Value} {x : DComp} (h : rComp.rd Q w cs x) : cs = [.string ⟨x.name.toArray⟩, .int .i64 x.size] ∧ x.name.length ≤ maxLen ∧ (Lit.int .i64 x.size).wf = true := by
  obtain ⟨a0, b0, rfl, h0, g0⟩ := h
  obtain ⟨e0, w0⟩ := h0
  subst e0
  obtain ⟨e1, w1⟩ := g0
  subst e1
  exact ⟨rfl, w0, w1⟩
theorem rComp_mk {Q : Nat → Prop} {w : World} {x : DComp}  (f0 : x.name.length ≤ maxLen) (f1 : (Lit.int .i64 x.size).wf = true) : rComp.rd Q w [.string ⟨x.name.toArray⟩, .int .i64 x.size] x := by
  exact ⟨_, _, rfl, ⟨rfl, f0⟩, ⟨rfl, f1⟩⟩
theorem rComp_at {Q : Nat → Prop} {w : World} {A : Option Addr} {xs : List DComp} (h : rComp.At Q w A xs) {i : Nat} {x : DComp} (hx : xs[i]? = some x) :
    ∃ (b off : Nat), A = some ⟨b, off, none⟩ ∧ IsC w b ∧ w.cell? ⟨b, off + i * 2, none⟩ = some (.string ⟨x.name.toArray⟩) ∧ w.cell? ⟨b, off + i * 2 + 1, none⟩ = some (.int .i64 x.size) ∧ x.name.length ≤ maxLen ∧ (Lit.int .i64 x.size).wf = true := by
  obtain ⟨b, off, es, h1, _, h2, h3, h4⟩ := h.get hx
  obtain ⟨e, f0, f1⟩ := rComp_open h3
  subst e
  rw [rComp_size] at h4
  exact ⟨b, off, h1, h2, h4 0 _ rfl, h4 1 _ rfl, f0, f1⟩
theorem rComp_val {Q : Nat → Prop} {w : World} {v : Value} {x : DComp} (h : rComp.val Q w v x) : v = .agg #[.string ⟨x.name.toArray⟩, .int .i64 x.size] ∧ x.name.length ≤ maxLen ∧ (Lit.int .i64 x.size).wf = true := by
  obtain ⟨cs, rfl, h⟩ := h
  obtain ⟨e, f0, f1⟩ := rComp_open h
  subst e
  exact ⟨rfl, f0, f1⟩
theorem rComp_agg {Q : Nat → Prop} {w : World} {x : DComp}  (f0 : x.name.length ≤ maxLen) (f1 : (Lit.int .i64 x.size).wf = true) : rComp.val Q w (.agg #[.string ⟨x.name.toArray⟩, .int .i64 x.size]) x := ⟨_, rfl, rComp_mk f0 f1⟩

@[ext] structure DConf where
  log : Int
  pages : Int
  entities : Int
  gens : Int
  comps : List DComp
  deriving DecidableEq

def rConf : Rep DConf := ((Rep.int .i64).pair ((Rep.int .i64).pair ((Rep.int .i64).pair ((Rep.int .i64).pair rComp.list)))).iso fun x => (x.log, x.pages, x.entities, x.gens, x.comps)
theorem rConf_size : rConf.size = 5 := rfl
theorem rConf_open {Q : Nat → Prop} {w : World} {cs : List Value} {x : DConf} (h : rConf.rd Q w cs x) : ∃ (A_comps : Option Addr) (c_comps : Nat), cs = [.int .i64 x.log, .int .i64 x.pages, .int .i64 x.entities, .int .i64 x.gens, .slice A_comps x.comps.length c_comps] ∧ (Lit.int .i64 x.log).wf = true ∧ (Lit.int .i64 x.pages).wf = true ∧ (Lit.int .i64 x.entities).wf = true ∧ (Lit.int .i64 x.gens).wf = true ∧ rComp.Sl Q w A_comps c_comps x.comps := by
  obtain ⟨a0, b0, rfl, h0, g0⟩ := h
  obtain ⟨e0, w0⟩ := h0
  subst e0
  obtain ⟨a1, b1, rfl, h1, g1⟩ := g0
  obtain ⟨e1, w1⟩ := h1
  subst e1
  obtain ⟨a2, b2, rfl, h2, g2⟩ := g1
  obtain ⟨e2, w2⟩ := h2
  subst e2
  obtain ⟨a3, b3, rfl, h3, g3⟩ := g2
  obtain ⟨e3, w3⟩ := h3
  subst e3
  obtain ⟨A4, c4, e4, w4⟩ := Rep.rd_sl g3
  subst e4
  exact ⟨A4, c4, rfl, w0, w1, w2, w3, w4⟩
theorem rConf_mk {Q : Nat → Prop} {w : World} {x : DConf} {A_comps : Option Addr} {c_comps : Nat} (f0 : (Lit.int .i64 x.log).wf = true) (f1 : (Lit.int .i64 x.pages).wf = true) (f2 : (Lit.int .i64 x.entities).wf = true) (f3 : (Lit.int .i64 x.gens).wf = true) (f4 : rComp.Sl Q w A_comps c_comps x.comps) : rConf.rd Q w [.int .i64 x.log, .int .i64 x.pages, .int .i64 x.entities, .int .i64 x.gens, .slice A_comps x.comps.length c_comps] x := by
  exact ⟨_, _, rfl, ⟨rfl, f0⟩, ⟨_, _, rfl, ⟨rfl, f1⟩, ⟨_, _, rfl, ⟨rfl, f2⟩, ⟨_, _, rfl, ⟨rfl, f3⟩, Rep.sl_rd f4⟩⟩⟩⟩
theorem rConf_at {Q : Nat → Prop} {w : World} {A : Option Addr} {xs : List DConf} (h : rConf.At Q w A xs) {i : Nat} {x : DConf} (hx : xs[i]? = some x) :
    ∃ (b off : Nat) (A_comps : Option Addr) (c_comps : Nat), A = some ⟨b, off, none⟩ ∧ IsC w b ∧ w.cell? ⟨b, off + i * 5, none⟩ = some (.int .i64 x.log) ∧ w.cell? ⟨b, off + i * 5 + 1, none⟩ = some (.int .i64 x.pages) ∧ w.cell? ⟨b, off + i * 5 + 2, none⟩ = some (.int .i64 x.entities) ∧ w.cell? ⟨b, off + i * 5 + 3, none⟩ = some (.int .i64 x.gens) ∧ w.cell? ⟨b, off + i * 5 + 4, none⟩ = some (.slice A_comps x.comps.length c_comps) ∧ (Lit.int .i64 x.log).wf = true ∧ (Lit.int .i64 x.pages).wf = true ∧ (Lit.int .i64 x.entities).wf = true ∧ (Lit.int .i64 x.gens).wf = true ∧ rComp.Sl Q w A_comps c_comps x.comps := by
  obtain ⟨b, off, es, h1, _, h2, h3, h4⟩ := h.get hx
  obtain ⟨A_comps, c_comps, e, f0, f1, f2, f3, f4⟩ := rConf_open h3
  subst e
  rw [rConf_size] at h4
  exact ⟨b, off, A_comps, c_comps, h1, h2, h4 0 _ rfl, h4 1 _ rfl, h4 2 _ rfl, h4 3 _ rfl, h4 4 _ rfl, f0, f1, f2, f3, f4⟩
theorem rConf_val {Q : Nat → Prop} {w : World} {v : Value} {x : DConf} (h : rConf.val Q w v x) : ∃ (A_comps : Option Addr) (c_comps : Nat), v = .agg #[.int .i64 x.log, .int .i64 x.pages, .int .i64 x.entities, .int .i64 x.gens, .slice A_comps x.comps.length c_comps] ∧ (Lit.int .i64 x.log).wf = true ∧ (Lit.int .i64 x.pages).wf = true ∧ (Lit.int .i64 x.entities).wf = true ∧ (Lit.int .i64 x.gens).wf = true ∧ rComp.Sl Q w A_comps c_comps x.comps := by
  obtain ⟨cs, rfl, h⟩ := h
  obtain ⟨A_comps, c_comps, e, f0, f1, f2, f3, f4⟩ := rConf_open h
  subst e
  exact ⟨A_comps, c_comps, rfl, f0, f1, f2, f3, f4⟩
theorem rConf_agg {Q : Nat → Prop} {w : World} {x : DConf} {A_comps : Option Addr} {c_comps : Nat} (f0 : (Lit.int .i64 x.log).wf = true) (f1 : (Lit.int .i64 x.pages).wf = true) (f2 : (Lit.int .i64 x.entities).wf = true) (f3 : (Lit.int .i64 x.gens).wf = true) (f4 : rComp.Sl Q w A_comps c_comps x.comps) : rConf.val Q w (.agg #[.int .i64 x.log, .int .i64 x.pages, .int .i64 x.entities, .int .i64 x.gens, .slice A_comps x.comps.length c_comps]) x := ⟨_, rfl, rConf_mk f0 f1 f2 f3 f4⟩

@[ext] structure DKey where
  kind : Int
  sig : Int
  comp : Int
  deriving DecidableEq

def rKey : Rep DKey := ((Rep.int .i64).pair ((Rep.int .u64).pair (Rep.int .i64))).iso fun x => (x.kind, x.sig, x.comp)
theorem rKey_size : rKey.size = 3 := rfl
theorem rKey_open {Q : Nat → Prop} {w : World} {cs : List Value} {x : DKey} (h : rKey.rd Q w cs x) : cs = [.int .i64 x.kind, .int .u64 x.sig, .int .i64 x.comp] ∧ (Lit.int .i64 x.kind).wf = true ∧ (Lit.int .u64 x.sig).wf = true ∧ (Lit.int .i64 x.comp).wf = true := by
  obtain ⟨a0, b0, rfl, h0, g0⟩ := h
  obtain ⟨e0, w0⟩ := h0
  subst e0
  obtain ⟨a1, b1, rfl, h1, g1⟩ := g0
  obtain ⟨e1, w1⟩ := h1
  subst e1
  obtain ⟨e2, w2⟩ := g1
  subst e2
  exact ⟨rfl, w0, w1, w2⟩
theorem rKey_mk {Q : Nat → Prop} {w : World} {x : DKey}  (f0 : (Lit.int .i64 x.kind).wf = true) (f1 : (Lit.int .u64 x.sig).wf = true) (f2 : (Lit.int .i64 x.comp).wf = true) : rKey.rd Q w [.int .i64 x.kind, .int .u64 x.sig, .int .i64 x.comp] x := by
  exact ⟨_, _, rfl, ⟨rfl, f0⟩, ⟨_, _, rfl, ⟨rfl, f1⟩, ⟨rfl, f2⟩⟩⟩
theorem rKey_at {Q : Nat → Prop} {w : World} {A : Option Addr} {xs : List DKey} (h : rKey.At Q w A xs) {i : Nat} {x : DKey} (hx : xs[i]? = some x) :
    ∃ (b off : Nat), A = some ⟨b, off, none⟩ ∧ IsC w b ∧ w.cell? ⟨b, off + i * 3, none⟩ = some (.int .i64 x.kind) ∧ w.cell? ⟨b, off + i * 3 + 1, none⟩ = some (.int .u64 x.sig) ∧ w.cell? ⟨b, off + i * 3 + 2, none⟩ = some (.int .i64 x.comp) ∧ (Lit.int .i64 x.kind).wf = true ∧ (Lit.int .u64 x.sig).wf = true ∧ (Lit.int .i64 x.comp).wf = true := by
  obtain ⟨b, off, es, h1, _, h2, h3, h4⟩ := h.get hx
  obtain ⟨e, f0, f1, f2⟩ := rKey_open h3
  subst e
  rw [rKey_size] at h4
  exact ⟨b, off, h1, h2, h4 0 _ rfl, h4 1 _ rfl, h4 2 _ rfl, f0, f1, f2⟩
theorem rKey_val {Q : Nat → Prop} {w : World} {v : Value} {x : DKey} (h : rKey.val Q w v x) : v = .agg #[.int .i64 x.kind, .int .u64 x.sig, .int .i64 x.comp] ∧ (Lit.int .i64 x.kind).wf = true ∧ (Lit.int .u64 x.sig).wf = true ∧ (Lit.int .i64 x.comp).wf = true := by
  obtain ⟨cs, rfl, h⟩ := h
  obtain ⟨e, f0, f1, f2⟩ := rKey_open h
  subst e
  exact ⟨rfl, f0, f1, f2⟩
theorem rKey_agg {Q : Nat → Prop} {w : World} {x : DKey}  (f0 : (Lit.int .i64 x.kind).wf = true) (f1 : (Lit.int .u64 x.sig).wf = true) (f2 : (Lit.int .i64 x.comp).wf = true) : rKey.val Q w (.agg #[.int .i64 x.kind, .int .u64 x.sig, .int .i64 x.comp]) x := ⟨_, rfl, rKey_mk f0 f1 f2⟩

@[ext] structure DStream where
  key : DKey
  data : List UInt8
  deriving DecidableEq

def rStream : Rep DStream := (rKey.pair Rep.byte.list).iso fun x => (x.key, x.data)
theorem rStream_size : rStream.size = 4 := rfl
theorem rStream_open {Q : Nat → Prop} {w : World} {cs : List Value} {x : DStream} (h : rStream.rd Q w cs x) : ∃ (A_data : Option Addr) (c_data : Nat), cs = [.int .i64 x.key.kind, .int .u64 x.key.sig, .int .i64 x.key.comp, .slice A_data x.data.length c_data] ∧ (Lit.int .i64 x.key.kind).wf = true ∧ (Lit.int .u64 x.key.sig).wf = true ∧ (Lit.int .i64 x.key.comp).wf = true ∧ Rep.byte.Sl Q w A_data c_data x.data := by
  obtain ⟨a0, b0, rfl, h0, g0⟩ := h
  obtain ⟨e0, w0_0, w0_1, w0_2⟩ := rKey_open h0
  subst e0
  obtain ⟨A1, c1, e1, w1⟩ := Rep.rd_sl g0
  subst e1
  exact ⟨A1, c1, rfl, w0_0, w0_1, w0_2, w1⟩
theorem rStream_mk {Q : Nat → Prop} {w : World} {x : DStream} {A_data : Option Addr} {c_data : Nat} (f0 : (Lit.int .i64 x.key.kind).wf = true) (f1 : (Lit.int .u64 x.key.sig).wf = true) (f2 : (Lit.int .i64 x.key.comp).wf = true) (f3 : Rep.byte.Sl Q w A_data c_data x.data) : rStream.rd Q w [.int .i64 x.key.kind, .int .u64 x.key.sig, .int .i64 x.key.comp, .slice A_data x.data.length c_data] x := by
  exact ⟨_, _, rfl, rKey_mk f0 f1 f2, Rep.sl_rd f3⟩
theorem rStream_at {Q : Nat → Prop} {w : World} {A : Option Addr} {xs : List DStream} (h : rStream.At Q w A xs) {i : Nat} {x : DStream} (hx : xs[i]? = some x) :
    ∃ (b off : Nat) (A_data : Option Addr) (c_data : Nat), A = some ⟨b, off, none⟩ ∧ IsC w b ∧ w.cell? ⟨b, off + i * 4, none⟩ = some (.int .i64 x.key.kind) ∧ w.cell? ⟨b, off + i * 4 + 1, none⟩ = some (.int .u64 x.key.sig) ∧ w.cell? ⟨b, off + i * 4 + 2, none⟩ = some (.int .i64 x.key.comp) ∧ w.cell? ⟨b, off + i * 4 + 3, none⟩ = some (.slice A_data x.data.length c_data) ∧ (Lit.int .i64 x.key.kind).wf = true ∧ (Lit.int .u64 x.key.sig).wf = true ∧ (Lit.int .i64 x.key.comp).wf = true ∧ Rep.byte.Sl Q w A_data c_data x.data := by
  obtain ⟨b, off, es, h1, _, h2, h3, h4⟩ := h.get hx
  obtain ⟨A_data, c_data, e, f0, f1, f2, f3⟩ := rStream_open h3
  subst e
  rw [rStream_size] at h4
  exact ⟨b, off, A_data, c_data, h1, h2, h4 0 _ rfl, h4 1 _ rfl, h4 2 _ rfl, h4 3 _ rfl, f0, f1, f2, f3⟩
theorem rStream_val {Q : Nat → Prop} {w : World} {v : Value} {x : DStream} (h : rStream.val Q w v x) : ∃ (A_data : Option Addr) (c_data : Nat), v = .agg #[.int .i64 x.key.kind, .int .u64 x.key.sig, .int .i64 x.key.comp, .slice A_data x.data.length c_data] ∧ (Lit.int .i64 x.key.kind).wf = true ∧ (Lit.int .u64 x.key.sig).wf = true ∧ (Lit.int .i64 x.key.comp).wf = true ∧ Rep.byte.Sl Q w A_data c_data x.data := by
  obtain ⟨cs, rfl, h⟩ := h
  obtain ⟨A_data, c_data, e, f0, f1, f2, f3⟩ := rStream_open h
  subst e
  exact ⟨A_data, c_data, rfl, f0, f1, f2, f3⟩
theorem rStream_agg {Q : Nat → Prop} {w : World} {x : DStream} {A_data : Option Addr} {c_data : Nat} (f0 : (Lit.int .i64 x.key.kind).wf = true) (f1 : (Lit.int .u64 x.key.sig).wf = true) (f2 : (Lit.int .i64 x.key.comp).wf = true) (f3 : Rep.byte.Sl Q w A_data c_data x.data) : rStream.val Q w (.agg #[.int .i64 x.key.kind, .int .u64 x.key.sig, .int .i64 x.key.comp, .slice A_data x.data.length c_data]) x := ⟨_, rfl, rStream_mk f0 f1 f2 f3⟩

@[ext] structure DFlow where
  key : DKey
  data : List UInt8
  pages : List Int
  deriving DecidableEq

def rFlow : Rep DFlow := (rKey.pair (Rep.byte.list.pair (Rep.int .i64).list)).iso fun x => (x.key, x.data, x.pages)
theorem rFlow_size : rFlow.size = 5 := rfl
theorem rFlow_open {Q : Nat → Prop} {w : World} {cs : List Value} {x : DFlow} (h : rFlow.rd Q w cs x) : ∃ (A_data : Option Addr) (c_data : Nat) (A_pages : Option Addr) (c_pages : Nat), cs = [.int .i64 x.key.kind, .int .u64 x.key.sig, .int .i64 x.key.comp, .slice A_data x.data.length c_data, .slice A_pages x.pages.length c_pages] ∧ (Lit.int .i64 x.key.kind).wf = true ∧ (Lit.int .u64 x.key.sig).wf = true ∧ (Lit.int .i64 x.key.comp).wf = true ∧ Rep.byte.Sl Q w A_data c_data x.data ∧ (Rep.int .i64).Sl Q w A_pages c_pages x.pages := by
  obtain ⟨a0, b0, rfl, h0, g0⟩ := h
  obtain ⟨e0, w0_0, w0_1, w0_2⟩ := rKey_open h0
  subst e0
  obtain ⟨a1, b1, rfl, h1, g1⟩ := g0
  obtain ⟨A1, c1, e1, w1⟩ := Rep.rd_sl h1
  subst e1
  obtain ⟨A2, c2, e2, w2⟩ := Rep.rd_sl g1
  subst e2
  exact ⟨A1, c1, A2, c2, rfl, w0_0, w0_1, w0_2, w1, w2⟩
theorem rFlow_mk {Q : Nat → Prop} {w : World} {x : DFlow} {A_data : Option Addr} {c_data : Nat} {A_pages : Option Addr} {c_pages : Nat} (f0 : (Lit.int .i64 x.key.kind).wf = true) (f1 : (Lit.int .u64 x.key.sig).wf = true) (f2 : (Lit.int .i64 x.key.comp).wf = true) (f3 : Rep.byte.Sl Q w A_data c_data x.data) (f4 : (Rep.int .i64).Sl Q w A_pages c_pages x.pages) : rFlow.rd Q w [.int .i64 x.key.kind, .int .u64 x.key.sig, .int .i64 x.key.comp, .slice A_data x.data.length c_data, .slice A_pages x.pages.length c_pages] x := by
  exact ⟨_, _, rfl, rKey_mk f0 f1 f2, ⟨_, _, rfl, Rep.sl_rd f3, Rep.sl_rd f4⟩⟩
theorem rFlow_at {Q : Nat → Prop} {w : World} {A : Option Addr} {xs : List DFlow} (h : rFlow.At Q w A xs) {i : Nat} {x : DFlow} (hx : xs[i]? = some x) :
    ∃ (b off : Nat) (A_data : Option Addr) (c_data : Nat) (A_pages : Option Addr) (c_pages : Nat), A = some ⟨b, off, none⟩ ∧ IsC w b ∧ w.cell? ⟨b, off + i * 5, none⟩ = some (.int .i64 x.key.kind) ∧ w.cell? ⟨b, off + i * 5 + 1, none⟩ = some (.int .u64 x.key.sig) ∧ w.cell? ⟨b, off + i * 5 + 2, none⟩ = some (.int .i64 x.key.comp) ∧ w.cell? ⟨b, off + i * 5 + 3, none⟩ = some (.slice A_data x.data.length c_data) ∧ w.cell? ⟨b, off + i * 5 + 4, none⟩ = some (.slice A_pages x.pages.length c_pages) ∧ (Lit.int .i64 x.key.kind).wf = true ∧ (Lit.int .u64 x.key.sig).wf = true ∧ (Lit.int .i64 x.key.comp).wf = true ∧ Rep.byte.Sl Q w A_data c_data x.data ∧ (Rep.int .i64).Sl Q w A_pages c_pages x.pages := by
  obtain ⟨b, off, es, h1, _, h2, h3, h4⟩ := h.get hx
  obtain ⟨A_data, c_data, A_pages, c_pages, e, f0, f1, f2, f3, f4⟩ := rFlow_open h3
  subst e
  rw [rFlow_size] at h4
  exact ⟨b, off, A_data, c_data, A_pages, c_pages, h1, h2, h4 0 _ rfl, h4 1 _ rfl, h4 2 _ rfl, h4 3 _ rfl, h4 4 _ rfl, f0, f1, f2, f3, f4⟩
theorem rFlow_val {Q : Nat → Prop} {w : World} {v : Value} {x : DFlow} (h : rFlow.val Q w v x) : ∃ (A_data : Option Addr) (c_data : Nat) (A_pages : Option Addr) (c_pages : Nat), v = .agg #[.int .i64 x.key.kind, .int .u64 x.key.sig, .int .i64 x.key.comp, .slice A_data x.data.length c_data, .slice A_pages x.pages.length c_pages] ∧ (Lit.int .i64 x.key.kind).wf = true ∧ (Lit.int .u64 x.key.sig).wf = true ∧ (Lit.int .i64 x.key.comp).wf = true ∧ Rep.byte.Sl Q w A_data c_data x.data ∧ (Rep.int .i64).Sl Q w A_pages c_pages x.pages := by
  obtain ⟨cs, rfl, h⟩ := h
  obtain ⟨A_data, c_data, A_pages, c_pages, e, f0, f1, f2, f3, f4⟩ := rFlow_open h
  subst e
  exact ⟨A_data, c_data, A_pages, c_pages, rfl, f0, f1, f2, f3, f4⟩
theorem rFlow_agg {Q : Nat → Prop} {w : World} {x : DFlow} {A_data : Option Addr} {c_data : Nat} {A_pages : Option Addr} {c_pages : Nat} (f0 : (Lit.int .i64 x.key.kind).wf = true) (f1 : (Lit.int .u64 x.key.sig).wf = true) (f2 : (Lit.int .i64 x.key.comp).wf = true) (f3 : Rep.byte.Sl Q w A_data c_data x.data) (f4 : (Rep.int .i64).Sl Q w A_pages c_pages x.pages) : rFlow.val Q w (.agg #[.int .i64 x.key.kind, .int .u64 x.key.sig, .int .i64 x.key.comp, .slice A_data x.data.length c_data, .slice A_pages x.pages.length c_pages]) x := ⟨_, rfl, rFlow_mk f0 f1 f2 f3 f4⟩

@[ext] structure DEntry where
  key : DKey
  long : Int
  pages : List Int
  deriving DecidableEq

def rEntry : Rep DEntry := (rKey.pair ((Rep.int .i64).pair (Rep.int .i64).list)).iso fun x => (x.key, x.long, x.pages)
theorem rEntry_size : rEntry.size = 5 := rfl
theorem rEntry_open {Q : Nat → Prop} {w : World} {cs : List Value} {x : DEntry} (h : rEntry.rd Q w cs x) : ∃ (A_pages : Option Addr) (c_pages : Nat), cs = [.int .i64 x.key.kind, .int .u64 x.key.sig, .int .i64 x.key.comp, .int .i64 x.long, .slice A_pages x.pages.length c_pages] ∧ (Lit.int .i64 x.key.kind).wf = true ∧ (Lit.int .u64 x.key.sig).wf = true ∧ (Lit.int .i64 x.key.comp).wf = true ∧ (Lit.int .i64 x.long).wf = true ∧ (Rep.int .i64).Sl Q w A_pages c_pages x.pages := by
  obtain ⟨a0, b0, rfl, h0, g0⟩ := h
  obtain ⟨e0, w0_0, w0_1, w0_2⟩ := rKey_open h0
  subst e0
  obtain ⟨a1, b1, rfl, h1, g1⟩ := g0
  obtain ⟨e1, w1⟩ := h1
  subst e1
  obtain ⟨A2, c2, e2, w2⟩ := Rep.rd_sl g1
  subst e2
  exact ⟨A2, c2, rfl, w0_0, w0_1, w0_2, w1, w2⟩
theorem rEntry_mk {Q : Nat → Prop} {w : World} {x : DEntry} {A_pages : Option Addr} {c_pages : Nat} (f0 : (Lit.int .i64 x.key.kind).wf = true) (f1 : (Lit.int .u64 x.key.sig).wf = true) (f2 : (Lit.int .i64 x.key.comp).wf = true) (f3 : (Lit.int .i64 x.long).wf = true) (f4 : (Rep.int .i64).Sl Q w A_pages c_pages x.pages) : rEntry.rd Q w [.int .i64 x.key.kind, .int .u64 x.key.sig, .int .i64 x.key.comp, .int .i64 x.long, .slice A_pages x.pages.length c_pages] x := by
  exact ⟨_, _, rfl, rKey_mk f0 f1 f2, ⟨_, _, rfl, ⟨rfl, f3⟩, Rep.sl_rd f4⟩⟩
theorem rEntry_at {Q : Nat → Prop} {w : World} {A : Option Addr} {xs : List DEntry} (h : rEntry.At Q w A xs) {i : Nat} {x : DEntry} (hx : xs[i]? = some x) :
    ∃ (b off : Nat) (A_pages : Option Addr) (c_pages : Nat), A = some ⟨b, off, none⟩ ∧ IsC w b ∧ w.cell? ⟨b, off + i * 5, none⟩ = some (.int .i64 x.key.kind) ∧ w.cell? ⟨b, off + i * 5 + 1, none⟩ = some (.int .u64 x.key.sig) ∧ w.cell? ⟨b, off + i * 5 + 2, none⟩ = some (.int .i64 x.key.comp) ∧ w.cell? ⟨b, off + i * 5 + 3, none⟩ = some (.int .i64 x.long) ∧ w.cell? ⟨b, off + i * 5 + 4, none⟩ = some (.slice A_pages x.pages.length c_pages) ∧ (Lit.int .i64 x.key.kind).wf = true ∧ (Lit.int .u64 x.key.sig).wf = true ∧ (Lit.int .i64 x.key.comp).wf = true ∧ (Lit.int .i64 x.long).wf = true ∧ (Rep.int .i64).Sl Q w A_pages c_pages x.pages := by
  obtain ⟨b, off, es, h1, _, h2, h3, h4⟩ := h.get hx
  obtain ⟨A_pages, c_pages, e, f0, f1, f2, f3, f4⟩ := rEntry_open h3
  subst e
  rw [rEntry_size] at h4
  exact ⟨b, off, A_pages, c_pages, h1, h2, h4 0 _ rfl, h4 1 _ rfl, h4 2 _ rfl, h4 3 _ rfl, h4 4 _ rfl, f0, f1, f2, f3, f4⟩
theorem rEntry_val {Q : Nat → Prop} {w : World} {v : Value} {x : DEntry} (h : rEntry.val Q w v x) : ∃ (A_pages : Option Addr) (c_pages : Nat), v = .agg #[.int .i64 x.key.kind, .int .u64 x.key.sig, .int .i64 x.key.comp, .int .i64 x.long, .slice A_pages x.pages.length c_pages] ∧ (Lit.int .i64 x.key.kind).wf = true ∧ (Lit.int .u64 x.key.sig).wf = true ∧ (Lit.int .i64 x.key.comp).wf = true ∧ (Lit.int .i64 x.long).wf = true ∧ (Rep.int .i64).Sl Q w A_pages c_pages x.pages := by
  obtain ⟨cs, rfl, h⟩ := h
  obtain ⟨A_pages, c_pages, e, f0, f1, f2, f3, f4⟩ := rEntry_open h
  subst e
  exact ⟨A_pages, c_pages, rfl, f0, f1, f2, f3, f4⟩
theorem rEntry_agg {Q : Nat → Prop} {w : World} {x : DEntry} {A_pages : Option Addr} {c_pages : Nat} (f0 : (Lit.int .i64 x.key.kind).wf = true) (f1 : (Lit.int .u64 x.key.sig).wf = true) (f2 : (Lit.int .i64 x.key.comp).wf = true) (f3 : (Lit.int .i64 x.long).wf = true) (f4 : (Rep.int .i64).Sl Q w A_pages c_pages x.pages) : rEntry.val Q w (.agg #[.int .i64 x.key.kind, .int .u64 x.key.sig, .int .i64 x.key.comp, .int .i64 x.long, .slice A_pages x.pages.length c_pages]) x := ⟨_, rfl, rEntry_mk f0 f1 f2 f3 f4⟩

@[ext] structure DSuper where
  epoch : Int
  gen : Int
  log : Int
  pages : Int
  head : Int
  seq : Int
  long : Int
  dir : List Int
  deriving DecidableEq

def rSuper : Rep DSuper := ((Rep.int .i64).pair ((Rep.int .i64).pair ((Rep.int .i64).pair ((Rep.int .i64).pair ((Rep.int .i64).pair ((Rep.int .i64).pair ((Rep.int .i64).pair (Rep.int .i64).list))))))).iso fun x => (x.epoch, x.gen, x.log, x.pages, x.head, x.seq, x.long, x.dir)
theorem rSuper_size : rSuper.size = 8 := rfl
theorem rSuper_open {Q : Nat → Prop} {w : World} {cs : List Value} {x : DSuper} (h : rSuper.rd Q w cs x) : ∃ (A_dir : Option Addr) (c_dir : Nat), cs = [.int .i64 x.epoch, .int .i64 x.gen, .int .i64 x.log, .int .i64 x.pages, .int .i64 x.head, .int .i64 x.seq, .int .i64 x.long, .slice A_dir x.dir.length c_dir] ∧ (Lit.int .i64 x.epoch).wf = true ∧ (Lit.int .i64 x.gen).wf = true ∧ (Lit.int .i64 x.log).wf = true ∧ (Lit.int .i64 x.pages).wf = true ∧ (Lit.int .i64 x.head).wf = true ∧ (Lit.int .i64 x.seq).wf = true ∧ (Lit.int .i64 x.long).wf = true ∧ (Rep.int .i64).Sl Q w A_dir c_dir x.dir := by
  obtain ⟨a0, b0, rfl, h0, g0⟩ := h
  obtain ⟨e0, w0⟩ := h0
  subst e0
  obtain ⟨a1, b1, rfl, h1, g1⟩ := g0
  obtain ⟨e1, w1⟩ := h1
  subst e1
  obtain ⟨a2, b2, rfl, h2, g2⟩ := g1
  obtain ⟨e2, w2⟩ := h2
  subst e2
  obtain ⟨a3, b3, rfl, h3, g3⟩ := g2
  obtain ⟨e3, w3⟩ := h3
  subst e3
  obtain ⟨a4, b4, rfl, h4, g4⟩ := g3
  obtain ⟨e4, w4⟩ := h4
  subst e4
  obtain ⟨a5, b5, rfl, h5, g5⟩ := g4
  obtain ⟨e5, w5⟩ := h5
  subst e5
  obtain ⟨a6, b6, rfl, h6, g6⟩ := g5
  obtain ⟨e6, w6⟩ := h6
  subst e6
  obtain ⟨A7, c7, e7, w7⟩ := Rep.rd_sl g6
  subst e7
  exact ⟨A7, c7, rfl, w0, w1, w2, w3, w4, w5, w6, w7⟩
theorem rSuper_mk {Q : Nat → Prop} {w : World} {x : DSuper} {A_dir : Option Addr} {c_dir : Nat} (f0 : (Lit.int .i64 x.epoch).wf = true) (f1 : (Lit.int .i64 x.gen).wf = true) (f2 : (Lit.int .i64 x.log).wf = true) (f3 : (Lit.int .i64 x.pages).wf = true) (f4 : (Lit.int .i64 x.head).wf = true) (f5 : (Lit.int .i64 x.seq).wf = true) (f6 : (Lit.int .i64 x.long).wf = true) (f7 : (Rep.int .i64).Sl Q w A_dir c_dir x.dir) : rSuper.rd Q w [.int .i64 x.epoch, .int .i64 x.gen, .int .i64 x.log, .int .i64 x.pages, .int .i64 x.head, .int .i64 x.seq, .int .i64 x.long, .slice A_dir x.dir.length c_dir] x := by
  exact ⟨_, _, rfl, ⟨rfl, f0⟩, ⟨_, _, rfl, ⟨rfl, f1⟩, ⟨_, _, rfl, ⟨rfl, f2⟩, ⟨_, _, rfl, ⟨rfl, f3⟩, ⟨_, _, rfl, ⟨rfl, f4⟩, ⟨_, _, rfl, ⟨rfl, f5⟩, ⟨_, _, rfl, ⟨rfl, f6⟩, Rep.sl_rd f7⟩⟩⟩⟩⟩⟩⟩
theorem rSuper_at {Q : Nat → Prop} {w : World} {A : Option Addr} {xs : List DSuper} (h : rSuper.At Q w A xs) {i : Nat} {x : DSuper} (hx : xs[i]? = some x) :
    ∃ (b off : Nat) (A_dir : Option Addr) (c_dir : Nat), A = some ⟨b, off, none⟩ ∧ IsC w b ∧ w.cell? ⟨b, off + i * 8, none⟩ = some (.int .i64 x.epoch) ∧ w.cell? ⟨b, off + i * 8 + 1, none⟩ = some (.int .i64 x.gen) ∧ w.cell? ⟨b, off + i * 8 + 2, none⟩ = some (.int .i64 x.log) ∧ w.cell? ⟨b, off + i * 8 + 3, none⟩ = some (.int .i64 x.pages) ∧ w.cell? ⟨b, off + i * 8 + 4, none⟩ = some (.int .i64 x.head) ∧ w.cell? ⟨b, off + i * 8 + 5, none⟩ = some (.int .i64 x.seq) ∧ w.cell? ⟨b, off + i * 8 + 6, none⟩ = some (.int .i64 x.long) ∧ w.cell? ⟨b, off + i * 8 + 7, none⟩ = some (.slice A_dir x.dir.length c_dir) ∧ (Lit.int .i64 x.epoch).wf = true ∧ (Lit.int .i64 x.gen).wf = true ∧ (Lit.int .i64 x.log).wf = true ∧ (Lit.int .i64 x.pages).wf = true ∧ (Lit.int .i64 x.head).wf = true ∧ (Lit.int .i64 x.seq).wf = true ∧ (Lit.int .i64 x.long).wf = true ∧ (Rep.int .i64).Sl Q w A_dir c_dir x.dir := by
  obtain ⟨b, off, es, h1, _, h2, h3, h4⟩ := h.get hx
  obtain ⟨A_dir, c_dir, e, f0, f1, f2, f3, f4, f5, f6, f7⟩ := rSuper_open h3
  subst e
  rw [rSuper_size] at h4
  exact ⟨b, off, A_dir, c_dir, h1, h2, h4 0 _ rfl, h4 1 _ rfl, h4 2 _ rfl, h4 3 _ rfl, h4 4 _ rfl, h4 5 _ rfl, h4 6 _ rfl, h4 7 _ rfl, f0, f1, f2, f3, f4, f5, f6, f7⟩
theorem rSuper_val {Q : Nat → Prop} {w : World} {v : Value} {x : DSuper} (h : rSuper.val Q w v x) : ∃ (A_dir : Option Addr) (c_dir : Nat), v = .agg #[.int .i64 x.epoch, .int .i64 x.gen, .int .i64 x.log, .int .i64 x.pages, .int .i64 x.head, .int .i64 x.seq, .int .i64 x.long, .slice A_dir x.dir.length c_dir] ∧ (Lit.int .i64 x.epoch).wf = true ∧ (Lit.int .i64 x.gen).wf = true ∧ (Lit.int .i64 x.log).wf = true ∧ (Lit.int .i64 x.pages).wf = true ∧ (Lit.int .i64 x.head).wf = true ∧ (Lit.int .i64 x.seq).wf = true ∧ (Lit.int .i64 x.long).wf = true ∧ (Rep.int .i64).Sl Q w A_dir c_dir x.dir := by
  obtain ⟨cs, rfl, h⟩ := h
  obtain ⟨A_dir, c_dir, e, f0, f1, f2, f3, f4, f5, f6, f7⟩ := rSuper_open h
  subst e
  exact ⟨A_dir, c_dir, rfl, f0, f1, f2, f3, f4, f5, f6, f7⟩
theorem rSuper_agg {Q : Nat → Prop} {w : World} {x : DSuper} {A_dir : Option Addr} {c_dir : Nat} (f0 : (Lit.int .i64 x.epoch).wf = true) (f1 : (Lit.int .i64 x.gen).wf = true) (f2 : (Lit.int .i64 x.log).wf = true) (f3 : (Lit.int .i64 x.pages).wf = true) (f4 : (Lit.int .i64 x.head).wf = true) (f5 : (Lit.int .i64 x.seq).wf = true) (f6 : (Lit.int .i64 x.long).wf = true) (f7 : (Rep.int .i64).Sl Q w A_dir c_dir x.dir) : rSuper.val Q w (.agg #[.int .i64 x.epoch, .int .i64 x.gen, .int .i64 x.log, .int .i64 x.pages, .int .i64 x.head, .int .i64 x.seq, .int .i64 x.long, .slice A_dir x.dir.length c_dir]) x := ⟨_, rfl, rSuper_mk f0 f1 f2 f3 f4 f5 f6 f7⟩

@[ext] structure DSeal where
  epoch : Int
  no : Int
  kind : Int
  body : List UInt8
  deriving DecidableEq

def rSeal : Rep DSeal := ((Rep.int .i64).pair ((Rep.int .i64).pair ((Rep.int .i64).pair Rep.byte.list))).iso fun x => (x.epoch, x.no, x.kind, x.body)
theorem rSeal_size : rSeal.size = 4 := rfl
theorem rSeal_open {Q : Nat → Prop} {w : World} {cs : List Value} {x : DSeal} (h : rSeal.rd Q w cs x) : ∃ (A_body : Option Addr) (c_body : Nat), cs = [.int .i64 x.epoch, .int .i64 x.no, .int .i64 x.kind, .slice A_body x.body.length c_body] ∧ (Lit.int .i64 x.epoch).wf = true ∧ (Lit.int .i64 x.no).wf = true ∧ (Lit.int .i64 x.kind).wf = true ∧ Rep.byte.Sl Q w A_body c_body x.body := by
  obtain ⟨a0, b0, rfl, h0, g0⟩ := h
  obtain ⟨e0, w0⟩ := h0
  subst e0
  obtain ⟨a1, b1, rfl, h1, g1⟩ := g0
  obtain ⟨e1, w1⟩ := h1
  subst e1
  obtain ⟨a2, b2, rfl, h2, g2⟩ := g1
  obtain ⟨e2, w2⟩ := h2
  subst e2
  obtain ⟨A3, c3, e3, w3⟩ := Rep.rd_sl g2
  subst e3
  exact ⟨A3, c3, rfl, w0, w1, w2, w3⟩
theorem rSeal_mk {Q : Nat → Prop} {w : World} {x : DSeal} {A_body : Option Addr} {c_body : Nat} (f0 : (Lit.int .i64 x.epoch).wf = true) (f1 : (Lit.int .i64 x.no).wf = true) (f2 : (Lit.int .i64 x.kind).wf = true) (f3 : Rep.byte.Sl Q w A_body c_body x.body) : rSeal.rd Q w [.int .i64 x.epoch, .int .i64 x.no, .int .i64 x.kind, .slice A_body x.body.length c_body] x := by
  exact ⟨_, _, rfl, ⟨rfl, f0⟩, ⟨_, _, rfl, ⟨rfl, f1⟩, ⟨_, _, rfl, ⟨rfl, f2⟩, Rep.sl_rd f3⟩⟩⟩
theorem rSeal_at {Q : Nat → Prop} {w : World} {A : Option Addr} {xs : List DSeal} (h : rSeal.At Q w A xs) {i : Nat} {x : DSeal} (hx : xs[i]? = some x) :
    ∃ (b off : Nat) (A_body : Option Addr) (c_body : Nat), A = some ⟨b, off, none⟩ ∧ IsC w b ∧ w.cell? ⟨b, off + i * 4, none⟩ = some (.int .i64 x.epoch) ∧ w.cell? ⟨b, off + i * 4 + 1, none⟩ = some (.int .i64 x.no) ∧ w.cell? ⟨b, off + i * 4 + 2, none⟩ = some (.int .i64 x.kind) ∧ w.cell? ⟨b, off + i * 4 + 3, none⟩ = some (.slice A_body x.body.length c_body) ∧ (Lit.int .i64 x.epoch).wf = true ∧ (Lit.int .i64 x.no).wf = true ∧ (Lit.int .i64 x.kind).wf = true ∧ Rep.byte.Sl Q w A_body c_body x.body := by
  obtain ⟨b, off, es, h1, _, h2, h3, h4⟩ := h.get hx
  obtain ⟨A_body, c_body, e, f0, f1, f2, f3⟩ := rSeal_open h3
  subst e
  rw [rSeal_size] at h4
  exact ⟨b, off, A_body, c_body, h1, h2, h4 0 _ rfl, h4 1 _ rfl, h4 2 _ rfl, h4 3 _ rfl, f0, f1, f2, f3⟩
theorem rSeal_val {Q : Nat → Prop} {w : World} {v : Value} {x : DSeal} (h : rSeal.val Q w v x) : ∃ (A_body : Option Addr) (c_body : Nat), v = .agg #[.int .i64 x.epoch, .int .i64 x.no, .int .i64 x.kind, .slice A_body x.body.length c_body] ∧ (Lit.int .i64 x.epoch).wf = true ∧ (Lit.int .i64 x.no).wf = true ∧ (Lit.int .i64 x.kind).wf = true ∧ Rep.byte.Sl Q w A_body c_body x.body := by
  obtain ⟨cs, rfl, h⟩ := h
  obtain ⟨A_body, c_body, e, f0, f1, f2, f3⟩ := rSeal_open h
  subst e
  exact ⟨A_body, c_body, rfl, f0, f1, f2, f3⟩
theorem rSeal_agg {Q : Nat → Prop} {w : World} {x : DSeal} {A_body : Option Addr} {c_body : Nat} (f0 : (Lit.int .i64 x.epoch).wf = true) (f1 : (Lit.int .i64 x.no).wf = true) (f2 : (Lit.int .i64 x.kind).wf = true) (f3 : Rep.byte.Sl Q w A_body c_body x.body) : rSeal.val Q w (.agg #[.int .i64 x.epoch, .int .i64 x.no, .int .i64 x.kind, .slice A_body x.body.length c_body]) x := ⟨_, rfl, rSeal_mk f0 f1 f2 f3⟩

@[ext] structure DPolicy where
  room : Int
  frames : Int
  deriving DecidableEq

def rPolicy : Rep DPolicy := ((Rep.int .i64).pair (Rep.int .i64)).iso fun x => (x.room, x.frames)
theorem rPolicy_size : rPolicy.size = 2 := rfl
theorem rPolicy_open {Q : Nat → Prop} {w : World} {cs : List Value} {x : DPolicy} (h : rPolicy.rd Q w cs x) : cs = [.int .i64 x.room, .int .i64 x.frames] ∧ (Lit.int .i64 x.room).wf = true ∧ (Lit.int .i64 x.frames).wf = true := by
  obtain ⟨a0, b0, rfl, h0, g0⟩ := h
  obtain ⟨e0, w0⟩ := h0
  subst e0
  obtain ⟨e1, w1⟩ := g0
  subst e1
  exact ⟨rfl, w0, w1⟩
theorem rPolicy_mk {Q : Nat → Prop} {w : World} {x : DPolicy}  (f0 : (Lit.int .i64 x.room).wf = true) (f1 : (Lit.int .i64 x.frames).wf = true) : rPolicy.rd Q w [.int .i64 x.room, .int .i64 x.frames] x := by
  exact ⟨_, _, rfl, ⟨rfl, f0⟩, ⟨rfl, f1⟩⟩
theorem rPolicy_at {Q : Nat → Prop} {w : World} {A : Option Addr} {xs : List DPolicy} (h : rPolicy.At Q w A xs) {i : Nat} {x : DPolicy} (hx : xs[i]? = some x) :
    ∃ (b off : Nat), A = some ⟨b, off, none⟩ ∧ IsC w b ∧ w.cell? ⟨b, off + i * 2, none⟩ = some (.int .i64 x.room) ∧ w.cell? ⟨b, off + i * 2 + 1, none⟩ = some (.int .i64 x.frames) ∧ (Lit.int .i64 x.room).wf = true ∧ (Lit.int .i64 x.frames).wf = true := by
  obtain ⟨b, off, es, h1, _, h2, h3, h4⟩ := h.get hx
  obtain ⟨e, f0, f1⟩ := rPolicy_open h3
  subst e
  rw [rPolicy_size] at h4
  exact ⟨b, off, h1, h2, h4 0 _ rfl, h4 1 _ rfl, f0, f1⟩
theorem rPolicy_val {Q : Nat → Prop} {w : World} {v : Value} {x : DPolicy} (h : rPolicy.val Q w v x) : v = .agg #[.int .i64 x.room, .int .i64 x.frames] ∧ (Lit.int .i64 x.room).wf = true ∧ (Lit.int .i64 x.frames).wf = true := by
  obtain ⟨cs, rfl, h⟩ := h
  obtain ⟨e, f0, f1⟩ := rPolicy_open h
  subst e
  exact ⟨rfl, f0, f1⟩
theorem rPolicy_agg {Q : Nat → Prop} {w : World} {x : DPolicy}  (f0 : (Lit.int .i64 x.room).wf = true) (f1 : (Lit.int .i64 x.frames).wf = true) : rPolicy.val Q w (.agg #[.int .i64 x.room, .int .i64 x.frames]) x := ⟨_, rfl, rPolicy_mk f0 f1⟩

@[ext] structure DCmd where
  kind : Int
  loc : Bool
  id : DID
  comp : Int
  data : List UInt8
  deriving DecidableEq

def rCmd : Rep DCmd := ((Rep.int .i64).pair (Rep.bool.pair (rID.pair ((Rep.int .i64).pair Rep.byte.list)))).iso fun x => (x.kind, x.loc, x.id, x.comp, x.data)
theorem rCmd_size : rCmd.size = 6 := rfl
theorem rCmd_open {Q : Nat → Prop} {w : World} {cs : List Value} {x : DCmd} (h : rCmd.rd Q w cs x) : ∃ (A_data : Option Addr) (c_data : Nat), cs = [.int .i64 x.kind, .bool x.loc, .int .i64 x.id.index, .int .i64 x.id.gen, .int .i64 x.comp, .slice A_data x.data.length c_data] ∧ (Lit.int .i64 x.kind).wf = true ∧ (Lit.int .i64 x.id.index).wf = true ∧ (Lit.int .i64 x.id.gen).wf = true ∧ (Lit.int .i64 x.comp).wf = true ∧ Rep.byte.Sl Q w A_data c_data x.data := by
  obtain ⟨a0, b0, rfl, h0, g0⟩ := h
  obtain ⟨e0, w0⟩ := h0
  subst e0
  obtain ⟨a1, b1, rfl, h1, g1⟩ := g0
  have e1 := h1
  subst e1
  obtain ⟨a2, b2, rfl, h2, g2⟩ := g1
  obtain ⟨e2, w2_0, w2_1⟩ := rID_open h2
  subst e2
  obtain ⟨a3, b3, rfl, h3, g3⟩ := g2
  obtain ⟨e3, w3⟩ := h3
  subst e3
  obtain ⟨A4, c4, e4, w4⟩ := Rep.rd_sl g3
  subst e4
  exact ⟨A4, c4, rfl, w0, w2_0, w2_1, w3, w4⟩
theorem rCmd_mk {Q : Nat → Prop} {w : World} {x : DCmd} {A_data : Option Addr} {c_data : Nat} (f0 : (Lit.int .i64 x.kind).wf = true) (f1 : (Lit.int .i64 x.id.index).wf = true) (f2 : (Lit.int .i64 x.id.gen).wf = true) (f3 : (Lit.int .i64 x.comp).wf = true) (f4 : Rep.byte.Sl Q w A_data c_data x.data) : rCmd.rd Q w [.int .i64 x.kind, .bool x.loc, .int .i64 x.id.index, .int .i64 x.id.gen, .int .i64 x.comp, .slice A_data x.data.length c_data] x := by
  exact ⟨_, _, rfl, ⟨rfl, f0⟩, ⟨_, _, rfl, rfl, ⟨_, _, rfl, rID_mk f1 f2, ⟨_, _, rfl, ⟨rfl, f3⟩, Rep.sl_rd f4⟩⟩⟩⟩
theorem rCmd_at {Q : Nat → Prop} {w : World} {A : Option Addr} {xs : List DCmd} (h : rCmd.At Q w A xs) {i : Nat} {x : DCmd} (hx : xs[i]? = some x) :
    ∃ (b off : Nat) (A_data : Option Addr) (c_data : Nat), A = some ⟨b, off, none⟩ ∧ IsC w b ∧ w.cell? ⟨b, off + i * 6, none⟩ = some (.int .i64 x.kind) ∧ w.cell? ⟨b, off + i * 6 + 1, none⟩ = some (.bool x.loc) ∧ w.cell? ⟨b, off + i * 6 + 2, none⟩ = some (.int .i64 x.id.index) ∧ w.cell? ⟨b, off + i * 6 + 3, none⟩ = some (.int .i64 x.id.gen) ∧ w.cell? ⟨b, off + i * 6 + 4, none⟩ = some (.int .i64 x.comp) ∧ w.cell? ⟨b, off + i * 6 + 5, none⟩ = some (.slice A_data x.data.length c_data) ∧ (Lit.int .i64 x.kind).wf = true ∧ (Lit.int .i64 x.id.index).wf = true ∧ (Lit.int .i64 x.id.gen).wf = true ∧ (Lit.int .i64 x.comp).wf = true ∧ Rep.byte.Sl Q w A_data c_data x.data := by
  obtain ⟨b, off, es, h1, _, h2, h3, h4⟩ := h.get hx
  obtain ⟨A_data, c_data, e, f0, f1, f2, f3, f4⟩ := rCmd_open h3
  subst e
  rw [rCmd_size] at h4
  exact ⟨b, off, A_data, c_data, h1, h2, h4 0 _ rfl, h4 1 _ rfl, h4 2 _ rfl, h4 3 _ rfl, h4 4 _ rfl, h4 5 _ rfl, f0, f1, f2, f3, f4⟩
theorem rCmd_val {Q : Nat → Prop} {w : World} {v : Value} {x : DCmd} (h : rCmd.val Q w v x) : ∃ (A_data : Option Addr) (c_data : Nat), v = .agg #[.int .i64 x.kind, .bool x.loc, .int .i64 x.id.index, .int .i64 x.id.gen, .int .i64 x.comp, .slice A_data x.data.length c_data] ∧ (Lit.int .i64 x.kind).wf = true ∧ (Lit.int .i64 x.id.index).wf = true ∧ (Lit.int .i64 x.id.gen).wf = true ∧ (Lit.int .i64 x.comp).wf = true ∧ Rep.byte.Sl Q w A_data c_data x.data := by
  obtain ⟨cs, rfl, h⟩ := h
  obtain ⟨A_data, c_data, e, f0, f1, f2, f3, f4⟩ := rCmd_open h
  subst e
  exact ⟨A_data, c_data, rfl, f0, f1, f2, f3, f4⟩
theorem rCmd_agg {Q : Nat → Prop} {w : World} {x : DCmd} {A_data : Option Addr} {c_data : Nat} (f0 : (Lit.int .i64 x.kind).wf = true) (f1 : (Lit.int .i64 x.id.index).wf = true) (f2 : (Lit.int .i64 x.id.gen).wf = true) (f3 : (Lit.int .i64 x.comp).wf = true) (f4 : Rep.byte.Sl Q w A_data c_data x.data) : rCmd.val Q w (.agg #[.int .i64 x.kind, .bool x.loc, .int .i64 x.id.index, .int .i64 x.id.gen, .int .i64 x.comp, .slice A_data x.data.length c_data]) x := ⟨_, rfl, rCmd_mk f0 f1 f2 f3 f4⟩

@[ext] structure DEvent where
  kind : Int
  id : DID
  frame : Int
  deriving DecidableEq

def rEvent : Rep DEvent := ((Rep.int .i64).pair (rID.pair (Rep.int .i64))).iso fun x => (x.kind, x.id, x.frame)
theorem rEvent_size : rEvent.size = 4 := rfl
theorem rEvent_open {Q : Nat → Prop} {w : World} {cs : List Value} {x : DEvent} (h : rEvent.rd Q w cs x) : cs = [.int .i64 x.kind, .int .i64 x.id.index, .int .i64 x.id.gen, .int .i64 x.frame] ∧ (Lit.int .i64 x.kind).wf = true ∧ (Lit.int .i64 x.id.index).wf = true ∧ (Lit.int .i64 x.id.gen).wf = true ∧ (Lit.int .i64 x.frame).wf = true := by
  obtain ⟨a0, b0, rfl, h0, g0⟩ := h
  obtain ⟨e0, w0⟩ := h0
  subst e0
  obtain ⟨a1, b1, rfl, h1, g1⟩ := g0
  obtain ⟨e1, w1_0, w1_1⟩ := rID_open h1
  subst e1
  obtain ⟨e2, w2⟩ := g1
  subst e2
  exact ⟨rfl, w0, w1_0, w1_1, w2⟩
theorem rEvent_mk {Q : Nat → Prop} {w : World} {x : DEvent}  (f0 : (Lit.int .i64 x.kind).wf = true) (f1 : (Lit.int .i64 x.id.index).wf = true) (f2 : (Lit.int .i64 x.id.gen).wf = true) (f3 : (Lit.int .i64 x.frame).wf = true) : rEvent.rd Q w [.int .i64 x.kind, .int .i64 x.id.index, .int .i64 x.id.gen, .int .i64 x.frame] x := by
  exact ⟨_, _, rfl, ⟨rfl, f0⟩, ⟨_, _, rfl, rID_mk f1 f2, ⟨rfl, f3⟩⟩⟩
theorem rEvent_at {Q : Nat → Prop} {w : World} {A : Option Addr} {xs : List DEvent} (h : rEvent.At Q w A xs) {i : Nat} {x : DEvent} (hx : xs[i]? = some x) :
    ∃ (b off : Nat), A = some ⟨b, off, none⟩ ∧ IsC w b ∧ w.cell? ⟨b, off + i * 4, none⟩ = some (.int .i64 x.kind) ∧ w.cell? ⟨b, off + i * 4 + 1, none⟩ = some (.int .i64 x.id.index) ∧ w.cell? ⟨b, off + i * 4 + 2, none⟩ = some (.int .i64 x.id.gen) ∧ w.cell? ⟨b, off + i * 4 + 3, none⟩ = some (.int .i64 x.frame) ∧ (Lit.int .i64 x.kind).wf = true ∧ (Lit.int .i64 x.id.index).wf = true ∧ (Lit.int .i64 x.id.gen).wf = true ∧ (Lit.int .i64 x.frame).wf = true := by
  obtain ⟨b, off, es, h1, _, h2, h3, h4⟩ := h.get hx
  obtain ⟨e, f0, f1, f2, f3⟩ := rEvent_open h3
  subst e
  rw [rEvent_size] at h4
  exact ⟨b, off, h1, h2, h4 0 _ rfl, h4 1 _ rfl, h4 2 _ rfl, h4 3 _ rfl, f0, f1, f2, f3⟩
theorem rEvent_val {Q : Nat → Prop} {w : World} {v : Value} {x : DEvent} (h : rEvent.val Q w v x) : v = .agg #[.int .i64 x.kind, .int .i64 x.id.index, .int .i64 x.id.gen, .int .i64 x.frame] ∧ (Lit.int .i64 x.kind).wf = true ∧ (Lit.int .i64 x.id.index).wf = true ∧ (Lit.int .i64 x.id.gen).wf = true ∧ (Lit.int .i64 x.frame).wf = true := by
  obtain ⟨cs, rfl, h⟩ := h
  obtain ⟨e, f0, f1, f2, f3⟩ := rEvent_open h
  subst e
  exact ⟨rfl, f0, f1, f2, f3⟩
theorem rEvent_agg {Q : Nat → Prop} {w : World} {x : DEvent}  (f0 : (Lit.int .i64 x.kind).wf = true) (f1 : (Lit.int .i64 x.id.index).wf = true) (f2 : (Lit.int .i64 x.id.gen).wf = true) (f3 : (Lit.int .i64 x.frame).wf = true) : rEvent.val Q w (.agg #[.int .i64 x.kind, .int .i64 x.id.index, .int .i64 x.id.gen, .int .i64 x.frame]) x := ⟨_, rfl, rEvent_mk f0 f1 f2 f3⟩

@[ext] structure DFate where
  kept : Int
  torn : Int
  deriving DecidableEq

def rFate : Rep DFate := ((Rep.int .i64).pair (Rep.int .i64)).iso fun x => (x.kept, x.torn)
theorem rFate_size : rFate.size = 2 := rfl
theorem rFate_open {Q : Nat → Prop} {w : World} {cs : List Value} {x : DFate} (h : rFate.rd Q w cs x) : cs = [.int .i64 x.kept, .int .i64 x.torn] ∧ (Lit.int .i64 x.kept).wf = true ∧ (Lit.int .i64 x.torn).wf = true := by
  obtain ⟨a0, b0, rfl, h0, g0⟩ := h
  obtain ⟨e0, w0⟩ := h0
  subst e0
  obtain ⟨e1, w1⟩ := g0
  subst e1
  exact ⟨rfl, w0, w1⟩
theorem rFate_mk {Q : Nat → Prop} {w : World} {x : DFate}  (f0 : (Lit.int .i64 x.kept).wf = true) (f1 : (Lit.int .i64 x.torn).wf = true) : rFate.rd Q w [.int .i64 x.kept, .int .i64 x.torn] x := by
  exact ⟨_, _, rfl, ⟨rfl, f0⟩, ⟨rfl, f1⟩⟩
theorem rFate_at {Q : Nat → Prop} {w : World} {A : Option Addr} {xs : List DFate} (h : rFate.At Q w A xs) {i : Nat} {x : DFate} (hx : xs[i]? = some x) :
    ∃ (b off : Nat), A = some ⟨b, off, none⟩ ∧ IsC w b ∧ w.cell? ⟨b, off + i * 2, none⟩ = some (.int .i64 x.kept) ∧ w.cell? ⟨b, off + i * 2 + 1, none⟩ = some (.int .i64 x.torn) ∧ (Lit.int .i64 x.kept).wf = true ∧ (Lit.int .i64 x.torn).wf = true := by
  obtain ⟨b, off, es, h1, _, h2, h3, h4⟩ := h.get hx
  obtain ⟨e, f0, f1⟩ := rFate_open h3
  subst e
  rw [rFate_size] at h4
  exact ⟨b, off, h1, h2, h4 0 _ rfl, h4 1 _ rfl, f0, f1⟩
theorem rFate_val {Q : Nat → Prop} {w : World} {v : Value} {x : DFate} (h : rFate.val Q w v x) : v = .agg #[.int .i64 x.kept, .int .i64 x.torn] ∧ (Lit.int .i64 x.kept).wf = true ∧ (Lit.int .i64 x.torn).wf = true := by
  obtain ⟨cs, rfl, h⟩ := h
  obtain ⟨e, f0, f1⟩ := rFate_open h
  subst e
  exact ⟨rfl, f0, f1⟩
theorem rFate_agg {Q : Nat → Prop} {w : World} {x : DFate}  (f0 : (Lit.int .i64 x.kept).wf = true) (f1 : (Lit.int .i64 x.torn).wf = true) : rFate.val Q w (.agg #[.int .i64 x.kept, .int .i64 x.torn]) x := ⟨_, rfl, rFate_mk f0 f1⟩

end Go.Proofs.Ythjjnlilpklacaa
/- A struct's reading as0 data is this word's. -/
namespace Go.Proofs.Ythjjnlilpklacaa
open Go.ChangeShapes Go.WideShapes Go.ChangeAt Go.RowKit
namespace Rep

/-- Fields, one behind the other, from the offset o on. -/
def Fields {α : Type} (r : Rep α) (P : Program) (fs : List Field) (o : Nat) : Prop :=
  (∀ f ∈ fs, o ≤ f.offset) ∧ ∀ (H : Type) (enc : TypeId × Value → H) (w : World) (n : Nat) (cs : List Value), cs.length = r.size →
    (∀ f ∈ fs, ∃ x, DataW.trod enc P w 0 (fun _ => true) true n f.type ((cs.drop (f.offset - o)).take (P.cellsOf f.type)) = some x) → ∃ y, r.rd (fun _ => True) w cs y

theorem fields_one {α : Type} {r : Rep α} {P : Program} {f : Field} {o : Nat} (ho : f.offset = o) (h : r.Of P f.type) : r.Fields P [f] o :=
  ⟨(fun g hg => by
    have : g = f := by simpa using hg
    rw [this]; omega), fun H enc w n cs hl hf => by
    obtain ⟨x, hx⟩ := hf f (by simp)
    rw [ho, Nat.sub_self, List.drop_zero, h.1, ← hl, List.take_length] at hx
    exact h.2 H enc w n cs x hx⟩
theorem fields_cons {α β : Type} {r : Rep α} {s : Rep β} {P : Program} {f : Field} {fs : List Field} {o : Nat} (ho : f.offset = o) (h : r.Of P f.type) (hs : s.Fields P fs (o + r.size)) : (r.pair s).Fields P (f :: fs) o :=
  ⟨(fun g hg => by
    rcases List.mem_cons.1 hg with rfl | hg
    · omega
    · have := hs.1 g hg; omega), fun H enc w n cs hl hf => by
    have hl' : cs.length = r.size + s.size := hl
    obtain ⟨x, hx⟩ := hf f (by simp)
    rw [ho, Nat.sub_self, List.drop_zero, h.1] at hx
    obtain ⟨y, hy⟩ := h.2 H enc w n _ x hx
    obtain ⟨z, hz⟩ := hs.2 H enc w n (cs.drop r.size) (by rw [List.length_drop]; omega) (fun g hg => by
      obtain ⟨x', hx'⟩ := hf g (by simp [hg])
      refine ⟨x', ?_⟩
      have := hs.1 g hg
      rw [List.drop_drop, show r.size + (g.offset - (o + r.size)) = g.offset - o by omega]
      exact hx')
    exact ⟨(y, z), cs.take r.size, cs.drop r.size, (List.take_append_drop _ _).symm, hy, hz⟩⟩

theorem of_struct {α β : Type} {r : Rep α} {P : Program} {t : TypeId} {fs : Array Field} (f : β → α) (g : α → β) (hfg : ∀ x, f (g x) = x) (ht : P.underlying t = some (.struct fs)) (hc : P.cellsOf t = r.size) (h : r.Fields P fs.toList 0) : (r.iso f).Of P t :=
  ⟨hc, fun H enc w fuel cs x hx => by
    obtain ⟨xs, n, _, rfl, hl, hlen, hf⟩ := DataW.trod_struct ht hx
    obtain ⟨y, hy⟩ := h.2 H enc w n cs (by rw [hl, hc]) (fun fd hfd => by
      obtain ⟨i, hi, rfl⟩ := List.getElem_of_mem hfd
      have hi' : i < fs.size := by simpa using hi
      have := hf i fs[i] (by simp [hi'])
      refine ⟨xs[i]'(by omega), ?_⟩
      simp only [Nat.sub_zero, Array.getElem_toList]
      rw [this]
      simp)
    exact ⟨g y, by show r.rd _ _ _ (f (g y)); rw [hfg]; exact hy⟩⟩
end Rep
theorem of_ID : rID.Of Try.prog 36 :=
  Rep.of_struct _ (fun x => ⟨x.1, x.2⟩) (fun _ => rfl) Try.underlying36 (by kernel_rfl) (Rep.fields_cons rfl (Rep.of_int Try.underlying3 (by kernel_rfl)) (Rep.fields_one rfl (Rep.of_int Try.underlying3 (by kernel_rfl))))
theorem of_Part : rPart.Of Try.prog 132 :=
  Rep.of_struct _ (fun x => ⟨x.1, x.2⟩) (fun _ => rfl) Try.underlying132 (by kernel_rfl) (Rep.fields_cons rfl (Rep.of_int Try.underlying3 (by kernel_rfl)) (Rep.fields_one rfl (Rep.of_list Try.underlying22 (by kernel_rfl) (by decide) (Rep.of_byte Try.underlying5 (by kernel_rfl)))))
theorem of_Ent : rEnt.Of Try.prog 39 :=
  Rep.of_struct _ (fun x => ⟨x.1, x.2⟩) (fun _ => rfl) Try.underlying39 (by kernel_rfl) (Rep.fields_cons rfl of_ID (Rep.fields_one rfl (Rep.of_list Try.underlying37 (by kernel_rfl) (by decide) of_Part)))
theorem of_State : rState.Of Try.prog 33 :=
  Rep.of_struct _ (fun x => ⟨x.1, x.2.1, x.2.2⟩) (fun _ => rfl) Try.underlying33 (by kernel_rfl) (Rep.fields_cons rfl (Rep.of_list Try.underlying30 (by kernel_rfl) (by decide) (Rep.of_int Try.underlying3 (by kernel_rfl))) (Rep.fields_cons rfl (Rep.of_list Try.underlying30 (by kernel_rfl) (by decide) (Rep.of_int Try.underlying3 (by kernel_rfl))) (Rep.fields_one rfl (Rep.of_list Try.underlying31 (by kernel_rfl) (by decide) of_Ent))))
theorem of_Term : rTerm.Of Try.prog 41 :=
  Rep.of_struct _ (fun x => ⟨x.1, x.2.1, x.2.2⟩) (fun _ => rfl) Try.underlying41 (by kernel_rfl) (Rep.fields_cons rfl (Rep.of_int Try.underlying3 (by kernel_rfl)) (Rep.fields_cons rfl (Rep.of_int Try.underlying3 (by kernel_rfl)) (Rep.fields_one rfl (Rep.of_list Try.underlying22 (by kernel_rfl) (by decide) (Rep.of_byte Try.underlying5 (by kernel_rfl))))))
theorem of_Comp : rComp.Of Try.prog 151 :=
  Rep.of_struct _ (fun x => ⟨x.1, x.2⟩) (fun _ => rfl) Try.underlying151 (by kernel_rfl) (Rep.fields_cons rfl (Rep.of_text Try.underlying9 (by kernel_rfl)) (Rep.fields_one rfl (Rep.of_int Try.underlying3 (by kernel_rfl))))
theorem of_Conf : rConf.Of Try.prog 73 :=
  Rep.of_struct _ (fun x => ⟨x.1, x.2.1, x.2.2.1, x.2.2.2.1, x.2.2.2.2⟩) (fun _ => rfl) Try.underlying73 (by kernel_rfl) (Rep.fields_cons rfl (Rep.of_int Try.underlying3 (by kernel_rfl)) (Rep.fields_cons rfl (Rep.of_int Try.underlying3 (by kernel_rfl)) (Rep.fields_cons rfl (Rep.of_int Try.underlying3 (by kernel_rfl)) (Rep.fields_cons rfl (Rep.of_int Try.underlying3 (by kernel_rfl)) (Rep.fields_one rfl (Rep.of_list Try.underlying71 (by kernel_rfl) (by decide) of_Comp))))))
theorem of_Key : rKey.Of Try.prog 59 :=
  Rep.of_struct _ (fun x => ⟨x.1, x.2.1, x.2.2⟩) (fun _ => rfl) Try.underlying59 (by kernel_rfl) (Rep.fields_cons rfl (Rep.of_int Try.underlying3 (by kernel_rfl)) (Rep.fields_cons rfl (Rep.of_int Try.underlying44 (by kernel_rfl)) (Rep.fields_one rfl (Rep.of_int Try.underlying3 (by kernel_rfl)))))
theorem of_Stream : rStream.Of Try.prog 63 :=
  Rep.of_struct _ (fun x => ⟨x.1, x.2⟩) (fun _ => rfl) Try.underlying63 (by kernel_rfl) (Rep.fields_cons rfl of_Key (Rep.fields_one rfl (Rep.of_list Try.underlying22 (by kernel_rfl) (by decide) (Rep.of_byte Try.underlying5 (by kernel_rfl)))))
theorem of_Flow : rFlow.Of Try.prog 61 :=
  Rep.of_struct _ (fun x => ⟨x.1, x.2.1, x.2.2⟩) (fun _ => rfl) Try.underlying61 (by kernel_rfl) (Rep.fields_cons rfl of_Key (Rep.fields_cons rfl (Rep.of_list Try.underlying22 (by kernel_rfl) (by decide) (Rep.of_byte Try.underlying5 (by kernel_rfl))) (Rep.fields_one rfl (Rep.of_list Try.underlying30 (by kernel_rfl) (by decide) (Rep.of_int Try.underlying3 (by kernel_rfl))))))
theorem of_Entry : rEntry.Of Try.prog 109 :=
  Rep.of_struct _ (fun x => ⟨x.1, x.2.1, x.2.2⟩) (fun _ => rfl) Try.underlying109 (by kernel_rfl) (Rep.fields_cons rfl of_Key (Rep.fields_cons rfl (Rep.of_int Try.underlying3 (by kernel_rfl)) (Rep.fields_one rfl (Rep.of_list Try.underlying30 (by kernel_rfl) (by decide) (Rep.of_int Try.underlying3 (by kernel_rfl))))))
theorem of_Super : rSuper.Of Try.prog 114 :=
  Rep.of_struct _ (fun x => ⟨x.1, x.2.1, x.2.2.1, x.2.2.2.1, x.2.2.2.2.1, x.2.2.2.2.2.1, x.2.2.2.2.2.2.1, x.2.2.2.2.2.2.2⟩) (fun _ => rfl) Try.underlying114 (by kernel_rfl) (Rep.fields_cons rfl (Rep.of_int Try.underlying3 (by kernel_rfl)) (Rep.fields_cons rfl (Rep.of_int Try.underlying3 (by kernel_rfl)) (Rep.fields_cons rfl (Rep.of_int Try.underlying3 (by kernel_rfl)) (Rep.fields_cons rfl (Rep.of_int Try.underlying3 (by kernel_rfl)) (Rep.fields_cons rfl (Rep.of_int Try.underlying3 (by kernel_rfl)) (Rep.fields_cons rfl (Rep.of_int Try.underlying3 (by kernel_rfl)) (Rep.fields_cons rfl (Rep.of_int Try.underlying3 (by kernel_rfl)) (Rep.fields_one rfl (Rep.of_list Try.underlying30 (by kernel_rfl) (by decide) (Rep.of_int Try.underlying3 (by kernel_rfl)))))))))))
end Go.Proofs.Ythjjnlilpklacaa
/- Walks of the references' small functions on bytes and lists. -/
namespace Go.Proofs.Ythjjnlilpklacaa
open Go.RowKit

/-- ref01.Same -/
theorem sameBytes {Q Q' : Nat → Prop} {w : World} {v u : Value} {xs ys : List UInt8} (hx : Rep.byte.list.val Q w v xs) (hy : Rep.byte.list.val Q' w u ys) :
    Calls Try.prog 15 #[v, u] w fun e w' => e = .returned (.bool (decide (xs = ys))) ∧ w' = w := by
  obtain ⟨A, c, rfl, hc1, hc2, hA⟩ := Rep.val_list hx
  obtain ⟨B, d, rfl, hd1, hd2, hB⟩ := Rep.val_list hy
  have h1 := hA.toText (P := Try.prog) Try.underlying22 Try.underlying5 Try.underlying9 c
  have h2 := hB.toText (P := Try.prog) Try.underlying22 Try.underlying5 Try.underlying9 d
  clear hx hy hA hB hc1 hc2 hd1 hd2
  go_enter Try.func15, Try.ntmps15
  go_wp2_with fail
  go_ret
  exact ⟨by simp [Bool.beq_eq_decide_eq], rfl⟩

/-- ref17.Same -/
theorem samePieces {Q Q' : Nat → Prop} {w : World} {v u : Value} {xs ys : List (List UInt8)} (hx : Rep.byte.list.list.val Q w v xs) (hy : Rep.byte.list.list.val Q' w u ys) :
    Calls Try.prog 13 #[v, u] w fun e w' => e = .returned (.bool (decide (xs = ys))) ∧ ∃ n, w' = w.drewN n := by
  obtain ⟨A, c, rfl, hc1, hc2, hA⟩ := Rep.val_list hx
  obtain ⟨B, d, rfl, hd1, hd2, hB⟩ := Rep.val_list hy
  clear hx hy
  unfold maxLen at hc2 hd2
  by_cases hlen : xs.length = ys.length
  · have hne : ((xs.length : Int) != (ys.length : Int)) = false := by simp [hlen]
    have H := Lib.hid hlen
    clear hlen
    go_enter Try.func13, Try.ntmps13
    go_wp2_with fail
    go_loopw [5] (fun i wr => ∃ k : Nat, i = .int .i64 k ∧ k ≤ xs.length ∧ xs.take k = ys.take k ∧ ∃ n, w.drewN n = wr) (fun i _ => xs.length - (intOf i).toNat)
    case atStart => exact ⟨0, rfl, Nat.zero_le _, by simp, 0, rfl⟩
    case round =>
      obtain ⟨k, rfl, hk, htk, n, rfl⟩ := hrel
      by_cases hlt : k < xs.length
      · obtain ⟨b, off, A1, c1, rfl, cx, q1, q2, hA1⟩ := hA.list (List.getElem?_eq_getElem hlt)
        have hlt' : k < ys.length := by rw [← H.out]; exact hlt
        obtain ⟨b', off', B1, d1, rfl, cy, q3, q4, hB1⟩ := hB.list (List.getElem?_eq_getElem hlt')
        have T := Lib.hid htk
        clear htk
        have i1 : (k : Int) < (xs.length : Int) := by omega
        have i2 : (k : Int) < (ys.length : Int) := by omega
        have hs : ∀ m, Calls Try.prog 15 #[.slice A1 xs[k].length c1, .slice B1 ys[k].length d1] (w.drewN m) fun e w' => e = .returned (.bool (decide (xs[k] = ys[k]))) ∧ w' = w.drewN m :=
          fun m => sameBytes (Rep.list_val rfl q1 q2 (hA1.drewN m)) (Rep.list_val rfl q3 q4 (hB1.drewN m))
        clear q1 q2 q3 q4 hA1 hB1
        generalize hX : xs[k] = x at *
        generalize hY : ys[k] = y at *
        have HX := Lib.hid hX
        have HY := Lib.hid hY
        have HS := Lib.hid hs
        clear hX hY hs
        by_cases hxy : x = y
        · have HXY := Lib.hid hxy
          have hd : decide (x = y) = true := by simp [hxy]
          clear hxy
          go_wp2_with fail
          go_quiet ((go_at_call 15; exact q_same (HS.out _)))
          go_wp2_with fail
          go_roundw
          case rel => exact ⟨k + 1, by go_num, by omega, by rw [List.take_succ_eq_append_getElem hlt, List.take_succ_eq_append_getElem hlt', T.out, HX.out, HY.out, HXY.out], _, rfl⟩
          case measure => simp [intOf]; omega
        · have HXY := Lib.hid hxy
          have hd : decide (x = y) = false := by simp [hxy]
          clear hxy
          go_wp2_with fail
          go_quiet ((go_at_call 15; exact q_same (HS.out _)))
          go_wp2_with fail
          go_ret
          refine ⟨?_, by rw [World.drewN_drewN]; exact ⟨_, rfl⟩⟩
          have : ¬ xs = ys := by rintro rfl; exact HXY.out (HX.out.symm.trans HY.out)
          simp [this]
      · have hk' : k = xs.length := by omega
        have hall : xs = ys := by rw [← List.take_length (l := xs), ← hk', htk, hk', H.out, List.take_length]
        have HA := Lib.hid hall
        have HK := Lib.hid hk'
        clear hall hk' htk
        have i1 : ¬ (k : Int) < (xs.length : Int) := by omega
        go_wp2_with fail
        go_ret
        exact ⟨by simp [HA.out], _, rfl⟩
  · have hne : ((xs.length : Int) != (ys.length : Int)) = true := by simp; omega
    have H := Lib.hid hlen
    clear hlen
    go_enter Try.func13, Try.ntmps13
    go_wp2_with fail
    go_ret
    refine ⟨?_, 0, rfl⟩
    have : ¬ xs = ys := by rintro rfl; exact H.out rfl
    simp [this]
end Go.Proofs.Ythjjnlilpklacaa
/- Walks of the library's small copies. -/
namespace Go.Proofs.Ythjjnlilpklacaa
open Go.RowKit

theorem info22 : (Try.prog.info? 22).map (fun i => (i.zero, i.size, i.bytes)) = some (some (.slice none 0 0), 1, 24) := by kernel_rfl
theorem info5 : (Try.prog.info? 5).map (fun i => (i.zero, i.size, i.bytes)) = some (some (.int .u8 0), 1, 1) := by kernel_rfl

/-- bytes.Clone -/
theorem bytesClone {Q : Nat → Prop} {w : World} {v : Value} {l : List UInt8} (hx : Rep.byte.list.val Q w v l) (hl : l.length ≤ 100000000000000) :
    Calls Try.prog 80 #[v] w (Res Rep.byte.list (fun b => w.heap.size ≤ b) w l) := by
  obtain ⟨A, c, rfl, hc1, hc2, hA⟩ := Rep.val_list hx
  unfold maxLen at hc2
  cases A with
  | none =>
    have hnil : l = [] := by
      rcases Nat.eq_zero_or_pos l.length with h | h
      · exact List.eq_nil_of_length_eq_zero h
      · obtain ⟨b, off, h⟩ := hA.addr h; cases h
    subst hnil
    have he := fun w => Lib.run_eql_slice_nil (P := Try.prog) w 22 5 none 0 c 0 0 Try.underlying22
    go_enter Try.func80, Try.ntmps80
    go_wp2_with fail
    go_ret
    exact ⟨_, rfl, Rep.val_nil (by simp [maxLen]), Below.refl _ _⟩
  | some a =>
    have he := fun w => Lib.run_eql_slice_nil (P := Try.prog) w 22 5 (some a) l.length c 0 0 Try.underlying22
    have HX := Lib.hid (show Rep.byte.list.val (fun b => b < w.heap.size) (w.alloc (.cells #[] 5)) (.slice (some a) l.length c) l from Rep.val_keep (w := w) (fun b _ hl => ⟨hl.lt, Below.heap_alloc _ _ _ hl.lt⟩) hx)
    have HA := Lib.hid (show Rep.byte.acc 5 w.heap.size (fun _ => False) (w.alloc (.cells #[] 5)) (.slice (some ⟨w.heap.size, 0, none⟩) 0 0) [] from Rep.acc_made w #[] 0 (Nat.le_refl _) (by simp [maxLen]) (by simp))
    have HB1 := Lib.hid (show ([] : List UInt8).length + l.length ≤ maxLen from by simp [maxLen]; omega)
    have HB2 := Lib.hid (show (([] : List UInt8).length + l.length) * 1 ≤ 140737488355328 from by simp; omega)
    have HB3 := Lib.hid (show w.heap.size ≤ (w.alloc (.cells #[] 5)).heap.size from by simp)
    clear hx hA
    go_enter Try.func80, Try.ntmps80
    go_wp2_with (refine wpList_spread_leaf (e := 5) (base := w.heap.size) (Q := fun _ => False) Rep.leaf_byte rfl _ _ 22 rfl (.int .u8 0) 1 1 Try.underlying22 info5 rfl (by decide) rfl _ [] (by exact rfl) HA.out _ l (by exact rfl) HX.out HB1.out HB2.out HB3.out ?_; intro v' w' hacc' hgr hat)
    go_ret
    exact ⟨_, rfl, by simpa using Rep.acc_fresh hacc', Rep.acc_below HA.out ((Below.refl _ w).alloc (Nat.le_refl _) _) hgr HB3.out⟩
end Go.Proofs.Ythjjnlilpklacaa
/- A region that draws its order, in a round of a range over a function: what is shown of it as0 of any region serves there. No program is named here. -/
namespace Go.Proofs.Ythjjnlilpklacaa
open Go.RowKit

section
variable {n l : Nat} {P : Program} {ops : Array Oper} {Q : Exit → Act → World → Prop} {md : Region.Mode}

theorem rowsIn_wide {row : String} {args : Array Value} {w : World} {R : Value → World → Prop} (h : Rows P row args w R) : RowsIn (Fence.wide.inRound l) n P row args w R :=
  fun c cs _ => by
    obtain ⟨v, w', r, s⟩ := h c cs
    exact ⟨v, w', r, by rw [fenced_inRound]; exact stepsIn_wide.2 s⟩

theorem oper_round {o : Oper} {a : Act} {w : World} {K : Act → World → Prop} (hd : ∀ c, o.op ≠ .defer c) (h : o.wp P a w K Q) : o.wpIn (Fence.wide.inRound l) n P a w K Q := by
  unfold Oper.wp at h
  unfold Oper.wpIn
  refine ⟨fun _ _ => trivial, ?_⟩
  rw [Oper.semAt_eq _ _ _ hd]
  generalize (execOp a.eval o).run P w = r at *
  cases r with
  | ok x w' =>
    cases x <;> simp only [Oper.upon, Oper.uponIn] at h ⊢
    case value => exact h
    case skip => exact h
    case defer => exact h
    case enter f args => exact ⟨fun hh => by simp [Fence.inRound, Fence.wide] at hh, CallsIn.inRound l (callsIn_wide.2 h)⟩
    case row row args => exact ⟨fun hh => by simp [Fence.inRound, Fence.wide] at hh, rowsIn_wide h⟩
  | halt x w' => cases x <;> simp only [Oper.upon, Oper.uponIn] at h ⊢ <;> exact h

theorem wpOp_round {i : Nat} {a : Act} {w : World} {K : Act → World → Prop} (hd : ∀ (i : Nat) (o : Oper), ops[i]? = some o → ∀ c, o.op ≠ .defer c) (hout : ¬ LetsOut Q) (h : wpOp P ops Q i K a w) : wpOpIn (Fence.wide.inRound l) n P ops Q i K a w := by
  unfold wpOp at h
  unfold wpOpIn
  cases ho : ops[i]? with
  | none => simpa [ho] using h
  | some o =>
    simp only [ho] at h ⊢
    split
    · rename_i hw
      rw [if_pos hw] at h
      rcases h with h | ⟨_, h⟩
      · exact oper_round (hd i o ho) h
      · exact absurd h hout
    · rename_i hw
      rw [if_neg hw] at h
      exact ⟨fun _ _ => trivial, h⟩

theorem wpAny_round (hd : ∀ (i : Nat) (o : Oper), ops[i]? = some o → ∀ c, o.op ≠ .defer c) (hout : ¬ LetsOut Q) : ∀ (fuel : Nat) (listed : Array Bool) (a : Act) (w : World), wpAny P md ops Q fuel listed a w → wpAnyIn (Fence.wide.inRound l) n P md ops Q fuel listed a w
  | 0, _, _, _, h => h
  | fuel + 1, _, _, _, h => ⟨h.1, fun i hi => wpOpIn_mono (fun _ _ h => wpAny_round hd hout fuel _ _ _ h) (wpOp_round hd hout (h.2 i hi))⟩

/-- A region that draws its order, in a round. -/
theorem region_round {id : Nat} {a : Act} {w : World} (hm : P.follows .mixedOrders = true) (hd : ∀ (i : Nat) (o : Oper), ops[i]? = some o → ∀ c, o.op ≠ .defer c) (hout : ¬ LetsOut Q)
    (h : wpAny P .any ops Q ops.size (Array.replicate ops.size false) a w.drew) : (Code.region id ops true).wpIn (Fence.wide.inRound l) n P Q a w :=
  wpIn_region_any hm (wpAny_round hd hout _ _ _ _ h)

/-- One step: the operations that may come next, one by one. -/
theorem any_step {fuel : Nat} {listed : Array Bool} {a : Act} {w : World} (rs : List Nat) (hr : Region.ready md ops listed = rs) (hne : rs ≠ [])
    (h : ∀ i ∈ rs, wpOp P ops Q i (wpAny P md ops Q fuel (listed.setIfInBounds i true)) a w) : wpAny P md ops Q (fuel + 1) listed a w := wpAny_ready hr hne h

theorem op_value {i : Nat} {o : Oper} {a : Act} {w w' : World} {v : Value} {K : Act → World → Prop} (ho : ops[i]? = some o) (hg : o.guard = none) (hrun : (execOp a.eval o).run P w = .ok (.value v) w') (h : K (a.put o.dst v) w') : wpOp P ops Q i K a w := by
  unfold wpOp
  simp only [ho, Region.wanted, hg, if_true]
  refine .inl ?_
  unfold Oper.wp
  rw [hrun]
  exact h

theorem op_call {i f : Nat} {args : Array Value} {o : Oper} {a : Act} {w w' : World} {K : Act → World → Prop} {R : Ending → World → Prop} (ho : ops[i]? = some o) (hg : o.guard = none) (hrun : (execOp a.eval o).run P w = .ok (.enter f args) w') (hc : Calls P f args w' R)
    (hR : ∀ e w'', R e w'' → ∃ v, e = .returned v ∧ K (a.put o.dst v) w'') : wpOp P ops Q i K a w := by
  unfold wpOp
  simp only [ho, Region.wanted, hg, if_true]
  refine .inl ?_
  unfold Oper.wp
  rw [hrun]
  refine hc.mono fun e w'' hr => ?_
  obtain ⟨v, rfl, hk⟩ := hR e w'' hr
  exact hk

theorem op_skip {i : Nat} {o : Oper} {a : Act} {w w' : World} {K : Act → World → Prop} (ho : ops[i]? = some o) (hg : o.guard = none) (hrun : (execOp a.eval o).run P w = .ok .skip w') (h : K (a.put o.dst undef) w') : wpOp P ops Q i K a w := by
  unfold wpOp
  simp only [ho, Region.wanted, hg, if_true]
  refine .inl ?_
  unfold Oper.wp
  rw [hrun]
  exact h
end

def noDefer (ops : Array Oper) : Bool := ops.toList.all fun o => match o.op with | .defer _ => false | _ => true
theorem noDefer_spec {ops : Array Oper} (h : noDefer ops = true) : ∀ (i : Nat) (o : Oper), ops[i]? = some o → ∀ c, o.op ≠ .defer c := by
  intro i o ho c hc
  have hm : o ∈ ops.toList := by
    rw [← Array.getElem?_toList] at ho
    exact List.mem_of_getElem? ho
  have := List.all_eq_true.1 h o hm
  rw [hc] at this
  cases this

/-- 'append' as0 one operation. -/
theorem exec_append {P : Program} {o : Oper} {a : Act} {w w' : World} {s x : Operand} {t : TypeId} {v u v' : Value} (ho : o.op = .call { callee := .builtin .append, args := #[s, x], argTypes := #[t, t] })
    (hs : a.eval s = v) (hx : a.eval x = u) (h : (Builtin.append_ #[t, t] o.type #[v, u]).run P w = .ok v' w') : (execOp a.eval o).run P w = .ok (.value v') w' := by
  unfold execOp
  simp only [ho, resolve, invoke, builtin, Sem.run_bind, Sem.run_pure, Result.andThen_ok, List.map_toArray, List.map_cons, List.map_nil, hs, hx, h]

/-- '[]T{x}' as0 one operation. -/
theorem exec_buildSlice {P : Program} {o : Oper} {a : Act} {w : World} {x : Operand} {t e : TypeId} {vy : Value} (ho : o.op = .buildSlice t 1 #[(0, x)])
    (z : Value) (size : Nat) (ht : P.underlying t = some (.slice e)) (hi : (P.info? e).map (fun i => (i.zero, i.size)) = some (some z, size)) (hx : a.eval x = vy) (hc : vy.cells.size = size) (hsz : 0 < size ∧ size ≤ 1000) :
    (execOp a.eval o).run P w = .ok (.value (.slice (some ⟨w.heap.size, 0, none⟩) 1 1)) (w.alloc (.cells vy.cells e)) := by
  have hb := run_buildSlice_one (P := P) w t e z size ht hi vy hc hsz.1 hsz.2
  simp only [execOp, ho, List.map_toArray, List.map_cons, List.map_nil, hx]
  simp only [Sem.run_bind, hb, Result.andThen_ok, Sem.run_pure]


theorem KeepsOthers.of_below {W W' : World} (h : Below W.heap.size W W') : KeepsOthers W W' := ⟨h.size, fun k _ hk _ => (h.block k (Array.getElem?_eq_some_iff.1 hk).1).trans hk⟩

/-- 'out = append(out, y)', out in a box: what is so behind the append, and behind the store. -/
theorem box_collect {α : Type} {r : Rep α} {e t T ty : TypeId} {base B : Nat} {Q : Nat → Prop} {P : Program} {W Wm : World} {v : Value} {xs : List α} {z : Value} {size bytes : Nat}
    (ht : P.underlying T = some (.slice e)) (hi : (P.info? e).map (fun i => (i.zero, i.size, i.bytes)) = some (some z, size, bytes)) (hzs : z.cells.size = size) (hsz : 0 < size) (hr : r.size = size)
    (hv : Boxed W B t v) (hBb : B < base) (hbase : base ≤ W.heap.size) (hQ : ∀ b, Q b → b ≠ B) (hacc : r.acc e base Q W v xs) (hWm : Below W.heap.size W Wm)
    {y : α} {vy : Value} (hy : r.val (fun b => Q b ∧ v.ownBlock ≠ some b) Wm vy y) {g : Nat} (hg : Wm.heap[g]? = some (.cells vy.cells e (0, 0)))
    (h63 : xs.length + 1 ≤ maxLen) (hbytes : (xs.length + 1) * bytes ≤ 140737488355328) :
    ∃ v' w1, (Builtin.append_ #[T, T] ty #[v, .slice (some ⟨g, 0, none⟩) 1 1]).run P Wm = .ok v' w1 ∧ Boxed w1 B t v ∧ Boxed (w1.setCell ⟨B, 0, none⟩ v') B t v' ∧ r.acc e base Q (w1.setCell ⟨B, 0, none⟩ v') v' (xs ++ [y]) ∧
      KeepsOthers W (w1.setCell ⟨B, 0, none⟩ v') ∧ Below B W (w1.setCell ⟨B, 0, none⟩ v') ∧ (∀ k, k < base → k ≠ B → (w1.setCell ⟨B, 0, none⟩ v').heap[k]? = W.heap[k]?) ∧ v'.oneCell' = true := by
  have hacc' : r.acc e base Q Wm v xs := Rep.acc_keep (fun b _ hb => hWm.block b hb.lt) (fun _ hb _ => hb) hacc
  obtain ⟨cs, hvy, hrd⟩ := hy
  have hcells : vy.cells.toList = cs := by rw [hvy]; exact r.back hrd
  obtain ⟨v', w1, q1, q2, q3, q4⟩ := Rep.acc_more (P := P) (ty := ty) (ys := [y]) (A := some ⟨g, 0, none⟩) (m := 1) (c := 1) (es := cs) ht hi hzs hsz hr hacc' rfl (Rep.row_one_elem hrd)
    (fun _ => ⟨g, 0, rfl, fun j u hj => by rw [cell_of_row _ _ _ _ _ _ hg, Nat.zero_add, ← hj, ← hcells]; simp⟩) (by simpa using h63) (by simpa using hbytes) (Nat.le_trans hbase hWm.size)
  have hown := Rep.acc_own hacc'
  have hvm : Boxed Wm B t v := (hWm.block B (by omega)).trans hv
  have hv1 : Boxed w1 B t v := hvm.kept q3 (fun hh => by have := (hown B hh.symm).1; omega)
  have hown1 := Rep.acc_own q2
  have hs : ∀ k, k ≠ B → (w1.setCell ⟨B, 0, none⟩ v').heap[k]? = w1.heap[k]? := fun k hk => Below.heap_setCell _ _ _ _ hk
  obtain ⟨A', c', hform, _, _⟩ := Rep.acc_form q2
  refine ⟨v', w1, q1, hv1, hv1.set v', Rep.acc_keep (fun b hb _ => hs b ?_) (fun _ hb _ => hb) q2, ?_, ?_, ?_, by rw [hform]; rfl⟩
  · rcases hb with hb | hb
    · exact hQ b hb
    · have := (hown1 b hb).1; omega
  · refine ((KeepsOthers.of_below hWm).trans (KeepsOthers.of_grownBy q3 ?_)).trans (KeepsOthers.setCell _ _ _)
    intro j o hj ho
    obtain ⟨cells, h1, _⟩ := hacc'
    rcases h1.2 with ⟨rfl, _⟩ | ⟨g', cap, cur, rfl, _, hg', _⟩
    · simp [Value.ownBlock] at hj
    · simp only [Value.ownBlock, Option.some.injEq] at hj
      subst hj
      rw [hg'] at ho; cases ho; rfl
  · have hb1 : Below B W w1 := (hWm.mono (by omega)).grown q3 (Nat.le_trans (by omega) hWm.size) (fun k hk => by have := (hown k hk).1; omega)
    exact hb1.setCell (p := ⟨B, 0, none⟩) (Nat.le_refl _) _
  · intro k hk hne
    rw [hs k hne, q3.block k (Nat.lt_of_lt_of_le (by omega) hWm.size) (fun hh => by have := (hown k hh.symm).1; omega), hWm.block k (by omega)]


/-- A box that holds a slice, read. -/
theorem exec_load_box {P : Program} {o : Oper} {a : Act} {w : World} {x : Operand} {T t e : TypeId} {B : Nat} {v : Value} (ho : o.op = .load T x) (hx : a.eval x = .pointer (some ⟨B, 0, none⟩)) (ht : P.underlying T = some (.slice e)) (hv : Boxed w B t v) :
    (execOp a.eval o).run P w = .ok (.value v) w := by
  have hc := hv.cell
  have h : (loadVar T ⟨B, 0, none⟩).run P w = .ok v w := by unfold loadVar isAgg; simp [run_underlying ht, hc]
  simp only [execOp, ho, hx, Instr.loadAt, Instr.sureAddr, Sem.run_bind, Sem.run_pure, Result.andThen_ok, h]

/-- A box, written. -/
theorem exec_store_box {P : Program} {o : Oper} {a : Act} {w : World} {x y : Operand} {T t : TypeId} {B : Nat} {v v' : Value} (ho : o.op = .store T x y) (hx : a.eval x = .pointer (some ⟨B, 0, none⟩)) (hy : a.eval y = v') (hi : (P.info? T).map (·.size) = some 1) (hv : Boxed w B t v) (h2 : ∃ A n c, v' = .slice A n c) :
    (execOp a.eval o).run P w = .ok .skip (w.setCell ⟨B, 0, none⟩ v') := by
  have hc := hv.cell
  have hf := hv.frozen
  obtain ⟨A, n, c, rfl⟩ := h2
  have h : (storeVar T ⟨B, 0, none⟩ (.slice A n c)).run P w = .ok () (w.setCell ⟨B, 0, none⟩ (.slice A n c)) := by
    obtain ⟨i, h1, h2⟩ := Option.map_eq_some_iff.1 hi
    unfold storeVar sizeOf typeInfo
    simp only [run_program, Sem.run_bind, Result.andThen_ok, h1, Sem.run_pure, h2, Value.cells, storeCells]
    rw [Addr.add_zero', if_neg (by simp)]
    simp only [Sem.run_bind, run_store_slice, stored, hc, hf, Bool.false_eq_true, if_false, Result.andThen_ok, Sem.run_pure]
  simp only [execOp, ho, hx, hy, Instr.storeAt, Instr.sureAddr, Sem.run_bind, Sem.run_pure, Result.andThen_ok, h]


theorem step_run {P : Program} {ops : Array Oper} {o : Oper} {a : Act} {w w' : World} {v : Value} {K : Act → World → Prop} {Q : Exit → Act → World → Prop} {E : Prop} (hg : o.guard = none) (hrun : (execOp a.eval o).run P w = .ok (.value v) w') (h : K (a.put o.dst v) w') :
    if Region.wanted o (yielded ops a.tmps) = true then Oper.wp P o a w K Q else E := by
  have hw : Region.wanted o (yielded ops a.tmps) = true := by simp [Region.wanted, hg]
  rw [if_pos hw]
  unfold Oper.wp
  rw [hrun]
  exact h
theorem step_run_skip {P : Program} {ops : Array Oper} {o : Oper} {a : Act} {w w' : World} {K : Act → World → Prop} {Q : Exit → Act → World → Prop} {E : Prop} (hg : o.guard = none) (hrun : (execOp a.eval o).run P w = .ok .skip w') (h : K (a.put o.dst undef) w') :
    if Region.wanted o (yielded ops a.tmps) = true then Oper.wp P o a w K Q else E := by
  have hw : Region.wanted o (yielded ops a.tmps) = true := by simp [Region.wanted, hg]
  rw [if_pos hw]
  unfold Oper.wp
  rw [hrun]
  exact h

end Go.Proofs.Ythjjnlilpklacaa
