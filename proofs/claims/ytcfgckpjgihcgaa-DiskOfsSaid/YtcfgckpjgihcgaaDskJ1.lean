/- Texts on which the proofs stand, part 1: Core, Bytes, Clone, Le, Text, Types, Comp, Conf, RConf. No condition is laid on any input. -/
import Derived.WalkKit
import Derived.WalkSpells
import Derived.Carry
import Derived.ChangeArms
import Derived.ChangeOld
import Derived.Lib.Hide
import Derived.Deep.Draws
import Derived.Laws.OwnMore
import Derived.Maps.AppendAt
import Derived.Deep.OwnRows
import Derived.Test.YtcfgckpjgihcgaaProg
import Derived.BigQuiet
import Derived.Deep.QuietTactic
import Derived.Lib.AppendStr
import Derived.Lib.ConvBytes
import Derived.Laws.IdiomStrings
import Derived.Deep.RegionHeld3
import Derived.WalkMore
/- How Go's plain data lie in memory: words for slices, structs and texts that read as0 Lean data. No program is named here. -/
namespace Go.Proofs.Ytcfgckpjgihcgaa
open Go.RowKit

/-- A block of cells. -/
def IsC (w : World) (b : Nat) : Prop := ∃ c e f, w.heap[b]? = some (.cells c e f)
theorem IsC.lt {w : World} {b : Nat} (h : IsC w b) : b < w.heap.size := by
  obtain ⟨c, e, f, h⟩ := h
  exact (Array.getElem?_eq_some_iff.1 h).1
theorem IsC.same {w w' : World} {b : Nat} (h : IsC w b) (he : w'.heap[b]? = w.heap[b]?) : IsC w' b := by
  obtain ⟨c, e, f, h⟩ := h
  exact ⟨c, e, f, he.trans h⟩

/-- How values of a Lean type lie in cells; Q holds of every block that is read. -/
structure Rep (α : Type) where
  size : Nat
  wrap : List Value → Value
  rd : (Nat → Prop) → World → List Value → α → Prop
  len : ∀ {Q w cs x}, rd Q w cs x → cs.length = size
  one : ∀ {Q w cs x}, rd Q w cs x → ∀ u ∈ cs, u.oneCell' = true
  back : ∀ {Q w cs x}, rd Q w cs x → (wrap cs).cells.toList = cs
  keep : ∀ {Q Q' : Nat → Prop} {w w' : World} {cs x}, (∀ b, Q b → IsC w b → Q' b ∧ w'.heap[b]? = w.heap[b]?) → rd Q w cs x → rd Q' w' cs x

namespace Rep
variable {α β : Type}

theorem mono (r : Rep α) {Q Q' : Nat → Prop} {w : World} {cs x} (hq : ∀ b, Q b → IsC w b → Q' b) (h : r.rd Q w cs x) : r.rd Q' w cs x :=
  r.keep (fun b hb hl => ⟨hq b hb hl, rfl⟩) h

/-- An integer of a kind. -/
def int (k : IntKind) : Rep Int where
  size := 1
  wrap cs := cs.headD undef
  rd _ _ cs n := cs = [.int k n] ∧ (Lit.int k n).wf = true
  len h := by rw [h.1]; rfl
  one h := by rw [h.1]; simp [Value.oneCell']
  back h := by rw [h.1]; rfl
  keep _ h := h

/-- A byte. -/
def byte : Rep UInt8 where
  size := 1
  wrap cs := cs.headD undef
  rd _ _ cs n := cs = [.int .u8 (n.toNat : Int)]
  len h := by rw [h]; rfl
  one h := by rw [h]; simp [Value.oneCell']
  back h := by rw [h]; rfl
  keep _ h := h

def bool : Rep Bool where
  size := 1
  wrap cs := cs.headD undef
  rd _ _ cs n := cs = [.bool n]
  len h := by rw [h]; rfl
  one h := by rw [h]; simp [Value.oneCell']
  back h := by rw [h]; rfl
  keep _ h := h

/-- A text. -/
def text : Rep (List UInt8) where
  size := 1
  wrap cs := cs.headD undef
  rd _ _ cs l := cs = [.string ⟨l.toArray⟩] ∧ l.length ≤ maxLen
  len h := by rw [h.1]; rfl
  one h := by rw [h.1]; simp [Value.oneCell']
  back h := by rw [h.1]; rfl
  keep _ h := h

/-- Two, one behind the other. -/
def pair (r : Rep α) (s : Rep β) : Rep (α × β) where
  size := r.size + s.size
  wrap cs := .agg cs.toArray
  rd Q w cs x := ∃ as0 bs, cs = as0 ++ bs ∧ r.rd Q w as0 x.1 ∧ s.rd Q w bs x.2
  len h := by obtain ⟨as0, bs, rfl, h1, h2⟩ := h; rw [List.length_append, r.len h1, s.len h2]
  one h := by
    obtain ⟨as0, bs, rfl, h1, h2⟩ := h
    intro u hu
    rcases List.mem_append.1 hu with hu | hu
    · exact r.one h1 u hu
    · exact s.one h2 u hu
  back h := by simp [Value.cells]
  keep hk h := by
    obtain ⟨as0, bs, rfl, h1, h2⟩ := h
    exact ⟨as0, bs, rfl, r.keep hk h1, s.keep hk h2⟩

/-- The same cells, read as0 another type. -/
def iso (r : Rep α) (f : β → α) : Rep β where
  size := r.size
  wrap := r.wrap
  rd Q w cs x := r.rd Q w cs (f x)
  len h := r.len h
  one h := r.one h
  back h := r.back h
  keep hk h := r.keep hk h

/-- Elements, one behind the other. -/
def row (r : Rep α) (Q : Nat → Prop) (w : World) : List Value → List α → Prop
  | cs, [] => cs = []
  | cs, x :: xs => ∃ es rest, cs = es ++ rest ∧ r.rd Q w es x ∧ r.row Q w rest xs

section
variable {r : Rep α} {Q Q' : Nat → Prop} {w w' : World}

theorem row_len : ∀ {xs : List α} {cs : List Value}, r.row Q w cs xs → cs.length = xs.length * r.size
  | [], cs, h => by have : cs = [] := h; subst this; simp
  | x :: xs, cs, h => by
    obtain ⟨es, rest, rfl, h1, h2⟩ := h
    rw [List.length_append, r.len h1, row_len h2, List.length_cons, Nat.add_mul]; omega

theorem row_one : ∀ {xs : List α} {cs : List Value}, r.row Q w cs xs → ∀ u ∈ cs, u.oneCell' = true
  | [], cs, h => by have : cs = [] := h; subst this; simp
  | x :: xs, cs, h => by
    obtain ⟨es, rest, rfl, h1, h2⟩ := h
    intro u hu
    rcases List.mem_append.1 hu with hu | hu
    · exact r.one h1 u hu
    · exact row_one h2 u hu

theorem row_keep (hk : ∀ b, Q b → IsC w b → Q' b ∧ w'.heap[b]? = w.heap[b]?) : ∀ {xs : List α} {cs : List Value}, r.row Q w cs xs → r.row Q' w' cs xs
  | [], _, h => h
  | x :: xs, _, h => by
    obtain ⟨es, rest, rfl, h1, h2⟩ := h
    exact ⟨es, rest, rfl, r.keep hk h1, row_keep hk h2⟩

theorem row_append : ∀ {xs ys : List α} {cs ds : List Value}, r.row Q w cs xs → r.row Q w ds ys → r.row Q w (cs ++ ds) (xs ++ ys)
  | [], ys, cs, ds, h, h' => by have : cs = [] := h; subst this; simpa using h'
  | x :: xs, ys, cs, ds, h, h' => by
    obtain ⟨es, rest, rfl, h1, h2⟩ := h
    exact ⟨es, rest ++ ds, by simp, h1, row_append h2 h'⟩

theorem row_one_elem {x : α} {es : List Value} (h : r.rd Q w es x) : r.row Q w es [x] := ⟨es, [], by simp, h, rfl⟩

theorem row_split : ∀ {xs ys : List α} {cs : List Value}, r.row Q w cs (xs ++ ys) → ∃ as0 bs, cs = as0 ++ bs ∧ r.row Q w as0 xs ∧ r.row Q w bs ys
  | [], ys, cs, h => ⟨[], cs, rfl, rfl, h⟩
  | x :: xs, ys, cs, h => by
    obtain ⟨es, rest, rfl, h1, h2⟩ := h
    obtain ⟨as0, bs, rfl, h3, h4⟩ := row_split h2
    exact ⟨es ++ as0, bs, by simp, ⟨es, as0, rfl, h1, h3⟩, h4⟩

theorem row_get {xs : List α} {cs : List Value} (h : r.row Q w cs xs) {i : Nat} {x : α} (hx : xs[i]? = some x) :
    ∃ es, r.rd Q w es x ∧ ∀ j u, es[j]? = some u → cs[i * r.size + j]? = some u := by
  have hi : i < xs.length := (List.getElem?_eq_some_iff.1 hx).1
  have hsp : xs = xs.take i ++ (x :: xs.drop (i + 1)) := by
    have := (List.getElem?_eq_some_iff.1 hx).2
    rw [← this, List.getElem_cons_drop, List.take_append_drop]
  rw [hsp] at h
  obtain ⟨as0, bs, rfl, h1, es, rest, rfl, h2, _⟩ := row_split h
  refine ⟨es, h2, fun j u hj => ?_⟩
  have hl := row_len h1
  rw [List.length_take, Nat.min_eq_left (Nat.le_of_lt hi)] at hl
  have hj' := (List.getElem?_eq_some_iff.1 hj).1
  rw [List.getElem?_append_right (by omega), show i * r.size + j - as0.length = j by omega, List.getElem?_append_left hj']
  exact hj
end

/-- A slice: its cell; where it has elements, they lie in one block, which is of Q. -/
def list (r : Rep α) : Rep (List α) where
  size := 1
  wrap cs := cs.headD undef
  rd Q w cs xs := ∃ A c es, cs = [.slice A xs.length c] ∧ xs.length ≤ c ∧ c ≤ maxLen ∧ r.row Q w es xs ∧
    (0 < xs.length → ∃ b off, A = some ⟨b, off, none⟩ ∧ Q b ∧ IsC w b ∧ ∀ j u, es[j]? = some u → w.cell? ⟨b, off + j, none⟩ = some u)
  len h := by obtain ⟨A, c, es, rfl, _⟩ := h; rfl
  one h := by obtain ⟨A, c, es, rfl, _⟩ := h; simp [Value.oneCell']
  back h := by obtain ⟨A, c, es, rfl, _⟩ := h; rfl
  keep hk h := by
    obtain ⟨A, c, es, rfl, h1, h2, h3, h4⟩ := h
    refine ⟨A, c, es, rfl, h1, h2, row_keep hk h3, fun hn => ?_⟩
    obtain ⟨b, off, rfl, hq, hb, hc⟩ := h4 hn
    obtain ⟨hq', he⟩ := hk b hq hb
    refine ⟨b, off, rfl, hq', hb.same he, fun j u hj => ?_⟩
    · rw [World.cell?_of_block (w := _) (w' := _) (a := ⟨b, off + j, none⟩) he]
      exact hc j u hj

/-- A value (of one cell, or of several) that reads as0 x. -/
def val (r : Rep α) (Q : Nat → Prop) (w : World) (v : Value) (x : α) : Prop := ∃ cs, v = r.wrap cs ∧ r.rd Q w cs x

/-- A struct of one field. -/
def solo (r : Rep α) : Rep α where
  size := r.size
  wrap cs := .agg cs.toArray
  rd := r.rd
  len h := r.len h
  one h := r.one h
  back _ := by simp [Value.cells]
  keep hk h := r.keep hk h

section
variable {r : Rep α} {Q Q' : Nat → Prop} {w w' : World} {v : Value}

theorem val_keep {x : α} (hk : ∀ b, Q b → IsC w b → Q' b ∧ w'.heap[b]? = w.heap[b]?) (h : r.val Q w v x) : r.val Q' w' v x := by
  obtain ⟨cs, hv, h⟩ := h
  exact ⟨cs, hv, r.keep hk h⟩

/-- Any blocks at all. -/
theorem val_any {x : α} (h : r.val Q w v x) : r.val (fun b => b < w.heap.size) w v x := val_keep (fun _ _ hl => ⟨hl.lt, rfl⟩) h
theorem val_mono {x : α} (hq : ∀ b, Q b → IsC w b → Q' b) (h : r.val Q w v x) : r.val Q' w v x := val_keep (fun b hb hl => ⟨hq b hb hl, rfl⟩) h

theorem val_int {k : IntKind} {n : Int} (h : (Rep.int k).val Q w v n) : v = .int k n ∧ (Lit.int k n).wf = true := by
  obtain ⟨cs, rfl, rfl, h⟩ := h; exact ⟨rfl, h⟩
theorem val_byte {n : UInt8} (h : Rep.byte.val Q w v n) : v = .int .u8 (n.toNat : Int) := by
  obtain ⟨cs, rfl, rfl⟩ := h; rfl
theorem val_bool {b : Bool} (h : Rep.bool.val Q w v b) : v = .bool b := by
  obtain ⟨cs, rfl, rfl⟩ := h; rfl
theorem val_text {l : List UInt8} (h : Rep.text.val Q w v l) : v = .string ⟨l.toArray⟩ ∧ l.length ≤ maxLen := by
  obtain ⟨cs, rfl, rfl, h⟩ := h; exact ⟨rfl, h⟩

/-- What a slice's value is, and its elements' cells. -/
def At (r : Rep α) (Q : Nat → Prop) (w : World) (A : Option Addr) (xs : List α) : Prop :=
  ∃ es, r.row Q w es xs ∧ (0 < xs.length → ∃ b off, A = some ⟨b, off, none⟩ ∧ Q b ∧ IsC w b ∧ ∀ j u, es[j]? = some u → w.cell? ⟨b, off + j, none⟩ = some u)

theorem val_list {xs : List α} (h : r.list.val Q w v xs) : ∃ A c, v = .slice A xs.length c ∧ xs.length ≤ c ∧ c ≤ maxLen ∧ r.At Q w A xs := by
  obtain ⟨cs, rfl, A, c, es, rfl, h1, h2, h3, h4⟩ := h
  exact ⟨A, c, rfl, h1, h2, es, h3, h4⟩
theorem list_val {xs : List α} {A : Option Addr} {n c : Nat} (hn : n = xs.length) (h1 : n ≤ c) (h2 : c ≤ maxLen) (h : r.At Q w A xs) : r.list.val Q w (.slice A n c) xs := by
  subst hn
  obtain ⟨es, h3, h4⟩ := h
  exact ⟨_, rfl, A, c, es, rfl, h1, h2, h3, h4⟩
theorem val_nil {c : Nat} (h : c ≤ maxLen) : r.list.val Q w (.slice none 0 c) ([] : List α) := list_val rfl (Nat.zero_le _) h ⟨[], rfl, fun h => absurd h (by simp)⟩
theorem At.keep {A : Option Addr} {xs : List α} (hk : ∀ b, Q b → IsC w b → Q' b ∧ w'.heap[b]? = w.heap[b]?) (h : r.At Q w A xs) : r.At Q' w' A xs := by
  obtain ⟨es, h3, h4⟩ := h
  refine ⟨es, row_keep hk h3, fun hn => ?_⟩
  obtain ⟨b, off, rfl, hq, hb, hc⟩ := h4 hn
  obtain ⟨hq', he⟩ := hk b hq hb
  refine ⟨b, off, rfl, hq', hb.same he, fun j u hj => ?_⟩
  · rw [World.cell?_of_block (w := w) (w' := w') (a := ⟨b, off + j, none⟩) he]
    exact hc j u hj

theorem At.drewN {A : Option Addr} {xs : List α} (h : r.At Q w A xs) (n : Nat) : r.At Q (w.drewN n) A xs := At.keep (w := w) (w' := w.drewN n) (fun _ hb _ => ⟨hb, rfl⟩) h
theorem val_drewN {x : α} (h : r.val Q w v x) (n : Nat) : r.val Q (w.drewN n) v x := val_keep (w := w) (w' := w.drewN n) (fun _ hb _ => ⟨hb, rfl⟩) h

/-- An element: where it lies. -/
theorem At.get {A : Option Addr} {xs : List α} (h : r.At Q w A xs) {i : Nat} {x : α} (hx : xs[i]? = some x) :
    ∃ b off es, A = some ⟨b, off, none⟩ ∧ Q b ∧ IsC w b ∧ r.rd Q w es x ∧ ∀ j u, es[j]? = some u → w.cell? ⟨b, off + i * r.size + j, none⟩ = some u := by
  obtain ⟨cs, h3, h4⟩ := h
  have hi : i < xs.length := (List.getElem?_eq_some_iff.1 hx).1
  obtain ⟨b, off, rfl, hq, hb, hc⟩ := h4 (by omega)
  obtain ⟨es, h5, h6⟩ := row_get h3 hx
  exact ⟨b, off, es, rfl, hq, hb, h5, fun j u hj => by rw [Nat.add_assoc]; exact hc _ _ (h6 j u hj)⟩
end

end Rep


theorem foldl_set (xs : List Value) : ∀ (pre ys : List Value), ys.length = xs.length →
    (xs.zipIdx pre.length).foldl (fun (cs : Array Value) (p : Value × Nat) => cs.setIfInBounds p.2 p.1) (pre ++ ys).toArray = (pre ++ xs).toArray := by
  induction xs with
  | nil => intro pre ys h; have : ys = [] := List.eq_nil_of_length_eq_zero h; subst this; simp
  | cons x xs ih =>
    intro pre ys h
    cases ys with
    | nil => simp at h
    | cons y ys =>
      have hh := ih (pre ++ [x]) ys (by simpa using h)
      simp only [List.append_assoc, List.singleton_append, List.length_append, List.length_singleton] at hh
      simp only [List.zipIdx_cons, List.foldl_cons]
      rw [← hh]
      congr 1
      simp

theorem fill_one (size : Nat) (cells : Array Value) (v : Value) (hv : v.cells.size = size) (hc : cells.size = size) :
    Instr.fill (fun i => some (i * size, size)) cells [(0, v)] = some v.cells := by
  have h := foldl_set v.cells.toList [] cells.toList (by simp [hv, hc])
  simp only [Instr.fill]
  rw [if_neg (by simp [hv, hc])]
  congr 1
  simp only [List.nil_append, List.length_nil, Array.toArray_toList] at h
  rw [← Array.foldl_toList, Array.toList_zipIdx, Nat.zero_mul]
  simp only [Nat.zero_add]
  exact h

theorem run_buildSlice_one {P : Program} (w : World) (t e : TypeId) (z : Value) (size : Nat) (ht : P.underlying t = some (.slice e)) (hi : (P.info? e).map (fun i => (i.zero, i.size)) = some (some z, size))
    (v : Value) (hv : v.cells.size = size) (h0 : 0 < size) (hs : size ≤ 1000) :
    (Instr.buildSlice t 1 #[(0, v)]).run P w = .ok (.slice (some ⟨w.heap.size, 0, none⟩) 1 1) (w.alloc (.cells v.cells e)) := by
  obtain ⟨i, hi, hh⟩ := Option.map_eq_some_iff.1 hi
  simp only [Prod.mk.injEq] at hh
  obtain ⟨hz, hs'⟩ := hh
  have hf := fill_one size ((Array.range (1 * size)).map (fun k => z.cells[k % z.cells.size]!)) v hv (by simp)
  unfold Instr.buildSlice
  simp only [Sem.run_bind, run_underlying ht, Result.andThen_ok, sizeOf, typeInfo, run_program, hi, hs', Sem.run_pure]
  simp only [Nat.one_mul] at hf ⊢
  rw [if_neg (by omega)]
  simp [show ¬ size = 0 by omega, zeroValue, hi, hz, hf, newRow, typeInfo]


namespace Rep
variable {α : Type} {r : Rep α} {e base : Nat} {Q Q' : Nat → Prop} {w w' : World} {v : Value} {xs ys : List α}

/-- A slice of the call's own, to which it appends: its block is one from 'base' on, the elements read blocks of Q, and none of them is the slice's own. -/
def acc (r : Rep α) (e base : Nat) (Q : Nat → Prop) (w : World) (v : Value) (xs : List α) : Prop :=
  ∃ cells, w.ownsRow base e r.size v xs.length cells ∧ r.row (fun b => Q b ∧ v.ownBlock ≠ some b) w cells xs

theorem acc_nil : r.acc e base Q w (.slice none 0 0) [] := ⟨[], by simpa using World.ownsRow_nil w base e r.size, rfl⟩

theorem acc_form (h : r.acc e base Q w v xs) : ∃ A c, v = .slice A xs.length c ∧ xs.length ≤ c ∧ c ≤ maxLen := by
  obtain ⟨cells, h1, h2⟩ := h
  rcases h1.2 with ⟨rfl, h0⟩ | ⟨g, cap, cur, rfl, _, _, h3, h4, _⟩
  · exact ⟨none, 0, by rw [h0], by omega, by simp [maxLen]⟩
  · exact ⟨_, cap, rfl, h3, h4⟩

theorem acc_own (h : r.acc e base Q w v xs) : ∀ k, v.ownBlock = some k → base ≤ k ∧ k < w.heap.size := by
  obtain ⟨cells, h1, _⟩ := h
  exact h1.lt

theorem acc_val (h : r.acc e base Q w v xs) : r.list.val (fun b => Q b ∨ v.ownBlock = some b) w v xs := by
  obtain ⟨cells, h1, h2⟩ := h
  have h2' : r.row (fun b => Q b ∨ v.ownBlock = some b) w cells xs := row_keep (fun b hb _ => ⟨.inl hb.1, rfl⟩) h2
  rcases h1.2 with ⟨rfl, h0⟩ | ⟨g, cap, cur, rfl, hb, hg, h3, h4, h5, h6⟩
  · refine list_val h0.symm (Nat.le_refl _) (by simp [maxLen]) ⟨cells, h2', fun h => absurd h (by omega)⟩
  · refine list_val rfl h3 h4 ⟨cells, h2', fun hn => ⟨g, 0, rfl, .inr rfl, ⟨cur, e, (0, 0), hg⟩, fun j u hj => ?_⟩⟩
    have := h1.cells (g := g) rfl j u hj
    rwa [Addr.add_lit] at this

theorem acc_keep (hk : ∀ b, (Q b ∨ v.ownBlock = some b) → IsC w b → w'.heap[b]? = w.heap[b]?) (hq : ∀ b, Q b → IsC w b → Q' b) (h : r.acc e base Q w v xs) : r.acc e base Q' w' v xs := by
  obtain ⟨cells, h1, h2⟩ := h
  refine ⟨cells, ⟨h1.1, ?_⟩, row_keep (fun b hb hl => ⟨⟨hq b hb.1 hl, hb.2⟩, hk b (.inl hb.1) hl⟩) h2⟩
  rcases h1.2 with hn | ⟨g, cap, cur, rfl, hb, hg, rest⟩
  · exact .inl hn
  · exact .inr ⟨g, cap, cur, rfl, hb, (hk g (.inr rfl) ⟨cur, e, (0, 0), hg⟩).trans hg, rest⟩

theorem acc_base {base' : Nat} (hb : base' ≤ base) (h : r.acc e base Q w v xs) : r.acc e base' Q w v xs := by
  obtain ⟨cells, h1, h2⟩ := h
  refine ⟨cells, ⟨h1.1, ?_⟩, h2⟩
  rcases h1.2 with hn | ⟨g, cap, cur, rfl, hb', rest⟩
  · exact .inl hn
  · exact .inr ⟨g, cap, cur, rfl, by omega, rest⟩

/-- What an append leaves. -/
theorem acc_more {P : Program} {t ty : TypeId} {z : Value} {size bytes : Nat} (ht : P.underlying t = some (.slice e)) (hi : (P.info? e).map (fun i => (i.zero, i.size, i.bytes)) = some (some z, size, bytes))
    (hzs : z.cells.size = size) (hsz : 0 < size) (hr : r.size = size) (h : r.acc e base Q w v xs)
    {A : Option Addr} {m c : Nat} (hm : m = ys.length) {es : List Value} (h3' : r.row (fun b => Q b ∧ v.ownBlock ≠ some b) w es ys)
    (h4 : 0 < ys.length → ∃ b off, A = some ⟨b, off, none⟩ ∧ ∀ j u, es[j]? = some u → w.cell? ⟨b, off + j, none⟩ = some u)
    (h63 : xs.length + ys.length ≤ maxLen) (hbytes : (xs.length + ys.length) * bytes ≤ 140737488355328) (hbase : base ≤ w.heap.size) :
    ∃ v' w', (Builtin.append_ #[t, t] ty #[v, .slice A m c]).run P w = .ok v' w' ∧ r.acc e base Q w' v' (xs ++ ys) ∧ w.grownBy w' v.ownBlock ∧ (v'.ownBlock = v.ownBlock ∨ v'.ownBlock = some w.heap.size) := by
  subst hm
  obtain ⟨i, hi, hh⟩ := Option.map_eq_some_iff.1 hi
  simp only [Prod.mk.injEq] at hh
  obtain ⟨hz, hs', hby⟩ := hh
  obtain ⟨cells, h1, h2⟩ := h
  have hl : es.length = ys.length * size := by rw [row_len h3', hr]
  have key : ∃ v' w', (Builtin.append_ #[t, t] ty #[v, .slice A ys.length c]).run P w = .ok v' w' ∧ w'.ownsRow base e size v' (xs.length + ys.length) (cells ++ es) ∧ w.grownBy w' v.ownBlock ∧ (v'.ownBlock = v.ownBlock ∨ v'.ownBlock = some w.heap.size) := by
    cases hA : A with
    | none =>
      have hn : ys = [] := by
        cases ys with
        | nil => rfl
        | cons y ys =>
          obtain ⟨b, off, hb, _⟩ := h4 (by simp)
          rw [hA] at hb; cases hb
      subst hn
      have he : es = [] := h3'
      subst he
      refine ⟨v, w, ?_, by simpa [hr] using h1, World.grownBy.refl w _, .inl rfl⟩
      rcases h1.2 with ⟨rfl, _⟩ | ⟨g, cap, cur, rfl, _, _, hnc, _⟩
      · simp [Builtin.append_, run_underlying ht, sizeOf, typeInfo, hi, Builtin.lenOf, Builtin.firstCells]
      · simp [Builtin.append_, run_underlying ht, sizeOf, typeInfo, hi, Builtin.lenOf, Builtin.firstCells, hnc, storeCells]
    | some ad =>
      obtain ⟨v', w', q1, q2, q3, _, q4⟩ := run_append_own_at (P := P) w base t ty e i z size bytes ht hi hz hs' hby hzs hsz v xs.length cells (hr ▸ h1) ad ys.length c es hl (by
        intro j u hj
        have hp : 0 < ys.length := by
          have := (List.getElem?_eq_some_iff.1 hj).1
          rcases Nat.eq_zero_or_pos ys.length with h0 | h0
          · rw [h0] at hl; omega
          · exact h0
        obtain ⟨b, off, hb, hc⟩ := h4 hp
        rw [hA] at hb
        obtain rfl : ad = ⟨b, off, none⟩ := by injection hb
        rw [Addr.add_lit]
        exact hc j u hj) (row_one h3') h63 hbytes hbase
      exact ⟨v', w', q1, q2, q3, q4⟩
  obtain ⟨v', w', q1, q2, q3, q4⟩ := key
  refine ⟨v', w', q1, ⟨cells ++ es, by rw [hr, List.length_append]; exact q2, ?_⟩, q3, q4⟩
  refine row_keep (fun b hb hl => ⟨⟨hb.1, ?_⟩, q3.block b hl.lt (fun e => hb.2 e.symm)⟩) (row_append h2 h3')
  rcases q4 with q4 | q4 <;> rw [q4]
  · exact hb.2
  · intro hc; injection hc with hc; have := hl.lt; omega

end Rep

section
variable {α : Type} {r : Rep α} {e base : Nat} {Q Q' : Nat → Prop} {P : Program} {w : World}

/-- 'append(s, x)'. -/
theorem wpList_snoc {ops : Array Oper} {rest : List Oper} {o1 o2 : Oper} {a : Act} {R : Exit → Act → World → Prop} (hg1 : o1.guard = none) (hg2 : o2.guard = none) (x s : Operand) (t : TypeId) (d : Tmp)
    (ho1 : o1.op = .buildSlice t 1 #[(0, x)]) (hd : o1.dst = some d) (ho2 : o2.op = .call { callee := .builtin .append, args := #[s, .tmp d], argTypes := #[t, t] })
    (z : Value) (size bytes : Nat) (ht : P.underlying t = some (.slice e)) (hi : (P.info? e).map (fun i => (i.zero, i.size, i.bytes)) = some (some z, size, bytes)) (hzs : z.cells.size = size) (hsz : 0 < size ∧ size ≤ 1000)
    (hr : r.size = size) (v : Value) (xs : List α) (h : r.acc e base Q w v xs) (y : α) (vy : Value) (hx : a.eval x = vy) (hy : r.val (fun b => Q b ∧ v.ownBlock ≠ some b) w vy y)
    (hs : (a.put (some d) (.slice (some ⟨w.heap.size, 0, none⟩) 1 1)).eval s = v) (he : (a.put (some d) (.slice (some ⟨w.heap.size, 0, none⟩) 1 1)).eval (.tmp d) = .slice (some ⟨w.heap.size, 0, none⟩) 1 1)
    (h63 : xs.length + 1 ≤ maxLen) (hbytes : (xs.length + 1) * bytes ≤ 140737488355328) (hbase : base ≤ w.heap.size)
    (K : ∀ v' w', r.acc e base Q w' v' (xs ++ [y]) → w.grownBy w' v.ownBlock → (v'.ownBlock = v.ownBlock ∨ v'.ownBlock = some (w.heap.size + 1)) →
      wpList P ops R rest ((a.put (some d) (.slice (some ⟨w.heap.size, 0, none⟩) 1 1)).put o2.dst v') w') :
    wpList P ops R (o1 :: o2 :: rest) a w := by
  obtain ⟨cs, hv, hrd⟩ := hy
  have hcl := r.len hrd
  have hcells : vy.cells.toList = cs := by rw [hv]; exact r.back hrd
  have hi' : (P.info? e).map (fun i => (i.zero, i.size)) = some (some z, size) := by
    obtain ⟨i, hi, hh⟩ := Option.map_eq_some_iff.1 hi
    simp only [Prod.mk.injEq] at hh
    simp [hi, hh]
  refine wpList_plain hg1 fun K1 hK1 => ?_
  have hb := run_buildSlice_one (P := P) w t e z size ht hi' vy (by rw [← Array.length_toList, hcells, hcl, hr]) hsz.1 hsz.2
  unfold Oper.wp
  simp only [execOp, ho1, List.map_toArray, List.map_cons, List.map_nil, hx]
  simp only [Sem.run_bind, hb, Result.andThen_ok, Sem.run_pure, Oper.upon_value]
  apply hK1
  rw [hd]
  refine wpList_plain hg2 fun K2 hK2 => ?_
  have hkeep : ∀ b, b < w.heap.size → (w.alloc (.cells vy.cells e)).heap[b]? = w.heap[b]? := fun b hb => Below.heap_alloc _ _ _ hb
  have hacc' : r.acc e base Q (w.alloc (.cells vy.cells e)) v xs := Rep.acc_keep (fun b _ hl => hkeep b hl.lt) (fun _ hb _ => hb) h
  have hbn : (w.alloc (.cells vy.cells e)).heap[w.heap.size]? = some (.cells vy.cells e) := heap_alloc_new w _
  obtain ⟨v', w', q1, q2, q3, q4⟩ := Rep.acc_more (P := P) (w := w.alloc (.cells vy.cells e)) (ty := o2.type) (ys := [y]) (A := some ⟨w.heap.size, 0, none⟩) (m := 1) (c := 1) (es := cs)
    ht hi hzs hsz.1 hr hacc' rfl
    (Rep.row_one_elem (r.keep (fun b hb hl => ⟨hb, hkeep b hl.lt⟩) hrd)) (fun _ => ⟨w.heap.size, 0, rfl, fun j u hj => by
      rw [cell_of_row _ _ _ _ _ _ hbn, Nat.zero_add, ← hj, ← hcells]; simp⟩)
    (by simpa using h63) (by simpa using hbytes) (by simp; omega)
  unfold Oper.wp execOp
  simp only [ho2, resolve, invoke, builtin, Sem.run_bind, Sem.run_pure, Result.andThen_ok, List.map_toArray, List.map_cons, List.map_nil, hs, he, q1]
  refine hK2 _ _ (K v' w' q2 ?_ (by simpa using q4))
  exact (World.grownBy_alloc w _ _).trans q3

/-- 'append(s, xs...)'. -/
theorem wpList_spread {ops : Array Oper} {rest : List Oper} {o : Oper} {a : Act} {R : Exit → Act → World → Prop} (hg : o.guard = none) (s x : Operand) (t : TypeId)
    (ho : o.op = .call { callee := .builtin .append, args := #[s, x], argTypes := #[t, t] })
    (z : Value) (size bytes : Nat) (ht : P.underlying t = some (.slice e)) (hi : (P.info? e).map (fun i => (i.zero, i.size, i.bytes)) = some (some z, size, bytes)) (hzs : z.cells.size = size) (hsz : 0 < size)
    (hr : r.size = size) (v : Value) (xs : List α) (hs : a.eval s = v) (h : r.acc e base Q w v xs) (u : Value) (ys : List α) (hx : a.eval x = u) (hy : r.list.val Q' w u ys)
    (hq : ∀ b, Q' b → IsC w b → Q b ∧ v.ownBlock ≠ some b)
    (h63 : xs.length + ys.length ≤ maxLen) (hbytes : (xs.length + ys.length) * bytes ≤ 140737488355328) (hbase : base ≤ w.heap.size)
    (K : ∀ v' w', r.acc e base Q w' v' (xs ++ ys) → w.grownBy w' v.ownBlock → (v'.ownBlock = v.ownBlock ∨ v'.ownBlock = some w.heap.size) → wpList P ops R rest (a.put o.dst v') w') :
    wpList P ops R (o :: rest) a w := by
  obtain ⟨A, c, rfl, h1, h2, es, h3, h4⟩ := Rep.val_list hy
  refine wpList_plain hg fun K2 hK2 => ?_
  obtain ⟨v', w', q1, q2, q3, q4⟩ := Rep.acc_more (P := P) (ty := o.type) (c := c) ht hi hzs hsz hr h rfl (Rep.row_keep (fun b hb hl => ⟨hq b hb hl, rfl⟩) h3)
    (fun hn => by obtain ⟨b, off, q1, _, _, q2⟩ := h4 hn; exact ⟨b, off, q1, q2⟩) h63 hbytes hbase
  unfold Oper.wp execOp
  simp only [ho, resolve, invoke, builtin, Sem.run_bind, Sem.run_pure, Result.andThen_ok, List.map_toArray, List.map_cons, List.map_nil, hs, hx, q1]
  exact hK2 _ _ (K v' w' q2 q3 q4)
end

namespace Rep
theorem row_byte {Q : Nat → Prop} {w : World} : ∀ {l : List UInt8} {es : List Value}, Rep.byte.row Q w es l → es = l.map fun x => .int .u8 (x.toNat : Int)
  | [], _, h => h
  | x :: l, _, h => by
    obtain ⟨as0, rest, rfl, h1, h2⟩ := h
    obtain rfl : as0 = [.int .u8 (x.toNat : Int)] := h1
    rw [row_byte h2]; rfl

theorem byte_row {Q : Nat → Prop} {w : World} : ∀ (l : List UInt8), Rep.byte.row Q w (l.map fun x => .int .u8 (x.toNat : Int)) l
  | [] => rfl
  | x :: l => ⟨[.int .u8 (x.toNat : Int)], l.map fun x => .int .u8 (x.toNat : Int), rfl, rfl, byte_row l⟩

theorem At.byte {Q : Nat → Prop} {w : World} {A : Option Addr} {xs : List UInt8} (h : Rep.byte.At Q w A xs) {i : Nat} {x : UInt8} (hx : xs[i]? = some x) :
    ∃ b off, A = some ⟨b, off, none⟩ ∧ w.cell? ⟨b, off + i, none⟩ = some (.int .u8 (x.toNat : Int)) := by
  obtain ⟨b, off, es, h1, _, _, rfl, h4⟩ := h.get hx
  exact ⟨b, off, h1, by simpa [Rep.byte] using h4 0 _ rfl⟩

theorem At.int {k : IntKind} {Q : Nat → Prop} {w : World} {A : Option Addr} {xs : List Int} (h : (Rep.int k).At Q w A xs) {i : Nat} {x : Int} (hx : xs[i]? = some x) :
    ∃ b off, A = some ⟨b, off, none⟩ ∧ w.cell? ⟨b, off + i, none⟩ = some (.int k x) ∧ (Lit.int k x).wf = true := by
  obtain ⟨b, off, es, h1, _, _, ⟨rfl, h3⟩, h4⟩ := h.get hx
  exact ⟨b, off, h1, by simpa [Rep.int] using h4 0 _ rfl, h3⟩

/-- An element that is a slice. -/
theorem At.list {α : Type} {r : Rep α} {Q : Nat → Prop} {w : World} {A : Option Addr} {xs : List (List α)} (h : r.list.At Q w A xs) {i : Nat} {x : List α} (hx : xs[i]? = some x) :
    ∃ b off B c, A = some ⟨b, off, none⟩ ∧ w.cell? ⟨b, off + i, none⟩ = some (.slice B x.length c) ∧ x.length ≤ c ∧ c ≤ maxLen ∧ r.At Q w B x := by
  obtain ⟨b, off, es, h1, _, _, ⟨B, c, es', rfl, h2, h3, h4, h5⟩, h6⟩ := h.get hx
  exact ⟨b, off, B, c, h1, by simpa [Rep.list] using h6 0 _ rfl, h2, h3, es', h4, h5⟩

/-- 'string(b)'. -/
theorem At.toText {P : Program} {Q : Nat → Prop} {w : World} {A : Option Addr} {l : List UInt8} {src dst e : TypeId} (h : Rep.byte.At Q w A l) (hs : P.underlying src = some (.slice e)) (he : P.underlying e = some (.int .u8)) (hd : P.underlying dst = some .string) (c : Nat) :
    (convert src dst (.slice A l.length c)).run P w = .ok (.string ⟨l.toArray⟩) w := by
  have key : (convert src dst (.slice A l.length c)).run P w = .ok (.string (strOfNums (l.map fun x => (x.toNat : Int)))) w := by
    rcases Nat.eq_zero_or_pos l.length with h0 | h0
    · have : l = [] := List.eq_nil_of_length_eq_zero h0
      subst this
      cases A with
      | none => rw [run_convert_bytes_nil (P := P) w src e hs he _ c dst hd]; rfl
      | some a =>
        have hl : (loadCells a 0).run P w = .ok (([] : List Int).map (Value.int .u8)).toArray w := by simp [loadCells, loadCellsFrom]
        rw [run_convert_bytes_string w src dst e _ _ c hs he hd]
        exact run_bytesToString w a 0 c [] hl
    · obtain ⟨es, h1, h2⟩ := h
      obtain ⟨b, off, rfl, _, _, hc⟩ := h2 h0
      refine run_convert_bytes_arg (P := P) w src e hs he b off l.length c (l.map fun x => (x.toNat : Int)) (by simp) (fun i hi => ?_) dst hd
      refine hc i _ ?_
      rw [row_byte h1]
      simp [List.getElem?_map, List.getElem?_eq_getElem hi, List.getD]
  rw [key]
  congr 2
  have hm : (l.map fun x => (x.toNat : Int)).map (fun n => UInt8.ofNat n.toNat) = l := by
    rw [List.map_map]
    have : ((fun n : Int => UInt8.ofNat n.toNat) ∘ fun x : UInt8 => (x.toNat : Int)) = id := by funext x; simp
    rw [this, List.map_id]
  simp only [strOfNums, hm]
end Rep

/-- A quiet call in a region behind draws. -/
theorem q_same {P : Program} {f : FuncId} {args : Array Value} {w : World} {n m : Nat} {v : Value}
    (h : Calls P f args (w.drewN (n + m)) fun e w' => e = .returned v ∧ w' = w.drewN (n + m)) : Calls P f args (w.drewN (n + m)) fun e w'' => e = .returned v ∧ ∃ k, w'' = w.drewN (n + k) :=
  h.mono fun _ _ ⟨he, hm⟩ => ⟨he, m, hm⟩
theorem q_more {P : Program} {f : FuncId} {args : Array Value} {w : World} {n m : Nat} {v : Value}
    (h : Calls P f args (w.drewN (n + m)) fun e w' => e = .returned v ∧ ∃ k, w' = (w.drewN (n + m)).drewN k) : Calls P f args (w.drewN (n + m)) fun e w'' => e = .returned v ∧ ∃ k, w'' = w.drewN (n + k) :=
  h.mono fun _ _ ⟨he, k, hm⟩ => ⟨he, m + k, by rw [hm, World.drewN_drewN, Nat.add_assoc]⟩

namespace Rep
theorem row_take {α : Type} {r : Rep α} {Q : Nat → Prop} {w : World} {xs : List α} {es : List Value} (h : r.row Q w es xs) (n : Nat) : r.row Q w (es.take (n * r.size)) (xs.take n) := by
  have h' : r.row Q w es (xs.take n ++ xs.drop n) := by rwa [List.take_append_drop]
  obtain ⟨as0, bs, rfl, h1, h2⟩ := row_split h'
  have l1 := row_len h1
  by_cases hn : n ≤ xs.length
  · rw [List.length_take, Nat.min_eq_left hn] at l1
    rw [← l1, List.take_left]; exact h1
  · have hd : xs.drop n = [] := List.drop_eq_nil_of_le (by omega)
    rw [hd] at h2
    obtain rfl : bs = [] := h2
    rw [List.append_nil, List.take_of_length_le]
    · exact h1
    · rw [l1, List.length_take]; exact Nat.mul_le_mul_right _ (Nat.min_le_left _ _)

theorem row_drop {α : Type} {r : Rep α} {Q : Nat → Prop} {w : World} {xs : List α} {es : List Value} (h : r.row Q w es xs) {n : Nat} (hn : n ≤ xs.length) : r.row Q w (es.drop (n * r.size)) (xs.drop n) := by
  have h' : r.row Q w es (xs.take n ++ xs.drop n) := by rwa [List.take_append_drop]
  obtain ⟨as0, bs, rfl, h1, h2⟩ := row_split h'
  have l1 := row_len h1
  rw [List.length_take, Nat.min_eq_left hn] at l1
  rw [← l1, List.drop_left]; exact h2

/-- 's[:n]'. -/
theorem At.take {α : Type} {r : Rep α} {Q : Nat → Prop} {w : World} {A : Option Addr} {xs : List α} (h : r.At Q w A xs) (n : Nat) : r.At Q w A (xs.take n) := by
  obtain ⟨es, h1, h2⟩ := h
  refine ⟨_, row_take h1 n, fun hn => ?_⟩
  obtain ⟨b, off, hA, hq, hb, hc⟩ := h2 (by rw [List.length_take] at hn; omega)
  refine ⟨b, off, hA, hq, hb, fun j u hj => hc j u ?_⟩
  rw [List.getElem?_take] at hj
  split at hj
  · exact hj
  · cases hj

/-- 's[n:]' (below the capacity). -/
theorem At.drop {α : Type} {r : Rep α} {Q : Nat → Prop} {w : World} {b off : Nat} {xs : List α} (h : r.At Q w (some ⟨b, off, none⟩) xs) {n : Nat} (hn : n ≤ xs.length) : r.At Q w (some ⟨b, off + n * r.size, none⟩) (xs.drop n) := by
  obtain ⟨es, h1, h2⟩ := h
  refine ⟨_, row_drop h1 hn, fun hp => ?_⟩
  obtain ⟨b', off', hA, hq, hb, hc⟩ := h2 (by rw [List.length_drop] at hp; omega)
  injection hA with hA
  injection hA with e1 e2
  subst e1 e2
  refine ⟨b, off + n * r.size, rfl, hq, hb, fun j u hj => ?_⟩
  rw [Nat.add_assoc]
  exact hc _ u (by rw [← hj, List.getElem?_drop])

theorem At.addr {α : Type} {r : Rep α} {Q : Nat → Prop} {w : World} {A : Option Addr} {xs : List α} (h : r.At Q w A xs) (hn : 0 < xs.length) : ∃ b off, A = .some ⟨b, off, none⟩ := by
  obtain ⟨es, h1, h2⟩ := h
  obtain ⟨b, off, hA, _⟩ := h2 hn
  exact ⟨b, off, hA⟩
end Rep

/-- A world grown at a row of the call's own: what lay below stands. -/
theorem grown_block {w0 w w' : World} {B : Nat} {row : Option Nat} (hb : Below B w0 w) (hg : w.grownBy w' row) (hB : B ≤ w.heap.size) (hr : ∀ k, row = some k → B ≤ k) : Below B w0 w' := hb.grown hg hB hr

theorem Rep.At.grown {α : Type} {r : Rep α} {Q : Nat → Prop} {w w' : World} {A : Option Addr} {xs : List α} {row : Option Nat} (h : r.At Q w A xs) (hg : w.grownBy w' row) (hr : ∀ b, Q b → row ≠ some b) : r.At Q w' A xs :=
  h.keep fun b hb hl => ⟨hb, hg.block b hl.lt (fun e => hr b hb e.symm)⟩
theorem Rep.val_grown {α : Type} {r : Rep α} {Q : Nat → Prop} {w w' : World} {v : Value} {x : α} {row : Option Nat} (h : r.val Q w v x) (hg : w.grownBy w' row) (hr : ∀ b, Q b → row ≠ some b) : r.val Q w' v x :=
  Rep.val_keep (fun b hb hl => ⟨hb, hg.block b hl.lt (fun e => hr b hb e.symm)⟩) h
theorem Rep.At.below {α : Type} {r : Rep α} {Q : Nat → Prop} {w w' : World} {A : Option Addr} {xs : List α} {B : Nat} (h : r.At Q w A xs) (hb : Below B w w') (hr : ∀ b, Q b → IsC w b → b < B) : r.At Q w' A xs :=
  h.keep fun b hq hl => ⟨hq, hb.block b (hr b hq hl)⟩
theorem Rep.val_below {α : Type} {r : Rep α} {Q : Nat → Prop} {w w' : World} {v : Value} {x : α} {B : Nat} (h : r.val Q w v x) (hb : Below B w w') (hr : ∀ b, Q b → IsC w b → b < B) : r.val Q w' v x :=
  Rep.val_keep (fun b hq hl => ⟨hq, hb.block b (hr b hq hl)⟩) h

/-- A call that returns a value that reads as0 x, out of blocks of Q, and leaves what there was. -/
def Res {α : Type} (r : Rep α) (Q : Nat → Prop) (w : World) (x : α) (e : Ending) (w' : World) : Prop := ∃ u, e = .returned u ∧ r.val Q w' u x ∧ Below w.heap.size w w'

theorem Rep.acc_made {α : Type} {r : Rep α} {e base : Nat} {Q : Nat → Prop} (w : World) (cur : Array Value) (cap : Nat) (hb : base ≤ w.heap.size) (hm : cap ≤ maxLen) (hs : cur.size = cap * r.size) :
    r.acc e base Q (w.alloc (.cells cur e)) (.slice (some ⟨w.heap.size, 0, none⟩) 0 cap) [] := ⟨[], World.ownsRow_made w cur cap hb hm hs, rfl⟩

/-- Values without blocks of their own. -/
def Rep.Leaf {α : Type} (r : Rep α) : Prop := ∀ (Q Q' : Nat → Prop) (w w' : World) (cs : List Value) (x : α), r.rd Q w cs x → r.rd Q' w' cs x
theorem Rep.leaf_int (k : IntKind) : (Rep.int k).Leaf := fun _ _ _ _ _ _ h => h
theorem Rep.leaf_byte : Rep.byte.Leaf := fun _ _ _ _ _ _ h => h
theorem Rep.leaf_bool : Rep.bool.Leaf := fun _ _ _ _ _ _ h => h
theorem Rep.leaf_text : Rep.text.Leaf := fun _ _ _ _ _ _ h => h
theorem Rep.leaf_pair {α β : Type} {r : Rep α} {s : Rep β} (hr : r.Leaf) (hs : s.Leaf) : (r.pair s).Leaf := fun Q Q' w w' _ x ⟨as0, bs, h, h1, h2⟩ => ⟨as0, bs, h, hr Q Q' w w' as0 x.1 h1, hs Q Q' w w' bs x.2 h2⟩
theorem Rep.leaf_iso {α β : Type} {r : Rep α} (f : β → α) (hr : r.Leaf) : (r.iso f).Leaf := fun Q Q' w w' cs x h => hr Q Q' w w' cs (f x) h
theorem Rep.row_leaf {α : Type} {r : Rep α} (hr : r.Leaf) {Q Q' : Nat → Prop} {w w' : World} : ∀ {xs : List α} {es : List Value}, r.row Q w es xs → r.row Q' w' es xs
  | [], _, h => h
  | x :: xs, _, h => by
    obtain ⟨as0, rest, rfl, h1, h2⟩ := h
    exact ⟨as0, rest, rfl, hr _ _ _ _ _ _ h1, row_leaf hr h2⟩

/-- 'append(s, xs...)' of values without blocks of their own. -/
theorem wpList_spread_leaf {α : Type} {r : Rep α} {e base : Nat} {Q Q' : Nat → Prop} {P : Program} {w : World} (hleaf : r.Leaf) {ops : Array Oper} {rest : List Oper} {o : Oper} {a : Act} {R : Exit → Act → World → Prop} (hg : o.guard = none) (s x : Operand) (t : TypeId)
    (ho : o.op = .call { callee := .builtin .append, args := #[s, x], argTypes := #[t, t] })
    (z : Value) (size bytes : Nat) (ht : P.underlying t = some (.slice e)) (hi : (P.info? e).map (fun i => (i.zero, i.size, i.bytes)) = some (some z, size, bytes)) (hzs : z.cells.size = size) (hsz : 0 < size)
    (hr : r.size = size) (v : Value) (xs : List α) (hs : a.eval s = v) (h : r.acc e base Q w v xs) (u : Value) (ys : List α) (hx : a.eval x = u) (hy : r.list.val Q' w u ys)
    (h63 : xs.length + ys.length ≤ maxLen) (hbytes : (xs.length + ys.length) * bytes ≤ 140737488355328) (hbase : base ≤ w.heap.size)
    (K : ∀ v' w', r.acc e base Q w' v' (xs ++ ys) → w.grownBy w' v.ownBlock → (v'.ownBlock = v.ownBlock ∨ v'.ownBlock = some w.heap.size) → wpList P ops R rest (a.put o.dst v') w') :
    wpList P ops R (o :: rest) a w := by
  obtain ⟨A, c, rfl, h1, h2, es, h3, h4⟩ := Rep.val_list hy
  refine wpList_plain hg fun K2 hK2 => ?_
  obtain ⟨v', w', q1, q2, q3, q4⟩ := Rep.acc_more (P := P) (ty := o.type) (c := c) ht hi hzs hsz hr h rfl (Rep.row_leaf hleaf h3)
    (fun hn => by obtain ⟨b, off, q1, _, _, q2⟩ := h4 hn; exact ⟨b, off, q1, q2⟩) h63 hbytes hbase
  unfold Oper.wp execOp
  simp only [ho, resolve, invoke, builtin, Sem.run_bind, Sem.run_pure, Result.andThen_ok, List.map_toArray, List.map_cons, List.map_nil, hs, hx, q1]
  exact hK2 _ _ (K v' w' q2 q3 q4)

/-- What a slice of the call's own reads as0, its elements without blocks. -/
theorem Rep.acc_fresh {α : Type} {r : Rep α} {e base : Nat} {w : World} {v : Value} {xs : List α} (h : r.acc e base (fun _ => False) w v xs) : r.list.val (fun b => base ≤ b) w v xs :=
  Rep.val_mono (fun b hb _ => by
    rcases hb with hb | hb
    · exact hb.elim
    · exact (Rep.acc_own h b hb).1) (Rep.acc_val h)

/-- The world behind an append: what lay below stands. -/
theorem Rep.acc_below {α : Type} {r : Rep α} {e base : Nat} {Q : Nat → Prop} {w0 w w' : World} {v : Value} {xs : List α} (h : r.acc e base Q w v xs) (hb : Below base w0 w) (hg : w.grownBy w' v.ownBlock) (hB : base ≤ w.heap.size) : Below base w0 w' :=
  hb.grown hg hB fun k hk => (Rep.acc_own h k hk).1

def zeroBytes (n : Nat) : Array Value := madeCells #[.int .u8 0] n

theorem Rep.row_map_byte {Q : Nat → Prop} {w : World} (l : List UInt8) : Rep.byte.row Q w (l.map fun x => .int .u8 (x.toNat : Int)) l := Rep.byte_row l

/-- 'make([]byte, n)' reads as0 n zeros. -/
theorem Rep.made_bytes (w : World) (n : Nat) (hn : n ≤ maxLen) : Rep.byte.list.val (fun b => w.heap.size ≤ b) (w.alloc (.cells (zeroBytes n) 5)) (.slice (some ⟨w.heap.size, 0, none⟩) n n) (List.replicate n 0) := by
  refine list_val (by simp) (Nat.le_refl _) hn ⟨_, byte_row _, fun _ => ⟨w.heap.size, 0, rfl, Nat.le_refl _, ⟨_, _, _, heap_alloc_new w _⟩, fun j u hj => ?_⟩⟩
  rw [cell_of_row _ _ _ _ _ _ (heap_alloc_new w _), Nat.zero_add, ← hj, ← Array.getElem?_toList, zeroBytes, toList_madeCells_one]
  simp

theorem run_make_bytes {P : Program} {t e : TypeId} (ht : P.underlying t = some (.slice e)) (hi : (P.info? e).map (fun i => (i.zero, i.size, i.bytes)) = some (some (.int .u8 0), 1, 1)) (n : Nat) (hn : n ≤ 1000000000000) (w : World) :
    (Instr.makeSlice t (.int .i64 (n : Int)) (.int .i64 (n : Int))).run P w = .ok (.slice (some ⟨w.heap.size, 0, none⟩) n n) (w.alloc (.cells (zeroBytes n) e)) :=
  run_make_row' t e (.int .u8 0) 1 ht hi rfl .i64 .i64 n (by omega) (by omega) w

theorem below_drewN {B : Nat} {a w : World} (h : Below B a w) (n : Nat) : Below B a (w.drewN n) := ⟨h.os, h.tape, h.output, h.size, h.block⟩

end Go.Proofs.Ytcfgckpjgihcgaa
/- Walks of the references' small functions on bytes and lists. -/
namespace Go.Proofs.Ytcfgckpjgihcgaa
open Go.RowKit

/-- ref01.Same -/
theorem sameBytes {Q Q' : Nat → Prop} {w : World} {v u : Value} {xs ys : List UInt8} (hx : Rep.byte.list.val Q w v xs) (hy : Rep.byte.list.val Q' w u ys) :
    Calls Try.prog 21 #[v, u] w fun e w' => e = .returned (.bool (decide (xs = ys))) ∧ w' = w := by
  obtain ⟨A, c, rfl, hc1, hc2, hA⟩ := Rep.val_list hx
  obtain ⟨B, d, rfl, hd1, hd2, hB⟩ := Rep.val_list hy
  have h1 := hA.toText (P := Try.prog) Try.underlying22 Try.underlying5 Try.underlying9 c
  have h2 := hB.toText (P := Try.prog) Try.underlying22 Try.underlying5 Try.underlying9 d
  clear hx hy hA hB hc1 hc2 hd1 hd2
  go_enter Try.func21, Try.ntmps21
  go_wp2_with fail
  go_ret
  exact ⟨by simp [Bool.beq_eq_decide_eq], rfl⟩

/-- ref17.Same -/
theorem samePieces {Q Q' : Nat → Prop} {w : World} {v u : Value} {xs ys : List (List UInt8)} (hx : Rep.byte.list.list.val Q w v xs) (hy : Rep.byte.list.list.val Q' w u ys) :
    Calls Try.prog 19 #[v, u] w fun e w' => e = .returned (.bool (decide (xs = ys))) ∧ ∃ n, w' = w.drewN n := by
  obtain ⟨A, c, rfl, hc1, hc2, hA⟩ := Rep.val_list hx
  obtain ⟨B, d, rfl, hd1, hd2, hB⟩ := Rep.val_list hy
  clear hx hy
  unfold maxLen at hc2 hd2
  by_cases hlen : xs.length = ys.length
  · have hne : ((xs.length : Int) != (ys.length : Int)) = false := by simp [hlen]
    have H := Lib.hid hlen
    clear hlen
    go_enter Try.func19, Try.ntmps19
    go_wp2_with fail
    go_loopw [5] (fun i wr => ∃ k : Nat, i = .int .i64 k ∧ k ≤ xs.length ∧ xs.take k = ys.take k ∧ ∃ n, w.drewN n = wr) (fun i _ => xs.length - (intOf i).toNat)
    case atStart => exact ⟨0, rfl, Nat.zero_le _, by simp, 0, rfl⟩
    case round =>
      obtain ⟨k, rfl, hk, htk, n, rfl⟩ := hrel
      by_cases hlt : k < xs.length
      · obtain ⟨b, off, A1, c1, rfl, cx, q1, q2, hA1⟩ := hA.list (List.getElem?_eq_getElem hlt)
        have hlt' : k < ys.length := by rw [← H.out]; exact hlt
        obtain ⟨b', off', B1, d1, rfl, cy, q3, q4, hB1⟩ := hB.list (List.getElem?_eq_getElem hlt')
        have T := Lib.hid htk
        clear htk
        have i1 : (k : Int) < (xs.length : Int) := by omega
        have i2 : (k : Int) < (ys.length : Int) := by omega
        have hs : ∀ m, Calls Try.prog 21 #[.slice A1 xs[k].length c1, .slice B1 ys[k].length d1] (w.drewN m) fun e w' => e = .returned (.bool (decide (xs[k] = ys[k]))) ∧ w' = w.drewN m :=
          fun m => sameBytes (Rep.list_val rfl q1 q2 (hA1.drewN m)) (Rep.list_val rfl q3 q4 (hB1.drewN m))
        clear q1 q2 q3 q4 hA1 hB1
        generalize hX : xs[k] = x at *
        generalize hY : ys[k] = y at *
        have HX := Lib.hid hX
        have HY := Lib.hid hY
        have HS := Lib.hid hs
        clear hX hY hs
        by_cases hxy : x = y
        · have HXY := Lib.hid hxy
          have hd : decide (x = y) = true := by simp [hxy]
          clear hxy
          go_wp2_with fail
          go_quiet ((go_at_call 21; exact q_same (HS.out _)))
          go_wp2_with fail
          go_roundw
          case rel => exact ⟨k + 1, by go_num, by omega, by rw [List.take_succ_eq_append_getElem hlt, List.take_succ_eq_append_getElem hlt', T.out, HX.out, HY.out, HXY.out], _, rfl⟩
          case measure => simp [intOf]; omega
        · have HXY := Lib.hid hxy
          have hd : decide (x = y) = false := by simp [hxy]
          clear hxy
          go_wp2_with fail
          go_quiet ((go_at_call 21; exact q_same (HS.out _)))
          go_wp2_with fail
          go_ret
          refine ⟨?_, by rw [World.drewN_drewN]; exact ⟨_, rfl⟩⟩
          have : ¬ xs = ys := by rintro rfl; exact HXY.out (HX.out.symm.trans HY.out)
          simp [this]
      · have hk' : k = xs.length := by omega
        have hall : xs = ys := by rw [← List.take_length (l := xs), ← hk', htk, hk', H.out, List.take_length]
        have HA := Lib.hid hall
        have HK := Lib.hid hk'
        clear hall hk' htk
        have i1 : ¬ (k : Int) < (xs.length : Int) := by omega
        go_wp2_with fail
        go_ret
        exact ⟨by simp [HA.out], _, rfl⟩
  · have hne : ((xs.length : Int) != (ys.length : Int)) = true := by simp; omega
    have H := Lib.hid hlen
    clear hlen
    go_enter Try.func19, Try.ntmps19
    go_wp2_with fail
    go_ret
    refine ⟨?_, 0, rfl⟩
    have : ¬ xs = ys := by rintro rfl; exact H.out rfl
    simp [this]
end Go.Proofs.Ytcfgckpjgihcgaa
/- Walks of the library's small copies. -/
namespace Go.Proofs.Ytcfgckpjgihcgaa
open Go.RowKit

theorem info22 : (Try.prog.info? 22).map (fun i => (i.zero, i.size, i.bytes)) = some (some (.slice none 0 0), 1, 24) := by kernel_rfl
theorem info5 : (Try.prog.info? 5).map (fun i => (i.zero, i.size, i.bytes)) = some (some (.int .u8 0), 1, 1) := by kernel_rfl

/-- bytes.Clone -/
theorem bytesClone {Q : Nat → Prop} {w : World} {v : Value} {l : List UInt8} (hx : Rep.byte.list.val Q w v l) (hl : l.length ≤ 100000000000000) :
    Calls Try.prog 129 #[v] w (Res Rep.byte.list (fun b => w.heap.size ≤ b) w l) := by
  obtain ⟨A, c, rfl, hc1, hc2, hA⟩ := Rep.val_list hx
  unfold maxLen at hc2
  cases A with
  | none =>
    have hnil : l = [] := by
      rcases Nat.eq_zero_or_pos l.length with h | h
      · exact List.eq_nil_of_length_eq_zero h
      · obtain ⟨b, off, h⟩ := hA.addr h; cases h
    subst hnil
    have he := fun w => Lib.run_eql_slice_nil (P := Try.prog) w 22 5 none 0 c 0 0 Try.underlying22
    go_enter Try.func129, Try.ntmps129
    go_wp2_with fail
    go_ret
    exact ⟨_, rfl, Rep.val_nil (by simp [maxLen]), Below.refl _ _⟩
  | some a =>
    have he := fun w => Lib.run_eql_slice_nil (P := Try.prog) w 22 5 (some a) l.length c 0 0 Try.underlying22
    have HX := Lib.hid (show Rep.byte.list.val (fun b => b < w.heap.size) (w.alloc (.cells #[] 5)) (.slice (some a) l.length c) l from Rep.val_keep (w := w) (fun b _ hl => ⟨hl.lt, Below.heap_alloc _ _ _ hl.lt⟩) hx)
    have HA := Lib.hid (show Rep.byte.acc 5 w.heap.size (fun _ => False) (w.alloc (.cells #[] 5)) (.slice (some ⟨w.heap.size, 0, none⟩) 0 0) [] from Rep.acc_made w #[] 0 (Nat.le_refl _) (by simp [maxLen]) (by simp))
    have HB1 := Lib.hid (show ([] : List UInt8).length + l.length ≤ maxLen from by simp [maxLen]; omega)
    have HB2 := Lib.hid (show (([] : List UInt8).length + l.length) * 1 ≤ 140737488355328 from by simp; omega)
    have HB3 := Lib.hid (show w.heap.size ≤ (w.alloc (.cells #[] 5)).heap.size from by simp)
    clear hx hA
    go_enter Try.func129, Try.ntmps129
    go_wp2_with (refine wpList_spread_leaf (e := 5) (base := w.heap.size) (Q := fun _ => False) Rep.leaf_byte rfl _ _ 22 rfl (.int .u8 0) 1 1 Try.underlying22 info5 rfl (by decide) rfl _ [] (by exact rfl) HA.out _ l (by exact rfl) HX.out HB1.out HB2.out HB3.out ?_; intro v' w' hacc' hgr hat)
    go_ret
    exact ⟨_, rfl, by simpa using Rep.acc_fresh hacc', Rep.acc_below HA.out ((Below.refl _ w).alloc (Nat.le_refl _) _) hgr HB3.out⟩
end Go.Proofs.Ytcfgckpjgihcgaa
/- Walks of the small functions on numbers as0 bytes. -/
namespace Go.Proofs.Ytcfgckpjgihcgaa
open Go.RowKit

def wide (n : Int) : Int := if n < 1 then 1 else if 8 < n then 8 else n
theorem wide_ge (n : Int) : 1 ≤ wide n := by unfold wide; split <;> (try split) <;> omega
theorem wide_le (n : Int) : wide n ≤ 8 := by unfold wide; split <;> (try split) <;> omega

/-- le.wide -/
theorem wide_calls (n : Int) (w : World) :
    Calls Try.prog 249 #[.int .i64 n] w fun e w' => e = .returned (.int .i64 (wide n)) ∧ w' = w := by
  by_cases h : n < 1
  · have hf : wide n = 1 := by rw [wide, if_pos h]
    have HF := Lib.hid hf
    clear hf
    go_enter Try.func249, Try.ntmps249
    go_wp2_with fail
    go_ret
    exact ⟨by rw [HF.out]; rfl, rfl⟩
  · by_cases h' : 8 < n
    · have hf : wide n = 8 := by rw [wide, if_neg h, if_pos h']
      have HF := Lib.hid hf
      clear hf
      go_enter Try.func249, Try.ntmps249
      go_wp2_with fail
      go_ret
      exact ⟨by rw [HF.out]; rfl, rfl⟩
    · have hf : wide n = n := by rw [wide, if_neg h, if_neg h']
      have HF := Lib.hid hf
      clear hf
      go_enter Try.func249, Try.ntmps249
      go_wp2_with fail
      go_ret
      exact ⟨by rw [HF.out]; rfl, rfl⟩
/-- ref01.wide -/
theorem rwide_calls (n : Int) (w : World) :
    Calls Try.prog 237 #[.int .i64 n] w fun e w' => e = .returned (.int .i64 (wide n)) ∧ w' = w := by
  by_cases h : n < 1
  · have hf : wide n = 1 := by rw [wide, if_pos h]
    have HF := Lib.hid hf
    clear hf
    go_enter Try.func237, Try.ntmps237
    go_wp2_with fail
    go_ret
    exact ⟨by rw [HF.out]; rfl, rfl⟩
  · by_cases h' : 8 < n
    · have hf : wide n = 8 := by rw [wide, if_neg h, if_pos h']
      have HF := Lib.hid hf
      clear hf
      go_enter Try.func237, Try.ntmps237
      go_wp2_with fail
      go_ret
      exact ⟨by rw [HF.out]; rfl, rfl⟩
    · have hf : wide n = n := by rw [wide, if_neg h, if_neg h']
      have HF := Lib.hid hf
      clear hf
      go_enter Try.func237, Try.ntmps237
      go_wp2_with fail
      go_ret
      exact ⟨by rw [HF.out]; rfl, rfl⟩

/-- A call that returns a slice of its own that reads as0 x. -/
def ResA {α : Type} (r : Rep α) (e : Nat) (w : World) (x : List α) (en : Ending) (w' : World) : Prop := ∃ u, en = .returned u ∧ r.acc e w.heap.size (fun _ => False) w' u x ∧ Below w.heap.size w w'
theorem ResA.res {α : Type} {r : Rep α} {e : Nat} {w : World} {x : List α} {en : Ending} {w' : World} (h : ResA r e w x en w') : Res r.list (fun b => w.heap.size ≤ b) w x en w' := by
  obtain ⟨u, h1, h2, h3⟩ := h
  exact ⟨u, h1, Rep.acc_fresh h2, h3⟩
theorem Rep.acc_later {α : Type} {r : Rep α} {e base : Nat} {Q : Nat → Prop} {w w' : World} {v : Value} {xs : List α} (h : r.acc e base Q w v xs) (hb : Below w.heap.size w w') : r.acc e base Q w' v xs :=
  Rep.acc_keep (fun b _ hl => hb.block b hl.lt) (fun _ h _ => h) h

/-- slices.Clone of bytes -/
theorem sliceClone {Q : Nat → Prop} {w : World} {v : Value} {l : List UInt8} (hx : Rep.byte.list.val Q w v l) (hl : l.length ≤ 100000000000000) :
    Calls Try.prog 173 #[v] w (ResA Rep.byte 5 w l) := by
  obtain ⟨A, c, rfl, hc1, hc2, hA⟩ := Rep.val_list hx
  unfold maxLen at hc2
  cases A with
  | none =>
    have hnil : l = [] := by
      rcases Nat.eq_zero_or_pos l.length with h | h
      · exact List.eq_nil_of_length_eq_zero h
      · obtain ⟨b, off, h⟩ := hA.addr h; cases h
    subst hnil
    have he := fun w => Lib.run_eql_slice_nil (P := Try.prog) w 22 5 none 0 c 0 0 Try.underlying22
    go_enter Try.func173, Try.ntmps173
    go_wp2_with fail
    go_ret
    exact ⟨_, rfl, Rep.acc_nil, Below.refl _ _⟩
  | some a =>
    have he := fun w => Lib.run_eql_slice_nil (P := Try.prog) w 22 5 (some a) l.length c 0 0 Try.underlying22
    have HX := Lib.hid (show Rep.byte.list.val (fun b => b < w.heap.size) (w.alloc (.cells #[] 5)) (.slice (some a) l.length c) l from Rep.val_keep (w := w) (fun b _ hl => ⟨hl.lt, Below.heap_alloc _ _ _ hl.lt⟩) hx)
    have HA := Lib.hid (show Rep.byte.acc 5 w.heap.size (fun _ => False) (w.alloc (.cells #[] 5)) (.slice (some ⟨w.heap.size, 0, none⟩) 0 0) [] from Rep.acc_made w #[] 0 (Nat.le_refl _) (by simp [maxLen]) (by simp))
    have HB1 := Lib.hid (show ([] : List UInt8).length + l.length ≤ maxLen from by simp [maxLen]; omega)
    have HB2 := Lib.hid (show (([] : List UInt8).length + l.length) * 1 ≤ 140737488355328 from by simp; omega)
    have HB3 := Lib.hid (show w.heap.size ≤ (w.alloc (.cells #[] 5)).heap.size from by simp)
    clear hx hA
    go_enter Try.func173, Try.ntmps173
    go_wp2_with (refine wpList_spread_leaf (e := 5) (base := w.heap.size) (Q := fun _ => False) Rep.leaf_byte rfl _ _ 22 rfl (.int .u8 0) 1 1 Try.underlying22 info5 rfl (by decide) rfl _ [] (by exact rfl) HA.out _ l (by exact rfl) HX.out HB1.out HB2.out HB3.out ?_; intro v' w' hacc' hgr hat)
    go_ret
    exact ⟨_, rfl, by simpa using hacc', Rep.acc_below HA.out ((Below.refl _ w).alloc (Nat.le_refl _) _) hgr HB3.out⟩

/-- The bytes of a number. -/
def digit (n : Int) (i : Nat) : UInt8 := UInt8.ofNat (n / 2 ^ (8 * i) % 256).toNat
def num (width n : Int) : List UInt8 := (List.range (wide width).toNat).map (digit n)
theorem digit_cell (n : Int) (i : Nat) {Q : Nat → Prop} {w : World} : Rep.byte.val Q w (.int .u8 (n / 2 ^ (8 * i) % 256)) (digit n i) := by
  have h : ((digit n i).toNat : Int) = n / 2 ^ (8 * i) % 256 := by
    have h1 := Int.emod_nonneg (n / 2 ^ (8 * i)) (b := 256) (by decide)
    have h2 := Int.emod_lt_of_pos (n / 2 ^ (8 * i)) (b := 256) (by decide)
    unfold digit
    simp only [UInt8.toNat_ofNat']
    omega
  exact ⟨[.int .u8 (n / 2 ^ (8 * i) % 256)], rfl, by show _ = _; rw [h]⟩
theorem digits_succ (n : Int) (k : Nat) : (List.range (k + 1)).map (digit n) = (List.range k).map (digit n) ++ [digit n k] := by simp [List.range_succ]

set_option maxRecDepth 10000 in
set_option maxHeartbeats 1000000 in
/-- le.Put -/
theorem put_calls {Q : Nat → Prop} {w : World} {v : Value} {l : List UInt8} {width n : Int} (hx : Rep.byte.list.val Q w v l) (hl : l.length ≤ 1000000000) (hw : (Lit.int .i64 width).wf = true) (hn : (Lit.int .i64 n).wf = true) :
    Calls Try.prog 183 #[v, .int .i64 width, .int .i64 n] w (ResA Rep.byte 5 w (l ++ num width n)) := by
  have hw1 : -9223372036854775808 ≤ width ∧ width ≤ 9223372036854775807 := by simpa [Lit.wf, IntKind.min, IntKind.max, IntKind.signed, IntKind.bits] using hw
  have hn1 : -9223372036854775808 ≤ n ∧ n ≤ 9223372036854775807 := by simpa [Lit.wf, IntKind.min, IntKind.max, IntKind.signed, IntKind.bits] using hn
  obtain ⟨A, c, rfl, hc1, hc2, hA⟩ := Rep.val_list hx
  unfold maxLen at hc2
  have HX := Lib.hid (show Rep.byte.list.val Q w (.slice A l.length l.length) l from Rep.list_val rfl (Nat.le_refl _) (by unfold maxLen; omega) hA)
  clear hx hA
  obtain ⟨W, hW⟩ : ∃ W, W = wide width := ⟨_, rfl⟩
  have g1 := wide_ge width
  have g2 := wide_le width
  rw [← hW] at g1 g2
  have HW := Lib.hid hW
  clear hW
  go_enter Try.func183, Try.ntmps183
  go_wp2_with (first | (go_at_call 173; refine (sliceClone HX.out (by omega)).mono ?_; rintro e w1 ⟨u, rfl, hu, hb⟩) | (go_at_call 249; refine (wide_calls _ _).mono ?_; rintro e w' ⟨rfl, rfl⟩; rw [← HW.out]))
  go_loopw [7, 18] (fun s i wr => ∃ k : Nat, i = .int .i64 k ∧ k ≤ W ∧ Rep.byte.acc 5 w.heap.size (fun _ => False) wr s (l ++ (List.range k).map (digit n)) ∧ Below w.heap.size w wr)
    (fun _ i _ => W.toNat - (intOf i).toNat)
  case atStart => exact ⟨0, rfl, by omega, by simpa using hu, hb⟩
  case round =>
    obtain ⟨k, rfl, hk, hacc, hbel⟩ := hrel
    have hba : w.heap.size ≤ wr.heap.size := hbel.size
    by_cases hlt : (k : Int) < W
    · have S1 := Lib.hid (show (l ++ (List.range k).map (digit n)).length + 1 ≤ maxLen by simp [maxLen]; omega)
      have S2 := Lib.hid (show ((l ++ (List.range k).map (digit n)).length + 1) * 1 ≤ 140737488355328 by simp; omega)
      go_wp2_with (refine wpList_snoc (e := 5) (base := w.heap.size) (Q := fun _ => False) (r := Rep.byte) rfl rfl _ _ 22 _ rfl rfl rfl (.int .u8 0) 1 1 Try.underlying22 info5 rfl (by decide) rfl _ _ hacc (digit n k) _ (by exact rfl) (digit_cell n k) (by exact rfl) (by exact rfl) S1.out S2.out hba ?_; intro s' w' hacc' hgr hat)
      exact ⟨⟨k + 1, by go_num, by omega, by rw [digits_succ, ← List.append_assoc]; exact hacc', Rep.acc_below hacc hbel hgr hba⟩, by simp [intOf]; omega⟩
    · have hkW : k = (wide width).toNat := by have := HW.out; omega
      have HK := Lib.hid hkW
      clear hkW
      go_wp2_with fail
      go_ret
      exact ⟨_, rfl, by rw [num, ← HK.out]; exact hacc, hbel⟩

theorem wrap_u64 (n : Int) : IntKind.u64.wrap n = n % 18446744073709551616 := by simp [IntKind.wrap, IntKind.signed, IntKind.bits]
/-- The rest of a number, behind some of its bytes. -/
theorem u64_step (n : Int) (k : Nat) : n % 18446744073709551616 / 2 ^ (8 * k) / 256 = n % 18446744073709551616 / 2 ^ (8 * (k + 1)) := by
  rw [Nat.mul_add, Int.pow_add, ← Int.ediv_ediv_of_nonneg (Int.pow_nonneg (by decide))]; rfl
theorem u64_digit (n : Int) (k : Nat) (hk : k < 8) : n % 18446744073709551616 / 2 ^ (8 * k) % 256 = n / 2 ^ (8 * k) % 256 := by
  rcases (by omega : k = 0 ∨ k = 1 ∨ k = 2 ∨ k = 3 ∨ k = 4 ∨ k = 5 ∨ k = 6 ∨ k = 7) with rfl | rfl | rfl | rfl | rfl | rfl | rfl | rfl <;> simp only [Nat.reduceMul, Int.reducePow] <;> omega

set_option maxRecDepth 10000 in
set_option maxHeartbeats 1000000 in
/-- ref01.Num -/
theorem rnum_calls {w : World} {width n : Int} (hw : (Lit.int .i64 width).wf = true) (hn : (Lit.int .i64 n).wf = true) :
    Calls Try.prog 156 #[.int .i64 width, .int .i64 n] w (ResA Rep.byte 5 w (num width n)) := by
  have hw1 : -9223372036854775808 ≤ width ∧ width ≤ 9223372036854775807 := by simpa [Lit.wf, IntKind.min, IntKind.max, IntKind.signed, IntKind.bits] using hw
  have hn1 : -9223372036854775808 ≤ n ∧ n ≤ 9223372036854775807 := by simpa [Lit.wf, IntKind.min, IntKind.max, IntKind.signed, IntKind.bits] using hn
  obtain ⟨W, hW⟩ : ∃ W, W = wide width := ⟨_, rfl⟩
  have g1 := wide_ge width
  have g2 := wide_le width
  rw [← hW] at g1 g2
  have HW := Lib.hid hW
  clear hW
  go_enter Try.func156, Try.ntmps156
  go_wp2_with fail
  go_loopw [5, 6, 7] (fun s u i wr => ∃ (k : Nat) (m : Int), i = .int .i64 k ∧ u = .int .u64 m ∧ Hid (m = n % 18446744073709551616 / 2 ^ (8 * k)) ∧ 0 ≤ m ∧ m < 18446744073709551616 ∧ k ≤ W ∧ Rep.byte.acc 5 w.heap.size (fun _ => False) wr s ((List.range k).map (digit n)) ∧ Below w.heap.size w wr)
    (fun _ _ i _ => W.toNat - (intOf i).toNat)
  case atStart => exact ⟨0, _, rfl, by rw [wrap_u64], by simp [Hid], by omega, by omega, by omega, by simpa using Rep.acc_nil, Below.refl _ _⟩
  case round =>
    obtain ⟨k, m, rfl, rfl, hm, m0, m1, hk, hacc, hbel⟩ := hrel
    have hba : w.heap.size ≤ wr.heap.size := hbel.size
    by_cases hlt : (k : Int) < W
    · have S1 := Lib.hid (show ((List.range k).map (digit n)).length + 1 ≤ maxLen by simp [maxLen]; omega)
      have S2 := Lib.hid (show (((List.range k).map (digit n)).length + 1) * 1 ≤ 140737488355328 by simp; omega)
      have D := Lib.hid (show ∀ Q w, Rep.byte.val Q w (.int .u8 (m % 256)) (digit n k) by rw [hm.out, u64_digit n k (by omega)]; exact fun Q w => digit_cell n k)
      have E := Lib.hid (show m / 256 = n % 18446744073709551616 / 2 ^ (8 * (k + 1)) by rw [hm.out, u64_step])
      go_wp2_with (first | (go_at_call 237; refine (rwide_calls _ _).mono ?_; rintro e w' ⟨rfl, rfl⟩; rw [← HW.out]) | (refine wpList_snoc (e := 5) (base := w.heap.size) (Q := fun _ => False) (r := Rep.byte) rfl rfl _ _ 22 _ rfl rfl rfl (.int .u8 0) 1 1 Try.underlying22 info5 rfl (by decide) rfl _ _ hacc (digit n k) _ (by exact rfl) (D.out _ _) (by exact rfl) (by exact rfl) S1.out S2.out hba ?_; intro s' w' hacc' hgr hat))
      exact ⟨⟨k + 1, _, by go_num, rfl, E, by omega, by omega, by omega, by rw [digits_succ]; exact hacc', Rep.acc_below hacc hbel hgr hba⟩, by simp [intOf]; omega⟩
    · have hkW : k = (wide width).toNat := by have := HW.out; omega
      have HK := Lib.hid hkW
      clear hkW
      go_wp2_with (go_at_call 237; refine (rwide_calls _ _).mono ?_; rintro e w' ⟨rfl, rfl⟩; rw [← HW.out])
      go_ret
      exact ⟨_, rfl, by rw [num, ← HK.out]; exact hacc, hbel⟩
end Go.Proofs.Ytcfgckpjgihcgaa
/- Walks of the small functions on texts as0 bytes. -/
namespace Go.Proofs.Ytcfgckpjgihcgaa
open Go.RowKit

/-- '[]byte(s)'. -/
theorem wpList_text_bytes {P : Program} {w : World} {ops : Array Oper} {rest : List Oper} {o : Oper} {a : Act} {R : Exit → Act → World → Prop} (hg : o.guard = none) (x : Operand) (src dst : TypeId)
    (ho : o.op = .convert src dst x) (hs : P.underlying src = some .string) (hd : P.underlying dst = some (.slice 5)) (he : P.underlying 5 = some (.int .u8)) (l : List UInt8) (hx : a.eval x = .string ⟨l.toArray⟩) (hl : l.length ≤ 1000000000)
    (K : ∀ v' w', Rep.byte.list.val (fun b => w.heap.size ≤ b) w' v' l → Below w.heap.size w w' → wpList P ops R rest (a.put o.dst v') w') :
    wpList P ops R (o :: rest) a w := by
  refine wpList_plain hg fun K2 hK2 => ?_
  have hr := run_bytes_of_string (P := P) w src dst 5 ⟨l.toArray⟩ hs hd he
  obtain ⟨cap, hcap⟩ : ∃ cap, cap = grownCap w (ByteArray.mk l.toArray).size 0 5 := ⟨_, rfl⟩
  have hsz : (ByteArray.mk l.toArray).size = l.length := by simp [ByteArray.size]
  have hge : (ByteArray.mk l.toArray).size ≤ cap := by rw [hcap]; exact grownCap_ge w _ 0 5
  have hle : cap ≤ maxLen := by rw [hcap]; exact grownCap_le_maxLen w _ 0 5 (by rw [hsz]; unfold maxLen; omega)
  rw [← hcap] at hr
  clear hcap
  unfold Oper.wp execOp
  simp only [ho, Sem.run_bind, Sem.run_pure, Result.andThen_ok, hx, hr]
  refine hK2 _ _ (K _ _ ?_ ?_)
  · rw [hsz] at hge ⊢
    refine Rep.list_val rfl hge hle ⟨_, Rep.byte_row l, fun _ => ⟨w.heap.size, 0, rfl, Nat.le_refl _, ?_, fun j u hj => ?_⟩⟩
    · exact ⟨_, _, _, heap_alloc_new w.drew _⟩
    · have hb : ∀ o, (w.drew.alloc o).heap[w.heap.size]? = some o := fun o => heap_alloc_new w.drew o
      rw [cell_of_row _ _ _ _ _ _ (hb _), Nat.zero_add, ← hj]
      have hj' : j < l.length := by have := (List.getElem?_eq_some_iff.1 hj).1; simpa using this
      simp [bytesRow, Array.getElem?_append, hj']
  · exact ((Below.refl _ w).drew).alloc (Nat.le_refl _) _

/-- 'append(b, s...)', s a text. -/
theorem wpList_spread_text {P : Program} {base : Nat} {w : World} {ops : Array Oper} {rest : List Oper} {o : Oper} {a : Act} {R : Exit → Act → World → Prop} (hg : o.guard = none) (s x : Operand) (t tx : TypeId)
    (ho : o.op = .call { callee := .builtin .append, args := #[s, x], argTypes := #[t, tx] })
    (ht : P.underlying t = some (.slice 5)) (hu : P.underlying tx = some .string) (hi : (P.info? 5).map (fun i => (i.zero, i.size, i.bytes)) = some (some (.int .u8 0), 1, 1))
    (v : Value) (xs : List UInt8) (hs : a.eval s = v) (h : Rep.byte.acc 5 base (fun _ => False) w v xs) (ys : List UInt8) (hx : a.eval x = .string ⟨ys.toArray⟩)
    (h63 : xs.length + ys.length ≤ 140737488355328) (hbase : base ≤ w.heap.size)
    (K : ∀ v' w', Rep.byte.acc 5 base (fun _ => False) w' v' (xs ++ ys) → w.grownBy w' v.ownBlock → wpList P ops R rest (a.put o.dst v') w') :
    wpList P ops R (o :: rest) a w := by
  obtain ⟨i, hi, hh⟩ := Option.map_eq_some_iff.1 hi
  simp only [Prod.mk.injEq] at hh
  obtain ⟨hz, hs', hby⟩ := hh
  obtain ⟨cells, h1, h2⟩ := h
  have hsz : (ByteArray.mk ys.toArray).size = ys.length := by simp [ByteArray.size]
  obtain ⟨v', w', q1, q2, q3, _⟩ := Lib.run_append_own_string (P := P) w base t tx o.type 5 i ht hu hi hz hs' hby v xs.length cells h1 ⟨ys.toArray⟩ (by rw [hsz]; unfold maxLen; omega) (by rw [hsz]; omega) hbase
  refine wpList_plain hg fun K2 hK2 => ?_
  unfold Oper.wp execOp
  simp only [ho, resolve, invoke, builtin, Sem.run_bind, Sem.run_pure, Result.andThen_ok, List.map_toArray, List.map_cons, List.map_nil, hs, hx, q1]
  refine hK2 _ _ (K v' w' ⟨cells ++ Lib.strCells ⟨ys.toArray⟩, ?_, ?_⟩ q3)
  · rw [List.length_append, ← hsz]; exact q2
  · exact Rep.row_append (Rep.row_leaf Rep.leaf_byte h2) (Rep.byte_row ys)

def textBytes (s : List UInt8) : List UInt8 := num 2 (s.take 65535).length ++ s.take 65535

theorem wf_i64 {n : Int} (h1 : -9223372036854775808 ≤ n) (h2 : n ≤ 9223372036854775807) : (Lit.int .i64 n).wf = true := by
  simp [Lit.wf, IntKind.min, IntKind.max, IntKind.signed, IntKind.bits]; omega
theorem of_wf_i64 {n : Int} (h : (Lit.int .i64 n).wf = true) : -9223372036854775808 ≤ n ∧ n ≤ 9223372036854775807 := by
  simpa [Lit.wf, IntKind.min, IntKind.max, IntKind.signed, IntKind.bits] using h
theorem num_length (width n : Int) : (num width n).length ≤ 8 := by simp [num]; have := wide_le width; omega
theorem extract_front (s : List UInt8) (n : Nat) : (ByteArray.mk s.toArray).extract 0 n = ⟨(s.take n).toArray⟩ := by
  apply ByteArray.ext
  apply Array.ext'
  simp [ByteArray.data_extract]

end Go.Proofs.Ytcfgckpjgihcgaa
/- The structs of package api as0 Lean structures: how they lie in cells. Printed by mkrep.py. No program is named here. -/
namespace Go.Proofs.Ytcfgckpjgihcgaa
open Go.RowKit

/-- What is known of a slice in a cell. -/
def Rep.Sl {α : Type} (r : Rep α) (Q : Nat → Prop) (w : World) (A : Option Addr) (c : Nat) (xs : List α) : Prop := xs.length ≤ c ∧ c ≤ maxLen ∧ r.At Q w A xs
theorem Rep.Sl.val {α : Type} {r : Rep α} {Q : Nat → Prop} {w : World} {A : Option Addr} {c : Nat} {xs : List α} (h : r.Sl Q w A c xs) : r.list.val Q w (.slice A xs.length c) xs := Rep.list_val rfl h.1 h.2.1 h.2.2
theorem Rep.val_sl {α : Type} {r : Rep α} {Q : Nat → Prop} {w : World} {v : Value} {xs : List α} (h : r.list.val Q w v xs) : ∃ A c, v = .slice A xs.length c ∧ r.Sl Q w A c xs := by
  obtain ⟨A, c, rfl, h1, h2, h3⟩ := Rep.val_list h
  exact ⟨A, c, rfl, h1, h2, h3⟩
theorem Rep.Sl.keep {α : Type} {r : Rep α} {Q Q' : Nat → Prop} {w w' : World} {A : Option Addr} {c : Nat} {xs : List α} (hk : ∀ b, Q b → IsC w b → Q' b ∧ w'.heap[b]? = w.heap[b]?) (h : r.Sl Q w A c xs) : r.Sl Q' w' A c xs := ⟨h.1, h.2.1, h.2.2.keep hk⟩
theorem Rep.Sl.drewN {α : Type} {r : Rep α} {Q : Nat → Prop} {w : World} {A : Option Addr} {c : Nat} {xs : List α} (h : r.Sl Q w A c xs) (n : Nat) : r.Sl Q (w.drewN n) A c xs := ⟨h.1, h.2.1, h.2.2.drewN n⟩
theorem Rep.Sl.below {α : Type} {r : Rep α} {Q : Nat → Prop} {w w' : World} {A : Option Addr} {c : Nat} {xs : List α} {B : Nat} (h : r.Sl Q w A c xs) (hb : Below B w w') (hr : ∀ b, Q b → IsC w b → b < B) : r.Sl Q w' A c xs := ⟨h.1, h.2.1, h.2.2.below hb hr⟩
theorem Rep.sl_rd {α : Type} {r : Rep α} {Q : Nat → Prop} {w : World} {A : Option Addr} {c : Nat} {xs : List α} (h : r.Sl Q w A c xs) : r.list.rd Q w [.slice A xs.length c] xs := by
  obtain ⟨h1, h2, es, h3, h4⟩ := h
  exact ⟨A, c, es, rfl, h1, h2, h3, h4⟩
theorem Rep.rd_sl {α : Type} {r : Rep α} {Q : Nat → Prop} {w : World} {cs : List Value} {xs : List α} (h : r.list.rd Q w cs xs) : ∃ A c, cs = [.slice A xs.length c] ∧ r.Sl Q w A c xs := by
  obtain ⟨A, c, es, rfl, h1, h2, h3, h4⟩ := h
  exact ⟨A, c, rfl, h1, h2, es, h3, h4⟩

@[ext] structure DID where
  index : Int
  gen : Int
  deriving DecidableEq

def rID : Rep DID := ((Rep.int .i64).pair (Rep.int .i64)).iso fun x => (x.index, x.gen)
theorem rID_size : rID.size = 2 := rfl
theorem rID_open {Q : Nat → Prop} {w : World} {cs : List Value} {x : DID} (h : rID.rd Q w cs x) : cs = [.int .i64 x.index, .int .i64 x.gen] ∧ (Lit.int .i64 x.index).wf = true ∧ (Lit.int .i64 x.gen).wf = true := by
  obtain ⟨a0, b0, rfl, h0, g0⟩ := h
  obtain ⟨e0, w0⟩ := h0
  subst e0
  obtain ⟨e1, w1⟩ := g0
  subst e1
  exact ⟨rfl, w0, w1⟩
theorem rID_mk {Q : Nat → Prop} {w : World} {x : DID}  (f0 : (Lit.int .i64 x.index).wf = true) (f1 : (Lit.int .i64 x.gen).wf = true) : rID.rd Q w [.int .i64 x.index, .int .i64 x.gen] x := by
  exact ⟨_, _, rfl, ⟨rfl, f0⟩, ⟨rfl, f1⟩⟩
theorem rID_at {Q : Nat → Prop} {w : World} {A : Option Addr} {xs : List DID} (h : rID.At Q w A xs) {i : Nat} {x : DID} (hx : xs[i]? = some x) :
    ∃ (b off : Nat), A = some ⟨b, off, none⟩ ∧ IsC w b ∧ w.cell? ⟨b, off + i * 2, none⟩ = some (.int .i64 x.index) ∧ w.cell? ⟨b, off + i * 2 + 1, none⟩ = some (.int .i64 x.gen) ∧ (Lit.int .i64 x.index).wf = true ∧ (Lit.int .i64 x.gen).wf = true := by
  obtain ⟨b, off, es, h1, _, h2, h3, h4⟩ := h.get hx
  obtain ⟨e, f0, f1⟩ := rID_open h3
  subst e
  rw [rID_size] at h4
  exact ⟨b, off, h1, h2, h4 0 _ rfl, h4 1 _ rfl, f0, f1⟩
theorem rID_val {Q : Nat → Prop} {w : World} {v : Value} {x : DID} (h : rID.val Q w v x) : v = .agg #[.int .i64 x.index, .int .i64 x.gen] ∧ (Lit.int .i64 x.index).wf = true ∧ (Lit.int .i64 x.gen).wf = true := by
  obtain ⟨cs, rfl, h⟩ := h
  obtain ⟨e, f0, f1⟩ := rID_open h
  subst e
  exact ⟨rfl, f0, f1⟩
theorem rID_agg {Q : Nat → Prop} {w : World} {x : DID}  (f0 : (Lit.int .i64 x.index).wf = true) (f1 : (Lit.int .i64 x.gen).wf = true) : rID.val Q w (.agg #[.int .i64 x.index, .int .i64 x.gen]) x := ⟨_, rfl, rID_mk f0 f1⟩

@[ext] structure DPart where
  comp : Int
  data : List UInt8
  deriving DecidableEq

def rPart : Rep DPart := ((Rep.int .i64).pair Rep.byte.list).iso fun x => (x.comp, x.data)
theorem rPart_size : rPart.size = 2 := rfl
theorem rPart_open {Q : Nat → Prop} {w : World} {cs : List Value} {x : DPart} (h : rPart.rd Q w cs x) : ∃ (A_data : Option Addr) (c_data : Nat), cs = [.int .i64 x.comp, .slice A_data x.data.length c_data] ∧ (Lit.int .i64 x.comp).wf = true ∧ Rep.byte.Sl Q w A_data c_data x.data := by
  obtain ⟨a0, b0, rfl, h0, g0⟩ := h
  obtain ⟨e0, w0⟩ := h0
  subst e0
  obtain ⟨A1, c1, e1, w1⟩ := Rep.rd_sl g0
  subst e1
  exact ⟨A1, c1, rfl, w0, w1⟩
theorem rPart_mk {Q : Nat → Prop} {w : World} {x : DPart} {A_data : Option Addr} {c_data : Nat} (f0 : (Lit.int .i64 x.comp).wf = true) (f1 : Rep.byte.Sl Q w A_data c_data x.data) : rPart.rd Q w [.int .i64 x.comp, .slice A_data x.data.length c_data] x := by
  exact ⟨_, _, rfl, ⟨rfl, f0⟩, Rep.sl_rd f1⟩
theorem rPart_at {Q : Nat → Prop} {w : World} {A : Option Addr} {xs : List DPart} (h : rPart.At Q w A xs) {i : Nat} {x : DPart} (hx : xs[i]? = some x) :
    ∃ (b off : Nat) (A_data : Option Addr) (c_data : Nat), A = some ⟨b, off, none⟩ ∧ IsC w b ∧ w.cell? ⟨b, off + i * 2, none⟩ = some (.int .i64 x.comp) ∧ w.cell? ⟨b, off + i * 2 + 1, none⟩ = some (.slice A_data x.data.length c_data) ∧ (Lit.int .i64 x.comp).wf = true ∧ Rep.byte.Sl Q w A_data c_data x.data := by
  obtain ⟨b, off, es, h1, _, h2, h3, h4⟩ := h.get hx
  obtain ⟨A_data, c_data, e, f0, f1⟩ := rPart_open h3
  subst e
  rw [rPart_size] at h4
  exact ⟨b, off, A_data, c_data, h1, h2, h4 0 _ rfl, h4 1 _ rfl, f0, f1⟩
theorem rPart_val {Q : Nat → Prop} {w : World} {v : Value} {x : DPart} (h : rPart.val Q w v x) : ∃ (A_data : Option Addr) (c_data : Nat), v = .agg #[.int .i64 x.comp, .slice A_data x.data.length c_data] ∧ (Lit.int .i64 x.comp).wf = true ∧ Rep.byte.Sl Q w A_data c_data x.data := by
  obtain ⟨cs, rfl, h⟩ := h
  obtain ⟨A_data, c_data, e, f0, f1⟩ := rPart_open h
  subst e
  exact ⟨A_data, c_data, rfl, f0, f1⟩
theorem rPart_agg {Q : Nat → Prop} {w : World} {x : DPart} {A_data : Option Addr} {c_data : Nat} (f0 : (Lit.int .i64 x.comp).wf = true) (f1 : Rep.byte.Sl Q w A_data c_data x.data) : rPart.val Q w (.agg #[.int .i64 x.comp, .slice A_data x.data.length c_data]) x := ⟨_, rfl, rPart_mk f0 f1⟩

@[ext] structure DEnt where
  id : DID
  parts : List DPart
  deriving DecidableEq

def rEnt : Rep DEnt := (rID.pair rPart.list).iso fun x => (x.id, x.parts)
theorem rEnt_size : rEnt.size = 3 := rfl
theorem rEnt_open {Q : Nat → Prop} {w : World} {cs : List Value} {x : DEnt} (h : rEnt.rd Q w cs x) : ∃ (A_parts : Option Addr) (c_parts : Nat), cs = [.int .i64 x.id.index, .int .i64 x.id.gen, .slice A_parts x.parts.length c_parts] ∧ (Lit.int .i64 x.id.index).wf = true ∧ (Lit.int .i64 x.id.gen).wf = true ∧ rPart.Sl Q w A_parts c_parts x.parts := by
  obtain ⟨a0, b0, rfl, h0, g0⟩ := h
  obtain ⟨e0, w0_0, w0_1⟩ := rID_open h0
  subst e0
  obtain ⟨A1, c1, e1, w1⟩ := Rep.rd_sl g0
  subst e1
  exact ⟨A1, c1, rfl, w0_0, w0_1, w1⟩
theorem rEnt_mk {Q : Nat → Prop} {w : World} {x : DEnt} {A_parts : Option Addr} {c_parts : Nat} (f0 : (Lit.int .i64 x.id.index).wf = true) (f1 : (Lit.int .i64 x.id.gen).wf = true) (f2 : rPart.Sl Q w A_parts c_parts x.parts) : rEnt.rd Q w [.int .i64 x.id.index, .int .i64 x.id.gen, .slice A_parts x.parts.length c_parts] x := by
  exact ⟨_, _, rfl, rID_mk f0 f1, Rep.sl_rd f2⟩
theorem rEnt_at {Q : Nat → Prop} {w : World} {A : Option Addr} {xs : List DEnt} (h : rEnt.At Q w A xs) {i : Nat} {x : DEnt} (hx : xs[i]? = some x) :
    ∃ (b off : Nat) (A_parts : Option Addr) (c_parts : Nat), A = some ⟨b, off, none⟩ ∧ IsC w b ∧ w.cell? ⟨b, off + i * 3, none⟩ = some (.int .i64 x.id.index) ∧ w.cell? ⟨b, off + i * 3 + 1, none⟩ = some (.int .i64 x.id.gen) ∧ w.cell? ⟨b, off + i * 3 + 2, none⟩ = some (.slice A_parts x.parts.length c_parts) ∧ (Lit.int .i64 x.id.index).wf = true ∧ (Lit.int .i64 x.id.gen).wf = true ∧ rPart.Sl Q w A_parts c_parts x.parts := by
  obtain ⟨b, off, es, h1, _, h2, h3, h4⟩ := h.get hx
  obtain ⟨A_parts, c_parts, e, f0, f1, f2⟩ := rEnt_open h3
  subst e
  rw [rEnt_size] at h4
  exact ⟨b, off, A_parts, c_parts, h1, h2, h4 0 _ rfl, h4 1 _ rfl, h4 2 _ rfl, f0, f1, f2⟩
theorem rEnt_val {Q : Nat → Prop} {w : World} {v : Value} {x : DEnt} (h : rEnt.val Q w v x) : ∃ (A_parts : Option Addr) (c_parts : Nat), v = .agg #[.int .i64 x.id.index, .int .i64 x.id.gen, .slice A_parts x.parts.length c_parts] ∧ (Lit.int .i64 x.id.index).wf = true ∧ (Lit.int .i64 x.id.gen).wf = true ∧ rPart.Sl Q w A_parts c_parts x.parts := by
  obtain ⟨cs, rfl, h⟩ := h
  obtain ⟨A_parts, c_parts, e, f0, f1, f2⟩ := rEnt_open h
  subst e
  exact ⟨A_parts, c_parts, rfl, f0, f1, f2⟩
theorem rEnt_agg {Q : Nat → Prop} {w : World} {x : DEnt} {A_parts : Option Addr} {c_parts : Nat} (f0 : (Lit.int .i64 x.id.index).wf = true) (f1 : (Lit.int .i64 x.id.gen).wf = true) (f2 : rPart.Sl Q w A_parts c_parts x.parts) : rEnt.val Q w (.agg #[.int .i64 x.id.index, .int .i64 x.id.gen, .slice A_parts x.parts.length c_parts]) x := ⟨_, rfl, rEnt_mk f0 f1 f2⟩

@[ext] structure DState where
  gens : List Int
  free : List Int
  ents : List DEnt
  deriving DecidableEq

def rState : Rep DState := ((Rep.int .i64).list.pair ((Rep.int .i64).list.pair rEnt.list)).iso fun x => (x.gens, x.free, x.ents)
theorem rState_size : rState.size = 3 := rfl
theorem rState_open {Q : Nat → Prop} {w : World} {cs : List Value} {x : DState} (h : rState.rd Q w cs x) : ∃ (A_gens : Option Addr) (c_gens : Nat) (A_free : Option Addr) (c_free : Nat) (A_ents : Option Addr) (c_ents : Nat), cs = [.slice A_gens x.gens.length c_gens, .slice A_free x.free.length c_free, .slice A_ents x.ents.length c_ents] ∧ (Rep.int .i64).Sl Q w A_gens c_gens x.gens ∧ (Rep.int .i64).Sl Q w A_free c_free x.free ∧ rEnt.Sl Q w A_ents c_ents x.ents := by
  obtain ⟨a0, b0, rfl, h0, g0⟩ := h
  obtain ⟨A0, c0, e0, w0⟩ := Rep.rd_sl h0
  subst e0
  obtain ⟨a1, b1, rfl, h1, g1⟩ := g0
  obtain ⟨A1, c1, e1, w1⟩ := Rep.rd_sl h1
  subst e1
  obtain ⟨A2, c2, e2, w2⟩ := Rep.rd_sl g1
  subst e2
  exact ⟨A0, c0, A1, c1, A2, c2, rfl, w0, w1, w2⟩
theorem rState_mk {Q : Nat → Prop} {w : World} {x : DState} {A_gens : Option Addr} {c_gens : Nat} {A_free : Option Addr} {c_free : Nat} {A_ents : Option Addr} {c_ents : Nat} (f0 : (Rep.int .i64).Sl Q w A_gens c_gens x.gens) (f1 : (Rep.int .i64).Sl Q w A_free c_free x.free) (f2 : rEnt.Sl Q w A_ents c_ents x.ents) : rState.rd Q w [.slice A_gens x.gens.length c_gens, .slice A_free x.free.length c_free, .slice A_ents x.ents.length c_ents] x := by
  exact ⟨_, _, rfl, Rep.sl_rd f0, ⟨_, _, rfl, Rep.sl_rd f1, Rep.sl_rd f2⟩⟩
theorem rState_at {Q : Nat → Prop} {w : World} {A : Option Addr} {xs : List DState} (h : rState.At Q w A xs) {i : Nat} {x : DState} (hx : xs[i]? = some x) :
    ∃ (b off : Nat) (A_gens : Option Addr) (c_gens : Nat) (A_free : Option Addr) (c_free : Nat) (A_ents : Option Addr) (c_ents : Nat), A = some ⟨b, off, none⟩ ∧ IsC w b ∧ w.cell? ⟨b, off + i * 3, none⟩ = some (.slice A_gens x.gens.length c_gens) ∧ w.cell? ⟨b, off + i * 3 + 1, none⟩ = some (.slice A_free x.free.length c_free) ∧ w.cell? ⟨b, off + i * 3 + 2, none⟩ = some (.slice A_ents x.ents.length c_ents) ∧ (Rep.int .i64).Sl Q w A_gens c_gens x.gens ∧ (Rep.int .i64).Sl Q w A_free c_free x.free ∧ rEnt.Sl Q w A_ents c_ents x.ents := by
  obtain ⟨b, off, es, h1, _, h2, h3, h4⟩ := h.get hx
  obtain ⟨A_gens, c_gens, A_free, c_free, A_ents, c_ents, e, f0, f1, f2⟩ := rState_open h3
  subst e
  rw [rState_size] at h4
  exact ⟨b, off, A_gens, c_gens, A_free, c_free, A_ents, c_ents, h1, h2, h4 0 _ rfl, h4 1 _ rfl, h4 2 _ rfl, f0, f1, f2⟩
theorem rState_val {Q : Nat → Prop} {w : World} {v : Value} {x : DState} (h : rState.val Q w v x) : ∃ (A_gens : Option Addr) (c_gens : Nat) (A_free : Option Addr) (c_free : Nat) (A_ents : Option Addr) (c_ents : Nat), v = .agg #[.slice A_gens x.gens.length c_gens, .slice A_free x.free.length c_free, .slice A_ents x.ents.length c_ents] ∧ (Rep.int .i64).Sl Q w A_gens c_gens x.gens ∧ (Rep.int .i64).Sl Q w A_free c_free x.free ∧ rEnt.Sl Q w A_ents c_ents x.ents := by
  obtain ⟨cs, rfl, h⟩ := h
  obtain ⟨A_gens, c_gens, A_free, c_free, A_ents, c_ents, e, f0, f1, f2⟩ := rState_open h
  subst e
  exact ⟨A_gens, c_gens, A_free, c_free, A_ents, c_ents, rfl, f0, f1, f2⟩
theorem rState_agg {Q : Nat → Prop} {w : World} {x : DState} {A_gens : Option Addr} {c_gens : Nat} {A_free : Option Addr} {c_free : Nat} {A_ents : Option Addr} {c_ents : Nat} (f0 : (Rep.int .i64).Sl Q w A_gens c_gens x.gens) (f1 : (Rep.int .i64).Sl Q w A_free c_free x.free) (f2 : rEnt.Sl Q w A_ents c_ents x.ents) : rState.val Q w (.agg #[.slice A_gens x.gens.length c_gens, .slice A_free x.free.length c_free, .slice A_ents x.ents.length c_ents]) x := ⟨_, rfl, rState_mk f0 f1 f2⟩

@[ext] structure DTerm where
  kind : Int
  comp : Int
  data : List UInt8
  deriving DecidableEq

def rTerm : Rep DTerm := ((Rep.int .i64).pair ((Rep.int .i64).pair Rep.byte.list)).iso fun x => (x.kind, x.comp, x.data)
theorem rTerm_size : rTerm.size = 3 := rfl
theorem rTerm_open {Q : Nat → Prop} {w : World} {cs : List Value} {x : DTerm} (h : rTerm.rd Q w cs x) : ∃ (A_data : Option Addr) (c_data : Nat), cs = [.int .i64 x.kind, .int .i64 x.comp, .slice A_data x.data.length c_data] ∧ (Lit.int .i64 x.kind).wf = true ∧ (Lit.int .i64 x.comp).wf = true ∧ Rep.byte.Sl Q w A_data c_data x.data := by
  obtain ⟨a0, b0, rfl, h0, g0⟩ := h
  obtain ⟨e0, w0⟩ := h0
  subst e0
  obtain ⟨a1, b1, rfl, h1, g1⟩ := g0
  obtain ⟨e1, w1⟩ := h1
  subst e1
  obtain ⟨A2, c2, e2, w2⟩ := Rep.rd_sl g1
  subst e2
  exact ⟨A2, c2, rfl, w0, w1, w2⟩
theorem rTerm_mk {Q : Nat → Prop} {w : World} {x : DTerm} {A_data : Option Addr} {c_data : Nat} (f0 : (Lit.int .i64 x.kind).wf = true) (f1 : (Lit.int .i64 x.comp).wf = true) (f2 : Rep.byte.Sl Q w A_data c_data x.data) : rTerm.rd Q w [.int .i64 x.kind, .int .i64 x.comp, .slice A_data x.data.length c_data] x := by
  exact ⟨_, _, rfl, ⟨rfl, f0⟩, ⟨_, _, rfl, ⟨rfl, f1⟩, Rep.sl_rd f2⟩⟩
theorem rTerm_at {Q : Nat → Prop} {w : World} {A : Option Addr} {xs : List DTerm} (h : rTerm.At Q w A xs) {i : Nat} {x : DTerm} (hx : xs[i]? = some x) :
    ∃ (b off : Nat) (A_data : Option Addr) (c_data : Nat), A = some ⟨b, off, none⟩ ∧ IsC w b ∧ w.cell? ⟨b, off + i * 3, none⟩ = some (.int .i64 x.kind) ∧ w.cell? ⟨b, off + i * 3 + 1, none⟩ = some (.int .i64 x.comp) ∧ w.cell? ⟨b, off + i * 3 + 2, none⟩ = some (.slice A_data x.data.length c_data) ∧ (Lit.int .i64 x.kind).wf = true ∧ (Lit.int .i64 x.comp).wf = true ∧ Rep.byte.Sl Q w A_data c_data x.data := by
  obtain ⟨b, off, es, h1, _, h2, h3, h4⟩ := h.get hx
  obtain ⟨A_data, c_data, e, f0, f1, f2⟩ := rTerm_open h3
  subst e
  rw [rTerm_size] at h4
  exact ⟨b, off, A_data, c_data, h1, h2, h4 0 _ rfl, h4 1 _ rfl, h4 2 _ rfl, f0, f1, f2⟩
theorem rTerm_val {Q : Nat → Prop} {w : World} {v : Value} {x : DTerm} (h : rTerm.val Q w v x) : ∃ (A_data : Option Addr) (c_data : Nat), v = .agg #[.int .i64 x.kind, .int .i64 x.comp, .slice A_data x.data.length c_data] ∧ (Lit.int .i64 x.kind).wf = true ∧ (Lit.int .i64 x.comp).wf = true ∧ Rep.byte.Sl Q w A_data c_data x.data := by
  obtain ⟨cs, rfl, h⟩ := h
  obtain ⟨A_data, c_data, e, f0, f1, f2⟩ := rTerm_open h
  subst e
  exact ⟨A_data, c_data, rfl, f0, f1, f2⟩
theorem rTerm_agg {Q : Nat → Prop} {w : World} {x : DTerm} {A_data : Option Addr} {c_data : Nat} (f0 : (Lit.int .i64 x.kind).wf = true) (f1 : (Lit.int .i64 x.comp).wf = true) (f2 : Rep.byte.Sl Q w A_data c_data x.data) : rTerm.val Q w (.agg #[.int .i64 x.kind, .int .i64 x.comp, .slice A_data x.data.length c_data]) x := ⟨_, rfl, rTerm_mk f0 f1 f2⟩

@[ext] structure DComp where
  name : List UInt8
  size : Int
  deriving DecidableEq

def rComp : Rep DComp := (Rep.text.pair (Rep.int .i64)).iso fun x => (x.name, x.size)
theorem rComp_size : rComp.size = 2 := rfl
theorem rComp_open {Q : Nat → Prop} {w : World} {cs : List Value} {x : DComp} (h : rComp.rd Q w cs x) : cs = [.string ⟨x.name.toArray⟩, .int .i64 x.size] ∧ x.name.length ≤ maxLen ∧ (Lit.int .i64 x.size).wf = true := by
  obtain ⟨a0, b0, rfl, h0, g0⟩ := h
  obtain ⟨e0, w0⟩ := h0
  subst e0
  obtain ⟨e1, w1⟩ := g0
  subst e1
  exact ⟨rfl, w0, w1⟩
theorem rComp_mk {Q : Nat → Prop} {w : World} {x : DComp}  (f0 : x.name.length ≤ maxLen) (f1 : (Lit.int .i64 x.size).wf = true) : rComp.rd Q w [.string ⟨x.name.toArray⟩, .int .i64 x.size] x := by
  exact ⟨_, _, rfl, ⟨rfl, f0⟩, ⟨rfl, f1⟩⟩
theorem rComp_at {Q : Nat → Prop} {w : World} {A : Option Addr} {xs : List DComp} (h : rComp.At Q w A xs) {i : Nat} {x : DComp} (hx : xs[i]? = some x) :
    ∃ (b off : Nat), A = some ⟨b, off, none⟩ ∧ IsC w b ∧ w.cell? ⟨b, off + i * 2, none⟩ = some (.string ⟨x.name.toArray⟩) ∧ w.cell? ⟨b, off + i * 2 + 1, none⟩ = some (.int .i64 x.size) ∧ x.name.length ≤ maxLen ∧ (Lit.int .i64 x.size).wf = true := by
  obtain ⟨b, off, es, h1, _, h2, h3, h4⟩ := h.get hx
  obtain ⟨e, f0, f1⟩ := rComp_open h3
  subst e
  rw [rComp_size] at h4
  exact ⟨b, off, h1, h2, h4 0 _ rfl, h4 1 _ rfl, f0, f1⟩
theorem rComp_val {Q : Nat → Prop} {w : World} {v : Value} {x : DComp} (h : rComp.val Q w v x) : v = .agg #[.string ⟨x.name.toArray⟩, .int .i64 x.size] ∧ x.name.length ≤ maxLen ∧ (Lit.int .i64 x.size).wf = true := by
  obtain ⟨cs, rfl, h⟩ := h
  obtain ⟨e, f0, f1⟩ := rComp_open h
  subst e
  exact ⟨rfl, f0, f1⟩
theorem rComp_agg {Q : Nat → Prop} {w : World} {x : DComp}  (f0 : x.name.length ≤ maxLen) (f1 : (Lit.int .i64 x.size).wf = true) : rComp.val Q w (.agg #[.string ⟨x.name.toArray⟩, .int .i64 x.size]) x := ⟨_, rfl, rComp_mk f0 f1⟩

@[ext] structure DConf where
  log : Int
  pages : Int
  entities : Int
  gens : Int
  comps : List DComp
  deriving DecidableEq

def rConf : Rep DConf := ((Rep.int .i64).pair ((Rep.int .i64).pair ((Rep.int .i64).pair ((Rep.int .i64).pair rComp.list)))).iso fun x => (x.log, x.pages, x.entities, x.gens, x.comps)
theorem rConf_size : rConf.size = 5 := rfl
theorem rConf_open {Q : Nat → Prop} {w : World} {cs : List Value} {x : DConf} (h : rConf.rd Q w cs x) : ∃ (A_comps : Option Addr) (c_comps : Nat), cs = [.int .i64 x.log, .int .i64 x.pages, .int .i64 x.entities, .int .i64 x.gens, .slice A_comps x.comps.length c_comps] ∧ (Lit.int .i64 x.log).wf = true ∧ (Lit.int .i64 x.pages).wf = true ∧ (Lit.int .i64 x.entities).wf = true ∧ (Lit.int .i64 x.gens).wf = true ∧ rComp.Sl Q w A_comps c_comps x.comps := by
  obtain ⟨a0, b0, rfl, h0, g0⟩ := h
  obtain ⟨e0, w0⟩ := h0
  subst e0
  obtain ⟨a1, b1, rfl, h1, g1⟩ := g0
  obtain ⟨e1, w1⟩ := h1
  subst e1
  obtain ⟨a2, b2, rfl, h2, g2⟩ := g1
  obtain ⟨e2, w2⟩ := h2
  subst e2
  obtain ⟨a3, b3, rfl, h3, g3⟩ := g2
  obtain ⟨e3, w3⟩ := h3
  subst e3
  obtain ⟨A4, c4, e4, w4⟩ := Rep.rd_sl g3
  subst e4
  exact ⟨A4, c4, rfl, w0, w1, w2, w3, w4⟩
theorem rConf_mk {Q : Nat → Prop} {w : World} {x : DConf} {A_comps : Option Addr} {c_comps : Nat} (f0 : (Lit.int .i64 x.log).wf = true) (f1 : (Lit.int .i64 x.pages).wf = true) (f2 : (Lit.int .i64 x.entities).wf = true) (f3 : (Lit.int .i64 x.gens).wf = true) (f4 : rComp.Sl Q w A_comps c_comps x.comps) : rConf.rd Q w [.int .i64 x.log, .int .i64 x.pages, .int .i64 x.entities, .int .i64 x.gens, .slice A_comps x.comps.length c_comps] x := by
  exact ⟨_, _, rfl, ⟨rfl, f0⟩, ⟨_, _, rfl, ⟨rfl, f1⟩, ⟨_, _, rfl, ⟨rfl, f2⟩, ⟨_, _, rfl, ⟨rfl, f3⟩, Rep.sl_rd f4⟩⟩⟩⟩
theorem rConf_at {Q : Nat → Prop} {w : World} {A : Option Addr} {xs : List DConf} (h : rConf.At Q w A xs) {i : Nat} {x : DConf} (hx : xs[i]? = some x) :
    ∃ (b off : Nat) (A_comps : Option Addr) (c_comps : Nat), A = some ⟨b, off, none⟩ ∧ IsC w b ∧ w.cell? ⟨b, off + i * 5, none⟩ = some (.int .i64 x.log) ∧ w.cell? ⟨b, off + i * 5 + 1, none⟩ = some (.int .i64 x.pages) ∧ w.cell? ⟨b, off + i * 5 + 2, none⟩ = some (.int .i64 x.entities) ∧ w.cell? ⟨b, off + i * 5 + 3, none⟩ = some (.int .i64 x.gens) ∧ w.cell? ⟨b, off + i * 5 + 4, none⟩ = some (.slice A_comps x.comps.length c_comps) ∧ (Lit.int .i64 x.log).wf = true ∧ (Lit.int .i64 x.pages).wf = true ∧ (Lit.int .i64 x.entities).wf = true ∧ (Lit.int .i64 x.gens).wf = true ∧ rComp.Sl Q w A_comps c_comps x.comps := by
  obtain ⟨b, off, es, h1, _, h2, h3, h4⟩ := h.get hx
  obtain ⟨A_comps, c_comps, e, f0, f1, f2, f3, f4⟩ := rConf_open h3
  subst e
  rw [rConf_size] at h4
  exact ⟨b, off, A_comps, c_comps, h1, h2, h4 0 _ rfl, h4 1 _ rfl, h4 2 _ rfl, h4 3 _ rfl, h4 4 _ rfl, f0, f1, f2, f3, f4⟩
theorem rConf_val {Q : Nat → Prop} {w : World} {v : Value} {x : DConf} (h : rConf.val Q w v x) : ∃ (A_comps : Option Addr) (c_comps : Nat), v = .agg #[.int .i64 x.log, .int .i64 x.pages, .int .i64 x.entities, .int .i64 x.gens, .slice A_comps x.comps.length c_comps] ∧ (Lit.int .i64 x.log).wf = true ∧ (Lit.int .i64 x.pages).wf = true ∧ (Lit.int .i64 x.entities).wf = true ∧ (Lit.int .i64 x.gens).wf = true ∧ rComp.Sl Q w A_comps c_comps x.comps := by
  obtain ⟨cs, rfl, h⟩ := h
  obtain ⟨A_comps, c_comps, e, f0, f1, f2, f3, f4⟩ := rConf_open h
  subst e
  exact ⟨A_comps, c_comps, rfl, f0, f1, f2, f3, f4⟩
theorem rConf_agg {Q : Nat → Prop} {w : World} {x : DConf} {A_comps : Option Addr} {c_comps : Nat} (f0 : (Lit.int .i64 x.log).wf = true) (f1 : (Lit.int .i64 x.pages).wf = true) (f2 : (Lit.int .i64 x.entities).wf = true) (f3 : (Lit.int .i64 x.gens).wf = true) (f4 : rComp.Sl Q w A_comps c_comps x.comps) : rConf.val Q w (.agg #[.int .i64 x.log, .int .i64 x.pages, .int .i64 x.entities, .int .i64 x.gens, .slice A_comps x.comps.length c_comps]) x := ⟨_, rfl, rConf_mk f0 f1 f2 f3 f4⟩

@[ext] structure DKey where
  kind : Int
  sig : Int
  comp : Int
  deriving DecidableEq

def rKey : Rep DKey := ((Rep.int .i64).pair ((Rep.int .u64).pair (Rep.int .i64))).iso fun x => (x.kind, x.sig, x.comp)
theorem rKey_size : rKey.size = 3 := rfl
theorem rKey_open {Q : Nat → Prop} {w : World} {cs : List Value} {x : DKey} (h : rKey.rd Q w cs x) : cs = [.int .i64 x.kind, .int .u64 x.sig, .int .i64 x.comp] ∧ (Lit.int .i64 x.kind).wf = true ∧ (Lit.int .u64 x.sig).wf = true ∧ (Lit.int .i64 x.comp).wf = true := by
  obtain ⟨a0, b0, rfl, h0, g0⟩ := h
  obtain ⟨e0, w0⟩ := h0
  subst e0
  obtain ⟨a1, b1, rfl, h1, g1⟩ := g0
  obtain ⟨e1, w1⟩ := h1
  subst e1
  obtain ⟨e2, w2⟩ := g1
  subst e2
  exact ⟨rfl, w0, w1, w2⟩
theorem rKey_mk {Q : Nat → Prop} {w : World} {x : DKey}  (f0 : (Lit.int .i64 x.kind).wf = true) (f1 : (Lit.int .u64 x.sig).wf = true) (f2 : (Lit.int .i64 x.comp).wf = true) : rKey.rd Q w [.int .i64 x.kind, .int .u64 x.sig, .int .i64 x.comp] x := by
  exact ⟨_, _, rfl, ⟨rfl, f0⟩, ⟨_, _, rfl, ⟨rfl, f1⟩, ⟨rfl, f2⟩⟩⟩
theorem rKey_at {Q : Nat → Prop} {w : World} {A : Option Addr} {xs : List DKey} (h : rKey.At Q w A xs) {i : Nat} {x : DKey} (hx : xs[i]? = some x) :
    ∃ (b off : Nat), A = some ⟨b, off, none⟩ ∧ IsC w b ∧ w.cell? ⟨b, off + i * 3, none⟩ = some (.int .i64 x.kind) ∧ w.cell? ⟨b, off + i * 3 + 1, none⟩ = some (.int .u64 x.sig) ∧ w.cell? ⟨b, off + i * 3 + 2, none⟩ = some (.int .i64 x.comp) ∧ (Lit.int .i64 x.kind).wf = true ∧ (Lit.int .u64 x.sig).wf = true ∧ (Lit.int .i64 x.comp).wf = true := by
  obtain ⟨b, off, es, h1, _, h2, h3, h4⟩ := h.get hx
  obtain ⟨e, f0, f1, f2⟩ := rKey_open h3
  subst e
  rw [rKey_size] at h4
  exact ⟨b, off, h1, h2, h4 0 _ rfl, h4 1 _ rfl, h4 2 _ rfl, f0, f1, f2⟩
theorem rKey_val {Q : Nat → Prop} {w : World} {v : Value} {x : DKey} (h : rKey.val Q w v x) : v = .agg #[.int .i64 x.kind, .int .u64 x.sig, .int .i64 x.comp] ∧ (Lit.int .i64 x.kind).wf = true ∧ (Lit.int .u64 x.sig).wf = true ∧ (Lit.int .i64 x.comp).wf = true := by
  obtain ⟨cs, rfl, h⟩ := h
  obtain ⟨e, f0, f1, f2⟩ := rKey_open h
  subst e
  exact ⟨rfl, f0, f1, f2⟩
theorem rKey_agg {Q : Nat → Prop} {w : World} {x : DKey}  (f0 : (Lit.int .i64 x.kind).wf = true) (f1 : (Lit.int .u64 x.sig).wf = true) (f2 : (Lit.int .i64 x.comp).wf = true) : rKey.val Q w (.agg #[.int .i64 x.kind, .int .u64 x.sig, .int .i64 x.comp]) x := ⟨_, rfl, rKey_mk f0 f1 f2⟩

@[ext] structure DStream where
  key : DKey
  data : List UInt8
  deriving DecidableEq

def rStream : Rep DStream := (rKey.pair Rep.byte.list).iso fun x => (x.key, x.data)
theorem rStream_size : rStream.size = 4 := rfl
theorem rStream_open {Q : Nat → Prop} {w : World} {cs : List Value} {x : DStream} (h : rStream.rd Q w cs x) : ∃ (A_data : Option Addr) (c_data : Nat), cs = [.int .i64 x.key.kind, .int .u64 x.key.sig, .int .i64 x.key.comp, .slice A_data x.data.length c_data] ∧ (Lit.int .i64 x.key.kind).wf = true ∧ (Lit.int .u64 x.key.sig).wf = true ∧ (Lit.int .i64 x.key.comp).wf = true ∧ Rep.byte.Sl Q w A_data c_data x.data := by
  obtain ⟨a0, b0, rfl, h0, g0⟩ := h
  obtain ⟨e0, w0_0, w0_1, w0_2⟩ := rKey_open h0
  subst e0
  obtain ⟨A1, c1, e1, w1⟩ := Rep.rd_sl g0
  subst e1
  exact ⟨A1, c1, rfl, w0_0, w0_1, w0_2, w1⟩
theorem rStream_mk {Q : Nat → Prop} {w : World} {x : DStream} {A_data : Option Addr} {c_data : Nat} (f0 : (Lit.int .i64 x.key.kind).wf = true) (f1 : (Lit.int .u64 x.key.sig).wf = true) (f2 : (Lit.int .i64 x.key.comp).wf = true) (f3 : Rep.byte.Sl Q w A_data c_data x.data) : rStream.rd Q w [.int .i64 x.key.kind, .int .u64 x.key.sig, .int .i64 x.key.comp, .slice A_data x.data.length c_data] x := by
  exact ⟨_, _, rfl, rKey_mk f0 f1 f2, Rep.sl_rd f3⟩
theorem rStream_at {Q : Nat → Prop} {w : World} {A : Option Addr} {xs : List DStream} (h : rStream.At Q w A xs) {i : Nat} {x : DStream} (hx : xs[i]? = some x) :
    ∃ (b off : Nat) (A_data : Option Addr) (c_data : Nat), A = some ⟨b, off, none⟩ ∧ IsC w b ∧ w.cell? ⟨b, off + i * 4, none⟩ = some (.int .i64 x.key.kind) ∧ w.cell? ⟨b, off + i * 4 + 1, none⟩ = some (.int .u64 x.key.sig) ∧ w.cell? ⟨b, off + i * 4 + 2, none⟩ = some (.int .i64 x.key.comp) ∧ w.cell? ⟨b, off + i * 4 + 3, none⟩ = some (.slice A_data x.data.length c_data) ∧ (Lit.int .i64 x.key.kind).wf = true ∧ (Lit.int .u64 x.key.sig).wf = true ∧ (Lit.int .i64 x.key.comp).wf = true ∧ Rep.byte.Sl Q w A_data c_data x.data := by
  obtain ⟨b, off, es, h1, _, h2, h3, h4⟩ := h.get hx
  obtain ⟨A_data, c_data, e, f0, f1, f2, f3⟩ := rStream_open h3
  subst e
  rw [rStream_size] at h4
  exact ⟨b, off, A_data, c_data, h1, h2, h4 0 _ rfl, h4 1 _ rfl, h4 2 _ rfl, h4 3 _ rfl, f0, f1, f2, f3⟩
theorem rStream_val {Q : Nat → Prop} {w : World} {v : Value} {x : DStream} (h : rStream.val Q w v x) : ∃ (A_data : Option Addr) (c_data : Nat), v = .agg #[.int .i64 x.key.kind, .int .u64 x.key.sig, .int .i64 x.key.comp, .slice A_data x.data.length c_data] ∧ (Lit.int .i64 x.key.kind).wf = true ∧ (Lit.int .u64 x.key.sig).wf = true ∧ (Lit.int .i64 x.key.comp).wf = true ∧ Rep.byte.Sl Q w A_data c_data x.data := by
  obtain ⟨cs, rfl, h⟩ := h
  obtain ⟨A_data, c_data, e, f0, f1, f2, f3⟩ := rStream_open h
  subst e
  exact ⟨A_data, c_data, rfl, f0, f1, f2, f3⟩
theorem rStream_agg {Q : Nat → Prop} {w : World} {x : DStream} {A_data : Option Addr} {c_data : Nat} (f0 : (Lit.int .i64 x.key.kind).wf = true) (f1 : (Lit.int .u64 x.key.sig).wf = true) (f2 : (Lit.int .i64 x.key.comp).wf = true) (f3 : Rep.byte.Sl Q w A_data c_data x.data) : rStream.val Q w (.agg #[.int .i64 x.key.kind, .int .u64 x.key.sig, .int .i64 x.key.comp, .slice A_data x.data.length c_data]) x := ⟨_, rfl, rStream_mk f0 f1 f2 f3⟩

@[ext] structure DFlow where
  key : DKey
  data : List UInt8
  pages : List Int
  deriving DecidableEq

def rFlow : Rep DFlow := (rKey.pair (Rep.byte.list.pair (Rep.int .i64).list)).iso fun x => (x.key, x.data, x.pages)
theorem rFlow_size : rFlow.size = 5 := rfl
theorem rFlow_open {Q : Nat → Prop} {w : World} {cs : List Value} {x : DFlow} (h : rFlow.rd Q w cs x) : ∃ (A_data : Option Addr) (c_data : Nat) (A_pages : Option Addr) (c_pages : Nat), cs = [.int .i64 x.key.kind, .int .u64 x.key.sig, .int .i64 x.key.comp, .slice A_data x.data.length c_data, .slice A_pages x.pages.length c_pages] ∧ (Lit.int .i64 x.key.kind).wf = true ∧ (Lit.int .u64 x.key.sig).wf = true ∧ (Lit.int .i64 x.key.comp).wf = true ∧ Rep.byte.Sl Q w A_data c_data x.data ∧ (Rep.int .i64).Sl Q w A_pages c_pages x.pages := by
  obtain ⟨a0, b0, rfl, h0, g0⟩ := h
  obtain ⟨e0, w0_0, w0_1, w0_2⟩ := rKey_open h0
  subst e0
  obtain ⟨a1, b1, rfl, h1, g1⟩ := g0
  obtain ⟨A1, c1, e1, w1⟩ := Rep.rd_sl h1
  subst e1
  obtain ⟨A2, c2, e2, w2⟩ := Rep.rd_sl g1
  subst e2
  exact ⟨A1, c1, A2, c2, rfl, w0_0, w0_1, w0_2, w1, w2⟩
theorem rFlow_mk {Q : Nat → Prop} {w : World} {x : DFlow} {A_data : Option Addr} {c_data : Nat} {A_pages : Option Addr} {c_pages : Nat} (f0 : (Lit.int .i64 x.key.kind).wf = true) (f1 : (Lit.int .u64 x.key.sig).wf = true) (f2 : (Lit.int .i64 x.key.comp).wf = true) (f3 : Rep.byte.Sl Q w A_data c_data x.data) (f4 : (Rep.int .i64).Sl Q w A_pages c_pages x.pages) : rFlow.rd Q w [.int .i64 x.key.kind, .int .u64 x.key.sig, .int .i64 x.key.comp, .slice A_data x.data.length c_data, .slice A_pages x.pages.length c_pages] x := by
  exact ⟨_, _, rfl, rKey_mk f0 f1 f2, ⟨_, _, rfl, Rep.sl_rd f3, Rep.sl_rd f4⟩⟩
theorem rFlow_at {Q : Nat → Prop} {w : World} {A : Option Addr} {xs : List DFlow} (h : rFlow.At Q w A xs) {i : Nat} {x : DFlow} (hx : xs[i]? = some x) :
    ∃ (b off : Nat) (A_data : Option Addr) (c_data : Nat) (A_pages : Option Addr) (c_pages : Nat), A = some ⟨b, off, none⟩ ∧ IsC w b ∧ w.cell? ⟨b, off + i * 5, none⟩ = some (.int .i64 x.key.kind) ∧ w.cell? ⟨b, off + i * 5 + 1, none⟩ = some (.int .u64 x.key.sig) ∧ w.cell? ⟨b, off + i * 5 + 2, none⟩ = some (.int .i64 x.key.comp) ∧ w.cell? ⟨b, off + i * 5 + 3, none⟩ = some (.slice A_data x.data.length c_data) ∧ w.cell? ⟨b, off + i * 5 + 4, none⟩ = some (.slice A_pages x.pages.length c_pages) ∧ (Lit.int .i64 x.key.kind).wf = true ∧ (Lit.int .u64 x.key.sig).wf = true ∧ (Lit.int .i64 x.key.comp).wf = true ∧ Rep.byte.Sl Q w A_data c_data x.data ∧ (Rep.int .i64).Sl Q w A_pages c_pages x.pages := by
  obtain ⟨b, off, es, h1, _, h2, h3, h4⟩ := h.get hx
  obtain ⟨A_data, c_data, A_pages, c_pages, e, f0, f1, f2, f3, f4⟩ := rFlow_open h3
  subst e
  rw [rFlow_size] at h4
  exact ⟨b, off, A_data, c_data, A_pages, c_pages, h1, h2, h4 0 _ rfl, h4 1 _ rfl, h4 2 _ rfl, h4 3 _ rfl, h4 4 _ rfl, f0, f1, f2, f3, f4⟩
theorem rFlow_val {Q : Nat → Prop} {w : World} {v : Value} {x : DFlow} (h : rFlow.val Q w v x) : ∃ (A_data : Option Addr) (c_data : Nat) (A_pages : Option Addr) (c_pages : Nat), v = .agg #[.int .i64 x.key.kind, .int .u64 x.key.sig, .int .i64 x.key.comp, .slice A_data x.data.length c_data, .slice A_pages x.pages.length c_pages] ∧ (Lit.int .i64 x.key.kind).wf = true ∧ (Lit.int .u64 x.key.sig).wf = true ∧ (Lit.int .i64 x.key.comp).wf = true ∧ Rep.byte.Sl Q w A_data c_data x.data ∧ (Rep.int .i64).Sl Q w A_pages c_pages x.pages := by
  obtain ⟨cs, rfl, h⟩ := h
  obtain ⟨A_data, c_data, A_pages, c_pages, e, f0, f1, f2, f3, f4⟩ := rFlow_open h
  subst e
  exact ⟨A_data, c_data, A_pages, c_pages, rfl, f0, f1, f2, f3, f4⟩
theorem rFlow_agg {Q : Nat → Prop} {w : World} {x : DFlow} {A_data : Option Addr} {c_data : Nat} {A_pages : Option Addr} {c_pages : Nat} (f0 : (Lit.int .i64 x.key.kind).wf = true) (f1 : (Lit.int .u64 x.key.sig).wf = true) (f2 : (Lit.int .i64 x.key.comp).wf = true) (f3 : Rep.byte.Sl Q w A_data c_data x.data) (f4 : (Rep.int .i64).Sl Q w A_pages c_pages x.pages) : rFlow.val Q w (.agg #[.int .i64 x.key.kind, .int .u64 x.key.sig, .int .i64 x.key.comp, .slice A_data x.data.length c_data, .slice A_pages x.pages.length c_pages]) x := ⟨_, rfl, rFlow_mk f0 f1 f2 f3 f4⟩

@[ext] structure DEntry where
  key : DKey
  long : Int
  pages : List Int
  deriving DecidableEq

def rEntry : Rep DEntry := (rKey.pair ((Rep.int .i64).pair (Rep.int .i64).list)).iso fun x => (x.key, x.long, x.pages)
theorem rEntry_size : rEntry.size = 5 := rfl
theorem rEntry_open {Q : Nat → Prop} {w : World} {cs : List Value} {x : DEntry} (h : rEntry.rd Q w cs x) : ∃ (A_pages : Option Addr) (c_pages : Nat), cs = [.int .i64 x.key.kind, .int .u64 x.key.sig, .int .i64 x.key.comp, .int .i64 x.long, .slice A_pages x.pages.length c_pages] ∧ (Lit.int .i64 x.key.kind).wf = true ∧ (Lit.int .u64 x.key.sig).wf = true ∧ (Lit.int .i64 x.key.comp).wf = true ∧ (Lit.int .i64 x.long).wf = true ∧ (Rep.int .i64).Sl Q w A_pages c_pages x.pages := by
  obtain ⟨a0, b0, rfl, h0, g0⟩ := h
  obtain ⟨e0, w0_0, w0_1, w0_2⟩ := rKey_open h0
  subst e0
  obtain ⟨a1, b1, rfl, h1, g1⟩ := g0
  obtain ⟨e1, w1⟩ := h1
  subst e1
  obtain ⟨A2, c2, e2, w2⟩ := Rep.rd_sl g1
  subst e2
  exact ⟨A2, c2, rfl, w0_0, w0_1, w0_2, w1, w2⟩
theorem rEntry_mk {Q : Nat → Prop} {w : World} {x : DEntry} {A_pages : Option Addr} {c_pages : Nat} (f0 : (Lit.int .i64 x.key.kind).wf = true) (f1 : (Lit.int .u64 x.key.sig).wf = true) (f2 : (Lit.int .i64 x.key.comp).wf = true) (f3 : (Lit.int .i64 x.long).wf = true) (f4 : (Rep.int .i64).Sl Q w A_pages c_pages x.pages) : rEntry.rd Q w [.int .i64 x.key.kind, .int .u64 x.key.sig, .int .i64 x.key.comp, .int .i64 x.long, .slice A_pages x.pages.length c_pages] x := by
  exact ⟨_, _, rfl, rKey_mk f0 f1 f2, ⟨_, _, rfl, ⟨rfl, f3⟩, Rep.sl_rd f4⟩⟩
theorem rEntry_at {Q : Nat → Prop} {w : World} {A : Option Addr} {xs : List DEntry} (h : rEntry.At Q w A xs) {i : Nat} {x : DEntry} (hx : xs[i]? = some x) :
    ∃ (b off : Nat) (A_pages : Option Addr) (c_pages : Nat), A = some ⟨b, off, none⟩ ∧ IsC w b ∧ w.cell? ⟨b, off + i * 5, none⟩ = some (.int .i64 x.key.kind) ∧ w.cell? ⟨b, off + i * 5 + 1, none⟩ = some (.int .u64 x.key.sig) ∧ w.cell? ⟨b, off + i * 5 + 2, none⟩ = some (.int .i64 x.key.comp) ∧ w.cell? ⟨b, off + i * 5 + 3, none⟩ = some (.int .i64 x.long) ∧ w.cell? ⟨b, off + i * 5 + 4, none⟩ = some (.slice A_pages x.pages.length c_pages) ∧ (Lit.int .i64 x.key.kind).wf = true ∧ (Lit.int .u64 x.key.sig).wf = true ∧ (Lit.int .i64 x.key.comp).wf = true ∧ (Lit.int .i64 x.long).wf = true ∧ (Rep.int .i64).Sl Q w A_pages c_pages x.pages := by
  obtain ⟨b, off, es, h1, _, h2, h3, h4⟩ := h.get hx
  obtain ⟨A_pages, c_pages, e, f0, f1, f2, f3, f4⟩ := rEntry_open h3
  subst e
  rw [rEntry_size] at h4
  exact ⟨b, off, A_pages, c_pages, h1, h2, h4 0 _ rfl, h4 1 _ rfl, h4 2 _ rfl, h4 3 _ rfl, h4 4 _ rfl, f0, f1, f2, f3, f4⟩
theorem rEntry_val {Q : Nat → Prop} {w : World} {v : Value} {x : DEntry} (h : rEntry.val Q w v x) : ∃ (A_pages : Option Addr) (c_pages : Nat), v = .agg #[.int .i64 x.key.kind, .int .u64 x.key.sig, .int .i64 x.key.comp, .int .i64 x.long, .slice A_pages x.pages.length c_pages] ∧ (Lit.int .i64 x.key.kind).wf = true ∧ (Lit.int .u64 x.key.sig).wf = true ∧ (Lit.int .i64 x.key.comp).wf = true ∧ (Lit.int .i64 x.long).wf = true ∧ (Rep.int .i64).Sl Q w A_pages c_pages x.pages := by
  obtain ⟨cs, rfl, h⟩ := h
  obtain ⟨A_pages, c_pages, e, f0, f1, f2, f3, f4⟩ := rEntry_open h
  subst e
  exact ⟨A_pages, c_pages, rfl, f0, f1, f2, f3, f4⟩
theorem rEntry_agg {Q : Nat → Prop} {w : World} {x : DEntry} {A_pages : Option Addr} {c_pages : Nat} (f0 : (Lit.int .i64 x.key.kind).wf = true) (f1 : (Lit.int .u64 x.key.sig).wf = true) (f2 : (Lit.int .i64 x.key.comp).wf = true) (f3 : (Lit.int .i64 x.long).wf = true) (f4 : (Rep.int .i64).Sl Q w A_pages c_pages x.pages) : rEntry.val Q w (.agg #[.int .i64 x.key.kind, .int .u64 x.key.sig, .int .i64 x.key.comp, .int .i64 x.long, .slice A_pages x.pages.length c_pages]) x := ⟨_, rfl, rEntry_mk f0 f1 f2 f3 f4⟩

@[ext] structure DSuper where
  epoch : Int
  gen : Int
  log : Int
  pages : Int
  head : Int
  seq : Int
  long : Int
  dir : List Int
  deriving DecidableEq

def rSuper : Rep DSuper := ((Rep.int .i64).pair ((Rep.int .i64).pair ((Rep.int .i64).pair ((Rep.int .i64).pair ((Rep.int .i64).pair ((Rep.int .i64).pair ((Rep.int .i64).pair (Rep.int .i64).list))))))).iso fun x => (x.epoch, x.gen, x.log, x.pages, x.head, x.seq, x.long, x.dir)
theorem rSuper_size : rSuper.size = 8 := rfl
theorem rSuper_open {Q : Nat → Prop} {w : World} {cs : List Value} {x : DSuper} (h : rSuper.rd Q w cs x) : ∃ (A_dir : Option Addr) (c_dir : Nat), cs = [.int .i64 x.epoch, .int .i64 x.gen, .int .i64 x.log, .int .i64 x.pages, .int .i64 x.head, .int .i64 x.seq, .int .i64 x.long, .slice A_dir x.dir.length c_dir] ∧ (Lit.int .i64 x.epoch).wf = true ∧ (Lit.int .i64 x.gen).wf = true ∧ (Lit.int .i64 x.log).wf = true ∧ (Lit.int .i64 x.pages).wf = true ∧ (Lit.int .i64 x.head).wf = true ∧ (Lit.int .i64 x.seq).wf = true ∧ (Lit.int .i64 x.long).wf = true ∧ (Rep.int .i64).Sl Q w A_dir c_dir x.dir := by
  obtain ⟨a0, b0, rfl, h0, g0⟩ := h
  obtain ⟨e0, w0⟩ := h0
  subst e0
  obtain ⟨a1, b1, rfl, h1, g1⟩ := g0
  obtain ⟨e1, w1⟩ := h1
  subst e1
  obtain ⟨a2, b2, rfl, h2, g2⟩ := g1
  obtain ⟨e2, w2⟩ := h2
  subst e2
  obtain ⟨a3, b3, rfl, h3, g3⟩ := g2
  obtain ⟨e3, w3⟩ := h3
  subst e3
  obtain ⟨a4, b4, rfl, h4, g4⟩ := g3
  obtain ⟨e4, w4⟩ := h4
  subst e4
  obtain ⟨a5, b5, rfl, h5, g5⟩ := g4
  obtain ⟨e5, w5⟩ := h5
  subst e5
  obtain ⟨a6, b6, rfl, h6, g6⟩ := g5
  obtain ⟨e6, w6⟩ := h6
  subst e6
  obtain ⟨A7, c7, e7, w7⟩ := Rep.rd_sl g6
  subst e7
  exact ⟨A7, c7, rfl, w0, w1, w2, w3, w4, w5, w6, w7⟩
theorem rSuper_mk {Q : Nat → Prop} {w : World} {x : DSuper} {A_dir : Option Addr} {c_dir : Nat} (f0 : (Lit.int .i64 x.epoch).wf = true) (f1 : (Lit.int .i64 x.gen).wf = true) (f2 : (Lit.int .i64 x.log).wf = true) (f3 : (Lit.int .i64 x.pages).wf = true) (f4 : (Lit.int .i64 x.head).wf = true) (f5 : (Lit.int .i64 x.seq).wf = true) (f6 : (Lit.int .i64 x.long).wf = true) (f7 : (Rep.int .i64).Sl Q w A_dir c_dir x.dir) : rSuper.rd Q w [.int .i64 x.epoch, .int .i64 x.gen, .int .i64 x.log, .int .i64 x.pages, .int .i64 x.head, .int .i64 x.seq, .int .i64 x.long, .slice A_dir x.dir.length c_dir] x := by
  exact ⟨_, _, rfl, ⟨rfl, f0⟩, ⟨_, _, rfl, ⟨rfl, f1⟩, ⟨_, _, rfl, ⟨rfl, f2⟩, ⟨_, _, rfl, ⟨rfl, f3⟩, ⟨_, _, rfl, ⟨rfl, f4⟩, ⟨_, _, rfl, ⟨rfl, f5⟩, ⟨_, _, rfl, ⟨rfl, f6⟩, Rep.sl_rd f7⟩⟩⟩⟩⟩⟩⟩
theorem rSuper_at {Q : Nat → Prop} {w : World} {A : Option Addr} {xs : List DSuper} (h : rSuper.At Q w A xs) {i : Nat} {x : DSuper} (hx : xs[i]? = some x) :
    ∃ (b off : Nat) (A_dir : Option Addr) (c_dir : Nat), A = some ⟨b, off, none⟩ ∧ IsC w b ∧ w.cell? ⟨b, off + i * 8, none⟩ = some (.int .i64 x.epoch) ∧ w.cell? ⟨b, off + i * 8 + 1, none⟩ = some (.int .i64 x.gen) ∧ w.cell? ⟨b, off + i * 8 + 2, none⟩ = some (.int .i64 x.log) ∧ w.cell? ⟨b, off + i * 8 + 3, none⟩ = some (.int .i64 x.pages) ∧ w.cell? ⟨b, off + i * 8 + 4, none⟩ = some (.int .i64 x.head) ∧ w.cell? ⟨b, off + i * 8 + 5, none⟩ = some (.int .i64 x.seq) ∧ w.cell? ⟨b, off + i * 8 + 6, none⟩ = some (.int .i64 x.long) ∧ w.cell? ⟨b, off + i * 8 + 7, none⟩ = some (.slice A_dir x.dir.length c_dir) ∧ (Lit.int .i64 x.epoch).wf = true ∧ (Lit.int .i64 x.gen).wf = true ∧ (Lit.int .i64 x.log).wf = true ∧ (Lit.int .i64 x.pages).wf = true ∧ (Lit.int .i64 x.head).wf = true ∧ (Lit.int .i64 x.seq).wf = true ∧ (Lit.int .i64 x.long).wf = true ∧ (Rep.int .i64).Sl Q w A_dir c_dir x.dir := by
  obtain ⟨b, off, es, h1, _, h2, h3, h4⟩ := h.get hx
  obtain ⟨A_dir, c_dir, e, f0, f1, f2, f3, f4, f5, f6, f7⟩ := rSuper_open h3
  subst e
  rw [rSuper_size] at h4
  exact ⟨b, off, A_dir, c_dir, h1, h2, h4 0 _ rfl, h4 1 _ rfl, h4 2 _ rfl, h4 3 _ rfl, h4 4 _ rfl, h4 5 _ rfl, h4 6 _ rfl, h4 7 _ rfl, f0, f1, f2, f3, f4, f5, f6, f7⟩
theorem rSuper_val {Q : Nat → Prop} {w : World} {v : Value} {x : DSuper} (h : rSuper.val Q w v x) : ∃ (A_dir : Option Addr) (c_dir : Nat), v = .agg #[.int .i64 x.epoch, .int .i64 x.gen, .int .i64 x.log, .int .i64 x.pages, .int .i64 x.head, .int .i64 x.seq, .int .i64 x.long, .slice A_dir x.dir.length c_dir] ∧ (Lit.int .i64 x.epoch).wf = true ∧ (Lit.int .i64 x.gen).wf = true ∧ (Lit.int .i64 x.log).wf = true ∧ (Lit.int .i64 x.pages).wf = true ∧ (Lit.int .i64 x.head).wf = true ∧ (Lit.int .i64 x.seq).wf = true ∧ (Lit.int .i64 x.long).wf = true ∧ (Rep.int .i64).Sl Q w A_dir c_dir x.dir := by
  obtain ⟨cs, rfl, h⟩ := h
  obtain ⟨A_dir, c_dir, e, f0, f1, f2, f3, f4, f5, f6, f7⟩ := rSuper_open h
  subst e
  exact ⟨A_dir, c_dir, rfl, f0, f1, f2, f3, f4, f5, f6, f7⟩
theorem rSuper_agg {Q : Nat → Prop} {w : World} {x : DSuper} {A_dir : Option Addr} {c_dir : Nat} (f0 : (Lit.int .i64 x.epoch).wf = true) (f1 : (Lit.int .i64 x.gen).wf = true) (f2 : (Lit.int .i64 x.log).wf = true) (f3 : (Lit.int .i64 x.pages).wf = true) (f4 : (Lit.int .i64 x.head).wf = true) (f5 : (Lit.int .i64 x.seq).wf = true) (f6 : (Lit.int .i64 x.long).wf = true) (f7 : (Rep.int .i64).Sl Q w A_dir c_dir x.dir) : rSuper.val Q w (.agg #[.int .i64 x.epoch, .int .i64 x.gen, .int .i64 x.log, .int .i64 x.pages, .int .i64 x.head, .int .i64 x.seq, .int .i64 x.long, .slice A_dir x.dir.length c_dir]) x := ⟨_, rfl, rSuper_mk f0 f1 f2 f3 f4 f5 f6 f7⟩

@[ext] structure DSeal where
  epoch : Int
  no : Int
  kind : Int
  body : List UInt8
  deriving DecidableEq

def rSeal : Rep DSeal := ((Rep.int .i64).pair ((Rep.int .i64).pair ((Rep.int .i64).pair Rep.byte.list))).iso fun x => (x.epoch, x.no, x.kind, x.body)
theorem rSeal_size : rSeal.size = 4 := rfl
theorem rSeal_open {Q : Nat → Prop} {w : World} {cs : List Value} {x : DSeal} (h : rSeal.rd Q w cs x) : ∃ (A_body : Option Addr) (c_body : Nat), cs = [.int .i64 x.epoch, .int .i64 x.no, .int .i64 x.kind, .slice A_body x.body.length c_body] ∧ (Lit.int .i64 x.epoch).wf = true ∧ (Lit.int .i64 x.no).wf = true ∧ (Lit.int .i64 x.kind).wf = true ∧ Rep.byte.Sl Q w A_body c_body x.body := by
  obtain ⟨a0, b0, rfl, h0, g0⟩ := h
  obtain ⟨e0, w0⟩ := h0
  subst e0
  obtain ⟨a1, b1, rfl, h1, g1⟩ := g0
  obtain ⟨e1, w1⟩ := h1
  subst e1
  obtain ⟨a2, b2, rfl, h2, g2⟩ := g1
  obtain ⟨e2, w2⟩ := h2
  subst e2
  obtain ⟨A3, c3, e3, w3⟩ := Rep.rd_sl g2
  subst e3
  exact ⟨A3, c3, rfl, w0, w1, w2, w3⟩
theorem rSeal_mk {Q : Nat → Prop} {w : World} {x : DSeal} {A_body : Option Addr} {c_body : Nat} (f0 : (Lit.int .i64 x.epoch).wf = true) (f1 : (Lit.int .i64 x.no).wf = true) (f2 : (Lit.int .i64 x.kind).wf = true) (f3 : Rep.byte.Sl Q w A_body c_body x.body) : rSeal.rd Q w [.int .i64 x.epoch, .int .i64 x.no, .int .i64 x.kind, .slice A_body x.body.length c_body] x := by
  exact ⟨_, _, rfl, ⟨rfl, f0⟩, ⟨_, _, rfl, ⟨rfl, f1⟩, ⟨_, _, rfl, ⟨rfl, f2⟩, Rep.sl_rd f3⟩⟩⟩
theorem rSeal_at {Q : Nat → Prop} {w : World} {A : Option Addr} {xs : List DSeal} (h : rSeal.At Q w A xs) {i : Nat} {x : DSeal} (hx : xs[i]? = some x) :
    ∃ (b off : Nat) (A_body : Option Addr) (c_body : Nat), A = some ⟨b, off, none⟩ ∧ IsC w b ∧ w.cell? ⟨b, off + i * 4, none⟩ = some (.int .i64 x.epoch) ∧ w.cell? ⟨b, off + i * 4 + 1, none⟩ = some (.int .i64 x.no) ∧ w.cell? ⟨b, off + i * 4 + 2, none⟩ = some (.int .i64 x.kind) ∧ w.cell? ⟨b, off + i * 4 + 3, none⟩ = some (.slice A_body x.body.length c_body) ∧ (Lit.int .i64 x.epoch).wf = true ∧ (Lit.int .i64 x.no).wf = true ∧ (Lit.int .i64 x.kind).wf = true ∧ Rep.byte.Sl Q w A_body c_body x.body := by
  obtain ⟨b, off, es, h1, _, h2, h3, h4⟩ := h.get hx
  obtain ⟨A_body, c_body, e, f0, f1, f2, f3⟩ := rSeal_open h3
  subst e
  rw [rSeal_size] at h4
  exact ⟨b, off, A_body, c_body, h1, h2, h4 0 _ rfl, h4 1 _ rfl, h4 2 _ rfl, h4 3 _ rfl, f0, f1, f2, f3⟩
theorem rSeal_val {Q : Nat → Prop} {w : World} {v : Value} {x : DSeal} (h : rSeal.val Q w v x) : ∃ (A_body : Option Addr) (c_body : Nat), v = .agg #[.int .i64 x.epoch, .int .i64 x.no, .int .i64 x.kind, .slice A_body x.body.length c_body] ∧ (Lit.int .i64 x.epoch).wf = true ∧ (Lit.int .i64 x.no).wf = true ∧ (Lit.int .i64 x.kind).wf = true ∧ Rep.byte.Sl Q w A_body c_body x.body := by
  obtain ⟨cs, rfl, h⟩ := h
  obtain ⟨A_body, c_body, e, f0, f1, f2, f3⟩ := rSeal_open h
  subst e
  exact ⟨A_body, c_body, rfl, f0, f1, f2, f3⟩
theorem rSeal_agg {Q : Nat → Prop} {w : World} {x : DSeal} {A_body : Option Addr} {c_body : Nat} (f0 : (Lit.int .i64 x.epoch).wf = true) (f1 : (Lit.int .i64 x.no).wf = true) (f2 : (Lit.int .i64 x.kind).wf = true) (f3 : Rep.byte.Sl Q w A_body c_body x.body) : rSeal.val Q w (.agg #[.int .i64 x.epoch, .int .i64 x.no, .int .i64 x.kind, .slice A_body x.body.length c_body]) x := ⟨_, rfl, rSeal_mk f0 f1 f2 f3⟩

@[ext] structure DPolicy where
  room : Int
  frames : Int
  deriving DecidableEq

def rPolicy : Rep DPolicy := ((Rep.int .i64).pair (Rep.int .i64)).iso fun x => (x.room, x.frames)
theorem rPolicy_size : rPolicy.size = 2 := rfl
theorem rPolicy_open {Q : Nat → Prop} {w : World} {cs : List Value} {x : DPolicy} (h : rPolicy.rd Q w cs x) : cs = [.int .i64 x.room, .int .i64 x.frames] ∧ (Lit.int .i64 x.room).wf = true ∧ (Lit.int .i64 x.frames).wf = true := by
  obtain ⟨a0, b0, rfl, h0, g0⟩ := h
  obtain ⟨e0, w0⟩ := h0
  subst e0
  obtain ⟨e1, w1⟩ := g0
  subst e1
  exact ⟨rfl, w0, w1⟩
theorem rPolicy_mk {Q : Nat → Prop} {w : World} {x : DPolicy}  (f0 : (Lit.int .i64 x.room).wf = true) (f1 : (Lit.int .i64 x.frames).wf = true) : rPolicy.rd Q w [.int .i64 x.room, .int .i64 x.frames] x := by
  exact ⟨_, _, rfl, ⟨rfl, f0⟩, ⟨rfl, f1⟩⟩
theorem rPolicy_at {Q : Nat → Prop} {w : World} {A : Option Addr} {xs : List DPolicy} (h : rPolicy.At Q w A xs) {i : Nat} {x : DPolicy} (hx : xs[i]? = some x) :
    ∃ (b off : Nat), A = some ⟨b, off, none⟩ ∧ IsC w b ∧ w.cell? ⟨b, off + i * 2, none⟩ = some (.int .i64 x.room) ∧ w.cell? ⟨b, off + i * 2 + 1, none⟩ = some (.int .i64 x.frames) ∧ (Lit.int .i64 x.room).wf = true ∧ (Lit.int .i64 x.frames).wf = true := by
  obtain ⟨b, off, es, h1, _, h2, h3, h4⟩ := h.get hx
  obtain ⟨e, f0, f1⟩ := rPolicy_open h3
  subst e
  rw [rPolicy_size] at h4
  exact ⟨b, off, h1, h2, h4 0 _ rfl, h4 1 _ rfl, f0, f1⟩
theorem rPolicy_val {Q : Nat → Prop} {w : World} {v : Value} {x : DPolicy} (h : rPolicy.val Q w v x) : v = .agg #[.int .i64 x.room, .int .i64 x.frames] ∧ (Lit.int .i64 x.room).wf = true ∧ (Lit.int .i64 x.frames).wf = true := by
  obtain ⟨cs, rfl, h⟩ := h
  obtain ⟨e, f0, f1⟩ := rPolicy_open h
  subst e
  exact ⟨rfl, f0, f1⟩
theorem rPolicy_agg {Q : Nat → Prop} {w : World} {x : DPolicy}  (f0 : (Lit.int .i64 x.room).wf = true) (f1 : (Lit.int .i64 x.frames).wf = true) : rPolicy.val Q w (.agg #[.int .i64 x.room, .int .i64 x.frames]) x := ⟨_, rfl, rPolicy_mk f0 f1⟩

@[ext] structure DCmd where
  kind : Int
  loc : Bool
  id : DID
  comp : Int
  data : List UInt8
  deriving DecidableEq

def rCmd : Rep DCmd := ((Rep.int .i64).pair (Rep.bool.pair (rID.pair ((Rep.int .i64).pair Rep.byte.list)))).iso fun x => (x.kind, x.loc, x.id, x.comp, x.data)
theorem rCmd_size : rCmd.size = 6 := rfl
theorem rCmd_open {Q : Nat → Prop} {w : World} {cs : List Value} {x : DCmd} (h : rCmd.rd Q w cs x) : ∃ (A_data : Option Addr) (c_data : Nat), cs = [.int .i64 x.kind, .bool x.loc, .int .i64 x.id.index, .int .i64 x.id.gen, .int .i64 x.comp, .slice A_data x.data.length c_data] ∧ (Lit.int .i64 x.kind).wf = true ∧ (Lit.int .i64 x.id.index).wf = true ∧ (Lit.int .i64 x.id.gen).wf = true ∧ (Lit.int .i64 x.comp).wf = true ∧ Rep.byte.Sl Q w A_data c_data x.data := by
  obtain ⟨a0, b0, rfl, h0, g0⟩ := h
  obtain ⟨e0, w0⟩ := h0
  subst e0
  obtain ⟨a1, b1, rfl, h1, g1⟩ := g0
  have e1 := h1
  subst e1
  obtain ⟨a2, b2, rfl, h2, g2⟩ := g1
  obtain ⟨e2, w2_0, w2_1⟩ := rID_open h2
  subst e2
  obtain ⟨a3, b3, rfl, h3, g3⟩ := g2
  obtain ⟨e3, w3⟩ := h3
  subst e3
  obtain ⟨A4, c4, e4, w4⟩ := Rep.rd_sl g3
  subst e4
  exact ⟨A4, c4, rfl, w0, w2_0, w2_1, w3, w4⟩
theorem rCmd_mk {Q : Nat → Prop} {w : World} {x : DCmd} {A_data : Option Addr} {c_data : Nat} (f0 : (Lit.int .i64 x.kind).wf = true) (f1 : (Lit.int .i64 x.id.index).wf = true) (f2 : (Lit.int .i64 x.id.gen).wf = true) (f3 : (Lit.int .i64 x.comp).wf = true) (f4 : Rep.byte.Sl Q w A_data c_data x.data) : rCmd.rd Q w [.int .i64 x.kind, .bool x.loc, .int .i64 x.id.index, .int .i64 x.id.gen, .int .i64 x.comp, .slice A_data x.data.length c_data] x := by
  exact ⟨_, _, rfl, ⟨rfl, f0⟩, ⟨_, _, rfl, rfl, ⟨_, _, rfl, rID_mk f1 f2, ⟨_, _, rfl, ⟨rfl, f3⟩, Rep.sl_rd f4⟩⟩⟩⟩
theorem rCmd_at {Q : Nat → Prop} {w : World} {A : Option Addr} {xs : List DCmd} (h : rCmd.At Q w A xs) {i : Nat} {x : DCmd} (hx : xs[i]? = some x) :
    ∃ (b off : Nat) (A_data : Option Addr) (c_data : Nat), A = some ⟨b, off, none⟩ ∧ IsC w b ∧ w.cell? ⟨b, off + i * 6, none⟩ = some (.int .i64 x.kind) ∧ w.cell? ⟨b, off + i * 6 + 1, none⟩ = some (.bool x.loc) ∧ w.cell? ⟨b, off + i * 6 + 2, none⟩ = some (.int .i64 x.id.index) ∧ w.cell? ⟨b, off + i * 6 + 3, none⟩ = some (.int .i64 x.id.gen) ∧ w.cell? ⟨b, off + i * 6 + 4, none⟩ = some (.int .i64 x.comp) ∧ w.cell? ⟨b, off + i * 6 + 5, none⟩ = some (.slice A_data x.data.length c_data) ∧ (Lit.int .i64 x.kind).wf = true ∧ (Lit.int .i64 x.id.index).wf = true ∧ (Lit.int .i64 x.id.gen).wf = true ∧ (Lit.int .i64 x.comp).wf = true ∧ Rep.byte.Sl Q w A_data c_data x.data := by
  obtain ⟨b, off, es, h1, _, h2, h3, h4⟩ := h.get hx
  obtain ⟨A_data, c_data, e, f0, f1, f2, f3, f4⟩ := rCmd_open h3
  subst e
  rw [rCmd_size] at h4
  exact ⟨b, off, A_data, c_data, h1, h2, h4 0 _ rfl, h4 1 _ rfl, h4 2 _ rfl, h4 3 _ rfl, h4 4 _ rfl, h4 5 _ rfl, f0, f1, f2, f3, f4⟩
theorem rCmd_val {Q : Nat → Prop} {w : World} {v : Value} {x : DCmd} (h : rCmd.val Q w v x) : ∃ (A_data : Option Addr) (c_data : Nat), v = .agg #[.int .i64 x.kind, .bool x.loc, .int .i64 x.id.index, .int .i64 x.id.gen, .int .i64 x.comp, .slice A_data x.data.length c_data] ∧ (Lit.int .i64 x.kind).wf = true ∧ (Lit.int .i64 x.id.index).wf = true ∧ (Lit.int .i64 x.id.gen).wf = true ∧ (Lit.int .i64 x.comp).wf = true ∧ Rep.byte.Sl Q w A_data c_data x.data := by
  obtain ⟨cs, rfl, h⟩ := h
  obtain ⟨A_data, c_data, e, f0, f1, f2, f3, f4⟩ := rCmd_open h
  subst e
  exact ⟨A_data, c_data, rfl, f0, f1, f2, f3, f4⟩
theorem rCmd_agg {Q : Nat → Prop} {w : World} {x : DCmd} {A_data : Option Addr} {c_data : Nat} (f0 : (Lit.int .i64 x.kind).wf = true) (f1 : (Lit.int .i64 x.id.index).wf = true) (f2 : (Lit.int .i64 x.id.gen).wf = true) (f3 : (Lit.int .i64 x.comp).wf = true) (f4 : Rep.byte.Sl Q w A_data c_data x.data) : rCmd.val Q w (.agg #[.int .i64 x.kind, .bool x.loc, .int .i64 x.id.index, .int .i64 x.id.gen, .int .i64 x.comp, .slice A_data x.data.length c_data]) x := ⟨_, rfl, rCmd_mk f0 f1 f2 f3 f4⟩

@[ext] structure DEvent where
  kind : Int
  id : DID
  frame : Int
  deriving DecidableEq

def rEvent : Rep DEvent := ((Rep.int .i64).pair (rID.pair (Rep.int .i64))).iso fun x => (x.kind, x.id, x.frame)
theorem rEvent_size : rEvent.size = 4 := rfl
theorem rEvent_open {Q : Nat → Prop} {w : World} {cs : List Value} {x : DEvent} (h : rEvent.rd Q w cs x) : cs = [.int .i64 x.kind, .int .i64 x.id.index, .int .i64 x.id.gen, .int .i64 x.frame] ∧ (Lit.int .i64 x.kind).wf = true ∧ (Lit.int .i64 x.id.index).wf = true ∧ (Lit.int .i64 x.id.gen).wf = true ∧ (Lit.int .i64 x.frame).wf = true := by
  obtain ⟨a0, b0, rfl, h0, g0⟩ := h
  obtain ⟨e0, w0⟩ := h0
  subst e0
  obtain ⟨a1, b1, rfl, h1, g1⟩ := g0
  obtain ⟨e1, w1_0, w1_1⟩ := rID_open h1
  subst e1
  obtain ⟨e2, w2⟩ := g1
  subst e2
  exact ⟨rfl, w0, w1_0, w1_1, w2⟩
theorem rEvent_mk {Q : Nat → Prop} {w : World} {x : DEvent}  (f0 : (Lit.int .i64 x.kind).wf = true) (f1 : (Lit.int .i64 x.id.index).wf = true) (f2 : (Lit.int .i64 x.id.gen).wf = true) (f3 : (Lit.int .i64 x.frame).wf = true) : rEvent.rd Q w [.int .i64 x.kind, .int .i64 x.id.index, .int .i64 x.id.gen, .int .i64 x.frame] x := by
  exact ⟨_, _, rfl, ⟨rfl, f0⟩, ⟨_, _, rfl, rID_mk f1 f2, ⟨rfl, f3⟩⟩⟩
theorem rEvent_at {Q : Nat → Prop} {w : World} {A : Option Addr} {xs : List DEvent} (h : rEvent.At Q w A xs) {i : Nat} {x : DEvent} (hx : xs[i]? = some x) :
    ∃ (b off : Nat), A = some ⟨b, off, none⟩ ∧ IsC w b ∧ w.cell? ⟨b, off + i * 4, none⟩ = some (.int .i64 x.kind) ∧ w.cell? ⟨b, off + i * 4 + 1, none⟩ = some (.int .i64 x.id.index) ∧ w.cell? ⟨b, off + i * 4 + 2, none⟩ = some (.int .i64 x.id.gen) ∧ w.cell? ⟨b, off + i * 4 + 3, none⟩ = some (.int .i64 x.frame) ∧ (Lit.int .i64 x.kind).wf = true ∧ (Lit.int .i64 x.id.index).wf = true ∧ (Lit.int .i64 x.id.gen).wf = true ∧ (Lit.int .i64 x.frame).wf = true := by
  obtain ⟨b, off, es, h1, _, h2, h3, h4⟩ := h.get hx
  obtain ⟨e, f0, f1, f2, f3⟩ := rEvent_open h3
  subst e
  rw [rEvent_size] at h4
  exact ⟨b, off, h1, h2, h4 0 _ rfl, h4 1 _ rfl, h4 2 _ rfl, h4 3 _ rfl, f0, f1, f2, f3⟩
theorem rEvent_val {Q : Nat → Prop} {w : World} {v : Value} {x : DEvent} (h : rEvent.val Q w v x) : v = .agg #[.int .i64 x.kind, .int .i64 x.id.index, .int .i64 x.id.gen, .int .i64 x.frame] ∧ (Lit.int .i64 x.kind).wf = true ∧ (Lit.int .i64 x.id.index).wf = true ∧ (Lit.int .i64 x.id.gen).wf = true ∧ (Lit.int .i64 x.frame).wf = true := by
  obtain ⟨cs, rfl, h⟩ := h
  obtain ⟨e, f0, f1, f2, f3⟩ := rEvent_open h
  subst e
  exact ⟨rfl, f0, f1, f2, f3⟩
theorem rEvent_agg {Q : Nat → Prop} {w : World} {x : DEvent}  (f0 : (Lit.int .i64 x.kind).wf = true) (f1 : (Lit.int .i64 x.id.index).wf = true) (f2 : (Lit.int .i64 x.id.gen).wf = true) (f3 : (Lit.int .i64 x.frame).wf = true) : rEvent.val Q w (.agg #[.int .i64 x.kind, .int .i64 x.id.index, .int .i64 x.id.gen, .int .i64 x.frame]) x := ⟨_, rfl, rEvent_mk f0 f1 f2 f3⟩

@[ext] structure DFate where
  kept : Int
  torn : Int
  deriving DecidableEq

def rFate : Rep DFate := ((Rep.int .i64).pair (Rep.int .i64)).iso fun x => (x.kept, x.torn)
theorem rFate_size : rFate.size = 2 := rfl
theorem rFate_open {Q : Nat → Prop} {w : World} {cs : List Value} {x : DFate} (h : rFate.rd Q w cs x) : cs = [.int .i64 x.kept, .int .i64 x.torn] ∧ (Lit.int .i64 x.kept).wf = true ∧ (Lit.int .i64 x.torn).wf = true := by
  obtain ⟨a0, b0, rfl, h0, g0⟩ := h
  obtain ⟨e0, w0⟩ := h0
  subst e0
  obtain ⟨e1, w1⟩ := g0
  subst e1
  exact ⟨rfl, w0, w1⟩
theorem rFate_mk {Q : Nat → Prop} {w : World} {x : DFate}  (f0 : (Lit.int .i64 x.kept).wf = true) (f1 : (Lit.int .i64 x.torn).wf = true) : rFate.rd Q w [.int .i64 x.kept, .int .i64 x.torn] x := by
  exact ⟨_, _, rfl, ⟨rfl, f0⟩, ⟨rfl, f1⟩⟩
theorem rFate_at {Q : Nat → Prop} {w : World} {A : Option Addr} {xs : List DFate} (h : rFate.At Q w A xs) {i : Nat} {x : DFate} (hx : xs[i]? = some x) :
    ∃ (b off : Nat), A = some ⟨b, off, none⟩ ∧ IsC w b ∧ w.cell? ⟨b, off + i * 2, none⟩ = some (.int .i64 x.kept) ∧ w.cell? ⟨b, off + i * 2 + 1, none⟩ = some (.int .i64 x.torn) ∧ (Lit.int .i64 x.kept).wf = true ∧ (Lit.int .i64 x.torn).wf = true := by
  obtain ⟨b, off, es, h1, _, h2, h3, h4⟩ := h.get hx
  obtain ⟨e, f0, f1⟩ := rFate_open h3
  subst e
  rw [rFate_size] at h4
  exact ⟨b, off, h1, h2, h4 0 _ rfl, h4 1 _ rfl, f0, f1⟩
theorem rFate_val {Q : Nat → Prop} {w : World} {v : Value} {x : DFate} (h : rFate.val Q w v x) : v = .agg #[.int .i64 x.kept, .int .i64 x.torn] ∧ (Lit.int .i64 x.kept).wf = true ∧ (Lit.int .i64 x.torn).wf = true := by
  obtain ⟨cs, rfl, h⟩ := h
  obtain ⟨e, f0, f1⟩ := rFate_open h
  subst e
  exact ⟨rfl, f0, f1⟩
theorem rFate_agg {Q : Nat → Prop} {w : World} {x : DFate}  (f0 : (Lit.int .i64 x.kept).wf = true) (f1 : (Lit.int .i64 x.torn).wf = true) : rFate.val Q w (.agg #[.int .i64 x.kept, .int .i64 x.torn]) x := ⟨_, rfl, rFate_mk f0 f1⟩

end Go.Proofs.Ytcfgckpjgihcgaa
/- Walks of the small functions on layouts. -/
namespace Go.Proofs.Ytcfgckpjgihcgaa
open Go.RowKit

def letterB (c : Int) : Bool := decide (97 ≤ c ∧ c ≤ 122) || decide (48 ≤ c ∧ c ≤ 57) || decide (c = 95)

/-- comp.letter -/
theorem letter_calls (c : Int) (w : World) (h0 : 0 ≤ c) (h1 : c ≤ 255) :
    Calls Try.prog 286 #[.int .u8 c] w fun e w' => e = .returned (.bool (letterB c)) ∧ w' = w := by
  obtain ⟨r, hr⟩ : ∃ r, r = letterB c := ⟨_, rfl⟩
  rw [← hr]
  unfold letterB at hr
  by_cases a1 : 97 ≤ c <;> by_cases a2 : c ≤ 122 <;> by_cases a3 : 48 ≤ c <;> by_cases a4 : c ≤ 57 <;> by_cases a5 : c = 95 <;> first | omega | skip
  all_goals
    simp [a1, a2, a3, a4, a5] at hr
    subst hr
    go_enter Try.func286, Try.ntmps286
    go_wp2_with fail
    go_ret
    exact ⟨by first | rfl | (rw [← (show (c == 95) = false by simp [a5])]; rfl), rfl⟩

def withinB (n lo hi : Int) : Bool := decide (lo ≤ n ∧ n ≤ hi)
/-- comp.within -/
theorem within_calls (n lo hi : Int) (w : World) :
    Calls Try.prog 250 #[.int .i64 n, .int .i64 lo, .int .i64 hi] w fun e w' => e = .returned (.bool (withinB n lo hi)) ∧ w' = w := by
  obtain ⟨r, hr⟩ : ∃ r, r = withinB n lo hi := ⟨_, rfl⟩
  rw [← hr]
  unfold withinB at hr
  by_cases a1 : lo ≤ n <;> by_cases a2 : n ≤ hi
  all_goals
    simp [a1, a2] at hr
    subst hr
    go_enter Try.func250, Try.ntmps250
    go_wp2_with fail
    go_ret
    exact ⟨rfl, rfl⟩

def nameB (s : List UInt8) : Bool := decide (1 ≤ s.length ∧ s.length ≤ 16) && s.all fun c => letterB (c.toNat : Int)

theorem all_take_succ {α : Type} {p : α → Bool} {s : List α} {k : Nat} (hk : k < s.length) (h : (s.take k).all p = true) (hc : p s[k] = true) : (s.take (k + 1)).all p = true := by
  rw [List.take_succ_eq_append_getElem hk, List.all_append, h]
  simp [hc]
theorem not_all {α : Type} {p : α → Bool} {s : List α} {k : Nat} (hk : k < s.length) (hc : p s[k] = false) : s.all p = false := by
  rw [Bool.eq_false_iff]
  intro h
  have := List.all_eq_true.1 h s[k] (List.getElem_mem hk)
  rw [hc] at this; cases this

theorem byte_le (x : UInt8) : (x.toNat : Int) ≤ 255 := by have := x.toNat_lt; omega

set_option maxRecDepth 10000 in
set_option maxHeartbeats 2000000 in
/-- comp.Name -/
theorem name_calls (s : List UInt8) (w : World) (hs : s.length ≤ maxLen) :
    Calls Try.prog 251 #[.string ⟨s.toArray⟩] w fun e w' => e = .returned (.bool (nameB s)) ∧ w' = w := by
  have hs' : (s.length : Int) ≤ 9223372036854775807 := by unfold maxLen at hs; omega
  have hsz : (ByteArray.mk s.toArray).size = s.length := by simp [ByteArray.size]
  by_cases hnil : s = []
  · subst hnil
    go_enter Try.func251, Try.ntmps251
    go_wp2_with fail
    go_ret
    exact ⟨rfl, rfl⟩
  have hemp : s.isEmpty = false := by simpa using hnil
  have hpos : 0 < s.length := List.length_pos_iff.2 hnil
  by_cases hlong : (16 : Int) < s.length
  · have hr : nameB s = false := by
      unfold nameB
      rw [decide_eq_false (by omega)]; rfl
    have HR := Lib.hid hr
    clear hr
    go_enter Try.func251, Try.ntmps251
    go_wp2_with fail
    go_ret
    exact ⟨by rw [HR.out]; rfl, rfl⟩
  · have hr : nameB s = s.all fun c => letterB (c.toNat : Int) := by
      unfold nameB
      rw [decide_eq_true (by omega), Bool.true_and]
    have HR := Lib.hid hr
    clear hr
    go_enter Try.func251, Try.ntmps251
    go_wp2_with fail
    go_loopw [13] (fun i wr => ∃ k : Nat, i = .int .i64 k ∧ k ≤ s.length ∧ Hid ((s.take k).all (fun c => letterB (c.toNat : Int)) = true) ∧ wr = w)
      (fun i _ => s.length - (intOf i).toNat)
    case atStart => exact ⟨0, rfl, by omega, rfl, rfl⟩
    case round =>
      obtain ⟨k, rfl, hk, hall, rfl⟩ := hrel
      by_cases hlt : (k : Int) < s.length
      · have hk' : k < s.length := by omega
        have L : ∀ w, Calls Try.prog 286 #[.int .u8 (((ByteArray.mk s.toArray)[k]'(by rw [hsz]; omega)).toNat : Int)] w fun e w' => e = .returned (.bool (letterB (s[k].toNat : Int))) ∧ w' = w :=
          fun w => letter_calls (s[k].toNat : Int) w (by omega) (byte_le s[k])
        cases hc : letterB (s[k].toNat : Int) with
        | true =>
          have HA := Lib.hid (all_take_succ (p := fun c : UInt8 => letterB (c.toNat : Int)) hk' hall hc)
          rw [hc] at L
          have HL := Lib.hid L
          clear hc hall L
          go_wp2_with (go_at_call 286; refine (HL.out _).mono ?_; rintro e w' ⟨rfl, rfl⟩)
          exact ⟨⟨k + 1, by go_num, by omega, HA.out, trivial⟩, by simp [intOf]; omega⟩
        | false =>
          have HF := Lib.hid (not_all (p := fun c : UInt8 => letterB (c.toNat : Int)) hk' hc)
          rw [hc] at L
          have HL := Lib.hid L
          clear hc hall L
          go_wp2_with (go_at_call 286; refine (HL.out _).mono ?_; rintro e w' ⟨rfl, rfl⟩)
          go_ret
          exact ⟨by rw [HR.out, HF.out]; rfl, rfl⟩
      · obtain rfl : k = s.length := by omega
        have HF := Lib.hid (show (s.all fun c => letterB (c.toNat : Int)) = true by have := hall.out; rwa [List.take_length] at this)
        clear hall
        go_wp2_with fail
        go_ret
        exact ⟨by rw [HR.out, HF.out]; rfl, rfl⟩
theorem dec_split (p : Prop) [Decidable p] : p ∨ (¬ p ∧ decide p = false) := by
  by_cases h : p
  · exact .inl h
  · exact .inr ⟨h, decide_eq_false h⟩

set_option maxRecDepth 10000 in
set_option maxHeartbeats 2000000 in
/-- ref07.Name -/
theorem rname_calls (s : List UInt8) (w : World) (hs : s.length ≤ maxLen) :
    Calls Try.prog 150 #[.string ⟨s.toArray⟩] w fun e w' => e = .returned (.bool (nameB s)) ∧ ∃ n, w' = w.drewN n := by
  have hs' : (s.length : Int) ≤ 9223372036854775807 := by unfold maxLen at hs; omega
  have hsz : (ByteArray.mk s.toArray).size = s.length := by simp [ByteArray.size]
  go_enter Try.func150, Try.ntmps150
  go_wp2_with fail
  go_loopw [3] (fun i wr => ∃ k n : Nat, i = .int .i64 k ∧ k ≤ s.length ∧ Hid ((s.take k).all (fun c => letterB (c.toNat : Int)) = true) ∧ wr = w.drewN n)
    (fun i _ => s.length - (intOf i).toNat)
  case atStart => exact ⟨0, 0, rfl, by omega, rfl, rfl⟩
  case round =>
    obtain ⟨k, n, rfl, hk, hall, rfl⟩ := hrel
    by_cases hlt : (k : Int) < s.length
    · have hk' : k < s.length := by omega
      have hx : (((ByteArray.mk s.toArray)[k]'(by rw [hsz]; omega)).toNat : Int) = (s[k].toNat : Int) := rfl
      have hb := byte_le s[k]
      have hall' := all_take_succ (p := fun c : UInt8 => letterB (c.toNat : Int)) hk' hall
      have hf := not_all (p := fun c : UInt8 => letterB (c.toNat : Int)) hk'
      rcases dec_split (97 ≤ (((ByteArray.mk s.toArray)[k]'(by rw [hsz]; omega)).toNat : Int)) with a1 | ⟨a1, d1⟩ <;>
      rcases dec_split ((((ByteArray.mk s.toArray)[k]'(by rw [hsz]; omega)).toNat : Int) ≤ 122) with a2 | ⟨a2, d2⟩ <;>
      rcases dec_split (48 ≤ (((ByteArray.mk s.toArray)[k]'(by rw [hsz]; omega)).toNat : Int)) with a3 | ⟨a3, d3⟩ <;>
      rcases dec_split ((((ByteArray.mk s.toArray)[k]'(by rw [hsz]; omega)).toNat : Int) ≤ 57) with a4 | ⟨a4, d4⟩ <;>
      rcases dec_split ((((ByteArray.mk s.toArray)[k]'(by rw [hsz]; omega)).toNat : Int) = 95) with a5 | ⟨a5, d5⟩ <;> (try (exfalso; rw [hx] at *; omega))
      all_goals
        first
        | (have hl : letterB (s[k].toNat : Int) = true := by rw [hx] at *; unfold letterB; simp only [Bool.or_eq_true, decide_eq_true_eq]; omega
           have HA := Lib.hid (hall' hl)
           clear hall' hf hl hall hx hb
           go_wp2_with fail
           go_quiet (fail)
           go_wp2_with fail
           all_goals first
             | exact ⟨⟨k + 1, _, by go_num, by omega, HA.out, rfl⟩, by simp [intOf]; omega⟩
             | (exfalso; rename_i h; simp at h; omega))
        | (have hl : letterB (s[k].toNat : Int) = false := by rw [hx] at *; unfold letterB; simp only [Bool.or_eq_false_iff, decide_eq_false_iff_not]; omega
           have HF := Lib.hid (hf hl)
           clear hall' hf hl hall hx hb
           go_wp2_with fail
           go_quiet (fail)
           go_wp2_with fail
           all_goals first
             | (go_ret; exact ⟨by rw [nameB, HF.out, Bool.and_false]; rfl, _, rfl⟩)
             | (exfalso; rename_i h; simp at h; omega))
    · obtain rfl : k = s.length := by omega
      have HF := Lib.hid (show (s.all fun c => letterB (c.toNat : Int)) = true by have := hall.out; rwa [List.take_length] at this)
      clear hall
      rcases dec_split ((1 : Int) ≤ s.length) with a1 | ⟨a1, d1⟩ <;>
      rcases dec_split ((s.length : Int) ≤ 16) with a2 | ⟨a2, d2⟩
      all_goals
        first
        | (have hr : nameB s = true := by rw [nameB, HF.out, Bool.and_true]; simp only [decide_eq_true_eq]; omega
           have HR := Lib.hid hr
           clear hr
           go_wp2_with fail
           go_ret
           exact ⟨by rw [HR.out]; rfl, _, rfl⟩)
        | (have hr : nameB s = false := by rw [nameB, HF.out, Bool.and_true]; simp only [decide_eq_false_iff_not]; omega
           have HR := Lib.hid hr
           clear hr
           go_wp2_with fail
           go_ret
           exact ⟨by rw [HR.out]; rfl, _, rfl⟩)
end Go.Proofs.Ytcfgckpjgihcgaa
/- Walks of the checks of a layout. -/
namespace Go.Proofs.Ytcfgckpjgihcgaa
open Go.RowKit

def compOk (l : List DComp) (i : Nat) : Bool := match l[i]? with
  | some x => (l.take i).all (fun y => decide (y.name ≠ x.name)) && nameB x.name && withinB x.size 0 64
  | none => true
def confRange (c : DConf) : Bool := withinB c.log 2 1024 && withinB c.pages 4 1024 && withinB c.entities 1 1024 && withinB c.gens 1 1073741824 && decide (c.comps.length ≤ 32)
def confRight (c : DConf) : Bool := confRange c && (List.range c.comps.length).all (compOk c.comps)
def checkOf (b : Bool) : Int := if b then 0 else 1

theorem range_all_succ {p : Nat → Bool} {k : Nat} (h : (List.range k).all p = true) (hk : p k = true) : (List.range (k + 1)).all p = true := by
  rw [List.range_succ, List.all_append, h]; simp [hk]
theorem range_not_all {p : Nat → Bool} {k n : Nat} (hk : k < n) (h : p k = false) : (List.range n).all p = false := by
  rw [Bool.eq_false_iff]
  intro hh
  have := List.all_eq_true.1 hh k (List.mem_range.2 hk)
  rw [h] at this; cases this

theorem compOk_dup {l : List DComp} {j k : Nat} {x y : DComp} (hjk : j < k) (hk : k < l.length) (hx : l[k] = x) (hj : j < l.length) (hy : l[j] = y) (h : y.name = x.name) : compOk l k = false := by
  unfold compOk
  rw [List.getElem?_eq_getElem hk, hx]
  have : ((l.take k).all fun y => decide (y.name ≠ x.name)) = false := by
    rw [Bool.eq_false_iff]
    intro hh
    have hm : y ∈ l.take k := by rw [← hy]; exact List.mem_take_iff_getElem.2 ⟨j, by omega, rfl⟩
    have := List.all_eq_true.1 hh y hm
    simp [h] at this
  simp only [this, Bool.false_and]

set_option maxRecDepth 100000 in
set_option maxHeartbeats 4000000 in
/-- comp.Check -/
theorem check_calls {Q : Nat → Prop} {w : World} {v : Value} {c : DConf} (hx : rConf.val Q w v c) :
    Calls Try.prog 184 #[v] w fun e w' => e = .returned (.int .i64 (checkOf (confRight c))) ∧ Below w.heap.size w w' := by
  obtain ⟨A, cap, rfl, f0, f1, f2, f3, hc1, hc2, hA⟩ := rConf_val hx
  unfold maxLen at hc2
  have hlen : (c.comps.length : Int) ≤ 9223372036854775807 := by omega
  cases h0 : withinB c.log 2 1024 <;> cases h1 : withinB c.pages 4 1024 <;> cases h2 : withinB c.entities 1 1024 <;> cases h3 : withinB c.gens 1 1073741824
  case true.true.true.true =>
    have H0 := Lib.hid h0
    have H1 := Lib.hid h1
    have H2 := Lib.hid h2
    have H3 := Lib.hid h3
    by_cases hlong : (32 : Int) < c.comps.length
    · have hr : confRight c = false := by simp [confRight, confRange]; intros; omega
      have HR := Lib.hid hr
      clear hr h0 h1 h2 h3 hx hA
      go_enter Try.func184, Try.ntmps184
      go_wp2_with fail
      go_step3
      go_wp2_with (go_at_call 250; refine (within_calls _ _ _ _).mono ?_; rintro e w' ⟨rfl, rfl⟩; first | rw [H0.out] | rw [H1.out] | rw [H2.out] | rw [H3.out])
      try rw [Exit.noGoto_ret]
      go_ret
      exact ⟨by rw [HR.out]; rfl, (Below.refl _ _).alloc (Nat.le_refl _) _⟩
    · have hr : confRight c = (List.range c.comps.length).all (compOk c.comps) := by
        have : decide (c.comps.length ≤ 32) = true := by simp; omega
        simp [confRight, confRange, h0, h1, h2, h3, this]
      have HR := Lib.hid hr
      have HX := Lib.hid hA
      clear hr h0 h1 h2 h3 hx hA
      go_enter Try.func184, Try.ntmps184
      go_wp2_with fail
      go_step3
      go_wp2_with (go_at_call 250; refine (within_calls _ _ _ _).mono ?_; rintro e w' ⟨rfl, rfl⟩; first | rw [H0.out] | rw [H1.out] | rw [H2.out] | rw [H3.out])
      obtain ⟨W1, hW1⟩ : ∃ W1, w.alloc (.cells #[.int .i64 c.log, .int .i64 c.pages, .int .i64 c.entities, .int .i64 c.gens, .slice A c.comps.length cap] 77) = W1 := ⟨_, rfl⟩
      have hcell : W1.cell? ⟨w.heap.size, 4, none⟩ = some (.slice A c.comps.length cap) := by rw [← hW1]; simp
      have hbel : Below w.heap.size w W1 := by rw [← hW1]; exact (Below.refl _ _).alloc (Nat.le_refl _) _
      have hsz : W1.heap.size = w.heap.size + 1 := by rw [← hW1]; simp
      rw [hW1]
      clear hW1
      go_wp2_with fail
      go_step3
      go_wp2_with fail
      go_loopw [40] (fun i wr => ∃ k : Nat, i = .int .i64 k ∧ k ≤ c.comps.length ∧ Hid ((List.range k).all (compOk c.comps) = true) ∧ Below (w.heap.size + 1) W1 wr)
        (fun i _ => c.comps.length - (intOf i).toNat)
      case atStart => exact ⟨0, rfl, by omega, rfl, Below.refl _ _⟩
      case round =>
        obtain ⟨k, rfl, hk, hall, hb1⟩ := hrel
        by_cases hlt : (k : Int) < c.comps.length
        · have hk' : k < c.comps.length := by omega
          have hAw : rComp.At (fun b => b < w.heap.size) wr A c.comps := Rep.At.keep (w := w) (fun b _ hb => ⟨hb.lt, (hb1.block b (by have := hb.lt; omega)).trans (hbel.block b hb.lt)⟩) HX.out
          obtain ⟨b, off, rfl, hb, cx0, cx1, g0, g1⟩ := rComp_at hAw (List.getElem?_eq_getElem hk')
          generalize hxx : c.comps[k] = x at *
          have HXX := Lib.hid hxx
          clear hxx
          have hcw : wr.cell? ⟨w.heap.size, 4, none⟩ = some (.slice (some ⟨b, off, none⟩) c.comps.length cap) := (hb1.cell (p := ⟨w.heap.size, 4, none⟩) (Nat.lt_succ_self _)).trans hcell
          have hlw : w.heap.size < wr.heap.size := by have := hb1.size; omega
          have hca : ∀ o, (wr.alloc o).cell? ⟨w.heap.size, 4, none⟩ = some (.slice (some ⟨b, off, none⟩) c.comps.length cap) := fun o => (World.cell?_of_block (w := wr) (Below.heap_alloc _ _ _ hlw)).trans hcw
          have HB1 := Lib.hid hb1
          have HAW := Lib.hid hAw
          clear hb1 hAw
          go_wp2_with fail
          rename World => wo
          obtain ⟨W2, hW2⟩ : ∃ W2, wo.alloc (.cells #[.string ⟨x.name.toArray⟩, .int .i64 x.size] 206) = W2 := ⟨_, rfl⟩
          have d0 : W2.cell? ⟨wo.heap.size, 0, none⟩ = some (.string ⟨x.name.toArray⟩) := by rw [← hW2]; simp
          have d1 : W2.cell? ⟨wo.heap.size, 1, none⟩ = some (.int .i64 x.size) := by rw [← hW2]; simp
          have hb2 : Below wo.heap.size wo W2 := by rw [← hW2]; exact (Below.refl _ _).alloc (Nat.le_refl _) _
          have hs2 : W2.heap.size = wo.heap.size + 1 := by rw [← hW2]; simp
          rw [hW2]
          clear hW2 hca hcw cx0 cx1
          have HAW2 := Lib.hid (HAW.out.keep (w := wo) (w' := W2) (Q' := fun b => b < wo.heap.size) fun b _ hb => ⟨hb.lt, hb2.block b hb.lt⟩)
          have HB2 := Lib.hid hb2
          clear hb2
          go_loopw [50] (fun i wr2 => ∃ j : Nat, i = .int .i64 j ∧ j ≤ k ∧ Hid ((c.comps.take j).all (fun y => decide (y.name ≠ x.name)) = true) ∧ Below (wo.heap.size + 1) W2 wr2)
            (fun i _ => k - (intOf i).toNat)
          case atStart => exact ⟨0, rfl, by omega, rfl, Below.refl _ _⟩
          case round =>
            obtain ⟨j, rfl, hj, hdif, hb3⟩ := hrel
            by_cases hjk : (j : Int) < k
            · have hj' : j < c.comps.length := by omega
              have hA3 := HAW2.out.keep (w := W2) (w' := wr) (Q' := fun _ => True) fun b hq hb => ⟨trivial, hb3.block b (by omega)⟩
              obtain ⟨b', off', heq, hb', cy0, cy1, g3, g4⟩ := rComp_at hA3 (List.getElem?_eq_getElem hj')
              cases heq
              generalize hyy : c.comps[j] = y at *
              have HYY := Lib.hid hyy
              have d0' := (hb3.cell (p := ⟨wo.heap.size, 0, none⟩) (Nat.lt_succ_self _)).trans d0
              have hlw3 : wo.heap.size < wr.heap.size := by have := hb3.size; omega
              have hca : ∀ o, (wr.alloc o).cell? ⟨wo.heap.size, 0, none⟩ = some (.string ⟨x.name.toArray⟩) := fun o => (World.cell?_of_block (w := wr) (Below.heap_alloc _ _ _ hlw3)).trans d0'
              have HB3 := Lib.hid hb3
              clear hyy hA3 hb3
              by_cases hq : y.name = x.name
              · have HF := Lib.hid (show confRight c = false by rw [HR.out]; exact range_not_all hk' (compOk_dup (j := j) (by omega) hk' HXX.out hj' HYY.out hq))
                replace hq : (x.name == y.name) = true := by simp [hq]
                go_wp2_with fail
                try rw [Exit.noGoto_ret]
                go_ret
                refine ⟨by rw [HF.out]; rfl, ?_⟩
                exact ((((hbel.trans (HB1.out.mono (by omega))).trans (HB2.out.mono (by omega))).trans (HB3.out.mono (by omega))).alloc (by omega) _)
              · have HD := Lib.hid (show ((c.comps.take (j + 1)).all fun y => decide (y.name ≠ x.name)) = true from all_take_succ (p := fun y : DComp => decide (y.name ≠ x.name)) hj' hdif (by rw [HYY.out]; simpa using hq))
                replace hq : (x.name == y.name) = false := by simpa using fun h => hq h.symm
                go_wp2_with fail
                exact ⟨⟨j + 1, by go_num, by omega, HD, HB3.out.alloc (by omega) _⟩, by simp [intOf]; omega⟩
            · obtain rfl : j = k := by omega
              have e0 := (hb3.cell (p := ⟨wo.heap.size, 0, none⟩) (Nat.lt_succ_self _)).trans d0
              have e1 := (hb3.cell (p := ⟨wo.heap.size, 1, none⟩) (Nat.lt_succ_self _)).trans d1
              have HB3 := Lib.hid hb3
              have hcomp : compOk c.comps j = (nameB x.name && withinB x.size 0 64) := by
                unfold compOk
                rw [List.getElem?_eq_getElem hk', HXX.out]
                simp only [hdif.out, Bool.true_and]
              have HW : Below (w.heap.size + 1) W1 wr := (HB1.out.trans (HB2.out.mono (by omega))).trans (hb3.mono (by omega))
              have HBW := Lib.hid HW
              clear hb3 HW
              by_cases hn : nameB x.name = true
              · by_cases hw : withinB x.size 0 64 = true
                · have HA := Lib.hid (range_all_succ hall (by rw [hcomp, hn, hw]; rfl))
                  have HN := Lib.hid hn
                  have HWI := Lib.hid hw
                  clear hcomp hn hw
                  go_wp2_with (first
                    | (go_at_call 251; refine (name_calls _ _ g0).mono ?_; rintro e w' ⟨rfl, rfl⟩; rw [HN.out])
                    | (go_at_call 250; refine (within_calls _ _ _ _).mono ?_; rintro e w' ⟨rfl, rfl⟩; rw [HWI.out]))
                  exact ⟨⟨j + 1, by go_num, by omega, HA, HBW.out⟩, by simp [intOf]; omega⟩
                · have HF := Lib.hid (show confRight c = false by rw [HR.out]; exact range_not_all hk' (by rw [hcomp, hn]; simpa using hw))
                  have HN := Lib.hid hn
                  have HWI := Lib.hid (show withinB x.size 0 64 = false by simpa using hw)
                  clear hcomp hn hw
                  go_wp2_with (first
                    | (go_at_call 251; refine (name_calls _ _ g0).mono ?_; rintro e w' ⟨rfl, rfl⟩; rw [HN.out])
                    | (go_at_call 250; refine (within_calls _ _ _ _).mono ?_; rintro e w' ⟨rfl, rfl⟩; rw [HWI.out]))
                  try rw [Exit.noGoto_ret]
                  go_ret
                  exact ⟨by rw [HF.out]; rfl, hbel.trans (HBW.out.mono (by omega))⟩
              · have HF := Lib.hid (show confRight c = false by rw [HR.out]; exact range_not_all hk' (by rw [hcomp]; simp [hn]))
                have HN := Lib.hid (show nameB x.name = false by simpa using hn)
                clear hcomp hn
                go_wp2_with (go_at_call 251; refine (name_calls _ _ g0).mono ?_; rintro e w' ⟨rfl, rfl⟩; rw [HN.out])
                try rw [Exit.noGoto_ret]
                go_ret
                exact ⟨by rw [HF.out]; rfl, hbel.trans (HBW.out.mono (by omega))⟩
        · obtain rfl : k = c.comps.length := by omega
          have HF := Lib.hid (show confRight c = true by rw [HR.out]; exact hall.out)
          have HB1 := Lib.hid hb1
          clear hb1
          go_wp2_with fail
          try rw [Exit.noGoto_ret]
          go_ret
          exact ⟨by rw [HF.out]; rfl, hbel.trans (HB1.out.mono (by omega))⟩
  all_goals
    have hr : confRight c = false := by simp [confRight, confRange, h0, h1, h2, h3]
    have HR := Lib.hid hr
    have H0 := Lib.hid h0
    have H1 := Lib.hid h1
    have H2 := Lib.hid h2
    have H3 := Lib.hid h3
    clear hr h0 h1 h2 h3 hx hA
    go_enter Try.func184, Try.ntmps184
    go_wp2_with fail
    go_step3
    go_wp2_with (go_at_call 250; refine (within_calls _ _ _ _).mono ?_; rintro e w' ⟨rfl, rfl⟩; first | rw [H0.out] | rw [H1.out] | rw [H2.out] | rw [H3.out])
    try rw [Exit.noGoto_ret]
    go_ret
    exact ⟨by rw [HR.out]; rfl, (Below.refl _ _).alloc (Nat.le_refl _) _⟩
end Go.Proofs.Ytcfgckpjgihcgaa
/- Walks of the reference's checks of a layout. -/
namespace Go.Proofs.Ytcfgckpjgihcgaa
open Go.RowKit

/-- What ref07.Find answers. -/
def FindRes (l : List DComp) (s : List UInt8) (w : World) (e : Ending) (w' : World) : Prop := Below w.heap.size w w' ∧ ∃ (i : Nat) (b : Bool), e = .returned (.tuple #[.int .i64 i, .bool b]) ∧
  ((b = true ∧ (l.take i).all (fun y => decide (y.name ≠ s)) = true ∧ ∃ h : i < l.length, l[i].name = s) ∨ (b = false ∧ l.all (fun y => decide (y.name ≠ s)) = true))

set_option maxRecDepth 100000 in
set_option maxHeartbeats 4000000 in
/-- ref07.Find -/
theorem find_calls {Q : Nat → Prop} {w : World} {v : Value} {c : DConf} {s : List UInt8} (hx : rConf.val Q w v c) :
    Calls Try.prog 149 #[v, .string ⟨s.toArray⟩] w (FindRes c.comps s w) := by
  obtain ⟨A, cap, rfl, f0, f1, f2, f3, hc1, hc2, hA⟩ := rConf_val hx
  unfold maxLen at hc2
  have hlen : (c.comps.length : Int) ≤ 9223372036854775807 := by omega
  obtain ⟨W1, hW1⟩ : ∃ W1, w.alloc (.cells #[.int .i64 c.log, .int .i64 c.pages, .int .i64 c.entities, .int .i64 c.gens, .slice A c.comps.length cap] 77) = W1 := ⟨_, rfl⟩
  have hcell : W1.cell? ⟨w.heap.size, 4, none⟩ = some (.slice A c.comps.length cap) := by rw [← hW1]; simp
  have hbel : Below w.heap.size w W1 := by rw [← hW1]; exact (Below.refl _ _).alloc (Nat.le_refl _) _
  have hsz : W1.heap.size = w.heap.size + 1 := by rw [← hW1]; simp
  have HX := Lib.hid hA
  clear hx hA
  go_enter Try.func149, Try.ntmps149
  go_wp2_with fail
  try rw [hW1]
  clear hW1
  go_loopw [6] (fun i wr => ∃ k : Nat, i = .int .i64 k ∧ k ≤ c.comps.length ∧ Hid ((c.comps.take k).all (fun y => decide (y.name ≠ s)) = true) ∧ wr = W1)
    (fun i _ => c.comps.length - (intOf i).toNat)
  case atStart => exact ⟨0, rfl, by omega, rfl, rfl⟩
  case round =>
    obtain ⟨k, rfl, hk, hall, rfl⟩ := hrel
    by_cases hlt : (k : Int) < c.comps.length
    · have hk' : k < c.comps.length := by omega
      have hAw : rComp.At (fun b => b < w.heap.size) wr A c.comps := Rep.At.keep (w := w) (fun b _ hb => ⟨hb.lt, hbel.block b hb.lt⟩) HX.out
      obtain ⟨b, off, rfl, hb, cx0, cx1, g0, g1⟩ := rComp_at hAw (List.getElem?_eq_getElem hk')
      generalize hxx : c.comps[k] = x at *
      have HXX := Lib.hid hxx
      clear hxx hAw
      by_cases hq : x.name = s
      · have HQ := Lib.hid hq
        replace hq : (x.name == s) = true := by simp [hq]
        go_wp2_with fail
        go_ret2
        refine ⟨hbel, k, true, rfl, .inl ⟨rfl, hall, hk', by rw [HXX.out]; exact HQ.out⟩⟩
      · have HD := Lib.hid (show ((c.comps.take (k + 1)).all fun y => decide (y.name ≠ s)) = true from all_take_succ (p := fun y : DComp => decide (y.name ≠ s)) hk' hall (by rw [HXX.out]; simpa using hq))
        replace hq : (x.name == s) = false := by simpa using hq
        go_wp2_with fail
        exact ⟨⟨k + 1, by go_num, by omega, HD, trivial⟩, by simp [intOf]; omega⟩
    · obtain rfl : k = c.comps.length := by omega
      have HF := Lib.hid (show (c.comps.all fun y => decide (y.name ≠ s)) = true by have := hall.out; rwa [List.take_length] at this)
      clear hall
      go_wp2_with fail
      go_ret2
      exact ⟨hbel, 0, false, rfl, .inr ⟨rfl, HF.out⟩⟩

def muchConf (c : DConf) : Bool := (c.comps.take 50).any (fun y => decide (100 < y.name.length)) || decide (40 < c.comps.length)

set_option maxRecDepth 100000 in
set_option maxHeartbeats 4000000 in
/-- ref07.Much -/
theorem much_calls {Q : Nat → Prop} {w : World} {v : Value} {c : DConf} (hx : rConf.val Q w v c) :
    Calls Try.prog 50 #[v] w fun e w' => e = .returned (.bool (muchConf c)) ∧ Below w.heap.size w w' := by
  obtain ⟨A, cap, rfl, f0, f1, f2, f3, hc1, hc2, hA⟩ := rConf_val hx
  unfold maxLen at hc2
  have hlen : (c.comps.length : Int) ≤ 9223372036854775807 := by omega
  obtain ⟨W1, hW1⟩ : ∃ W1, w.alloc (.cells #[.int .i64 c.log, .int .i64 c.pages, .int .i64 c.entities, .int .i64 c.gens, .slice A c.comps.length cap] 77) = W1 := ⟨_, rfl⟩
  have hcell : W1.cell? ⟨w.heap.size, 4, none⟩ = some (.slice A c.comps.length cap) := by rw [← hW1]; simp
  have hbel : Below w.heap.size w W1 := by rw [← hW1]; exact (Below.refl _ _).alloc (Nat.le_refl _) _
  have hsz : W1.heap.size = w.heap.size + 1 := by rw [← hW1]; simp
  have HX := Lib.hid hA
  clear hx hA
  go_enter Try.func50, Try.ntmps50
  go_wp2_with fail
  try rw [hW1]
  clear hW1
  go_loopw [3] (fun i wr => ∃ k : Nat, i = .int .i64 k ∧ k ≤ c.comps.length ∧ k ≤ 50 ∧ Hid ((c.comps.take k).any (fun y => decide (100 < y.name.length)) = false) ∧ wr = W1)
    (fun i _ => c.comps.length - (intOf i).toNat)
  case atStart => exact ⟨0, rfl, by omega, by omega, rfl, rfl⟩
  case round =>
    obtain ⟨k, rfl, hk, hk50, hall, rfl⟩ := hrel
    by_cases hlt : (k : Int) < c.comps.length
    · have hk' : k < c.comps.length := by omega
      by_cases hlt5 : (k : Int) < 50
      · have hAw : rComp.At (fun b => b < w.heap.size) wr A c.comps := Rep.At.keep (w := w) (fun b _ hb => ⟨hb.lt, hbel.block b hb.lt⟩) HX.out
        obtain ⟨b, off, rfl, hb, cx0, cx1, g0, g1⟩ := rComp_at hAw (List.getElem?_eq_getElem hk')
        generalize hxx : c.comps[k] = x at *
        have HXX := Lib.hid hxx
        clear hxx hAw
        by_cases hq : (100 : Int) < x.name.length
        · have HR := Lib.hid (show muchConf c = true by
            unfold muchConf
            have : (c.comps.take 50).any (fun y => decide (100 < y.name.length)) = true := List.any_eq_true.2 ⟨x, List.mem_take_iff_getElem.2 ⟨k, by omega, HXX.out⟩, by simp; omega⟩
            rw [this]; rfl)
          go_wp2_with fail
          go_ret
          exact ⟨by rw [HR.out]; rfl, hbel⟩
        · have HD := Lib.hid (show (c.comps.take (k + 1)).any (fun y => decide (100 < y.name.length)) = false by
            rw [List.take_succ_eq_append_getElem hk', List.any_append, hall.out, HXX.out]; simp; omega)
          go_wp2_with fail
          exact ⟨⟨k + 1, by go_num, by omega, by omega, HD, trivial⟩, by simp [intOf]; omega⟩
      · have HR := Lib.hid (show muchConf c = true by unfold muchConf; rw [decide_eq_true (show 40 < c.comps.length by omega), Bool.or_true])
        have h40 : (40 : Int) < c.comps.length := by omega
        go_wp2_with fail
        go_ret
        exact ⟨by rw [HR.out]; rfl, hbel⟩
    · obtain rfl : k = c.comps.length := by omega
      have HR := Lib.hid (show muchConf c = decide ((40 : Int) < c.comps.length) by
        unfold muchConf
        have := hall.out
        rw [List.take_length] at this
        rw [List.take_of_length_le hk50, this, Bool.false_or]
        congr 1
        simp; omega)
      clear hall
      go_wp2_with fail
      go_ret
      exact ⟨by rw [HR.out]; rfl, hbel⟩
end Go.Proofs.Ytcfgckpjgihcgaa
