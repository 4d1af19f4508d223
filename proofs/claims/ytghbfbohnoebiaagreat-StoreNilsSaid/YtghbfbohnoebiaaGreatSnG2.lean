/- Texts on which the proofs stand: Core, Types, AllMath, CrcMath, SortMath, BytesAt. No condition is laid on any input. -/
import Derived.WalkKit
import Derived.WalkSpells
import Derived.Carry
import Derived.ChangeArms
import Derived.ChangeOld
import Derived.Lib.Hide
import Derived.Deep.Draws
import Derived.Laws.OwnMore
import Derived.Maps.AppendAt
import Derived.Deep.OwnRows
namespace Go.Proofs.YtghbfbohnoebiaaGreat
open Go.RowKit

/-- A block of cells. -/
def IsC (w : World) (b : Nat) : Prop := ∃ c e f, w.heap[b]? = some (.cells c e f)
theorem IsC.lt {w : World} {b : Nat} (h : IsC w b) : b < w.heap.size := by
  obtain ⟨c, e, f, h⟩ := h
  exact (Array.getElem?_eq_some_iff.1 h).1
theorem IsC.same {w w' : World} {b : Nat} (h : IsC w b) (he : w'.heap[b]? = w.heap[b]?) : IsC w' b := by
  obtain ⟨c, e, f, h⟩ := h
  exact ⟨c, e, f, he.trans h⟩

/-- How values of a Lean type lie in cells; Q holds of every block that is read. -/
structure Rep (α : Type) where
  size : Nat
  wrap : List Value → Value
  rd : (Nat → Prop) → World → List Value → α → Prop
  len : ∀ {Q w cs x}, rd Q w cs x → cs.length = size
  one : ∀ {Q w cs x}, rd Q w cs x → ∀ u ∈ cs, u.oneCell' = true
  back : ∀ {Q w cs x}, rd Q w cs x → (wrap cs).cells.toList = cs
  keep : ∀ {Q Q' : Nat → Prop} {w w' : World} {cs x}, (∀ b, Q b → IsC w b → Q' b ∧ w'.heap[b]? = w.heap[b]?) → rd Q w cs x → rd Q' w' cs x

namespace Rep
variable {α β : Type}

theorem mono (r : Rep α) {Q Q' : Nat → Prop} {w : World} {cs x} (hq : ∀ b, Q b → IsC w b → Q' b) (h : r.rd Q w cs x) : r.rd Q' w cs x :=
  r.keep (fun b hb hl => ⟨hq b hb hl, rfl⟩) h

/-- An integer of a kind. -/
def int (k : IntKind) : Rep Int where
  size := 1
  wrap cs := cs.headD undef
  rd _ _ cs n := cs = [.int k n] ∧ (Lit.int k n).wf = true
  len h := by rw [h.1]; rfl
  one h := by rw [h.1]; simp [Value.oneCell']
  back h := by rw [h.1]; rfl
  keep _ h := h

/-- A byte. -/
def byte : Rep UInt8 where
  size := 1
  wrap cs := cs.headD undef
  rd _ _ cs n := cs = [.int .u8 (n.toNat : Int)]
  len h := by rw [h]; rfl
  one h := by rw [h]; simp [Value.oneCell']
  back h := by rw [h]; rfl
  keep _ h := h

def bool : Rep Bool where
  size := 1
  wrap cs := cs.headD undef
  rd _ _ cs n := cs = [.bool n]
  len h := by rw [h]; rfl
  one h := by rw [h]; simp [Value.oneCell']
  back h := by rw [h]; rfl
  keep _ h := h

/-- A text. -/
def text : Rep (List UInt8) where
  size := 1
  wrap cs := cs.headD undef
  rd _ _ cs l := cs = [.string ⟨l.toArray⟩] ∧ l.length ≤ maxLen
  len h := by rw [h.1]; rfl
  one h := by rw [h.1]; simp [Value.oneCell']
  back h := by rw [h.1]; rfl
  keep _ h := h

/-- Two, one behind the other. -/
def pair (r : Rep α) (s : Rep β) : Rep (α × β) where
  size := r.size + s.size
  wrap cs := .agg cs.toArray
  rd Q w cs x := ∃ as0 bs, cs = as0 ++ bs ∧ r.rd Q w as0 x.1 ∧ s.rd Q w bs x.2
  len h := by obtain ⟨as0, bs, rfl, h1, h2⟩ := h; rw [List.length_append, r.len h1, s.len h2]
  one h := by
    obtain ⟨as0, bs, rfl, h1, h2⟩ := h
    intro u hu
    rcases List.mem_append.1 hu with hu | hu
    · exact r.one h1 u hu
    · exact s.one h2 u hu
  back h := by simp [Value.cells]
  keep hk h := by
    obtain ⟨as0, bs, rfl, h1, h2⟩ := h
    exact ⟨as0, bs, rfl, r.keep hk h1, s.keep hk h2⟩

/-- The same cells, read as0 another type. -/
def iso (r : Rep α) (f : β → α) : Rep β where
  size := r.size
  wrap := r.wrap
  rd Q w cs x := r.rd Q w cs (f x)
  len h := r.len h
  one h := r.one h
  back h := r.back h
  keep hk h := r.keep hk h

/-- Elements, one behind the other. -/
def row (r : Rep α) (Q : Nat → Prop) (w : World) : List Value → List α → Prop
  | cs, [] => cs = []
  | cs, x :: xs => ∃ es rest, cs = es ++ rest ∧ r.rd Q w es x ∧ r.row Q w rest xs

section
variable {r : Rep α} {Q Q' : Nat → Prop} {w w' : World}

theorem row_len : ∀ {xs : List α} {cs : List Value}, r.row Q w cs xs → cs.length = xs.length * r.size
  | [], cs, h => by have : cs = [] := h; subst this; simp
  | x :: xs, cs, h => by
    obtain ⟨es, rest, rfl, h1, h2⟩ := h
    rw [List.length_append, r.len h1, row_len h2, List.length_cons, Nat.add_mul]; omega

theorem row_one : ∀ {xs : List α} {cs : List Value}, r.row Q w cs xs → ∀ u ∈ cs, u.oneCell' = true
  | [], cs, h => by have : cs = [] := h; subst this; simp
  | x :: xs, cs, h => by
    obtain ⟨es, rest, rfl, h1, h2⟩ := h
    intro u hu
    rcases List.mem_append.1 hu with hu | hu
    · exact r.one h1 u hu
    · exact row_one h2 u hu

theorem row_keep (hk : ∀ b, Q b → IsC w b → Q' b ∧ w'.heap[b]? = w.heap[b]?) : ∀ {xs : List α} {cs : List Value}, r.row Q w cs xs → r.row Q' w' cs xs
  | [], _, h => h
  | x :: xs, _, h => by
    obtain ⟨es, rest, rfl, h1, h2⟩ := h
    exact ⟨es, rest, rfl, r.keep hk h1, row_keep hk h2⟩

theorem row_append : ∀ {xs ys : List α} {cs ds : List Value}, r.row Q w cs xs → r.row Q w ds ys → r.row Q w (cs ++ ds) (xs ++ ys)
  | [], ys, cs, ds, h, h' => by have : cs = [] := h; subst this; simpa using h'
  | x :: xs, ys, cs, ds, h, h' => by
    obtain ⟨es, rest, rfl, h1, h2⟩ := h
    exact ⟨es, rest ++ ds, by simp, h1, row_append h2 h'⟩

theorem row_one_elem {x : α} {es : List Value} (h : r.rd Q w es x) : r.row Q w es [x] := ⟨es, [], by simp, h, rfl⟩

theorem row_split : ∀ {xs ys : List α} {cs : List Value}, r.row Q w cs (xs ++ ys) → ∃ as0 bs, cs = as0 ++ bs ∧ r.row Q w as0 xs ∧ r.row Q w bs ys
  | [], ys, cs, h => ⟨[], cs, rfl, rfl, h⟩
  | x :: xs, ys, cs, h => by
    obtain ⟨es, rest, rfl, h1, h2⟩ := h
    obtain ⟨as0, bs, rfl, h3, h4⟩ := row_split h2
    exact ⟨es ++ as0, bs, by simp, ⟨es, as0, rfl, h1, h3⟩, h4⟩

theorem row_get {xs : List α} {cs : List Value} (h : r.row Q w cs xs) {i : Nat} {x : α} (hx : xs[i]? = some x) :
    ∃ es, r.rd Q w es x ∧ ∀ j u, es[j]? = some u → cs[i * r.size + j]? = some u := by
  have hi : i < xs.length := (List.getElem?_eq_some_iff.1 hx).1
  have hsp : xs = xs.take i ++ (x :: xs.drop (i + 1)) := by
    have := (List.getElem?_eq_some_iff.1 hx).2
    rw [← this, List.getElem_cons_drop, List.take_append_drop]
  rw [hsp] at h
  obtain ⟨as0, bs, rfl, h1, es, rest, rfl, h2, _⟩ := row_split h
  refine ⟨es, h2, fun j u hj => ?_⟩
  have hl := row_len h1
  rw [List.length_take, Nat.min_eq_left (Nat.le_of_lt hi)] at hl
  have hj' := (List.getElem?_eq_some_iff.1 hj).1
  rw [List.getElem?_append_right (by omega), show i * r.size + j - as0.length = j by omega, List.getElem?_append_left hj']
  exact hj
end

/-- A slice: its cell; where it has elements, they lie in one block, which is of Q. -/
def list (r : Rep α) : Rep (List α) where
  size := 1
  wrap cs := cs.headD undef
  rd Q w cs xs := ∃ A c es, cs = [.slice A xs.length c] ∧ xs.length ≤ c ∧ c ≤ maxLen ∧ r.row Q w es xs ∧
    (0 < xs.length → ∃ b off, A = some ⟨b, off, none⟩ ∧ Q b ∧ IsC w b ∧ ∀ j u, es[j]? = some u → w.cell? ⟨b, off + j, none⟩ = some u)
  len h := by obtain ⟨A, c, es, rfl, _⟩ := h; rfl
  one h := by obtain ⟨A, c, es, rfl, _⟩ := h; simp [Value.oneCell']
  back h := by obtain ⟨A, c, es, rfl, _⟩ := h; rfl
  keep hk h := by
    obtain ⟨A, c, es, rfl, h1, h2, h3, h4⟩ := h
    refine ⟨A, c, es, rfl, h1, h2, row_keep hk h3, fun hn => ?_⟩
    obtain ⟨b, off, rfl, hq, hb, hc⟩ := h4 hn
    obtain ⟨hq', he⟩ := hk b hq hb
    refine ⟨b, off, rfl, hq', hb.same he, fun j u hj => ?_⟩
    · rw [World.cell?_of_block (w := _) (w' := _) (a := ⟨b, off + j, none⟩) he]
      exact hc j u hj

/-- A value (of one cell, or of several) that reads as0 x. -/
def val (r : Rep α) (Q : Nat → Prop) (w : World) (v : Value) (x : α) : Prop := ∃ cs, v = r.wrap cs ∧ r.rd Q w cs x

section
variable {r : Rep α} {Q Q' : Nat → Prop} {w w' : World} {v : Value}

theorem val_keep {x : α} (hk : ∀ b, Q b → IsC w b → Q' b ∧ w'.heap[b]? = w.heap[b]?) (h : r.val Q w v x) : r.val Q' w' v x := by
  obtain ⟨cs, hv, h⟩ := h
  exact ⟨cs, hv, r.keep hk h⟩

theorem val_mono {x : α} (hq : ∀ b, Q b → IsC w b → Q' b) (h : r.val Q w v x) : r.val Q' w v x := val_keep (fun b hb hl => ⟨hq b hb hl, rfl⟩) h

theorem val_int {k : IntKind} {n : Int} (h : (Rep.int k).val Q w v n) : v = .int k n ∧ (Lit.int k n).wf = true := by
  obtain ⟨cs, rfl, rfl, h⟩ := h; exact ⟨rfl, h⟩
/-- What a slice's value is, and its elements' cells. -/
def At (r : Rep α) (Q : Nat → Prop) (w : World) (A : Option Addr) (xs : List α) : Prop :=
  ∃ es, r.row Q w es xs ∧ (0 < xs.length → ∃ b off, A = some ⟨b, off, none⟩ ∧ Q b ∧ IsC w b ∧ ∀ j u, es[j]? = some u → w.cell? ⟨b, off + j, none⟩ = some u)

theorem val_list {xs : List α} (h : r.list.val Q w v xs) : ∃ A c, v = .slice A xs.length c ∧ xs.length ≤ c ∧ c ≤ maxLen ∧ r.At Q w A xs := by
  obtain ⟨cs, rfl, A, c, es, rfl, h1, h2, h3, h4⟩ := h
  exact ⟨A, c, rfl, h1, h2, es, h3, h4⟩
theorem list_val {xs : List α} {A : Option Addr} {n c : Nat} (hn : n = xs.length) (h1 : n ≤ c) (h2 : c ≤ maxLen) (h : r.At Q w A xs) : r.list.val Q w (.slice A n c) xs := by
  subst hn
  obtain ⟨es, h3, h4⟩ := h
  exact ⟨_, rfl, A, c, es, rfl, h1, h2, h3, h4⟩
theorem val_nil {c : Nat} (h : c ≤ maxLen) : r.list.val Q w (.slice none 0 c) ([] : List α) := list_val rfl (Nat.zero_le _) h ⟨[], rfl, fun h => absurd h (by simp)⟩
theorem At.keep {A : Option Addr} {xs : List α} (hk : ∀ b, Q b → IsC w b → Q' b ∧ w'.heap[b]? = w.heap[b]?) (h : r.At Q w A xs) : r.At Q' w' A xs := by
  obtain ⟨es, h3, h4⟩ := h
  refine ⟨es, row_keep hk h3, fun hn => ?_⟩
  obtain ⟨b, off, rfl, hq, hb, hc⟩ := h4 hn
  obtain ⟨hq', he⟩ := hk b hq hb
  refine ⟨b, off, rfl, hq', hb.same he, fun j u hj => ?_⟩
  · rw [World.cell?_of_block (w := w) (w' := w') (a := ⟨b, off + j, none⟩) he]
    exact hc j u hj

theorem At.drewN {A : Option Addr} {xs : List α} (h : r.At Q w A xs) (n : Nat) : r.At Q (w.drewN n) A xs := At.keep (w := w) (w' := w.drewN n) (fun _ hb _ => ⟨hb, rfl⟩) h
/-- An element: where it lies. -/
theorem At.get {A : Option Addr} {xs : List α} (h : r.At Q w A xs) {i : Nat} {x : α} (hx : xs[i]? = some x) :
    ∃ b off es, A = some ⟨b, off, none⟩ ∧ Q b ∧ IsC w b ∧ r.rd Q w es x ∧ ∀ j u, es[j]? = some u → w.cell? ⟨b, off + i * r.size + j, none⟩ = some u := by
  obtain ⟨cs, h3, h4⟩ := h
  have hi : i < xs.length := (List.getElem?_eq_some_iff.1 hx).1
  obtain ⟨b, off, rfl, hq, hb, hc⟩ := h4 (by omega)
  obtain ⟨es, h5, h6⟩ := row_get h3 hx
  exact ⟨b, off, es, rfl, hq, hb, h5, fun j u hj => by rw [Nat.add_assoc]; exact hc _ _ (h6 j u hj)⟩
end

end Rep


theorem foldl_set (xs : List Value) : ∀ (pre ys : List Value), ys.length = xs.length →
    (xs.zipIdx pre.length).foldl (fun (cs : Array Value) (p : Value × Nat) => cs.setIfInBounds p.2 p.1) (pre ++ ys).toArray = (pre ++ xs).toArray := by
  induction xs with
  | nil => intro pre ys h; have : ys = [] := List.eq_nil_of_length_eq_zero h; subst this; simp
  | cons x xs ih =>
    intro pre ys h
    cases ys with
    | nil => simp at h
    | cons y ys =>
      have hh := ih (pre ++ [x]) ys (by simpa using h)
      simp only [List.append_assoc, List.singleton_append, List.length_append, List.length_singleton] at hh
      simp only [List.zipIdx_cons, List.foldl_cons]
      rw [← hh]
      congr 1
      simp

theorem fill_one (size : Nat) (cells : Array Value) (v : Value) (hv : v.cells.size = size) (hc : cells.size = size) :
    Instr.fill (fun i => some (i * size, size)) cells [(0, v)] = some v.cells := by
  have h := foldl_set v.cells.toList [] cells.toList (by simp [hv, hc])
  simp only [Instr.fill]
  rw [if_neg (by simp [hv, hc])]
  congr 1
  simp only [List.nil_append, List.length_nil, Array.toArray_toList] at h
  rw [← Array.foldl_toList, Array.toList_zipIdx, Nat.zero_mul]
  simp only [Nat.zero_add]
  exact h

theorem run_buildSlice_one {P : Program} (w : World) (t e : TypeId) (z : Value) (size : Nat) (ht : P.underlying t = some (.slice e)) (hi : (P.info? e).map (fun i => (i.zero, i.size)) = some (some z, size))
    (v : Value) (hv : v.cells.size = size) (h0 : 0 < size) (hs : size ≤ 1000) :
    (Instr.buildSlice t 1 #[(0, v)]).run P w = .ok (.slice (some ⟨w.heap.size, 0, none⟩) 1 1) (w.alloc (.cells v.cells e)) := by
  obtain ⟨i, hi, hh⟩ := Option.map_eq_some_iff.1 hi
  simp only [Prod.mk.injEq] at hh
  obtain ⟨hz, hs'⟩ := hh
  have hf := fill_one size ((Array.range (1 * size)).map (fun k => z.cells[k % z.cells.size]!)) v hv (by simp)
  unfold Instr.buildSlice
  simp only [Sem.run_bind, run_underlying ht, Result.andThen_ok, sizeOf, typeInfo, run_program, hi, hs', Sem.run_pure]
  simp only [Nat.one_mul] at hf ⊢
  rw [if_neg (by omega)]
  simp [show ¬ size = 0 by omega, zeroValue, hi, hz, hf, newRow, typeInfo]


namespace Rep
variable {α : Type} {r : Rep α} {e base : Nat} {Q Q' : Nat → Prop} {w w' : World} {v : Value} {xs ys : List α}

/-- A slice of the call's own, to which it appends: its block is one from 'base' on, the elements read blocks of Q, and none of them is the slice's own. -/
def acc (r : Rep α) (e base : Nat) (Q : Nat → Prop) (w : World) (v : Value) (xs : List α) : Prop :=
  ∃ cells, w.ownsRow base e r.size v xs.length cells ∧ r.row (fun b => Q b ∧ v.ownBlock ≠ some b) w cells xs

theorem acc_nil : r.acc e base Q w (.slice none 0 0) [] := ⟨[], by simpa using World.ownsRow_nil w base e r.size, rfl⟩

theorem acc_form (h : r.acc e base Q w v xs) : ∃ A c, v = .slice A xs.length c ∧ xs.length ≤ c ∧ c ≤ maxLen := by
  obtain ⟨cells, h1, h2⟩ := h
  rcases h1.2 with ⟨rfl, h0⟩ | ⟨g, cap, cur, rfl, _, _, h3, h4, _⟩
  · exact ⟨none, 0, by rw [h0], by omega, by simp [maxLen]⟩
  · exact ⟨_, cap, rfl, h3, h4⟩

theorem acc_own (h : r.acc e base Q w v xs) : ∀ k, v.ownBlock = some k → base ≤ k ∧ k < w.heap.size := by
  obtain ⟨cells, h1, _⟩ := h
  exact h1.lt

theorem acc_val (h : r.acc e base Q w v xs) : r.list.val (fun b => Q b ∨ v.ownBlock = some b) w v xs := by
  obtain ⟨cells, h1, h2⟩ := h
  have h2' : r.row (fun b => Q b ∨ v.ownBlock = some b) w cells xs := row_keep (fun b hb _ => ⟨.inl hb.1, rfl⟩) h2
  rcases h1.2 with ⟨rfl, h0⟩ | ⟨g, cap, cur, rfl, hb, hg, h3, h4, h5, h6⟩
  · refine list_val h0.symm (Nat.le_refl _) (by simp [maxLen]) ⟨cells, h2', fun h => absurd h (by omega)⟩
  · refine list_val rfl h3 h4 ⟨cells, h2', fun hn => ⟨g, 0, rfl, .inr rfl, ⟨cur, e, (0, 0), hg⟩, fun j u hj => ?_⟩⟩
    have := h1.cells (g := g) rfl j u hj
    rwa [Addr.add_lit] at this

theorem acc_keep (hk : ∀ b, (Q b ∨ v.ownBlock = some b) → IsC w b → w'.heap[b]? = w.heap[b]?) (hq : ∀ b, Q b → IsC w b → Q' b) (h : r.acc e base Q w v xs) : r.acc e base Q' w' v xs := by
  obtain ⟨cells, h1, h2⟩ := h
  refine ⟨cells, ⟨h1.1, ?_⟩, row_keep (fun b hb hl => ⟨⟨hq b hb.1 hl, hb.2⟩, hk b (.inl hb.1) hl⟩) h2⟩
  rcases h1.2 with hn | ⟨g, cap, cur, rfl, hb, hg, rest⟩
  · exact .inl hn
  · exact .inr ⟨g, cap, cur, rfl, hb, (hk g (.inr rfl) ⟨cur, e, (0, 0), hg⟩).trans hg, rest⟩

theorem acc_base {base' : Nat} (hb : base' ≤ base) (h : r.acc e base Q w v xs) : r.acc e base' Q w v xs := by
  obtain ⟨cells, h1, h2⟩ := h
  refine ⟨cells, ⟨h1.1, ?_⟩, h2⟩
  rcases h1.2 with hn | ⟨g, cap, cur, rfl, hb', rest⟩
  · exact .inl hn
  · exact .inr ⟨g, cap, cur, rfl, by omega, rest⟩

/-- What an append leaves. -/
theorem acc_more {P : Program} {t ty : TypeId} {z : Value} {size bytes : Nat} (ht : P.underlying t = some (.slice e)) (hi : (P.info? e).map (fun i => (i.zero, i.size, i.bytes)) = some (some z, size, bytes))
    (hzs : z.cells.size = size) (hsz : 0 < size) (hr : r.size = size) (h : r.acc e base Q w v xs)
    {A : Option Addr} {m c : Nat} (hm : m = ys.length) {es : List Value} (h3' : r.row (fun b => Q b ∧ v.ownBlock ≠ some b) w es ys)
    (h4 : 0 < ys.length → ∃ b off, A = some ⟨b, off, none⟩ ∧ ∀ j u, es[j]? = some u → w.cell? ⟨b, off + j, none⟩ = some u)
    (h63 : xs.length + ys.length ≤ maxLen) (hbytes : (xs.length + ys.length) * bytes ≤ 140737488355328) (hbase : base ≤ w.heap.size) :
    ∃ v' w', (Builtin.append_ #[t, t] ty #[v, .slice A m c]).run P w = .ok v' w' ∧ r.acc e base Q w' v' (xs ++ ys) ∧ w.grownBy w' v.ownBlock ∧ (v'.ownBlock = v.ownBlock ∨ v'.ownBlock = some w.heap.size) := by
  subst hm
  obtain ⟨i, hi, hh⟩ := Option.map_eq_some_iff.1 hi
  simp only [Prod.mk.injEq] at hh
  obtain ⟨hz, hs', hby⟩ := hh
  obtain ⟨cells, h1, h2⟩ := h
  have hl : es.length = ys.length * size := by rw [row_len h3', hr]
  have key : ∃ v' w', (Builtin.append_ #[t, t] ty #[v, .slice A ys.length c]).run P w = .ok v' w' ∧ w'.ownsRow base e size v' (xs.length + ys.length) (cells ++ es) ∧ w.grownBy w' v.ownBlock ∧ (v'.ownBlock = v.ownBlock ∨ v'.ownBlock = some w.heap.size) := by
    cases hA : A with
    | none =>
      have hn : ys = [] := by
        cases ys with
        | nil => rfl
        | cons y ys =>
          obtain ⟨b, off, hb, _⟩ := h4 (by simp)
          rw [hA] at hb; cases hb
      subst hn
      have he : es = [] := h3'
      subst he
      refine ⟨v, w, ?_, by simpa [hr] using h1, World.grownBy.refl w _, .inl rfl⟩
      rcases h1.2 with ⟨rfl, _⟩ | ⟨g, cap, cur, rfl, _, _, hnc, _⟩
      · simp [Builtin.append_, run_underlying ht, sizeOf, typeInfo, hi, Builtin.lenOf, Builtin.firstCells]
      · simp [Builtin.append_, run_underlying ht, sizeOf, typeInfo, hi, Builtin.lenOf, Builtin.firstCells, hnc, storeCells]
    | some ad =>
      obtain ⟨v', w', q1, q2, q3, _, q4⟩ := run_append_own_at (P := P) w base t ty e i z size bytes ht hi hz hs' hby hzs hsz v xs.length cells (hr ▸ h1) ad ys.length c es hl (by
        intro j u hj
        have hp : 0 < ys.length := by
          have := (List.getElem?_eq_some_iff.1 hj).1
          rcases Nat.eq_zero_or_pos ys.length with h0 | h0
          · rw [h0] at hl; omega
          · exact h0
        obtain ⟨b, off, hb, hc⟩ := h4 hp
        rw [hA] at hb
        obtain rfl : ad = ⟨b, off, none⟩ := by injection hb
        rw [Addr.add_lit]
        exact hc j u hj) (row_one h3') h63 hbytes hbase
      exact ⟨v', w', q1, q2, q3, q4⟩
  obtain ⟨v', w', q1, q2, q3, q4⟩ := key
  refine ⟨v', w', q1, ⟨cells ++ es, by rw [hr, List.length_append]; exact q2, ?_⟩, q3, q4⟩
  refine row_keep (fun b hb hl => ⟨⟨hb.1, ?_⟩, q3.block b hl.lt (fun e => hb.2 e.symm)⟩) (row_append h2 h3')
  rcases q4 with q4 | q4 <;> rw [q4]
  · exact hb.2
  · intro hc; injection hc with hc; have := hl.lt; omega

end Rep

section
variable {α : Type} {r : Rep α} {e base : Nat} {Q Q' : Nat → Prop} {P : Program} {w : World}

/-- 'append(s, x)'. -/
theorem wpList_snoc {ops : Array Oper} {rest : List Oper} {o1 o2 : Oper} {a : Act} {R : Exit → Act → World → Prop} (hg1 : o1.guard = none) (hg2 : o2.guard = none) (x s : Operand) (t : TypeId) (d : Tmp)
    (ho1 : o1.op = .buildSlice t 1 #[(0, x)]) (hd : o1.dst = some d) (ho2 : o2.op = .call { callee := .builtin .append, args := #[s, .tmp d], argTypes := #[t, t] })
    (z : Value) (size bytes : Nat) (ht : P.underlying t = some (.slice e)) (hi : (P.info? e).map (fun i => (i.zero, i.size, i.bytes)) = some (some z, size, bytes)) (hzs : z.cells.size = size) (hsz : 0 < size ∧ size ≤ 1000)
    (hr : r.size = size) (v : Value) (xs : List α) (h : r.acc e base Q w v xs) (y : α) (vy : Value) (hx : a.eval x = vy) (hy : r.val (fun b => Q b ∧ v.ownBlock ≠ some b) w vy y)
    (hs : (a.put (some d) (.slice (some ⟨w.heap.size, 0, none⟩) 1 1)).eval s = v) (he : (a.put (some d) (.slice (some ⟨w.heap.size, 0, none⟩) 1 1)).eval (.tmp d) = .slice (some ⟨w.heap.size, 0, none⟩) 1 1)
    (h63 : xs.length + 1 ≤ maxLen) (hbytes : (xs.length + 1) * bytes ≤ 140737488355328) (hbase : base ≤ w.heap.size)
    (K : ∀ v' w', r.acc e base Q w' v' (xs ++ [y]) → w.grownBy w' v.ownBlock → (v'.ownBlock = v.ownBlock ∨ v'.ownBlock = some (w.heap.size + 1)) →
      wpList P ops R rest ((a.put (some d) (.slice (some ⟨w.heap.size, 0, none⟩) 1 1)).put o2.dst v') w') :
    wpList P ops R (o1 :: o2 :: rest) a w := by
  obtain ⟨cs, hv, hrd⟩ := hy
  have hcl := r.len hrd
  have hcells : vy.cells.toList = cs := by rw [hv]; exact r.back hrd
  have hi' : (P.info? e).map (fun i => (i.zero, i.size)) = some (some z, size) := by
    obtain ⟨i, hi, hh⟩ := Option.map_eq_some_iff.1 hi
    simp only [Prod.mk.injEq] at hh
    simp [hi, hh]
  refine wpList_plain hg1 fun K1 hK1 => ?_
  have hb := run_buildSlice_one (P := P) w t e z size ht hi' vy (by rw [← Array.length_toList, hcells, hcl, hr]) hsz.1 hsz.2
  unfold Oper.wp
  simp only [execOp, ho1, List.map_toArray, List.map_cons, List.map_nil, hx]
  simp only [Sem.run_bind, hb, Result.andThen_ok, Sem.run_pure, Oper.upon_value]
  apply hK1
  rw [hd]
  refine wpList_plain hg2 fun K2 hK2 => ?_
  have hkeep : ∀ b, b < w.heap.size → (w.alloc (.cells vy.cells e)).heap[b]? = w.heap[b]? := fun b hb => Below.heap_alloc _ _ _ hb
  have hacc' : r.acc e base Q (w.alloc (.cells vy.cells e)) v xs := Rep.acc_keep (fun b _ hl => hkeep b hl.lt) (fun _ hb _ => hb) h
  have hbn : (w.alloc (.cells vy.cells e)).heap[w.heap.size]? = some (.cells vy.cells e) := heap_alloc_new w _
  obtain ⟨v', w', q1, q2, q3, q4⟩ := Rep.acc_more (P := P) (w := w.alloc (.cells vy.cells e)) (ty := o2.type) (ys := [y]) (A := some ⟨w.heap.size, 0, none⟩) (m := 1) (c := 1) (es := cs)
    ht hi hzs hsz.1 hr hacc' rfl
    (Rep.row_one_elem (r.keep (fun b hb hl => ⟨hb, hkeep b hl.lt⟩) hrd)) (fun _ => ⟨w.heap.size, 0, rfl, fun j u hj => by
      rw [cell_of_row _ _ _ _ _ _ hbn, Nat.zero_add, ← hj, ← hcells]; simp⟩)
    (by simpa using h63) (by simpa using hbytes) (by simp; omega)
  unfold Oper.wp execOp
  simp only [ho2, resolve, invoke, builtin, Sem.run_bind, Sem.run_pure, Result.andThen_ok, List.map_toArray, List.map_cons, List.map_nil, hs, he, q1]
  refine hK2 _ _ (K v' w' q2 ?_ (by simpa using q4))
  exact (World.grownBy_alloc w _ _).trans q3

/-- 'append(s, xs...)'. -/
theorem wpList_spread {ops : Array Oper} {rest : List Oper} {o : Oper} {a : Act} {R : Exit → Act → World → Prop} (hg : o.guard = none) (s x : Operand) (t : TypeId)
    (ho : o.op = .call { callee := .builtin .append, args := #[s, x], argTypes := #[t, t] })
    (z : Value) (size bytes : Nat) (ht : P.underlying t = some (.slice e)) (hi : (P.info? e).map (fun i => (i.zero, i.size, i.bytes)) = some (some z, size, bytes)) (hzs : z.cells.size = size) (hsz : 0 < size)
    (hr : r.size = size) (v : Value) (xs : List α) (hs : a.eval s = v) (h : r.acc e base Q w v xs) (u : Value) (ys : List α) (hx : a.eval x = u) (hy : r.list.val Q' w u ys)
    (hq : ∀ b, Q' b → IsC w b → Q b ∧ v.ownBlock ≠ some b)
    (h63 : xs.length + ys.length ≤ maxLen) (hbytes : (xs.length + ys.length) * bytes ≤ 140737488355328) (hbase : base ≤ w.heap.size)
    (K : ∀ v' w', r.acc e base Q w' v' (xs ++ ys) → w.grownBy w' v.ownBlock → (v'.ownBlock = v.ownBlock ∨ v'.ownBlock = some w.heap.size) → wpList P ops R rest (a.put o.dst v') w') :
    wpList P ops R (o :: rest) a w := by
  obtain ⟨A, c, rfl, h1, h2, es, h3, h4⟩ := Rep.val_list hy
  refine wpList_plain hg fun K2 hK2 => ?_
  obtain ⟨v', w', q1, q2, q3, q4⟩ := Rep.acc_more (P := P) (ty := o.type) (c := c) ht hi hzs hsz hr h rfl (Rep.row_keep (fun b hb hl => ⟨hq b hb hl, rfl⟩) h3)
    (fun hn => by obtain ⟨b, off, q1, _, _, q2⟩ := h4 hn; exact ⟨b, off, q1, q2⟩) h63 hbytes hbase
  unfold Oper.wp execOp
  simp only [ho, resolve, invoke, builtin, Sem.run_bind, Sem.run_pure, Result.andThen_ok, List.map_toArray, List.map_cons, List.map_nil, hs, hx, q1]
  exact hK2 _ _ (K v' w' q2 q3 q4)
end

namespace Rep
theorem row_byte {Q : Nat → Prop} {w : World} : ∀ {l : List UInt8} {es : List Value}, Rep.byte.row Q w es l → es = l.map fun x => .int .u8 (x.toNat : Int)
  | [], _, h => h
  | x :: l, _, h => by
    obtain ⟨as0, rest, rfl, h1, h2⟩ := h
    obtain rfl : as0 = [.int .u8 (x.toNat : Int)] := h1
    rw [row_byte h2]; rfl

theorem byte_row {Q : Nat → Prop} {w : World} : ∀ (l : List UInt8), Rep.byte.row Q w (l.map fun x => .int .u8 (x.toNat : Int)) l
  | [] => rfl
  | x :: l => ⟨[.int .u8 (x.toNat : Int)], l.map fun x => .int .u8 (x.toNat : Int), rfl, rfl, byte_row l⟩

theorem At.byte {Q : Nat → Prop} {w : World} {A : Option Addr} {xs : List UInt8} (h : Rep.byte.At Q w A xs) {i : Nat} {x : UInt8} (hx : xs[i]? = some x) :
    ∃ b off, A = some ⟨b, off, none⟩ ∧ w.cell? ⟨b, off + i, none⟩ = some (.int .u8 (x.toNat : Int)) := by
  obtain ⟨b, off, es, h1, _, _, rfl, h4⟩ := h.get hx
  exact ⟨b, off, h1, by simpa [Rep.byte] using h4 0 _ rfl⟩

theorem At.int {k : IntKind} {Q : Nat → Prop} {w : World} {A : Option Addr} {xs : List Int} (h : (Rep.int k).At Q w A xs) {i : Nat} {x : Int} (hx : xs[i]? = some x) :
    ∃ b off, A = some ⟨b, off, none⟩ ∧ w.cell? ⟨b, off + i, none⟩ = some (.int k x) ∧ (Lit.int k x).wf = true := by
  obtain ⟨b, off, es, h1, _, _, ⟨rfl, h3⟩, h4⟩ := h.get hx
  exact ⟨b, off, h1, by simpa [Rep.int] using h4 0 _ rfl, h3⟩

/-- An element that is a slice. -/
theorem At.list {α : Type} {r : Rep α} {Q : Nat → Prop} {w : World} {A : Option Addr} {xs : List (List α)} (h : r.list.At Q w A xs) {i : Nat} {x : List α} (hx : xs[i]? = some x) :
    ∃ b off B c, A = some ⟨b, off, none⟩ ∧ w.cell? ⟨b, off + i, none⟩ = some (.slice B x.length c) ∧ x.length ≤ c ∧ c ≤ maxLen ∧ r.At Q w B x := by
  obtain ⟨b, off, es, h1, _, _, ⟨B, c, es', rfl, h2, h3, h4, h5⟩, h6⟩ := h.get hx
  exact ⟨b, off, B, c, h1, by simpa [Rep.list] using h6 0 _ rfl, h2, h3, es', h4, h5⟩

/-- 'string(b)'. -/
theorem At.toText {P : Program} {Q : Nat → Prop} {w : World} {A : Option Addr} {l : List UInt8} {src dst e : TypeId} (h : Rep.byte.At Q w A l) (hs : P.underlying src = some (.slice e)) (he : P.underlying e = some (.int .u8)) (hd : P.underlying dst = some .string) (c : Nat) :
    (convert src dst (.slice A l.length c)).run P w = .ok (.string ⟨l.toArray⟩) w := by
  have key : (convert src dst (.slice A l.length c)).run P w = .ok (.string (strOfNums (l.map fun x => (x.toNat : Int)))) w := by
    rcases Nat.eq_zero_or_pos l.length with h0 | h0
    · have : l = [] := List.eq_nil_of_length_eq_zero h0
      subst this
      cases A with
      | none => rw [run_convert_bytes_nil (P := P) w src e hs he _ c dst hd]; rfl
      | some a =>
        have hl : (loadCells a 0).run P w = .ok (([] : List Int).map (Value.int .u8)).toArray w := by simp [loadCells, loadCellsFrom]
        rw [run_convert_bytes_string w src dst e _ _ c hs he hd]
        exact run_bytesToString w a 0 c [] hl
    · obtain ⟨es, h1, h2⟩ := h
      obtain ⟨b, off, rfl, _, _, hc⟩ := h2 h0
      refine run_convert_bytes_arg (P := P) w src e hs he b off l.length c (l.map fun x => (x.toNat : Int)) (by simp) (fun i hi => ?_) dst hd
      refine hc i _ ?_
      rw [row_byte h1]
      simp [List.getElem?_map, List.getElem?_eq_getElem hi, List.getD]
  rw [key]
  congr 2
  have hm : (l.map fun x => (x.toNat : Int)).map (fun n => UInt8.ofNat n.toNat) = l := by
    rw [List.map_map]
    have : ((fun n : Int => UInt8.ofNat n.toNat) ∘ fun x : UInt8 => (x.toNat : Int)) = id := by funext x; simp
    rw [this, List.map_id]
  simp only [strOfNums, hm]
end Rep

namespace Rep
theorem row_take {α : Type} {r : Rep α} {Q : Nat → Prop} {w : World} {xs : List α} {es : List Value} (h : r.row Q w es xs) (n : Nat) : r.row Q w (es.take (n * r.size)) (xs.take n) := by
  have h' : r.row Q w es (xs.take n ++ xs.drop n) := by rwa [List.take_append_drop]
  obtain ⟨as0, bs, rfl, h1, h2⟩ := row_split h'
  have l1 := row_len h1
  by_cases hn : n ≤ xs.length
  · rw [List.length_take, Nat.min_eq_left hn] at l1
    rw [← l1, List.take_left]; exact h1
  · have hd : xs.drop n = [] := List.drop_eq_nil_of_le (by omega)
    rw [hd] at h2
    obtain rfl : bs = [] := h2
    rw [List.append_nil, List.take_of_length_le]
    · exact h1
    · rw [l1, List.length_take]; exact Nat.mul_le_mul_right _ (Nat.min_le_left _ _)

theorem row_drop {α : Type} {r : Rep α} {Q : Nat → Prop} {w : World} {xs : List α} {es : List Value} (h : r.row Q w es xs) {n : Nat} (hn : n ≤ xs.length) : r.row Q w (es.drop (n * r.size)) (xs.drop n) := by
  have h' : r.row Q w es (xs.take n ++ xs.drop n) := by rwa [List.take_append_drop]
  obtain ⟨as0, bs, rfl, h1, h2⟩ := row_split h'
  have l1 := row_len h1
  rw [List.length_take, Nat.min_eq_left hn] at l1
  rw [← l1, List.drop_left]; exact h2

/-- 's[:n]'. -/
theorem At.take {α : Type} {r : Rep α} {Q : Nat → Prop} {w : World} {A : Option Addr} {xs : List α} (h : r.At Q w A xs) (n : Nat) : r.At Q w A (xs.take n) := by
  obtain ⟨es, h1, h2⟩ := h
  refine ⟨_, row_take h1 n, fun hn => ?_⟩
  obtain ⟨b, off, hA, hq, hb, hc⟩ := h2 (by rw [List.length_take] at hn; omega)
  refine ⟨b, off, hA, hq, hb, fun j u hj => hc j u ?_⟩
  rw [List.getElem?_take] at hj
  split at hj
  · exact hj
  · cases hj

/-- 's[n:]' (below the capacity). -/
theorem At.drop {α : Type} {r : Rep α} {Q : Nat → Prop} {w : World} {b off : Nat} {xs : List α} (h : r.At Q w (some ⟨b, off, none⟩) xs) {n : Nat} (hn : n ≤ xs.length) : r.At Q w (some ⟨b, off + n * r.size, none⟩) (xs.drop n) := by
  obtain ⟨es, h1, h2⟩ := h
  refine ⟨_, row_drop h1 hn, fun hp => ?_⟩
  obtain ⟨b', off', hA, hq, hb, hc⟩ := h2 (by rw [List.length_drop] at hp; omega)
  injection hA with hA
  injection hA with e1 e2
  subst e1 e2
  refine ⟨b, off + n * r.size, rfl, hq, hb, fun j u hj => ?_⟩
  rw [Nat.add_assoc]
  exact hc _ u (by rw [← hj, List.getElem?_drop])

theorem At.addr {α : Type} {r : Rep α} {Q : Nat → Prop} {w : World} {A : Option Addr} {xs : List α} (h : r.At Q w A xs) (hn : 0 < xs.length) : ∃ b off, A = .some ⟨b, off, none⟩ := by
  obtain ⟨es, h1, h2⟩ := h
  obtain ⟨b, off, hA, _⟩ := h2 hn
  exact ⟨b, off, hA⟩
end Rep

theorem Rep.At.grown {α : Type} {r : Rep α} {Q : Nat → Prop} {w w' : World} {A : Option Addr} {xs : List α} {row : Option Nat} (h : r.At Q w A xs) (hg : w.grownBy w' row) (hr : ∀ b, Q b → row ≠ some b) : r.At Q w' A xs :=
  h.keep fun b hb hl => ⟨hb, hg.block b hl.lt (fun e => hr b hb e.symm)⟩
theorem Rep.At.below {α : Type} {r : Rep α} {Q : Nat → Prop} {w w' : World} {A : Option Addr} {xs : List α} {B : Nat} (h : r.At Q w A xs) (hb : Below B w w') (hr : ∀ b, Q b → IsC w b → b < B) : r.At Q w' A xs :=
  h.keep fun b hq hl => ⟨hq, hb.block b (hr b hq hl)⟩
theorem Rep.val_below {α : Type} {r : Rep α} {Q : Nat → Prop} {w w' : World} {v : Value} {x : α} {B : Nat} (h : r.val Q w v x) (hb : Below B w w') (hr : ∀ b, Q b → IsC w b → b < B) : r.val Q w' v x :=
  Rep.val_keep (fun b hq hl => ⟨hq, hb.block b (hr b hq hl)⟩) h

/-- A call that returns a value that reads as0 x, out of blocks of Q, and leaves what there was. -/
def Res {α : Type} (r : Rep α) (Q : Nat → Prop) (w : World) (x : α) (e : Ending) (w' : World) : Prop := ∃ u, e = .returned u ∧ r.val Q w' u x ∧ Below w.heap.size w w'

theorem Rep.acc_made {α : Type} {r : Rep α} {e base : Nat} {Q : Nat → Prop} (w : World) (cur : Array Value) (cap : Nat) (hb : base ≤ w.heap.size) (hm : cap ≤ maxLen) (hs : cur.size = cap * r.size) :
    r.acc e base Q (w.alloc (.cells cur e)) (.slice (some ⟨w.heap.size, 0, none⟩) 0 cap) [] := ⟨[], World.ownsRow_made w cur cap hb hm hs, rfl⟩

/-- Values without blocks of their own. -/
def Rep.Leaf {α : Type} (r : Rep α) : Prop := ∀ (Q Q' : Nat → Prop) (w w' : World) (cs : List Value) (x : α), r.rd Q w cs x → r.rd Q' w' cs x
theorem Rep.leaf_int (k : IntKind) : (Rep.int k).Leaf := fun _ _ _ _ _ _ h => h
theorem Rep.leaf_byte : Rep.byte.Leaf := fun _ _ _ _ _ _ h => h
theorem Rep.row_leaf {α : Type} {r : Rep α} (hr : r.Leaf) {Q Q' : Nat → Prop} {w w' : World} : ∀ {xs : List α} {es : List Value}, r.row Q w es xs → r.row Q' w' es xs
  | [], _, h => h
  | x :: xs, _, h => by
    obtain ⟨as0, rest, rfl, h1, h2⟩ := h
    exact ⟨as0, rest, rfl, hr _ _ _ _ _ _ h1, row_leaf hr h2⟩

/-- 'append(s, xs...)' of values without blocks of their own. -/
theorem wpList_spread_leaf {α : Type} {r : Rep α} {e base : Nat} {Q Q' : Nat → Prop} {P : Program} {w : World} (hleaf : r.Leaf) {ops : Array Oper} {rest : List Oper} {o : Oper} {a : Act} {R : Exit → Act → World → Prop} (hg : o.guard = none) (s x : Operand) (t : TypeId)
    (ho : o.op = .call { callee := .builtin .append, args := #[s, x], argTypes := #[t, t] })
    (z : Value) (size bytes : Nat) (ht : P.underlying t = some (.slice e)) (hi : (P.info? e).map (fun i => (i.zero, i.size, i.bytes)) = some (some z, size, bytes)) (hzs : z.cells.size = size) (hsz : 0 < size)
    (hr : r.size = size) (v : Value) (xs : List α) (hs : a.eval s = v) (h : r.acc e base Q w v xs) (u : Value) (ys : List α) (hx : a.eval x = u) (hy : r.list.val Q' w u ys)
    (h63 : xs.length + ys.length ≤ maxLen) (hbytes : (xs.length + ys.length) * bytes ≤ 140737488355328) (hbase : base ≤ w.heap.size)
    (K : ∀ v' w', r.acc e base Q w' v' (xs ++ ys) → w.grownBy w' v.ownBlock → (v'.ownBlock = v.ownBlock ∨ v'.ownBlock = some w.heap.size) → wpList P ops R rest (a.put o.dst v') w') :
    wpList P ops R (o :: rest) a w := by
  obtain ⟨A, c, rfl, h1, h2, es, h3, h4⟩ := Rep.val_list hy
  refine wpList_plain hg fun K2 hK2 => ?_
  obtain ⟨v', w', q1, q2, q3, q4⟩ := Rep.acc_more (P := P) (ty := o.type) (c := c) ht hi hzs hsz hr h rfl (Rep.row_leaf hleaf h3)
    (fun hn => by obtain ⟨b, off, q1, _, _, q2⟩ := h4 hn; exact ⟨b, off, q1, q2⟩) h63 hbytes hbase
  unfold Oper.wp execOp
  simp only [ho, resolve, invoke, builtin, Sem.run_bind, Sem.run_pure, Result.andThen_ok, List.map_toArray, List.map_cons, List.map_nil, hs, hx, q1]
  exact hK2 _ _ (K v' w' q2 q3 q4)

/-- What a slice of the call's own reads as0, its elements without blocks. -/
theorem Rep.acc_fresh {α : Type} {r : Rep α} {e base : Nat} {w : World} {v : Value} {xs : List α} (h : r.acc e base (fun _ => False) w v xs) : r.list.val (fun b => base ≤ b) w v xs :=
  Rep.val_mono (fun b hb _ => by
    rcases hb with hb | hb
    · exact hb.elim
    · exact (Rep.acc_own h b hb).1) (Rep.acc_val h)

/-- The world behind an append: what lay below stands. -/
theorem Rep.acc_below {α : Type} {r : Rep α} {e base : Nat} {Q : Nat → Prop} {w0 w w' : World} {v : Value} {xs : List α} (h : r.acc e base Q w v xs) (hb : Below base w0 w) (hg : w.grownBy w' v.ownBlock) (hB : base ≤ w.heap.size) : Below base w0 w' :=
  hb.grown hg hB fun k hk => (Rep.acc_own h k hk).1

def zeroBytes (n : Nat) : Array Value := madeCells #[.int .u8 0] n

theorem run_make_bytes {P : Program} {t e : TypeId} (ht : P.underlying t = some (.slice e)) (hi : (P.info? e).map (fun i => (i.zero, i.size, i.bytes)) = some (some (.int .u8 0), 1, 1)) (n : Nat) (hn : n ≤ 1000000000000) (w : World) :
    (Instr.makeSlice t (.int .i64 (n : Int)) (.int .i64 (n : Int))).run P w = .ok (.slice (some ⟨w.heap.size, 0, none⟩) n n) (w.alloc (.cells (zeroBytes n) e)) :=
  run_make_row' t e (.int .u8 0) 1 ht hi rfl .i64 .i64 n (by omega) (by omega) w

theorem below_drewN {B : Nat} {a w : World} (h : Below B a w) (n : Nat) : Below B a (w.drewN n) := ⟨h.os, h.tape, h.output, h.size, h.block⟩

end Go.Proofs.YtghbfbohnoebiaaGreat
namespace Go.Proofs.YtghbfbohnoebiaaGreat
open Go.RowKit

/-- What is known of a slice in a cell. -/
def Rep.Sl {α : Type} (r : Rep α) (Q : Nat → Prop) (w : World) (A : Option Addr) (c : Nat) (xs : List α) : Prop := xs.length ≤ c ∧ c ≤ maxLen ∧ r.At Q w A xs
theorem Rep.Sl.val {α : Type} {r : Rep α} {Q : Nat → Prop} {w : World} {A : Option Addr} {c : Nat} {xs : List α} (h : r.Sl Q w A c xs) : r.list.val Q w (.slice A xs.length c) xs := Rep.list_val rfl h.1 h.2.1 h.2.2
theorem Rep.val_sl {α : Type} {r : Rep α} {Q : Nat → Prop} {w : World} {v : Value} {xs : List α} (h : r.list.val Q w v xs) : ∃ A c, v = .slice A xs.length c ∧ r.Sl Q w A c xs := by
  obtain ⟨A, c, rfl, h1, h2, h3⟩ := Rep.val_list h
  exact ⟨A, c, rfl, h1, h2, h3⟩
theorem Rep.Sl.keep {α : Type} {r : Rep α} {Q Q' : Nat → Prop} {w w' : World} {A : Option Addr} {c : Nat} {xs : List α} (hk : ∀ b, Q b → IsC w b → Q' b ∧ w'.heap[b]? = w.heap[b]?) (h : r.Sl Q w A c xs) : r.Sl Q' w' A c xs := ⟨h.1, h.2.1, h.2.2.keep hk⟩
theorem Rep.Sl.drewN {α : Type} {r : Rep α} {Q : Nat → Prop} {w : World} {A : Option Addr} {c : Nat} {xs : List α} (h : r.Sl Q w A c xs) (n : Nat) : r.Sl Q (w.drewN n) A c xs := ⟨h.1, h.2.1, h.2.2.drewN n⟩
theorem Rep.Sl.below {α : Type} {r : Rep α} {Q : Nat → Prop} {w w' : World} {A : Option Addr} {c : Nat} {xs : List α} {B : Nat} (h : r.Sl Q w A c xs) (hb : Below B w w') (hr : ∀ b, Q b → IsC w b → b < B) : r.Sl Q w' A c xs := ⟨h.1, h.2.1, h.2.2.below hb hr⟩
theorem Rep.sl_rd {α : Type} {r : Rep α} {Q : Nat → Prop} {w : World} {A : Option Addr} {c : Nat} {xs : List α} (h : r.Sl Q w A c xs) : r.list.rd Q w [.slice A xs.length c] xs := by
  obtain ⟨h1, h2, es, h3, h4⟩ := h
  exact ⟨A, c, es, rfl, h1, h2, h3, h4⟩
theorem Rep.rd_sl {α : Type} {r : Rep α} {Q : Nat → Prop} {w : World} {cs : List Value} {xs : List α} (h : r.list.rd Q w cs xs) : ∃ A c, cs = [.slice A xs.length c] ∧ r.Sl Q w A c xs := by
  obtain ⟨A, c, es, rfl, h1, h2, h3, h4⟩ := h
  exact ⟨A, c, rfl, h1, h2, es, h3, h4⟩

@[ext] structure DID where
  index : Int
  gen : Int
  deriving DecidableEq

def rID : Rep DID := ((Rep.int .i64).pair (Rep.int .i64)).iso fun x => (x.index, x.gen)
@[ext] structure DPart where
  comp : Int
  data : List UInt8
  deriving DecidableEq

@[ext] structure DEnt where
  id : DID
  parts : List DPart
  deriving DecidableEq

@[ext] structure DState where
  gens : List Int
  free : List Int
  ents : List DEnt
  deriving DecidableEq

@[ext] structure DComp where
  name : List UInt8
  size : Int
  deriving DecidableEq

def rComp : Rep DComp := (Rep.text.pair (Rep.int .i64)).iso fun x => (x.name, x.size)
theorem rComp_size : rComp.size = 2 := rfl
theorem rComp_open {Q : Nat → Prop} {w : World} {cs : List Value} {x : DComp} (h : rComp.rd Q w cs x) : cs = [.string ⟨x.name.toArray⟩, .int .i64 x.size] ∧ x.name.length ≤ maxLen ∧ (Lit.int .i64 x.size).wf = true := by
  obtain ⟨a0, b0, rfl, h0, g0⟩ := h
  obtain ⟨e0, w0⟩ := h0
  subst e0
  obtain ⟨e1, w1⟩ := g0
  subst e1
  exact ⟨rfl, w0, w1⟩
theorem rComp_at {Q : Nat → Prop} {w : World} {A : Option Addr} {xs : List DComp} (h : rComp.At Q w A xs) {i : Nat} {x : DComp} (hx : xs[i]? = some x) :
    ∃ (b off : Nat), A = some ⟨b, off, none⟩ ∧ IsC w b ∧ w.cell? ⟨b, off + i * 2, none⟩ = some (.string ⟨x.name.toArray⟩) ∧ w.cell? ⟨b, off + i * 2 + 1, none⟩ = some (.int .i64 x.size) ∧ x.name.length ≤ maxLen ∧ (Lit.int .i64 x.size).wf = true := by
  obtain ⟨b, off, es, h1, _, h2, h3, h4⟩ := h.get hx
  obtain ⟨e, f0, f1⟩ := rComp_open h3
  subst e
  rw [rComp_size] at h4
  exact ⟨b, off, h1, h2, h4 0 _ rfl, h4 1 _ rfl, f0, f1⟩
@[ext] structure DConf where
  log : Int
  pages : Int
  entities : Int
  gens : Int
  comps : List DComp
  deriving DecidableEq

def rConf : Rep DConf := ((Rep.int .i64).pair ((Rep.int .i64).pair ((Rep.int .i64).pair ((Rep.int .i64).pair rComp.list)))).iso fun x => (x.log, x.pages, x.entities, x.gens, x.comps)
theorem rConf_open {Q : Nat → Prop} {w : World} {cs : List Value} {x : DConf} (h : rConf.rd Q w cs x) : ∃ (A_comps : Option Addr) (c_comps : Nat), cs = [.int .i64 x.log, .int .i64 x.pages, .int .i64 x.entities, .int .i64 x.gens, .slice A_comps x.comps.length c_comps] ∧ (Lit.int .i64 x.log).wf = true ∧ (Lit.int .i64 x.pages).wf = true ∧ (Lit.int .i64 x.entities).wf = true ∧ (Lit.int .i64 x.gens).wf = true ∧ rComp.Sl Q w A_comps c_comps x.comps := by
  obtain ⟨a0, b0, rfl, h0, g0⟩ := h
  obtain ⟨e0, w0⟩ := h0
  subst e0
  obtain ⟨a1, b1, rfl, h1, g1⟩ := g0
  obtain ⟨e1, w1⟩ := h1
  subst e1
  obtain ⟨a2, b2, rfl, h2, g2⟩ := g1
  obtain ⟨e2, w2⟩ := h2
  subst e2
  obtain ⟨a3, b3, rfl, h3, g3⟩ := g2
  obtain ⟨e3, w3⟩ := h3
  subst e3
  obtain ⟨A4, c4, e4, w4⟩ := Rep.rd_sl g3
  subst e4
  exact ⟨A4, c4, rfl, w0, w1, w2, w3, w4⟩
theorem rConf_mk {Q : Nat → Prop} {w : World} {x : DConf} {A_comps : Option Addr} {c_comps : Nat} (f0 : (Lit.int .i64 x.log).wf = true) (f1 : (Lit.int .i64 x.pages).wf = true) (f2 : (Lit.int .i64 x.entities).wf = true) (f3 : (Lit.int .i64 x.gens).wf = true) (f4 : rComp.Sl Q w A_comps c_comps x.comps) : rConf.rd Q w [.int .i64 x.log, .int .i64 x.pages, .int .i64 x.entities, .int .i64 x.gens, .slice A_comps x.comps.length c_comps] x := by
  exact ⟨_, _, rfl, ⟨rfl, f0⟩, ⟨_, _, rfl, ⟨rfl, f1⟩, ⟨_, _, rfl, ⟨rfl, f2⟩, ⟨_, _, rfl, ⟨rfl, f3⟩, Rep.sl_rd f4⟩⟩⟩⟩
theorem rConf_val {Q : Nat → Prop} {w : World} {v : Value} {x : DConf} (h : rConf.val Q w v x) : ∃ (A_comps : Option Addr) (c_comps : Nat), v = .agg #[.int .i64 x.log, .int .i64 x.pages, .int .i64 x.entities, .int .i64 x.gens, .slice A_comps x.comps.length c_comps] ∧ (Lit.int .i64 x.log).wf = true ∧ (Lit.int .i64 x.pages).wf = true ∧ (Lit.int .i64 x.entities).wf = true ∧ (Lit.int .i64 x.gens).wf = true ∧ rComp.Sl Q w A_comps c_comps x.comps := by
  obtain ⟨cs, rfl, h⟩ := h
  obtain ⟨A_comps, c_comps, e, f0, f1, f2, f3, f4⟩ := rConf_open h
  subst e
  exact ⟨A_comps, c_comps, rfl, f0, f1, f2, f3, f4⟩
theorem rConf_agg {Q : Nat → Prop} {w : World} {x : DConf} {A_comps : Option Addr} {c_comps : Nat} (f0 : (Lit.int .i64 x.log).wf = true) (f1 : (Lit.int .i64 x.pages).wf = true) (f2 : (Lit.int .i64 x.entities).wf = true) (f3 : (Lit.int .i64 x.gens).wf = true) (f4 : rComp.Sl Q w A_comps c_comps x.comps) : rConf.val Q w (.agg #[.int .i64 x.log, .int .i64 x.pages, .int .i64 x.entities, .int .i64 x.gens, .slice A_comps x.comps.length c_comps]) x := ⟨_, rfl, rConf_mk f0 f1 f2 f3 f4⟩

@[ext] structure DKey where
  kind : Int
  sig : Int
  comp : Int
  deriving DecidableEq

def rKey : Rep DKey := ((Rep.int .i64).pair ((Rep.int .u64).pair (Rep.int .i64))).iso fun x => (x.kind, x.sig, x.comp)
theorem rKey_open {Q : Nat → Prop} {w : World} {cs : List Value} {x : DKey} (h : rKey.rd Q w cs x) : cs = [.int .i64 x.kind, .int .u64 x.sig, .int .i64 x.comp] ∧ (Lit.int .i64 x.kind).wf = true ∧ (Lit.int .u64 x.sig).wf = true ∧ (Lit.int .i64 x.comp).wf = true := by
  obtain ⟨a0, b0, rfl, h0, g0⟩ := h
  obtain ⟨e0, w0⟩ := h0
  subst e0
  obtain ⟨a1, b1, rfl, h1, g1⟩ := g0
  obtain ⟨e1, w1⟩ := h1
  subst e1
  obtain ⟨e2, w2⟩ := g1
  subst e2
  exact ⟨rfl, w0, w1, w2⟩
theorem rKey_mk {Q : Nat → Prop} {w : World} {x : DKey}  (f0 : (Lit.int .i64 x.kind).wf = true) (f1 : (Lit.int .u64 x.sig).wf = true) (f2 : (Lit.int .i64 x.comp).wf = true) : rKey.rd Q w [.int .i64 x.kind, .int .u64 x.sig, .int .i64 x.comp] x := by
  exact ⟨_, _, rfl, ⟨rfl, f0⟩, ⟨_, _, rfl, ⟨rfl, f1⟩, ⟨rfl, f2⟩⟩⟩
@[ext] structure DStream where
  key : DKey
  data : List UInt8
  deriving DecidableEq

def rStream : Rep DStream := (rKey.pair Rep.byte.list).iso fun x => (x.key, x.data)
theorem rStream_size : rStream.size = 4 := rfl
theorem rStream_open {Q : Nat → Prop} {w : World} {cs : List Value} {x : DStream} (h : rStream.rd Q w cs x) : ∃ (A_data : Option Addr) (c_data : Nat), cs = [.int .i64 x.key.kind, .int .u64 x.key.sig, .int .i64 x.key.comp, .slice A_data x.data.length c_data] ∧ (Lit.int .i64 x.key.kind).wf = true ∧ (Lit.int .u64 x.key.sig).wf = true ∧ (Lit.int .i64 x.key.comp).wf = true ∧ Rep.byte.Sl Q w A_data c_data x.data := by
  obtain ⟨a0, b0, rfl, h0, g0⟩ := h
  obtain ⟨e0, w0_0, w0_1, w0_2⟩ := rKey_open h0
  subst e0
  obtain ⟨A1, c1, e1, w1⟩ := Rep.rd_sl g0
  subst e1
  exact ⟨A1, c1, rfl, w0_0, w0_1, w0_2, w1⟩
theorem rStream_mk {Q : Nat → Prop} {w : World} {x : DStream} {A_data : Option Addr} {c_data : Nat} (f0 : (Lit.int .i64 x.key.kind).wf = true) (f1 : (Lit.int .u64 x.key.sig).wf = true) (f2 : (Lit.int .i64 x.key.comp).wf = true) (f3 : Rep.byte.Sl Q w A_data c_data x.data) : rStream.rd Q w [.int .i64 x.key.kind, .int .u64 x.key.sig, .int .i64 x.key.comp, .slice A_data x.data.length c_data] x := by
  exact ⟨_, _, rfl, rKey_mk f0 f1 f2, Rep.sl_rd f3⟩
theorem rStream_at {Q : Nat → Prop} {w : World} {A : Option Addr} {xs : List DStream} (h : rStream.At Q w A xs) {i : Nat} {x : DStream} (hx : xs[i]? = some x) :
    ∃ (b off : Nat) (A_data : Option Addr) (c_data : Nat), A = some ⟨b, off, none⟩ ∧ IsC w b ∧ w.cell? ⟨b, off + i * 4, none⟩ = some (.int .i64 x.key.kind) ∧ w.cell? ⟨b, off + i * 4 + 1, none⟩ = some (.int .u64 x.key.sig) ∧ w.cell? ⟨b, off + i * 4 + 2, none⟩ = some (.int .i64 x.key.comp) ∧ w.cell? ⟨b, off + i * 4 + 3, none⟩ = some (.slice A_data x.data.length c_data) ∧ (Lit.int .i64 x.key.kind).wf = true ∧ (Lit.int .u64 x.key.sig).wf = true ∧ (Lit.int .i64 x.key.comp).wf = true ∧ Rep.byte.Sl Q w A_data c_data x.data := by
  obtain ⟨b, off, es, h1, _, h2, h3, h4⟩ := h.get hx
  obtain ⟨A_data, c_data, e, f0, f1, f2, f3⟩ := rStream_open h3
  subst e
  rw [rStream_size] at h4
  exact ⟨b, off, A_data, c_data, h1, h2, h4 0 _ rfl, h4 1 _ rfl, h4 2 _ rfl, h4 3 _ rfl, f0, f1, f2, f3⟩
@[ext] structure DFlow where
  key : DKey
  data : List UInt8
  pages : List Int
  deriving DecidableEq

def rFlow : Rep DFlow := (rKey.pair (Rep.byte.list.pair (Rep.int .i64).list)).iso fun x => (x.key, x.data, x.pages)
theorem rFlow_size : rFlow.size = 5 := rfl
theorem rFlow_open {Q : Nat → Prop} {w : World} {cs : List Value} {x : DFlow} (h : rFlow.rd Q w cs x) : ∃ (A_data : Option Addr) (c_data : Nat) (A_pages : Option Addr) (c_pages : Nat), cs = [.int .i64 x.key.kind, .int .u64 x.key.sig, .int .i64 x.key.comp, .slice A_data x.data.length c_data, .slice A_pages x.pages.length c_pages] ∧ (Lit.int .i64 x.key.kind).wf = true ∧ (Lit.int .u64 x.key.sig).wf = true ∧ (Lit.int .i64 x.key.comp).wf = true ∧ Rep.byte.Sl Q w A_data c_data x.data ∧ (Rep.int .i64).Sl Q w A_pages c_pages x.pages := by
  obtain ⟨a0, b0, rfl, h0, g0⟩ := h
  obtain ⟨e0, w0_0, w0_1, w0_2⟩ := rKey_open h0
  subst e0
  obtain ⟨a1, b1, rfl, h1, g1⟩ := g0
  obtain ⟨A1, c1, e1, w1⟩ := Rep.rd_sl h1
  subst e1
  obtain ⟨A2, c2, e2, w2⟩ := Rep.rd_sl g1
  subst e2
  exact ⟨A1, c1, A2, c2, rfl, w0_0, w0_1, w0_2, w1, w2⟩
theorem rFlow_mk {Q : Nat → Prop} {w : World} {x : DFlow} {A_data : Option Addr} {c_data : Nat} {A_pages : Option Addr} {c_pages : Nat} (f0 : (Lit.int .i64 x.key.kind).wf = true) (f1 : (Lit.int .u64 x.key.sig).wf = true) (f2 : (Lit.int .i64 x.key.comp).wf = true) (f3 : Rep.byte.Sl Q w A_data c_data x.data) (f4 : (Rep.int .i64).Sl Q w A_pages c_pages x.pages) : rFlow.rd Q w [.int .i64 x.key.kind, .int .u64 x.key.sig, .int .i64 x.key.comp, .slice A_data x.data.length c_data, .slice A_pages x.pages.length c_pages] x := by
  exact ⟨_, _, rfl, rKey_mk f0 f1 f2, ⟨_, _, rfl, Rep.sl_rd f3, Rep.sl_rd f4⟩⟩
theorem rFlow_at {Q : Nat → Prop} {w : World} {A : Option Addr} {xs : List DFlow} (h : rFlow.At Q w A xs) {i : Nat} {x : DFlow} (hx : xs[i]? = some x) :
    ∃ (b off : Nat) (A_data : Option Addr) (c_data : Nat) (A_pages : Option Addr) (c_pages : Nat), A = some ⟨b, off, none⟩ ∧ IsC w b ∧ w.cell? ⟨b, off + i * 5, none⟩ = some (.int .i64 x.key.kind) ∧ w.cell? ⟨b, off + i * 5 + 1, none⟩ = some (.int .u64 x.key.sig) ∧ w.cell? ⟨b, off + i * 5 + 2, none⟩ = some (.int .i64 x.key.comp) ∧ w.cell? ⟨b, off + i * 5 + 3, none⟩ = some (.slice A_data x.data.length c_data) ∧ w.cell? ⟨b, off + i * 5 + 4, none⟩ = some (.slice A_pages x.pages.length c_pages) ∧ (Lit.int .i64 x.key.kind).wf = true ∧ (Lit.int .u64 x.key.sig).wf = true ∧ (Lit.int .i64 x.key.comp).wf = true ∧ Rep.byte.Sl Q w A_data c_data x.data ∧ (Rep.int .i64).Sl Q w A_pages c_pages x.pages := by
  obtain ⟨b, off, es, h1, _, h2, h3, h4⟩ := h.get hx
  obtain ⟨A_data, c_data, A_pages, c_pages, e, f0, f1, f2, f3, f4⟩ := rFlow_open h3
  subst e
  rw [rFlow_size] at h4
  exact ⟨b, off, A_data, c_data, A_pages, c_pages, h1, h2, h4 0 _ rfl, h4 1 _ rfl, h4 2 _ rfl, h4 3 _ rfl, h4 4 _ rfl, f0, f1, f2, f3, f4⟩
theorem rFlow_val {Q : Nat → Prop} {w : World} {v : Value} {x : DFlow} (h : rFlow.val Q w v x) : ∃ (A_data : Option Addr) (c_data : Nat) (A_pages : Option Addr) (c_pages : Nat), v = .agg #[.int .i64 x.key.kind, .int .u64 x.key.sig, .int .i64 x.key.comp, .slice A_data x.data.length c_data, .slice A_pages x.pages.length c_pages] ∧ (Lit.int .i64 x.key.kind).wf = true ∧ (Lit.int .u64 x.key.sig).wf = true ∧ (Lit.int .i64 x.key.comp).wf = true ∧ Rep.byte.Sl Q w A_data c_data x.data ∧ (Rep.int .i64).Sl Q w A_pages c_pages x.pages := by
  obtain ⟨cs, rfl, h⟩ := h
  obtain ⟨A_data, c_data, A_pages, c_pages, e, f0, f1, f2, f3, f4⟩ := rFlow_open h
  subst e
  exact ⟨A_data, c_data, A_pages, c_pages, rfl, f0, f1, f2, f3, f4⟩
theorem rFlow_agg {Q : Nat → Prop} {w : World} {x : DFlow} {A_data : Option Addr} {c_data : Nat} {A_pages : Option Addr} {c_pages : Nat} (f0 : (Lit.int .i64 x.key.kind).wf = true) (f1 : (Lit.int .u64 x.key.sig).wf = true) (f2 : (Lit.int .i64 x.key.comp).wf = true) (f3 : Rep.byte.Sl Q w A_data c_data x.data) (f4 : (Rep.int .i64).Sl Q w A_pages c_pages x.pages) : rFlow.val Q w (.agg #[.int .i64 x.key.kind, .int .u64 x.key.sig, .int .i64 x.key.comp, .slice A_data x.data.length c_data, .slice A_pages x.pages.length c_pages]) x := ⟨_, rfl, rFlow_mk f0 f1 f2 f3 f4⟩

@[ext] structure DEntry where
  key : DKey
  long : Int
  pages : List Int
  deriving DecidableEq

def rEntry : Rep DEntry := (rKey.pair ((Rep.int .i64).pair (Rep.int .i64).list)).iso fun x => (x.key, x.long, x.pages)
theorem rEntry_size : rEntry.size = 5 := rfl
theorem rEntry_open {Q : Nat → Prop} {w : World} {cs : List Value} {x : DEntry} (h : rEntry.rd Q w cs x) : ∃ (A_pages : Option Addr) (c_pages : Nat), cs = [.int .i64 x.key.kind, .int .u64 x.key.sig, .int .i64 x.key.comp, .int .i64 x.long, .slice A_pages x.pages.length c_pages] ∧ (Lit.int .i64 x.key.kind).wf = true ∧ (Lit.int .u64 x.key.sig).wf = true ∧ (Lit.int .i64 x.key.comp).wf = true ∧ (Lit.int .i64 x.long).wf = true ∧ (Rep.int .i64).Sl Q w A_pages c_pages x.pages := by
  obtain ⟨a0, b0, rfl, h0, g0⟩ := h
  obtain ⟨e0, w0_0, w0_1, w0_2⟩ := rKey_open h0
  subst e0
  obtain ⟨a1, b1, rfl, h1, g1⟩ := g0
  obtain ⟨e1, w1⟩ := h1
  subst e1
  obtain ⟨A2, c2, e2, w2⟩ := Rep.rd_sl g1
  subst e2
  exact ⟨A2, c2, rfl, w0_0, w0_1, w0_2, w1, w2⟩
theorem rEntry_mk {Q : Nat → Prop} {w : World} {x : DEntry} {A_pages : Option Addr} {c_pages : Nat} (f0 : (Lit.int .i64 x.key.kind).wf = true) (f1 : (Lit.int .u64 x.key.sig).wf = true) (f2 : (Lit.int .i64 x.key.comp).wf = true) (f3 : (Lit.int .i64 x.long).wf = true) (f4 : (Rep.int .i64).Sl Q w A_pages c_pages x.pages) : rEntry.rd Q w [.int .i64 x.key.kind, .int .u64 x.key.sig, .int .i64 x.key.comp, .int .i64 x.long, .slice A_pages x.pages.length c_pages] x := by
  exact ⟨_, _, rfl, rKey_mk f0 f1 f2, ⟨_, _, rfl, ⟨rfl, f3⟩, Rep.sl_rd f4⟩⟩
theorem rEntry_at {Q : Nat → Prop} {w : World} {A : Option Addr} {xs : List DEntry} (h : rEntry.At Q w A xs) {i : Nat} {x : DEntry} (hx : xs[i]? = some x) :
    ∃ (b off : Nat) (A_pages : Option Addr) (c_pages : Nat), A = some ⟨b, off, none⟩ ∧ IsC w b ∧ w.cell? ⟨b, off + i * 5, none⟩ = some (.int .i64 x.key.kind) ∧ w.cell? ⟨b, off + i * 5 + 1, none⟩ = some (.int .u64 x.key.sig) ∧ w.cell? ⟨b, off + i * 5 + 2, none⟩ = some (.int .i64 x.key.comp) ∧ w.cell? ⟨b, off + i * 5 + 3, none⟩ = some (.int .i64 x.long) ∧ w.cell? ⟨b, off + i * 5 + 4, none⟩ = some (.slice A_pages x.pages.length c_pages) ∧ (Lit.int .i64 x.key.kind).wf = true ∧ (Lit.int .u64 x.key.sig).wf = true ∧ (Lit.int .i64 x.key.comp).wf = true ∧ (Lit.int .i64 x.long).wf = true ∧ (Rep.int .i64).Sl Q w A_pages c_pages x.pages := by
  obtain ⟨b, off, es, h1, _, h2, h3, h4⟩ := h.get hx
  obtain ⟨A_pages, c_pages, e, f0, f1, f2, f3, f4⟩ := rEntry_open h3
  subst e
  rw [rEntry_size] at h4
  exact ⟨b, off, A_pages, c_pages, h1, h2, h4 0 _ rfl, h4 1 _ rfl, h4 2 _ rfl, h4 3 _ rfl, h4 4 _ rfl, f0, f1, f2, f3, f4⟩
theorem rEntry_agg {Q : Nat → Prop} {w : World} {x : DEntry} {A_pages : Option Addr} {c_pages : Nat} (f0 : (Lit.int .i64 x.key.kind).wf = true) (f1 : (Lit.int .u64 x.key.sig).wf = true) (f2 : (Lit.int .i64 x.key.comp).wf = true) (f3 : (Lit.int .i64 x.long).wf = true) (f4 : (Rep.int .i64).Sl Q w A_pages c_pages x.pages) : rEntry.val Q w (.agg #[.int .i64 x.key.kind, .int .u64 x.key.sig, .int .i64 x.key.comp, .int .i64 x.long, .slice A_pages x.pages.length c_pages]) x := ⟨_, rfl, rEntry_mk f0 f1 f2 f3 f4⟩

@[ext] structure DSuper where
  epoch : Int
  gen : Int
  log : Int
  pages : Int
  head : Int
  seq : Int
  long : Int
  dir : List Int
  deriving DecidableEq

def rSuper : Rep DSuper := ((Rep.int .i64).pair ((Rep.int .i64).pair ((Rep.int .i64).pair ((Rep.int .i64).pair ((Rep.int .i64).pair ((Rep.int .i64).pair ((Rep.int .i64).pair (Rep.int .i64).list))))))).iso fun x => (x.epoch, x.gen, x.log, x.pages, x.head, x.seq, x.long, x.dir)
theorem rSuper_open {Q : Nat → Prop} {w : World} {cs : List Value} {x : DSuper} (h : rSuper.rd Q w cs x) : ∃ (A_dir : Option Addr) (c_dir : Nat), cs = [.int .i64 x.epoch, .int .i64 x.gen, .int .i64 x.log, .int .i64 x.pages, .int .i64 x.head, .int .i64 x.seq, .int .i64 x.long, .slice A_dir x.dir.length c_dir] ∧ (Lit.int .i64 x.epoch).wf = true ∧ (Lit.int .i64 x.gen).wf = true ∧ (Lit.int .i64 x.log).wf = true ∧ (Lit.int .i64 x.pages).wf = true ∧ (Lit.int .i64 x.head).wf = true ∧ (Lit.int .i64 x.seq).wf = true ∧ (Lit.int .i64 x.long).wf = true ∧ (Rep.int .i64).Sl Q w A_dir c_dir x.dir := by
  obtain ⟨a0, b0, rfl, h0, g0⟩ := h
  obtain ⟨e0, w0⟩ := h0
  subst e0
  obtain ⟨a1, b1, rfl, h1, g1⟩ := g0
  obtain ⟨e1, w1⟩ := h1
  subst e1
  obtain ⟨a2, b2, rfl, h2, g2⟩ := g1
  obtain ⟨e2, w2⟩ := h2
  subst e2
  obtain ⟨a3, b3, rfl, h3, g3⟩ := g2
  obtain ⟨e3, w3⟩ := h3
  subst e3
  obtain ⟨a4, b4, rfl, h4, g4⟩ := g3
  obtain ⟨e4, w4⟩ := h4
  subst e4
  obtain ⟨a5, b5, rfl, h5, g5⟩ := g4
  obtain ⟨e5, w5⟩ := h5
  subst e5
  obtain ⟨a6, b6, rfl, h6, g6⟩ := g5
  obtain ⟨e6, w6⟩ := h6
  subst e6
  obtain ⟨A7, c7, e7, w7⟩ := Rep.rd_sl g6
  subst e7
  exact ⟨A7, c7, rfl, w0, w1, w2, w3, w4, w5, w6, w7⟩
theorem rSuper_mk {Q : Nat → Prop} {w : World} {x : DSuper} {A_dir : Option Addr} {c_dir : Nat} (f0 : (Lit.int .i64 x.epoch).wf = true) (f1 : (Lit.int .i64 x.gen).wf = true) (f2 : (Lit.int .i64 x.log).wf = true) (f3 : (Lit.int .i64 x.pages).wf = true) (f4 : (Lit.int .i64 x.head).wf = true) (f5 : (Lit.int .i64 x.seq).wf = true) (f6 : (Lit.int .i64 x.long).wf = true) (f7 : (Rep.int .i64).Sl Q w A_dir c_dir x.dir) : rSuper.rd Q w [.int .i64 x.epoch, .int .i64 x.gen, .int .i64 x.log, .int .i64 x.pages, .int .i64 x.head, .int .i64 x.seq, .int .i64 x.long, .slice A_dir x.dir.length c_dir] x := by
  exact ⟨_, _, rfl, ⟨rfl, f0⟩, ⟨_, _, rfl, ⟨rfl, f1⟩, ⟨_, _, rfl, ⟨rfl, f2⟩, ⟨_, _, rfl, ⟨rfl, f3⟩, ⟨_, _, rfl, ⟨rfl, f4⟩, ⟨_, _, rfl, ⟨rfl, f5⟩, ⟨_, _, rfl, ⟨rfl, f6⟩, Rep.sl_rd f7⟩⟩⟩⟩⟩⟩⟩
theorem rSuper_val {Q : Nat → Prop} {w : World} {v : Value} {x : DSuper} (h : rSuper.val Q w v x) : ∃ (A_dir : Option Addr) (c_dir : Nat), v = .agg #[.int .i64 x.epoch, .int .i64 x.gen, .int .i64 x.log, .int .i64 x.pages, .int .i64 x.head, .int .i64 x.seq, .int .i64 x.long, .slice A_dir x.dir.length c_dir] ∧ (Lit.int .i64 x.epoch).wf = true ∧ (Lit.int .i64 x.gen).wf = true ∧ (Lit.int .i64 x.log).wf = true ∧ (Lit.int .i64 x.pages).wf = true ∧ (Lit.int .i64 x.head).wf = true ∧ (Lit.int .i64 x.seq).wf = true ∧ (Lit.int .i64 x.long).wf = true ∧ (Rep.int .i64).Sl Q w A_dir c_dir x.dir := by
  obtain ⟨cs, rfl, h⟩ := h
  obtain ⟨A_dir, c_dir, e, f0, f1, f2, f3, f4, f5, f6, f7⟩ := rSuper_open h
  subst e
  exact ⟨A_dir, c_dir, rfl, f0, f1, f2, f3, f4, f5, f6, f7⟩
theorem rSuper_agg {Q : Nat → Prop} {w : World} {x : DSuper} {A_dir : Option Addr} {c_dir : Nat} (f0 : (Lit.int .i64 x.epoch).wf = true) (f1 : (Lit.int .i64 x.gen).wf = true) (f2 : (Lit.int .i64 x.log).wf = true) (f3 : (Lit.int .i64 x.pages).wf = true) (f4 : (Lit.int .i64 x.head).wf = true) (f5 : (Lit.int .i64 x.seq).wf = true) (f6 : (Lit.int .i64 x.long).wf = true) (f7 : (Rep.int .i64).Sl Q w A_dir c_dir x.dir) : rSuper.val Q w (.agg #[.int .i64 x.epoch, .int .i64 x.gen, .int .i64 x.log, .int .i64 x.pages, .int .i64 x.head, .int .i64 x.seq, .int .i64 x.long, .slice A_dir x.dir.length c_dir]) x := ⟨_, rfl, rSuper_mk f0 f1 f2 f3 f4 f5 f6 f7⟩

@[ext] structure DSeal where
  epoch : Int
  no : Int
  kind : Int
  body : List UInt8
  deriving DecidableEq

def rSeal : Rep DSeal := ((Rep.int .i64).pair ((Rep.int .i64).pair ((Rep.int .i64).pair Rep.byte.list))).iso fun x => (x.epoch, x.no, x.kind, x.body)
theorem rSeal_open {Q : Nat → Prop} {w : World} {cs : List Value} {x : DSeal} (h : rSeal.rd Q w cs x) : ∃ (A_body : Option Addr) (c_body : Nat), cs = [.int .i64 x.epoch, .int .i64 x.no, .int .i64 x.kind, .slice A_body x.body.length c_body] ∧ (Lit.int .i64 x.epoch).wf = true ∧ (Lit.int .i64 x.no).wf = true ∧ (Lit.int .i64 x.kind).wf = true ∧ Rep.byte.Sl Q w A_body c_body x.body := by
  obtain ⟨a0, b0, rfl, h0, g0⟩ := h
  obtain ⟨e0, w0⟩ := h0
  subst e0
  obtain ⟨a1, b1, rfl, h1, g1⟩ := g0
  obtain ⟨e1, w1⟩ := h1
  subst e1
  obtain ⟨a2, b2, rfl, h2, g2⟩ := g1
  obtain ⟨e2, w2⟩ := h2
  subst e2
  obtain ⟨A3, c3, e3, w3⟩ := Rep.rd_sl g2
  subst e3
  exact ⟨A3, c3, rfl, w0, w1, w2, w3⟩
theorem rSeal_mk {Q : Nat → Prop} {w : World} {x : DSeal} {A_body : Option Addr} {c_body : Nat} (f0 : (Lit.int .i64 x.epoch).wf = true) (f1 : (Lit.int .i64 x.no).wf = true) (f2 : (Lit.int .i64 x.kind).wf = true) (f3 : Rep.byte.Sl Q w A_body c_body x.body) : rSeal.rd Q w [.int .i64 x.epoch, .int .i64 x.no, .int .i64 x.kind, .slice A_body x.body.length c_body] x := by
  exact ⟨_, _, rfl, ⟨rfl, f0⟩, ⟨_, _, rfl, ⟨rfl, f1⟩, ⟨_, _, rfl, ⟨rfl, f2⟩, Rep.sl_rd f3⟩⟩⟩
theorem rSeal_val {Q : Nat → Prop} {w : World} {v : Value} {x : DSeal} (h : rSeal.val Q w v x) : ∃ (A_body : Option Addr) (c_body : Nat), v = .agg #[.int .i64 x.epoch, .int .i64 x.no, .int .i64 x.kind, .slice A_body x.body.length c_body] ∧ (Lit.int .i64 x.epoch).wf = true ∧ (Lit.int .i64 x.no).wf = true ∧ (Lit.int .i64 x.kind).wf = true ∧ Rep.byte.Sl Q w A_body c_body x.body := by
  obtain ⟨cs, rfl, h⟩ := h
  obtain ⟨A_body, c_body, e, f0, f1, f2, f3⟩ := rSeal_open h
  subst e
  exact ⟨A_body, c_body, rfl, f0, f1, f2, f3⟩
theorem rSeal_agg {Q : Nat → Prop} {w : World} {x : DSeal} {A_body : Option Addr} {c_body : Nat} (f0 : (Lit.int .i64 x.epoch).wf = true) (f1 : (Lit.int .i64 x.no).wf = true) (f2 : (Lit.int .i64 x.kind).wf = true) (f3 : Rep.byte.Sl Q w A_body c_body x.body) : rSeal.val Q w (.agg #[.int .i64 x.epoch, .int .i64 x.no, .int .i64 x.kind, .slice A_body x.body.length c_body]) x := ⟨_, rfl, rSeal_mk f0 f1 f2 f3⟩

@[ext] structure DCmd where
  kind : Int
  loc : Bool
  id : DID
  comp : Int
  data : List UInt8
  deriving DecidableEq

def rCmd : Rep DCmd := ((Rep.int .i64).pair (Rep.bool.pair (rID.pair ((Rep.int .i64).pair Rep.byte.list)))).iso fun x => (x.kind, x.loc, x.id, x.comp, x.data)
end Go.Proofs.YtghbfbohnoebiaaGreat
namespace Go.Proofs.YtghbfbohnoebiaaGreat
open Go.RowKit

/-- Each of the first k, up to the first error. -/
def allTo {σ α : Type} (f : σ → Nat → σ × α × Int) (st : σ) : Nat → σ × List α × Int
  | 0 => (st, [], 0)
  | k + 1 => if (allTo f st k).2.2 = 0 then (if (f (allTo f st k).1 k).2.2 = 0 then ((f (allTo f st k).1 k).1, (allTo f st k).2.1 ++ [(f (allTo f st k).1 k).2.1], 0) else ((f (allTo f st k).1 k).1, [], (f (allTo f st k).1 k).2.2)) else allTo f st k
section
variable {σ α : Type} {f : σ → Nat → σ × α × Int} {st : σ}
theorem allTo_next {k : Nat} (h : (allTo f st k).2.2 = 0) (h2 : (f (allTo f st k).1 k).2.2 = 0) : allTo f st (k + 1) = ((f (allTo f st k).1 k).1, (allTo f st k).2.1 ++ [(f (allTo f st k).1 k).2.1], 0) := by
  show (if _ then _ else _) = _
  rw [if_pos h, if_pos h2]
theorem allTo_bad {k : Nat} (h : (allTo f st k).2.2 = 0) (h2 : (f (allTo f st k).1 k).2.2 ≠ 0) : ∀ m, k < m → allTo f st m = ((f (allTo f st k).1 k).1, [], (f (allTo f st k).1 k).2.2)
  | 0, hm => by omega
  | m + 1, hm => by
    by_cases hk : k = m
    · subst hk
      show (if _ then _ else _) = _
      rw [if_pos h, if_neg h2]
    · have ih := allTo_bad h h2 m (by omega)
      show (if _ then _ else _) = _
      rw [if_neg (by rw [ih]; exact h2), ih]
theorem allTo_len : ∀ {k : Nat}, (allTo f st k).2.2 = 0 → (allTo f st k).2.1.length = k
  | 0, _ => rfl
  | k + 1, h => by
    by_cases h1 : (allTo f st k).2.2 = 0
    · by_cases h2 : (f (allTo f st k).1 k).2.2 = 0
      · rw [allTo_next h1 h2]; simp [allTo_len h1]
      · rw [allTo_bad h1 h2 (k + 1) (by omega)] at h; exact absurd h h2
    · have : allTo f st (k + 1) = allTo f st k := by show (if _ then _ else _) = _; rw [if_neg h1]
      rw [this] at h; exact absurd h h1
end
end Go.Proofs.YtghbfbohnoebiaaGreat
namespace Go.Proofs.YtghbfbohnoebiaaGreat

def crcBit (s : Nat) : Nat := (s / 2) ^^^ (if s % 2 = 1 then 3988292384 else 0)
def crcBits : Nat → Nat → Nat
  | 0, s => s
  | k + 1, s => crcBit (crcBits k s)
def crcByte (s : Nat) (c : UInt8) : Nat := crcBits 8 (s ^^^ c.toNat)
def crcAdd (s : Nat) (l : List UInt8) : Nat := l.foldl crcByte s
def crcOf (l : List UInt8) : Nat := 4294967295 - crcAdd 4294967295 l

theorem crcBit_lt {s : Nat} (h : s < 4294967296) : crcBit s < 4294967296 := by
  have : s / 2 < 2 ^ 32 := by omega
  unfold crcBit
  split
  · exact Nat.xor_lt_two_pow this (by decide)
  · exact Nat.xor_lt_two_pow this (by decide)
theorem crcBits_lt {s : Nat} (h : s < 4294967296) : ∀ k, crcBits k s < 4294967296
  | 0 => h
  | k + 1 => crcBit_lt (crcBits_lt h k)
theorem byte_lt (c : UInt8) : c.toNat < 256 := c.toNat_lt
theorem crcByte_lt {s : Nat} (h : s < 4294967296) (c : UInt8) : crcByte s c < 4294967296 :=
  crcBits_lt (Nat.xor_lt_two_pow (n := 32) h (by have := byte_lt c; omega)) 8
theorem crcAdd_lt : ∀ {l : List UInt8} {s : Nat}, s < 4294967296 → crcAdd s l < 4294967296
  | [], _, h => h
  | c :: l, _, h => crcAdd_lt (l := l) (crcByte_lt h c)
theorem crcAdd_snoc (s : Nat) (l : List UInt8) (c : UInt8) : crcAdd s (l ++ [c]) = crcByte (crcAdd s l) c := by unfold crcAdd; rw [List.foldl_append]; rfl
theorem crcAdd_append (s : Nat) (l m : List UInt8) : crcAdd s (l ++ m) = crcAdd (crcAdd s l) m := by unfold crcAdd; rw [List.foldl_append]
theorem crcOf_lt (l : List UInt8) : crcOf l < 4294967296 := by unfold crcOf; omega

theorem crc_not {s : Nat} (h : s < 4294967296) : 4294967295 ^^^ s = 4294967295 - s := by
  apply Nat.eq_of_testBit_eq
  intro i
  have h2 := Nat.testBit_two_pow_sub_succ (n := 32) (x := s) h i
  have h3 := Nat.testBit_two_pow_sub_one 32 i
  rw [show 2 ^ 32 - (s + 1) = 4294967295 - s by omega] at h2
  rw [show 2 ^ 32 - 1 = 4294967295 by omega] at h3
  rw [Nat.testBit_xor, h2, h3]
  by_cases hi : i < 32
  · simp [hi]
  · have : s.testBit i = false := Nat.testBit_lt_two_pow (Nat.lt_of_lt_of_le h (Nat.pow_le_pow_right (n := 2) (by omega) (show 32 ≤ i by omega)))
    simp [hi, this]
end Go.Proofs.YtghbfbohnoebiaaGreat
namespace Go.Proofs.YtghbfbohnoebiaaGreat

def sortedOf (l : List Int) : List Int := l.mergeSort fun x y => decide (x ≤ y)
theorem sortedOf_perm (l : List Int) : (sortedOf l).Perm l := List.mergeSort_perm _ _
theorem sortedOf_sorted (l : List Int) : (sortedOf l).Pairwise (· ≤ ·) := by
  have := List.pairwise_mergeSort (le := fun x y : Int => decide (x ≤ y)) (fun a b c h1 h2 => by simp at *; omega) (fun a b => by simp; omega) l
  exact this.imp fun h => by simpa using h
end Go.Proofs.YtghbfbohnoebiaaGreat
namespace Go.Proofs.YtghbfbohnoebiaaGreat
open Go.RowKit

theorem bytes_at {Q : Nat → Prop} {W : World} {A : Option Addr} {xs : List (List UInt8)} (h : Rep.byte.list.At Q W A xs) {i : Nat} {x : List UInt8} (hx : xs[i]? = some x) :
    ∃ (b off : Nat) (u : Value), A = some ⟨b, off, none⟩ ∧ W.cell? ⟨b, off + i, none⟩ = some u ∧ Rep.byte.list.val Q W u x := by
  obtain ⟨b, off, es, h1, _, _, h3, h4⟩ := h.get hx
  obtain ⟨A', c', es', rfl, h5⟩ := h3
  refine ⟨b, off, .slice A' x.length c', h1, ?_, ⟨_, rfl, A', c', es', rfl, h5⟩⟩
  have := h4 0 _ rfl
  rwa [Nat.add_zero, show i * Rep.byte.list.size = i from Nat.mul_one i] at this

end Go.Proofs.YtghbfbohnoebiaaGreat
