/- Texts on which the proofs stand: Root, Root2. No condition is laid on any input. -/
import Derived.Test.YtghbfbohnoebiaaGreatSnG2
import Derived.RangeFuncWrites
import Derived.RangeFuncBox
namespace Go.Proofs.YtghbfbohnoebiaaGreat
open Go.RowKit

/-- A block of cells that is not frozen. -/
def IsZ (w : World) (b : Nat) : Prop := ∃ c e, w.heap[b]? = some (.cells c e (0, 0))
theorem IsZ.isC {w : World} {b : Nat} (h : IsZ w b) : IsC w b := by
  obtain ⟨c, e, h⟩ := h
  exact ⟨c, e, _, h⟩
theorem IsZ.lt {w : World} {b : Nat} (h : IsZ w b) : b < w.heap.size := h.isC.lt
theorem IsZ.same {w w' : World} {b : Nat} (h : IsZ w b) (he : w'.heap[b]? = w.heap[b]?) : IsZ w' b := by
  obtain ⟨c, e, h⟩ := h
  exact ⟨c, e, he.trans h⟩
theorem IsZ.frozen {w : World} {b : Nat} (h : IsZ w b) (off : Nat) : w.frozen? ⟨b, off, none⟩ = false := by
  obtain ⟨c, e, h⟩ := h
  simp [World.frozen?, h]
theorem IsZ.set {w : World} {b off : Nat} {v : Value} (h : IsZ w b) : IsZ (w.setCell ⟨b, off, none⟩ v) b := by
  obtain ⟨c, e, h⟩ := h
  obtain ⟨hlt, hk⟩ := Array.getElem?_eq_some_iff.1 h
  refine ⟨c.setIfInBounds off v, e, ?_⟩
  show (w.heap.modify b _)[b]? = _
  rw [Array.getElem?_eq_getElem (by rw [Array.size_modify]; exact hlt), Array.getElem_modify_self, hk]
  rfl

/-- The blocks that the body may write. -/
def Mut (R : Nat) (M : Nat → Prop) (W : World) (b : Nat) : Prop := b = R ∨ ∃ off v, M off ∧ W.cell? ⟨R, off, none⟩ = some v ∧ v.ownBlock = some b
/-- The root lies below 'base'; its cells of M hold slices that own blocks from 'base' on. -/
structure Ground (R : Nat) (M : Nat → Prop) (base : Nat) (W : World) : Prop where
  root : IsZ W R
  lt : R < base
  le : base ≤ W.heap.size
  own : ∀ off, M off → ∃ (A : Option Addr) (n c : Nat), W.cell? ⟨R, off, none⟩ = some (.slice A n c) ∧ ∀ b, (Value.slice A n c).ownBlock = some b → base ≤ b ∧ b < W.heap.size
/-- What has stood since w. -/
structure Still (R : Nat) (M : Nat → Prop) (w W : World) : Prop where
  block : ∀ b, b < w.heap.size → IsC w b → b ≠ R → W.heap[b]? = w.heap[b]?
  cell : ∀ off, ¬ M off → W.cell? ⟨R, off, none⟩ = w.cell? ⟨R, off, none⟩
def Seen (R : Nat) (M : Nat → Prop) (w W : World) : Prop := Ground R M w.heap.size W ∧ Still R M w W
/-- What the body keeps. -/
structure Kept1 (R : Nat) (M : Nat → Prop) (base : Nat) (W W' : World) : Prop where
  size : W.heap.size ≤ W'.heap.size
  block : ∀ b, IsC W b → ¬ Mut R M W b → W'.heap[b]? = W.heap[b]?
  turns : ∀ b, b < W.heap.size → Mut R M W' b → Mut R M W b
  cell : ∀ off, ¬ M off → W'.cell? ⟨R, off, none⟩ = W.cell? ⟨R, off, none⟩
  ground : Ground R M base W'
def Keeps (R : Nat) (M : Nat → Prop) (base : Nat) (W W' : World) : Prop := Ground R M base W → Kept1 R M base W W'
/-- A block of the loop's that nobody turns. -/
def Free (R : Nat) (M : Nat → Prop) (base : Nat) (W : World) (b : Nat) : Prop := base ≤ b ∧ b < W.heap.size ∧ ¬ Mut R M W b

section
variable {R base : Nat} {M : Nat → Prop} {w W W' X Y Z : World}

theorem Mut.of_cells (h : ∀ off, M off → W'.cell? ⟨R, off, none⟩ = W.cell? ⟨R, off, none⟩) {b : Nat} : Mut R M W' b ↔ Mut R M W b := by
  unfold Mut
  constructor
  · rintro (h1 | ⟨off, v, h1, h2, h3⟩)
    · exact .inl h1
    · exact .inr ⟨off, v, h1, (h off h1).symm.trans h2, h3⟩
  · rintro (h1 | ⟨off, v, h1, h2, h3⟩)
    · exact .inl h1
    · exact .inr ⟨off, v, h1, (h off h1).trans h2, h3⟩
theorem Mut.low (h : Ground R M base W) {b : Nat} (hm : Mut R M W b) : b = R ∨ base ≤ b ∧ b < W.heap.size := by
  rcases hm with h1 | ⟨off, v, h1, h2, h3⟩
  · exact .inl h1
  · obtain ⟨A, n, c, e, h4⟩ := h.own off h1
    rw [e] at h2
    cases h2
    exact .inr (h4 b h3)
/-- Where the root's block stands, and what lies is longer. -/
theorem Ground.same (h : Ground R M base W) (hs : W.heap.size ≤ W'.heap.size) (hr : W'.heap[R]? = W.heap[R]?) : Ground R M base W' :=
  ⟨h.root.same hr, h.lt, Nat.le_trans h.le hs, fun off hm => by
    obtain ⟨A, n, c, e, h4⟩ := h.own off hm
    exact ⟨A, n, c, (World.cell?_of_block (w := W) (a := ⟨R, off, none⟩) hr).trans e, fun b hb => ⟨(h4 b hb).1, Nat.lt_of_lt_of_le (h4 b hb).2 hs⟩⟩⟩
theorem Ground.below (h : Ground R M base W) (hb : Below W.heap.size W W') : Ground R M base W' := h.same hb.size (hb.block R h.root.lt)
theorem mut_below (h : Ground R M base W) (hb : Below W.heap.size W W') {b : Nat} : Mut R M W' b ↔ Mut R M W b :=
  Mut.of_cells fun off _ => World.cell?_of_block (w := W) (a := ⟨R, off, none⟩) (hb.block R h.root.lt)
theorem Keeps.below (hb : Below W.heap.size W W') : Keeps R M base W W' := fun h =>
  ⟨hb.size, fun b hc _ => hb.block b hc.lt, fun _ _ hm => (mut_below h hb).1 hm, fun off _ => World.cell?_of_block (w := W) (a := ⟨R, off, none⟩) (hb.block R h.root.lt), h.below hb⟩
theorem Keeps.trans (h : Keeps R M base X Y) (k : Keeps R M base Y Z) : Keeps R M base X Z := fun g =>
  have h1 := h g
  have k1 := k h1.ground
  ⟨Nat.le_trans h1.size k1.size, fun b hc hm => by
      have e := h1.block b hc hm
      exact (k1.block b (hc.same e) (fun hm' => hm (h1.turns b hc.lt hm'))).trans e,
    fun b hb hm => h1.turns b hb (k1.turns b (Nat.lt_of_lt_of_le hb h1.size) hm), fun off hm => (k1.cell off hm).trans (h1.cell off hm), k1.ground⟩
theorem Keeps.putObj {l : Nat} {o o' : Obj} (hl : W.heap[l]? = some o) (hc : o.isCells = false) : Keeps R M base W (W.putObj l o') := fun h => by
  have hne : ∀ b, IsC W b → b ≠ l := fun b hb e => by
    obtain ⟨c, e', f, hb⟩ := hb
    rw [e, hl] at hb
    cases hb
    cases hc
  have hs : W.heap.size ≤ (W.putObj l o').heap.size := by simp
  have hr : (W.putObj l o').heap[R]? = W.heap[R]? := World.putObj_heap_other (hne R h.root.isC)
  exact ⟨hs, fun b hb _ => World.putObj_heap_other (hne b hb), fun b _ hm => (Mut.of_cells fun off _ => World.cell?_of_block (w := W) (a := ⟨R, off, none⟩) hr).1 hm, fun off _ => World.cell?_of_block (w := W) (a := ⟨R, off, none⟩) hr, h.same hs hr⟩
theorem Seen.refl (h : Ground R M w.heap.size w) : Seen R M w w := ⟨h, fun _ _ _ _ => rfl, fun _ _ => rfl⟩
theorem Seen.below (h : Seen R M w W) (hb : Below W.heap.size W W') : Seen R M w W' :=
  ⟨h.1.below hb, fun b hb1 hc hr => (hb.block b (Nat.lt_of_lt_of_le hb1 h.1.le)).trans (h.2.block b hb1 hc hr), fun off hm => (World.cell?_of_block (w := W) (a := ⟨R, off, none⟩) (hb.block R h.1.root.lt)).trans (h.2.cell off hm)⟩
theorem Seen.keeps (h : Seen R M w W) (hk : Keeps R M w.heap.size W W') : Seen R M w W' := by
  have k := hk h.1
  refine ⟨k.ground, fun b hb1 hc hr => ?_, fun off hm => (k.cell off hm).trans (h.2.cell off hm)⟩
  have e := h.2.block b hb1 hc hr
  refine (k.block b (hc.same e) fun hm => ?_).trans e
  rcases hm.low h.1 with h1 | h1
  · exact hr h1
  · omega
theorem Seen.own (B : Nat) : OwnFrom B (fun (_ : Unit) W => Seen R M w W) := by
  intro s X Y row h hg hrow
  have hne : ∀ b, IsC X b → some b ≠ row := fun b hb e => by
    obtain ⟨_, o, ho, hc⟩ := hrow b e.symm
    obtain ⟨c, e', f, hb⟩ := hb
    rw [hb] at ho; cases ho; cases hc
  have hr := hg.block R h.1.root.lt (hne R h.1.root.isC)
  exact ⟨h.1.same hg.size hr, fun b hb1 hc hR => by
    have e := h.2.block b hb1 hc hR
    exact (hg.block b (Nat.lt_of_lt_of_le hb1 h.1.le) (hne b (hc.same e))).trans e, fun off hm => (World.cell?_of_block (w := X) (a := ⟨R, off, none⟩) hr).trans (h.2.cell off hm)⟩
theorem Free.fresh (h : Ground R M base W) (hb : Below W.heap.size W W') {b : Nat} (h1 : W.heap.size ≤ b) (h2 : b < W'.heap.size) : Free R M base W' b :=
  ⟨Nat.le_trans h.le h1, h2, fun hm => by
    have := h.lt
    have := h.le
    rcases ((mut_below h hb).1 hm).low h with h3 | h3 <;> omega⟩
theorem Free.below {b : Nat} (hf : Free R M base W b) (h : Ground R M base W) (hb : Below W.heap.size W W') : Free R M base W' b :=
  ⟨hf.1, Nat.lt_of_lt_of_le hf.2.1 hb.size, fun hm => hf.2.2 ((mut_below h hb).1 hm)⟩
theorem Free.keeps {b : Nat} (hf : Free R M base W b) (h : Ground R M base W) (hc : IsC W b) (hk : Keeps R M base W W') : Free R M base W' b ∧ W'.heap[b]? = W.heap[b]? :=
  have k := hk h
  ⟨⟨hf.1, Nat.lt_of_lt_of_le hf.2.1 k.size, fun hm => hf.2.2 (k.turns b hf.2.1 hm)⟩, k.block b hc hf.2.2⟩
theorem Free.at_keeps {α : Type} {r : Rep α} {A : Option Addr} {xs : List α} (hv : r.At (Free R M base W) W A xs) (h : Ground R M base W) (hk : Keeps R M base W W') : r.At (Free R M base W') W' A xs :=
  Rep.At.keep (fun _ hb hc => Free.keeps hb h hc hk) hv
theorem Free.val_own {α : Type} (r : Rep α) (v : Value) (x : α) (B : Nat) : OwnFrom B (fun (_ : Unit) W => Ground R M base W ∧ r.val (Free R M base W) W v x) := by
  rintro s X Y row ⟨h, hv⟩ hg hrow
  have hne : ∀ b, IsC X b → some b ≠ row := fun b hb e => by
    obtain ⟨_, o, ho, hc⟩ := hrow b e.symm
    obtain ⟨c, e', f, hb⟩ := hb
    rw [hb] at ho; cases ho; cases hc
  have hr := hg.block R h.root.lt (hne R h.root.isC)
  refine ⟨h.same hg.size hr, Rep.val_keep (fun b hb hc => ⟨⟨hb.1, Nat.lt_of_lt_of_le hb.2.1 hg.size, fun hm => hb.2.2 ((Mut.of_cells fun off _ => World.cell?_of_block (w := X) (a := ⟨R, off, none⟩) hr).1 hm)⟩, hg.block b hc.lt (hne b hc)⟩) hv⟩

theorem isC_of_cell {a : Addr} {v : Value} (h : W.cell? a = some v) : IsC W a.block := by
  obtain ⟨o, ho, hc⟩ := cells_of_cell h
  cases o with
  | cells c e f => exact ⟨c, e, f, ho⟩
  | _ => cases hc

theorem Rep.acc_isC {α : Type} {r : Rep α} {e : Nat} {Q : Nat → Prop} {v : Value} {xs : List α} (h : r.acc e base Q W v xs) : ∀ b, v.ownBlock = some b → IsC W b := by
  obtain ⟨cells, h1, _⟩ := h
  rcases h1.2 with ⟨rfl, _⟩ | ⟨g, cap, cur, rfl, _, hg, _⟩
  · intro b hb; cases hb
  · intro b hb
    injection hb with hb
    subst hb
    exact ⟨_, _, _, hg⟩

/-- A slice that lies in a cell of the root is appended to, and stored there. -/
theorem Keeps.collect {W2 W7 : World} {off : Nat} {v v7 : Value} (hM : M off) (hb : Below W.heap.size W W2) (hc : W.cell? ⟨R, off, none⟩ = some v) (hg : W2.grownBy W7 v.ownBlock) (ho : v7.ownBlock = v.ownBlock ∨ ∃ g, v7.ownBlock = some g ∧ W2.heap.size ≤ g) (hs : ∃ A n c, v7 = .slice A n c)
    (hown : ∀ b, v7.ownBlock = some b → base ≤ b ∧ b < W7.heap.size) : Keeps R M base W (W7.setCell ⟨R, off, none⟩ v7) := fun h => by
  have hsz : (W7.setCell ⟨R, off, none⟩ v7).heap.size = W7.heap.size := by simp [World.setCell]
  have hz2 := hb.size
  have hz7 := hg.size
  have hv : ∀ b, v.ownBlock = some b → base ≤ b ∧ b < W.heap.size := by
    obtain ⟨A, n, c, e, h4⟩ := h.own off hM
    rw [hc] at e
    cases e
    exact h4
  have hR7 : W7.heap[R]? = W.heap[R]? := (hg.block R (by have := h.root.lt; omega) (fun e => by have := (hv R e.symm).1; have := h.lt; omega)).trans (hb.block R h.root.lt)
  have hc7 : ∀ o, W7.cell? ⟨R, o, none⟩ = W.cell? ⟨R, o, none⟩ := fun o => World.cell?_of_block (w := W) (a := ⟨R, o, none⟩) hR7
  have hset : (W7.setCell ⟨R, off, none⟩ v7).cell? ⟨R, off, none⟩ = some v7 := World.cell?_setCell_same W7 _ _ ((hc7 off).trans hc)
  have hoth : ∀ o, o ≠ off → (W7.setCell ⟨R, off, none⟩ v7).cell? ⟨R, o, none⟩ = W.cell? ⟨R, o, none⟩ := fun o hne => (World.cell?_setCell_other W7 _ _ v7 (fun e => hne (by injection e with _ e; exact e.symm))).trans (hc7 o)
  refine ⟨by omega, fun b hcb hm => ?_, fun b hlt hm => ?_, fun o hm => hoth o (fun e => hm (e ▸ hM)), ⟨(h.root.same hR7).set, h.lt, by have := h.le; omega, fun o hm => ?_⟩⟩
  · rw [Below.heap_setCell _ _ _ _ (fun e => hm (.inl e)), hg.block b (by have := hcb.lt; omega) (fun e => hm (.inr ⟨off, v, hM, hc, e.symm⟩)), hb.block b hcb.lt]
  · rcases hm with h1 | ⟨o, u, h1, h2, h3⟩
    · exact .inl h1
    · by_cases he : o = off
      · subst he
        rw [hset] at h2
        cases h2
        rcases ho with e | ⟨g, e, hgz⟩
        · exact .inr ⟨o, v, h1, hc, e ▸ h3⟩
        · rw [e] at h3; injection h3 with h3; omega
      · exact .inr ⟨o, u, h1, (hoth o he).symm.trans h2, h3⟩
  · by_cases he : o = off
    · subst he
      obtain ⟨A, n, c, rfl⟩ := hs
      exact ⟨A, n, c, hset, fun b hb' => by have := hown b hb'; omega⟩
    · obtain ⟨A, n, c, e, h4⟩ := h.own o hm
      exact ⟨A, n, c, (hoth o he).trans e, fun b hb' => by have := h4 b hb'; omega⟩
theorem KeepsFrom.collect {W2 W7 : World} {B : Nat} {a : Addr} {u : Value} {row : Option Nat} (hb : Below W.heap.size W W2) (hg : W2.grownBy W7 row) (hr : ∀ b, row = some b → IsC W b) : KeepsFrom B W (W7.setCell a u) := by
  refine ((KeepsOthers.trans ⟨hb.size, fun k _ hk _ => (hb.block k (Array.getElem?_eq_some_iff.1 hk).1).trans hk⟩ (KeepsOthers.of_grownBy hg fun j o hj ho => ?_)).trans (KeepsOthers.setCell _ _ _)).from B
  have hc := hr j hj
  obtain ⟨c, e, f, h⟩ := hc
  rw [hb.block j (Array.getElem?_eq_some_iff.1 h).1, h] at ho
  cases ho; rfl
end
end Go.Proofs.YtghbfbohnoebiaaGreat
namespace Go.Proofs.YtghbfbohnoebiaaGreat
open Go.RowKit
namespace Two

/-- The blocks that the body may write. -/
def Mut (R : Nat) (M C : Nat → Prop) (W : World) (b : Nat) : Prop := b = R ∨ C b ∨ ∃ off v, M off ∧ W.cell? ⟨R, off, none⟩ = some v ∧ v.ownBlock = some b
/-- The root lies below 'base'; its cells of M hold slices that own blocks from 'base' on. -/
structure Ground (R : Nat) (M C : Nat → Prop) (base : Nat) (W : World) : Prop where
  root : IsZ W R
  lt : R < base
  le : base ≤ W.heap.size
  low : ∀ b, C b → b < base
  own : ∀ off, M off → ∃ (A : Option Addr) (n c : Nat), W.cell? ⟨R, off, none⟩ = some (.slice A n c) ∧ ∀ b, (Value.slice A n c).ownBlock = some b → base ≤ b ∧ b < W.heap.size
/-- What has stood since w. -/
structure Still (R : Nat) (M C : Nat → Prop) (w W : World) : Prop where
  block : ∀ b, b < w.heap.size → IsC w b → b ≠ R → ¬ C b → W.heap[b]? = w.heap[b]?
  cell : ∀ off, ¬ M off → W.cell? ⟨R, off, none⟩ = w.cell? ⟨R, off, none⟩
def Seen (R : Nat) (M C : Nat → Prop) (w W : World) : Prop := Ground R M C w.heap.size W ∧ Still R M C w W
/-- What the body keeps. -/
structure Kept1 (R : Nat) (M C : Nat → Prop) (base : Nat) (W W' : World) : Prop where
  size : W.heap.size ≤ W'.heap.size
  block : ∀ b, IsC W b → ¬ Mut R M C W b → W'.heap[b]? = W.heap[b]?
  turns : ∀ b, b < W.heap.size → Mut R M C W' b → Mut R M C W b
  cell : ∀ off, ¬ M off → W'.cell? ⟨R, off, none⟩ = W.cell? ⟨R, off, none⟩
  ground : Ground R M C base W'
def Keeps (R : Nat) (M C : Nat → Prop) (base : Nat) (W W' : World) : Prop := Ground R M C base W → Kept1 R M C base W W'
/-- A block of the loop's that nobody turns. -/
def Free (R : Nat) (M C : Nat → Prop) (base : Nat) (W : World) (b : Nat) : Prop := base ≤ b ∧ b < W.heap.size ∧ ¬ Mut R M C W b

section
variable {R base : Nat} {M C : Nat → Prop} {w W W' X Y Z : World}

theorem Mut.of_cells (h : ∀ off, M off → W'.cell? ⟨R, off, none⟩ = W.cell? ⟨R, off, none⟩) {b : Nat} : Mut R M C W' b ↔ Mut R M C W b := by
  unfold Mut
  constructor
  · rintro (h1 | h1 | ⟨off, v, h1, h2, h3⟩)
    · exact .inl h1
    · exact .inr (.inl h1)
    · exact .inr (.inr ⟨off, v, h1, (h off h1).symm.trans h2, h3⟩)
  · rintro (h1 | h1 | ⟨off, v, h1, h2, h3⟩)
    · exact .inl h1
    · exact .inr (.inl h1)
    · exact .inr (.inr ⟨off, v, h1, (h off h1).trans h2, h3⟩)
theorem Mut.low (h : Ground R M C base W) {b : Nat} (hm : Mut R M C W b) : b = R ∨ C b ∨ base ≤ b ∧ b < W.heap.size := by
  rcases hm with h1 | h1 | ⟨off, v, h1, h2, h3⟩
  · exact .inl h1
  · exact .inr (.inl h1)
  · obtain ⟨A, n, c, e, h4⟩ := h.own off h1
    rw [e] at h2
    cases h2
    exact .inr (.inr (h4 b h3))
/-- Where the root's block stands, and what lies is longer. -/
theorem Ground.same (h : Ground R M C base W) (hs : W.heap.size ≤ W'.heap.size) (hr : W'.heap[R]? = W.heap[R]?) : Ground R M C base W' :=
  ⟨h.root.same hr, h.lt, Nat.le_trans h.le hs, h.low, fun off hm => by
    obtain ⟨A, n, c, e, h4⟩ := h.own off hm
    exact ⟨A, n, c, (World.cell?_of_block (w := W) (a := ⟨R, off, none⟩) hr).trans e, fun b hb => ⟨(h4 b hb).1, Nat.lt_of_lt_of_le (h4 b hb).2 hs⟩⟩⟩
theorem Ground.below (h : Ground R M C base W) (hb : Below W.heap.size W W') : Ground R M C base W' := h.same hb.size (hb.block R h.root.lt)
theorem mut_below (h : Ground R M C base W) (hb : Below W.heap.size W W') {b : Nat} : Mut R M C W' b ↔ Mut R M C W b :=
  Mut.of_cells fun off _ => World.cell?_of_block (w := W) (a := ⟨R, off, none⟩) (hb.block R h.root.lt)
theorem Keeps.below (hb : Below W.heap.size W W') : Keeps R M C base W W' := fun h =>
  ⟨hb.size, fun b hc _ => hb.block b hc.lt, fun _ _ hm => (mut_below h hb).1 hm, fun off _ => World.cell?_of_block (w := W) (a := ⟨R, off, none⟩) (hb.block R h.root.lt), h.below hb⟩
theorem Keeps.trans (h : Keeps R M C base X Y) (k : Keeps R M C base Y Z) : Keeps R M C base X Z := fun g =>
  have h1 := h g
  have k1 := k h1.ground
  ⟨Nat.le_trans h1.size k1.size, fun b hc hm => by
      have e := h1.block b hc hm
      exact (k1.block b (hc.same e) (fun hm' => hm (h1.turns b hc.lt hm'))).trans e,
    fun b hb hm => h1.turns b hb (k1.turns b (Nat.lt_of_lt_of_le hb h1.size) hm), fun off hm => (k1.cell off hm).trans (h1.cell off hm), k1.ground⟩
theorem Keeps.putObj {l : Nat} {o o' : Obj} (hl : W.heap[l]? = some o) (hc : o.isCells = false) : Keeps R M C base W (W.putObj l o') := fun h => by
  have hne : ∀ b, IsC W b → b ≠ l := fun b hb e => by
    obtain ⟨c, e', f, hb⟩ := hb
    rw [e, hl] at hb
    cases hb
    cases hc
  have hs : W.heap.size ≤ (W.putObj l o').heap.size := by simp
  have hr : (W.putObj l o').heap[R]? = W.heap[R]? := World.putObj_heap_other (hne R h.root.isC)
  exact ⟨hs, fun b hb _ => World.putObj_heap_other (hne b hb), fun b _ hm => (Mut.of_cells fun off _ => World.cell?_of_block (w := W) (a := ⟨R, off, none⟩) hr).1 hm, fun off _ => World.cell?_of_block (w := W) (a := ⟨R, off, none⟩) hr, h.same hs hr⟩
theorem Seen.refl (h : Ground R M C w.heap.size w) : Seen R M C w w := ⟨h, fun _ _ _ _ _ => rfl, fun _ _ => rfl⟩
theorem Seen.below (h : Seen R M C w W) (hb : Below W.heap.size W W') : Seen R M C w W' :=
  ⟨h.1.below hb, fun b hb1 hc hr hC => (hb.block b (Nat.lt_of_lt_of_le hb1 h.1.le)).trans (h.2.block b hb1 hc hr hC), fun off hm => (World.cell?_of_block (w := W) (a := ⟨R, off, none⟩) (hb.block R h.1.root.lt)).trans (h.2.cell off hm)⟩
theorem Seen.keeps (h : Seen R M C w W) (hk : Keeps R M C w.heap.size W W') : Seen R M C w W' := by
  have k := hk h.1
  refine ⟨k.ground, fun b hb1 hc hr hC => ?_, fun off hm => (k.cell off hm).trans (h.2.cell off hm)⟩
  have e := h.2.block b hb1 hc hr hC
  refine (k.block b (hc.same e) fun hm => ?_).trans e
  rcases hm.low h.1 with h1 | h1 | h1
  · exact hr h1
  · exact hC h1
  · omega
theorem Seen.own (B : Nat) : OwnFrom B (fun (_ : Unit) W => Seen R M C w W) := by
  intro s X Y row h hg hrow
  have hne : ∀ b, IsC X b → some b ≠ row := fun b hb e => by
    obtain ⟨_, o, ho, hc⟩ := hrow b e.symm
    obtain ⟨c, e', f, hb⟩ := hb
    rw [hb] at ho; cases ho; cases hc
  have hr := hg.block R h.1.root.lt (hne R h.1.root.isC)
  exact ⟨h.1.same hg.size hr, fun b hb1 hc hR hC => by
    have e := h.2.block b hb1 hc hR hC
    exact (hg.block b (Nat.lt_of_lt_of_le hb1 h.1.le) (hne b (hc.same e))).trans e, fun off hm => (World.cell?_of_block (w := X) (a := ⟨R, off, none⟩) hr).trans (h.2.cell off hm)⟩
theorem Free.fresh (h : Ground R M C base W) (hb : Below W.heap.size W W') {b : Nat} (h1 : W.heap.size ≤ b) (h2 : b < W'.heap.size) : Free R M C base W' b :=
  ⟨Nat.le_trans h.le h1, h2, fun hm => by
    have := h.lt
    have := h.le
    rcases ((mut_below h hb).1 hm).low h with h3 | h3 | h3
    · omega
    · have := h.low b h3; omega
    · omega⟩
theorem Free.below {b : Nat} (hf : Free R M C base W b) (h : Ground R M C base W) (hb : Below W.heap.size W W') : Free R M C base W' b :=
  ⟨hf.1, Nat.lt_of_lt_of_le hf.2.1 hb.size, fun hm => hf.2.2 ((mut_below h hb).1 hm)⟩
theorem Free.keeps {b : Nat} (hf : Free R M C base W b) (h : Ground R M C base W) (hc : IsC W b) (hk : Keeps R M C base W W') : Free R M C base W' b ∧ W'.heap[b]? = W.heap[b]? :=
  have k := hk h
  ⟨⟨hf.1, Nat.lt_of_lt_of_le hf.2.1 k.size, fun hm => hf.2.2 (k.turns b hf.2.1 hm)⟩, k.block b hc hf.2.2⟩
theorem Free.at_keeps {α : Type} {r : Rep α} {A : Option Addr} {xs : List α} (hv : r.At (Free R M C base W) W A xs) (h : Ground R M C base W) (hk : Keeps R M C base W W') : r.At (Free R M C base W') W' A xs :=
  Rep.At.keep (fun _ hb hc => Free.keeps hb h hc hk) hv
theorem Free.val_own {α : Type} (r : Rep α) (v : Value) (x : α) (B : Nat) : OwnFrom B (fun (_ : Unit) W => Ground R M C base W ∧ r.val (Free R M C base W) W v x) := by
  rintro s X Y row ⟨h, hv⟩ hg hrow
  have hne : ∀ b, IsC X b → some b ≠ row := fun b hb e => by
    obtain ⟨_, o, ho, hc⟩ := hrow b e.symm
    obtain ⟨c, e', f, hb⟩ := hb
    rw [hb] at ho; cases ho; cases hc
  have hr := hg.block R h.root.lt (hne R h.root.isC)
  refine ⟨h.same hg.size hr, Rep.val_keep (fun b hb hc => ⟨⟨hb.1, Nat.lt_of_lt_of_le hb.2.1 hg.size, fun hm => hb.2.2 ((Mut.of_cells fun off _ => World.cell?_of_block (w := X) (a := ⟨R, off, none⟩) hr).1 hm)⟩, hg.block b hc.lt (hne b hc)⟩) hv⟩

/-- A slice that lies in a cell of the root is appended to, and stored there. -/
theorem Keeps.collect {W2 W7 : World} {off : Nat} {v v7 : Value} (hM : M off) (hb : Below W.heap.size W W2) (hc : W.cell? ⟨R, off, none⟩ = some v) (hg : W2.grownBy W7 v.ownBlock) (ho : v7.ownBlock = v.ownBlock ∨ ∃ g, v7.ownBlock = some g ∧ W2.heap.size ≤ g) (hs : ∃ A n c, v7 = .slice A n c)
    (hown : ∀ b, v7.ownBlock = some b → base ≤ b ∧ b < W7.heap.size) : Keeps R M C base W (W7.setCell ⟨R, off, none⟩ v7) := fun h => by
  have hsz : (W7.setCell ⟨R, off, none⟩ v7).heap.size = W7.heap.size := by simp [World.setCell]
  have hz2 := hb.size
  have hz7 := hg.size
  have hv : ∀ b, v.ownBlock = some b → base ≤ b ∧ b < W.heap.size := by
    obtain ⟨A, n, c, e, h4⟩ := h.own off hM
    rw [hc] at e
    cases e
    exact h4
  have hR7 : W7.heap[R]? = W.heap[R]? := (hg.block R (by have := h.root.lt; omega) (fun e => by have := (hv R e.symm).1; have := h.lt; omega)).trans (hb.block R h.root.lt)
  have hc7 : ∀ o, W7.cell? ⟨R, o, none⟩ = W.cell? ⟨R, o, none⟩ := fun o => World.cell?_of_block (w := W) (a := ⟨R, o, none⟩) hR7
  have hset : (W7.setCell ⟨R, off, none⟩ v7).cell? ⟨R, off, none⟩ = some v7 := World.cell?_setCell_same W7 _ _ ((hc7 off).trans hc)
  have hoth : ∀ o, o ≠ off → (W7.setCell ⟨R, off, none⟩ v7).cell? ⟨R, o, none⟩ = W.cell? ⟨R, o, none⟩ := fun o hne => (World.cell?_setCell_other W7 _ _ v7 (fun e => hne (by injection e with _ e; exact e.symm))).trans (hc7 o)
  refine ⟨by omega, fun b hcb hm => ?_, fun b hlt hm => ?_, fun o hm => hoth o (fun e => hm (e ▸ hM)), ⟨(h.root.same hR7).set, h.lt, by have := h.le; omega, h.low, fun o hm => ?_⟩⟩
  · rw [Below.heap_setCell _ _ _ _ (fun e => hm (.inl e)), hg.block b (by have := hcb.lt; omega) (fun e => hm (.inr (.inr ⟨off, v, hM, hc, e.symm⟩))), hb.block b hcb.lt]
  · rcases hm with h1 | h1 | ⟨o, u, h1, h2, h3⟩
    · exact .inl h1
    · exact .inr (.inl h1)
    · by_cases he : o = off
      · subst he
        rw [hset] at h2
        cases h2
        rcases ho with e | ⟨g, e, hgz⟩
        · exact .inr (.inr ⟨o, v, h1, hc, e ▸ h3⟩)
        · rw [e] at h3; injection h3 with h3; omega
      · exact .inr (.inr ⟨o, u, h1, (hoth o he).symm.trans h2, h3⟩)
  · by_cases he : o = off
    · subst he
      obtain ⟨A, n, c, rfl⟩ := hs
      exact ⟨A, n, c, hset, fun b hb' => by have := hown b hb'; omega⟩
    · obtain ⟨A, n, c, e, h4⟩ := h.own o hm
      exact ⟨A, n, c, (hoth o he).trans e, fun b hb' => by have := h4 b hb'; omega⟩
/-- A cell of the box beside is turned. -/
theorem Keeps.side {W2 : World} {cb off : Nat} {u : Value} (hC : C cb) (hne : cb ≠ R) (hb : Below W.heap.size W W2) : Keeps R M C base W (W2.setCell ⟨cb, off, none⟩ u) := fun h => by
  have hsz : (W2.setCell ⟨cb, off, none⟩ u).heap.size = W2.heap.size := by simp [World.setCell]
  have hR : (W2.setCell ⟨cb, off, none⟩ u).heap[R]? = W.heap[R]? := (Below.heap_setCell _ _ _ _ (fun e => hne e.symm)).trans (hb.block R h.root.lt)
  have hc : ∀ o, (W2.setCell ⟨cb, off, none⟩ u).cell? ⟨R, o, none⟩ = W.cell? ⟨R, o, none⟩ := fun o => World.cell?_of_block (w := W) (a := ⟨R, o, none⟩) hR
  refine ⟨by have := hb.size; omega, fun b hcb hm => ?_, fun b _ hm => (Mut.of_cells fun o _ => hc o).1 hm, fun o _ => hc o, h.same (by have := hb.size; omega) hR⟩
  rw [Below.heap_setCell _ _ _ _ (fun (e : b = cb) => hm (.inr (.inl (by rw [e]; exact hC)))), hb.block b hcb.lt]
end
end Two
end Go.Proofs.YtghbfbohnoebiaaGreat
