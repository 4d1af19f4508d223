/- Texts on which the proofs stand: RangeA, Root. No condition is laid on any input. -/
import Derived.Test.YteljibjbndpncaaPsCore
import Derived.Test.YteljibjbndpncaaPsG1
import Derived.RangeFuncWrites
import Derived.RangeFuncBox
/- A range over a function whose elements lie in memory, where the round's variable is laid in a box of its own ahead of the body. No program is named here. -/
namespace Go.Proofs.Yteljibjbndpncaa
open Go.RowKit

theorem Laid.alloc {B : Nat} {r : Loop} {W : World} (h : Laid B r W) (o : Obj) : Laid B r (W.alloc o) :=
  h.keep fun k _ _ ho _ _ => (Below.heap_alloc W o k (Array.getElem?_eq_some_iff.1 ho).1).trans ho

section
variable {F : Fence} {n : Nat} {P : Program}

/-- The statement 'for .. := range g { .. }', over such an iterator; the round begins with one new block. -/
theorem wpIn_rangeFunc_va {α : Type} {g : Operand} {ps : Array Tmp} {assign body : Code} {Q : Exit → Act → World → Prop} {a : Act} {w : World}
    (hro : F.round = none) (h1 : 1 ≤ n) {gf : Nat} {lb : Array Value} (hg : a.eval g = .func (.func gf) #[] lb) (hFg : F.fn gf) (eg : ∀ args w, (callFunc gf args).run P w = .ok (.enter gf args) w)
    {encs : α → Array Value} {V : List α → α → World → Prop} {Kp : World → World → Prop} {S : List α → Prop} {w0 : World} (hseq : SeqV F (n - 1) P gf lb encs V Kp S w0)
    (hKt : ∀ {X Y Z : World}, Kp X Y → Kp Y Z → Kp X Z) (hKa : ∀ (W : World) (o : Obj), w.heap.size ≤ W.heap.size → Kp W (W.alloc o)) (hKb : ∀ (W : World) (l : Nat) (o o' : Obj), w.heap.size ≤ l → W.heap[l]? = some o → o.isCells = false → o.isWalk = false → Kp W (W.putObj l o')) (hb0 : Below w0.heap.size w0 w) (hps : ∀ x, (encs x).size = ps.size)
    (I : List α → World → Prop) (Ix : Code → List α → World → Prop) (hI : OwnFrom w.heap.size I) (hIx : ∀ c, OwnFrom w.heap.size (Ix c)) (hV : OwnFrom w.heap.size fun (p : List α × α) W => V p.1 p.2 W) (h0 : I [] w) (a₁ : α → Nat → Act) (bx : α → Obj)
    (hassign : ∀ (l : Nat) (x : α) (W : World) (K : Act → World → Prop), K (a₁ x W.heap.size) (W.alloc (bx x)) →
      assign.wpIn (F.inRound l) (n - 1 - 1) P (Exit.then K (fun _ _ _ => False)) { tmps := (ps.zip (encs x)).foldl (fun t (p, v) => t.setIfInBounds p v) a.tmps, defers := [] } W)
    (hbody : ∀ (l : Nat) (pre : List α) (x : α) (b : Nat) (W : World), I pre W → V pre x W → w.heap.size ≤ b → b < W.heap.size → W.heap[b]? = some (bx x) → body.wpIn (F.inRound l) (n - 1 - 1) P (ownPostG w.heap.size Kp I Ix (pre ++ [x]) W) (a₁ x b) W)
    (hdone : ∀ (D : Nat) (xs : List α) (W : World), w.heap.size ≤ D → S xs → I xs W → W.heap[D]? = some (.deferred (some [])) → Q .normal { a with defers := { target := .collected D, args := #[] } :: a.defers } W)
    (hstop : ∀ (D : Nat) (c : Code) (pre : List α) (W : World), w.heap.size ≤ D → Ix c pre W → W.heap[D]? = some (.deferred (some [])) → c.wpIn F n P Q { a with defers := { target := .collected D, args := #[] } :: a.defers } W) :
    (Code.rangeFunc g ps assign body).wpIn F n P Q a w := by
  refine wpIn_rangeFunc fun fn hfn => ?_
  rw [hro]
  obtain ⟨R, hR⟩ : ∃ R : LoopState → Option Code → Loop, R = fun st pe => { state := st, pending := pe, fn, tmps := a.tmps, params := ps, assign, body, defers := w.heap.size } := ⟨_, rfl⟩
  have hRR : ∀ s p s' p', ({ state := s', pending := p', fn := (R s p).fn, tmps := (R s p).tmps, params := (R s p).params, assign := (R s p).assign, body := (R s p).body, defers := (R s p).defers } : Loop) = R s' p' := fun _ _ _ _ => by rw [hR]
  obtain ⟨W1, hW1⟩ : ∃ W1, (w.alloc (.deferred (some []))).alloc (.loop (R .ready none)) = W1 := ⟨_, rfl⟩
  have hsz : W1.heap.size = w.heap.size + 2 := by rw [← hW1]; simp
  have hL1 : Laid w.heap.size (R .ready none) W1 := by
    rw [← hW1]
    refine ⟨(Below.heap_alloc _ _ _ (by simp)).trans (World.alloc_heap_new w _), ?_⟩
    have := World.alloc_heap_new (w.alloc (.deferred (some []))) (.loop (R .ready none))
    rwa [World.size_alloc] at this
  have hbel : Below w.heap.size w W1 := by rw [← hW1]; exact ((Below.refl _ w).alloc (Nat.le_refl _) _).alloc (by simp) _
  have hI1 : I [] W1 := by rw [← hW1]; exact hI.alloc _ (hI.alloc _ h0)
  refine ⟨w.heap.size + 1, [{ target := .collected w.heap.size, args := #[] }], W1, { target := .fn (.func gf) lb, args := #[.func (.yield (w.heap.size + 1)) #[] #[]] }, W1, gf, #[.func (.yield (w.heap.size + 1)) #[] #[]] ++ lb, W1, ?_, ?_, ?_, ?_, fun _ => h1, ?_⟩
  · rw [← hW1, hR]; exact run_enterLoop_outer _ _ _ _ _
  · simp only [resolve, hg]
    simp [go_sem]
  · intro f' hf'
    simp [Target.leads] at hf'
    subst hf'
    exact hFg
  · simp [invoke, go_sem, eg]
  · have hcells : ∀ {X : World} {row : Option Nat}, (∀ r, row = some r → W1.heap.size ≤ r ∧ ∃ o : Obj, X.heap[r]? = some o ∧ o.isWalk = true) → (∀ r, row = some r → w.heap.size ≤ r ∧ ∃ o : Obj, X.heap[r]? = some o ∧ o.isCells = false) := fun hr r e => by
      obtain ⟨hB, o, ho, hw⟩ := hr r e
      exact ⟨by omega, o, ho, Obj.not_cells_of_walk hw⟩
    refine (hseq (w.heap.size + 1) (fun pre W => I pre W ∧ Laid w.heap.size (R .ready none) W) (fun pre W => ∃ c, Ix c pre W ∧ Laid w.heap.size (R .done (some c)) W) W1 (hb0.trans (hbel.mono hb0.size))
      (fun s X Y row hs hg' hr => ⟨hI s X Y row hs.1 hg' (hcells hr), hs.2.grown hg' hr⟩)
      (fun s X Y row hs hg' hr => by
        obtain ⟨c, hc, hl⟩ := hs
        exact ⟨c, hIx c s X Y row hc hg' (hcells hr), hl.grown hg' hr⟩) ?_ ⟨hI1, hL1⟩).mono ?_
    · rintro pre x W ⟨hi, hl⟩ hv
      have hy := run_yield (P := P) (args := encs x) hl.2 (by rw [hR]; exact hps x)
      rw [hR] at hy
      have hsW : w.heap.size + 1 < W.heap.size := (Array.getElem?_eq_some_iff.1 hl.2).1
      have hla := hl.alloc (bx x)
      have hl2 : Laid w.heap.size (R .busy none) ((W.alloc (bx x)).putObj (w.heap.size + 1) (.loop (R .busy none))) := hla.turn _
      have hbr := run_beginRound (P := P) hla.2 (by rw [hR])
      rw [hRR, show (R .ready none).pending = none by rw [hR]] at hbr
      refine ⟨fn, _, assign, body, hy, roundIn_of_wpIn hfn (hassign _ x W _ ⟨_, hbr, ?_⟩)⟩
      refine wpIn_mono (hbody _ pre x W.heap.size _ (own_turn hI (hI.alloc _ hi) hla _) (hV.putObj (s := (pre, x)) _ (hV.alloc (s := (pre, x)) _ hv) (by omega) hla.2 rfl) (by omega) ?_ ?_) (round_ends (Kp := Kp) rfl hI hIx (fun h k => hKt h k) hKb R hRR (hKt (hKa W _ (by omega)) (hKb _ _ _ _ (Nat.le_succ _) hla.2 rfl rfl)) hl2)
      · simp
      · rw [World.putObj_heap_other (by omega)]; exact World.alloc_heap_new W _
    · rintro e W2 ⟨⟨v, rfl⟩, (⟨xs, hS, hi, hl⟩ | ⟨pre, c, hi, hl⟩)⟩
      · have hrun := run_endLoop (P := P) hl.2 (by rw [hR]; simp)
        refine ⟨none, _, by rw [hrun, hR], hdone _ xs _ (Nat.le_refl _) hS (own_turn hI hi hl _) ((World.putObj_heap_other (by omega)).trans hl.1)⟩
      · have hrun := run_endLoop (P := P) hl.2 (by rw [hR]; simp)
        refine ⟨some c, _, by rw [hrun, hR], hstop _ c pre _ (Nat.le_refl _) (own_turn (hIx c) hi hl _) ((World.putObj_heap_other (by omega)).trans hl.1)⟩
end
end Go.Proofs.Yteljibjbndpncaa
/- What a loop over an iterator may turn: one block of the caller's (its root), and the blocks that the root's slices own. No program is named here. -/
namespace Go.Proofs.Yteljibjbndpncaa
open Go.RowKit

/-- A block of cells that is not frozen. -/
def IsZ (w : World) (b : Nat) : Prop := ∃ c e, w.heap[b]? = some (.cells c e (0, 0))
theorem IsZ.isC {w : World} {b : Nat} (h : IsZ w b) : IsC w b := by
  obtain ⟨c, e, h⟩ := h
  exact ⟨c, e, _, h⟩
theorem IsZ.lt {w : World} {b : Nat} (h : IsZ w b) : b < w.heap.size := h.isC.lt
theorem IsZ.same {w w' : World} {b : Nat} (h : IsZ w b) (he : w'.heap[b]? = w.heap[b]?) : IsZ w' b := by
  obtain ⟨c, e, h⟩ := h
  exact ⟨c, e, he.trans h⟩
theorem IsZ.frozen {w : World} {b : Nat} (h : IsZ w b) (off : Nat) : w.frozen? ⟨b, off, none⟩ = false := by
  obtain ⟨c, e, h⟩ := h
  simp [World.frozen?, h]
theorem IsZ.set {w : World} {b off : Nat} {v : Value} (h : IsZ w b) : IsZ (w.setCell ⟨b, off, none⟩ v) b := by
  obtain ⟨c, e, h⟩ := h
  obtain ⟨hlt, hk⟩ := Array.getElem?_eq_some_iff.1 h
  refine ⟨c.setIfInBounds off v, e, ?_⟩
  show (w.heap.modify b _)[b]? = _
  rw [Array.getElem?_eq_getElem (by rw [Array.size_modify]; exact hlt), Array.getElem_modify_self, hk]
  rfl

/-- The blocks that the body may write. -/
def Mut (R : Nat) (M : Nat → Prop) (W : World) (b : Nat) : Prop := b = R ∨ ∃ off v, M off ∧ W.cell? ⟨R, off, none⟩ = some v ∧ v.ownBlock = some b
/-- The root lies below 'base'; its cells of M hold slices that own blocks from 'base' on. -/
structure Ground (R : Nat) (M : Nat → Prop) (base : Nat) (W : World) : Prop where
  root : IsZ W R
  lt : R < base
  le : base ≤ W.heap.size
  own : ∀ off, M off → ∃ (A : Option Addr) (n c : Nat), W.cell? ⟨R, off, none⟩ = some (.slice A n c) ∧ ∀ b, (Value.slice A n c).ownBlock = some b → base ≤ b ∧ b < W.heap.size
/-- What has stood since w. -/
structure Still (R : Nat) (M : Nat → Prop) (w W : World) : Prop where
  block : ∀ b, b < w.heap.size → IsC w b → b ≠ R → W.heap[b]? = w.heap[b]?
  cell : ∀ off, ¬ M off → W.cell? ⟨R, off, none⟩ = w.cell? ⟨R, off, none⟩
def Seen (R : Nat) (M : Nat → Prop) (w W : World) : Prop := Ground R M w.heap.size W ∧ Still R M w W
/-- What the body keeps. -/
structure Kept1 (R : Nat) (M : Nat → Prop) (base : Nat) (W W' : World) : Prop where
  size : W.heap.size ≤ W'.heap.size
  block : ∀ b, IsC W b → ¬ Mut R M W b → W'.heap[b]? = W.heap[b]?
  turns : ∀ b, b < W.heap.size → Mut R M W' b → Mut R M W b
  cell : ∀ off, ¬ M off → W'.cell? ⟨R, off, none⟩ = W.cell? ⟨R, off, none⟩
  ground : Ground R M base W'
def Keeps (R : Nat) (M : Nat → Prop) (base : Nat) (W W' : World) : Prop := Ground R M base W → Kept1 R M base W W'
/-- A block of the loop's that nobody turns. -/
def Free (R : Nat) (M : Nat → Prop) (base : Nat) (W : World) (b : Nat) : Prop := base ≤ b ∧ b < W.heap.size ∧ ¬ Mut R M W b

section
variable {R base : Nat} {M : Nat → Prop} {w W W' X Y Z : World}

theorem Mut.of_cells (h : ∀ off, M off → W'.cell? ⟨R, off, none⟩ = W.cell? ⟨R, off, none⟩) {b : Nat} : Mut R M W' b ↔ Mut R M W b := by
  unfold Mut
  constructor
  · rintro (h1 | ⟨off, v, h1, h2, h3⟩)
    · exact .inl h1
    · exact .inr ⟨off, v, h1, (h off h1).symm.trans h2, h3⟩
  · rintro (h1 | ⟨off, v, h1, h2, h3⟩)
    · exact .inl h1
    · exact .inr ⟨off, v, h1, (h off h1).trans h2, h3⟩
theorem Mut.low (h : Ground R M base W) {b : Nat} (hm : Mut R M W b) : b = R ∨ base ≤ b ∧ b < W.heap.size := by
  rcases hm with h1 | ⟨off, v, h1, h2, h3⟩
  · exact .inl h1
  · obtain ⟨A, n, c, e, h4⟩ := h.own off h1
    rw [e] at h2
    cases h2
    exact .inr (h4 b h3)
/-- Where the root's block stands, and what lies is longer. -/
theorem Ground.same (h : Ground R M base W) (hs : W.heap.size ≤ W'.heap.size) (hr : W'.heap[R]? = W.heap[R]?) : Ground R M base W' :=
  ⟨h.root.same hr, h.lt, Nat.le_trans h.le hs, fun off hm => by
    obtain ⟨A, n, c, e, h4⟩ := h.own off hm
    exact ⟨A, n, c, (World.cell?_of_block (w := W) (a := ⟨R, off, none⟩) hr).trans e, fun b hb => ⟨(h4 b hb).1, Nat.lt_of_lt_of_le (h4 b hb).2 hs⟩⟩⟩
theorem Ground.below (h : Ground R M base W) (hb : Below W.heap.size W W') : Ground R M base W' := h.same hb.size (hb.block R h.root.lt)
theorem mut_below (h : Ground R M base W) (hb : Below W.heap.size W W') {b : Nat} : Mut R M W' b ↔ Mut R M W b :=
  Mut.of_cells fun off _ => World.cell?_of_block (w := W) (a := ⟨R, off, none⟩) (hb.block R h.root.lt)
theorem Keeps.below (hb : Below W.heap.size W W') : Keeps R M base W W' := fun h =>
  ⟨hb.size, fun b hc _ => hb.block b hc.lt, fun _ _ hm => (mut_below h hb).1 hm, fun off _ => World.cell?_of_block (w := W) (a := ⟨R, off, none⟩) (hb.block R h.root.lt), h.below hb⟩
theorem Keeps.trans (h : Keeps R M base X Y) (k : Keeps R M base Y Z) : Keeps R M base X Z := fun g =>
  have h1 := h g
  have k1 := k h1.ground
  ⟨Nat.le_trans h1.size k1.size, fun b hc hm => by
      have e := h1.block b hc hm
      exact (k1.block b (hc.same e) (fun hm' => hm (h1.turns b hc.lt hm'))).trans e,
    fun b hb hm => h1.turns b hb (k1.turns b (Nat.lt_of_lt_of_le hb h1.size) hm), fun off hm => (k1.cell off hm).trans (h1.cell off hm), k1.ground⟩
theorem Keeps.putObj {l : Nat} {o o' : Obj} (hl : W.heap[l]? = some o) (hc : o.isCells = false) : Keeps R M base W (W.putObj l o') := fun h => by
  have hne : ∀ b, IsC W b → b ≠ l := fun b hb e => by
    obtain ⟨c, e', f, hb⟩ := hb
    rw [e, hl] at hb
    cases hb
    cases hc
  have hs : W.heap.size ≤ (W.putObj l o').heap.size := by simp
  have hr : (W.putObj l o').heap[R]? = W.heap[R]? := World.putObj_heap_other (hne R h.root.isC)
  exact ⟨hs, fun b hb _ => World.putObj_heap_other (hne b hb), fun b _ hm => (Mut.of_cells fun off _ => World.cell?_of_block (w := W) (a := ⟨R, off, none⟩) hr).1 hm, fun off _ => World.cell?_of_block (w := W) (a := ⟨R, off, none⟩) hr, h.same hs hr⟩
theorem Seen.refl (h : Ground R M w.heap.size w) : Seen R M w w := ⟨h, fun _ _ _ _ => rfl, fun _ _ => rfl⟩
theorem Seen.below (h : Seen R M w W) (hb : Below W.heap.size W W') : Seen R M w W' :=
  ⟨h.1.below hb, fun b hb1 hc hr => (hb.block b (Nat.lt_of_lt_of_le hb1 h.1.le)).trans (h.2.block b hb1 hc hr), fun off hm => (World.cell?_of_block (w := W) (a := ⟨R, off, none⟩) (hb.block R h.1.root.lt)).trans (h.2.cell off hm)⟩
theorem Seen.keeps (h : Seen R M w W) (hk : Keeps R M w.heap.size W W') : Seen R M w W' := by
  have k := hk h.1
  refine ⟨k.ground, fun b hb1 hc hr => ?_, fun off hm => (k.cell off hm).trans (h.2.cell off hm)⟩
  have e := h.2.block b hb1 hc hr
  refine (k.block b (hc.same e) fun hm => ?_).trans e
  rcases hm.low h.1 with h1 | h1
  · exact hr h1
  · omega
theorem Seen.own (B : Nat) : OwnFrom B (fun (_ : Unit) W => Seen R M w W) := by
  intro s X Y row h hg hrow
  have hne : ∀ b, IsC X b → some b ≠ row := fun b hb e => by
    obtain ⟨_, o, ho, hc⟩ := hrow b e.symm
    obtain ⟨c, e', f, hb⟩ := hb
    rw [hb] at ho; cases ho; cases hc
  have hr := hg.block R h.1.root.lt (hne R h.1.root.isC)
  exact ⟨h.1.same hg.size hr, fun b hb1 hc hR => by
    have e := h.2.block b hb1 hc hR
    exact (hg.block b (Nat.lt_of_lt_of_le hb1 h.1.le) (hne b (hc.same e))).trans e, fun off hm => (World.cell?_of_block (w := X) (a := ⟨R, off, none⟩) hr).trans (h.2.cell off hm)⟩
theorem Free.fresh (h : Ground R M base W) (hb : Below W.heap.size W W') {b : Nat} (h1 : W.heap.size ≤ b) (h2 : b < W'.heap.size) : Free R M base W' b :=
  ⟨Nat.le_trans h.le h1, h2, fun hm => by
    have := h.lt
    have := h.le
    rcases ((mut_below h hb).1 hm).low h with h3 | h3 <;> omega⟩
theorem Free.below {b : Nat} (hf : Free R M base W b) (h : Ground R M base W) (hb : Below W.heap.size W W') : Free R M base W' b :=
  ⟨hf.1, Nat.lt_of_lt_of_le hf.2.1 hb.size, fun hm => hf.2.2 ((mut_below h hb).1 hm)⟩
theorem Free.keeps {b : Nat} (hf : Free R M base W b) (h : Ground R M base W) (hc : IsC W b) (hk : Keeps R M base W W') : Free R M base W' b ∧ W'.heap[b]? = W.heap[b]? :=
  have k := hk h
  ⟨⟨hf.1, Nat.lt_of_lt_of_le hf.2.1 k.size, fun hm => hf.2.2 (k.turns b hf.2.1 hm)⟩, k.block b hc hf.2.2⟩
theorem Free.val_keeps {α : Type} {r : Rep α} {v : Value} {x : α} (hv : r.val (Free R M base W) W v x) (h : Ground R M base W) (hk : Keeps R M base W W') : r.val (Free R M base W') W' v x :=
  Rep.val_keep (fun _ hb hc => Free.keeps hb h hc hk) hv
theorem Free.at_keeps {α : Type} {r : Rep α} {A : Option Addr} {xs : List α} (hv : r.At (Free R M base W) W A xs) (h : Ground R M base W) (hk : Keeps R M base W W') : r.At (Free R M base W') W' A xs :=
  Rep.At.keep (fun _ hb hc => Free.keeps hb h hc hk) hv
theorem Free.val_own {α : Type} (r : Rep α) (v : Value) (x : α) (B : Nat) : OwnFrom B (fun (_ : Unit) W => Ground R M base W ∧ r.val (Free R M base W) W v x) := by
  rintro s X Y row ⟨h, hv⟩ hg hrow
  have hne : ∀ b, IsC X b → some b ≠ row := fun b hb e => by
    obtain ⟨_, o, ho, hc⟩ := hrow b e.symm
    obtain ⟨c, e', f, hb⟩ := hb
    rw [hb] at ho; cases ho; cases hc
  have hr := hg.block R h.root.lt (hne R h.root.isC)
  refine ⟨h.same hg.size hr, Rep.val_keep (fun b hb hc => ⟨⟨hb.1, Nat.lt_of_lt_of_le hb.2.1 hg.size, fun hm => hb.2.2 ((Mut.of_cells fun off _ => World.cell?_of_block (w := X) (a := ⟨R, off, none⟩) hr).1 hm)⟩, hg.block b hc.lt (hne b hc)⟩) hv⟩

theorem isC_of_cell {a : Addr} {v : Value} (h : W.cell? a = some v) : IsC W a.block := by
  obtain ⟨o, ho, hc⟩ := cells_of_cell h
  cases o with
  | cells c e f => exact ⟨c, e, f, ho⟩
  | _ => cases hc

theorem Rep.acc_isC {α : Type} {r : Rep α} {e : Nat} {Q : Nat → Prop} {v : Value} {xs : List α} (h : r.acc e base Q W v xs) : ∀ b, v.ownBlock = some b → IsC W b := by
  obtain ⟨cells, h1, _⟩ := h
  rcases h1.2 with ⟨rfl, _⟩ | ⟨g, cap, cur, rfl, _, hg, _⟩
  · intro b hb; cases hb
  · intro b hb
    injection hb with hb
    subst hb
    exact ⟨_, _, _, hg⟩

/-- A slice that lies in a cell of the root is appended to, and stored there. -/
theorem Keeps.collect {W2 W7 : World} {off : Nat} {v v7 : Value} (hM : M off) (hb : Below W.heap.size W W2) (hc : W.cell? ⟨R, off, none⟩ = some v) (hg : W2.grownBy W7 v.ownBlock) (ho : v7.ownBlock = v.ownBlock ∨ ∃ g, v7.ownBlock = some g ∧ W2.heap.size ≤ g) (hs : ∃ A n c, v7 = .slice A n c)
    (hown : ∀ b, v7.ownBlock = some b → base ≤ b ∧ b < W7.heap.size) : Keeps R M base W (W7.setCell ⟨R, off, none⟩ v7) := fun h => by
  have hsz : (W7.setCell ⟨R, off, none⟩ v7).heap.size = W7.heap.size := by simp [World.setCell]
  have hz2 := hb.size
  have hz7 := hg.size
  have hv : ∀ b, v.ownBlock = some b → base ≤ b ∧ b < W.heap.size := by
    obtain ⟨A, n, c, e, h4⟩ := h.own off hM
    rw [hc] at e
    cases e
    exact h4
  have hR7 : W7.heap[R]? = W.heap[R]? := (hg.block R (by have := h.root.lt; omega) (fun e => by have := (hv R e.symm).1; have := h.lt; omega)).trans (hb.block R h.root.lt)
  have hc7 : ∀ o, W7.cell? ⟨R, o, none⟩ = W.cell? ⟨R, o, none⟩ := fun o => World.cell?_of_block (w := W) (a := ⟨R, o, none⟩) hR7
  have hset : (W7.setCell ⟨R, off, none⟩ v7).cell? ⟨R, off, none⟩ = some v7 := World.cell?_setCell_same W7 _ _ ((hc7 off).trans hc)
  have hoth : ∀ o, o ≠ off → (W7.setCell ⟨R, off, none⟩ v7).cell? ⟨R, o, none⟩ = W.cell? ⟨R, o, none⟩ := fun o hne => (World.cell?_setCell_other W7 _ _ v7 (fun e => hne (by injection e with _ e; exact e.symm))).trans (hc7 o)
  refine ⟨by omega, fun b hcb hm => ?_, fun b hlt hm => ?_, fun o hm => hoth o (fun e => hm (e ▸ hM)), ⟨(h.root.same hR7).set, h.lt, by have := h.le; omega, fun o hm => ?_⟩⟩
  · rw [Below.heap_setCell _ _ _ _ (fun e => hm (.inl e)), hg.block b (by have := hcb.lt; omega) (fun e => hm (.inr ⟨off, v, hM, hc, e.symm⟩)), hb.block b hcb.lt]
  · rcases hm with h1 | ⟨o, u, h1, h2, h3⟩
    · exact .inl h1
    · by_cases he : o = off
      · subst he
        rw [hset] at h2
        cases h2
        rcases ho with e | ⟨g, e, hgz⟩
        · exact .inr ⟨o, v, h1, hc, e ▸ h3⟩
        · rw [e] at h3; injection h3 with h3; omega
      · exact .inr ⟨o, u, h1, (hoth o he).symm.trans h2, h3⟩
  · by_cases he : o = off
    · subst he
      obtain ⟨A, n, c, rfl⟩ := hs
      exact ⟨A, n, c, hset, fun b hb' => by have := hown b hb'; omega⟩
    · obtain ⟨A, n, c, e, h4⟩ := h.own o hm
      exact ⟨A, n, c, (hoth o he).trans e, fun b hb' => by have := h4 b hb'; omega⟩
theorem KeepsFrom.collect {W2 W7 : World} {B : Nat} {a : Addr} {u : Value} {row : Option Nat} (hb : Below W.heap.size W W2) (hg : W2.grownBy W7 row) (hr : ∀ b, row = some b → IsC W b) : KeepsFrom B W (W7.setCell a u) := by
  refine ((KeepsOthers.trans ⟨hb.size, fun k _ hk _ => (hb.block k (Array.getElem?_eq_some_iff.1 hk).1).trans hk⟩ (KeepsOthers.of_grownBy hg fun j o hj ho => ?_)).trans (KeepsOthers.setCell _ _ _)).from B
  have hc := hr j hj
  obtain ⟨c, e, f, h⟩ := hc
  rw [hb.block j (Array.getElem?_eq_some_iff.1 h).1, h] at ho
  cases ho; rfl
end
end Go.Proofs.Yteljibjbndpncaa
