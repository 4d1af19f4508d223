/- Texts on which the proofs stand: RangeV, RangeA. No condition is laid on any input. -/
import Derived.RangeFuncWrites
namespace Go.Proofs.YtghbfbohnoebiaaGreat
open Go.RowKit

/-- The contract of an iterator: an element is handed on in a world in which 'V' holds of it. -/
def SeqV {α : Type} (F : Fence) (n : Nat) (P : Program) (g : Nat) (lb : Array Value) (encs : α → Array Value) (V : List α → α → World → Prop) (Kp : World → World → Prop) (S : List α → Prop) (w : World) : Prop :=
  ∀ (l : Nat) (J Jx : List α → World → Prop) (W : World), Below w.heap.size w W → AbidesFrom W.heap.size J → AbidesFrom W.heap.size Jx →
    (∀ pre x W1, J pre W1 → V pre x W1 → YieldAt F (n - 1) P l (encs x) W1 fun e W' =>
      (e = .returned (.bool true) ∧ J (pre ++ [x]) W' ∧ Kp W1 W') ∨ (e = .returned (.bool false) ∧ Jx (pre ++ [x]) W')) →
    J [] W →
    CallsIn F n P g (#[.func (.yield l) #[] #[]] ++ lb) W fun e W' => (∃ v, e = .returned v) ∧ ((∃ xs, S xs ∧ J xs W') ∨ (∃ pre, Jx pre W'))

/-- Both blocks of the statement: that of the deferred calls, at B, and the loop's record behind it. -/
def Laid (B : Nat) (r : Loop) (W : World) : Prop := W.heap[B]? = some (.deferred (some [])) ∧ W.heap[B + 1]? = some (.loop r)
theorem Laid.keep {B : Nat} {r : Loop} {W W' : World} (h : Laid B r W) (hk : ∀ (k : Nat) (o : Obj), B ≤ k → W.heap[k]? = some o → o.isCells = false → o.isWalk = false → W'.heap[k]? = some o) : Laid B r W' :=
  ⟨hk _ _ (Nat.le_refl _) h.1 rfl rfl, hk _ _ (Nat.le_succ _) h.2 rfl rfl⟩
theorem Laid.turn {B : Nat} {r : Loop} {W : World} (h : Laid B r W) (r' : Loop) : Laid B r' (W.putObj (B + 1) (.loop r')) :=
  ⟨(World.putObj_heap_other (by omega)).trans h.1, World.putObj_heap_same (Array.getElem?_eq_some_iff.1 h.2).1⟩
theorem Laid.grown {B C : Nat} {r : Loop} {W W' : World} {row : Option Nat} (h : Laid B r W) (hg : W.grownBy W' row) (hr : ∀ k, row = some k → C ≤ k ∧ ∃ o : Obj, W.heap[k]? = some o ∧ o.isWalk = true) : Laid B r W' :=
  h.keep fun k o _ ho _ hw => (hg.block k (Array.getElem?_eq_some_iff.1 ho).1 (fun e => by
    obtain ⟨_, o', ho', hw'⟩ := hr k e.symm
    rw [ho] at ho'
    cases ho'
    rw [hw] at hw'
    cases hw')).trans ho
theorem Laid.from {B : Nat} {r : Loop} {W W' : World} (h : Laid B r W) (hk : KeepsFrom B W W') : Laid B r W' := h.keep fun k o hB ho hc _ => hk.same k o hB ho hc
theorem own_turn {α : Type} {B : Nat} {I : α → World → Prop} (hI : OwnFrom B I) {s : α} {W : World} {r : Loop} (h : I s W) (hl : Laid B r W) (r' : Loop) : I s (W.putObj (B + 1) (.loop r')) :=
  hI.putObj _ h (by omega) hl.2 rfl

section
variable {F : Fence} {n : Nat} {P : Program}

/-- A round's end, by the way in which its body is left. -/
theorem round_ends {α : Type} {B l : Nat} (hl : l = B + 1) {Kp : World → World → Prop} {I : List α → World → Prop} {Ix : Code → List α → World → Prop} (hI : OwnFrom B I) (hIx : ∀ c, OwnFrom B (Ix c))
    (hKt : ∀ {X Y Z : World}, Kp X Y → Kp Y Z → Kp X Z) (hKb : ∀ (W : World) (l : Nat) (o o' : Obj), B ≤ l → W.heap[l]? = some o → o.isCells = false → o.isWalk = false → Kp W (W.putObj l o'))
    (R : LoopState → Option Code → Loop) (hR : ∀ s p s' p', ({ state := s', pending := p', fn := (R s p).fn, tmps := (R s p).tmps, params := (R s p).params, assign := (R s p).assign, body := (R s p).body, defers := (R s p).defers } : Loop) = R s' p') {xs : List α} {W0 W : World} (h0 : Kp W0 W) (hL : Laid B (R .busy none) W) :
    ∀ e a W3, ownPostG B Kp I Ix xs W e a W3 → roundPost P l (fun e W' => (e = .returned (.bool true) ∧ (I xs W' ∧ Laid B (R .ready none) W') ∧ Kp W0 W') ∨ (e = .returned (.bool false) ∧ ∃ c, Ix c xs W' ∧ Laid B (R .done (some c)) W')) e a W3 := by
  subst hl
  intro e a W3 hp
  have stop : ∀ c, KeepsFrom B W W3 → Ix c xs W3 → ∃ v w', (Instr.endRound (B + 1) (some c)).run P W3 = .ok v w' ∧ ((.returned v = Ending.returned (.bool true) ∧ (I xs w' ∧ Laid B (R .ready none) w') ∧ Kp W0 w') ∨ (Ending.returned v = .returned (.bool false) ∧ ∃ c, Ix c xs w' ∧ Laid B (R .done (some c)) w')) := fun c hk hi => by
    have hL3 := hL.from hk
    have hrun := run_endRound (P := P) (some c) hL3.2
    rw [hR] at hrun
    exact ⟨_, _, hrun, .inr ⟨rfl, c, own_turn (hIx c) hi hL3 _, hL3.turn _⟩⟩
  cases e with
  | normal =>
    obtain ⟨hk, hkp, hi⟩ := hp
    have hL3 := hL.from hk
    have hrun := run_endRound (P := P) none hL3.2
    rw [hR] at hrun
    exact ⟨_, _, hrun, .inl ⟨rfl, ⟨own_turn hI hi hL3 _, hL3.turn _⟩, hKt (hKt h0 hkp) (hKb _ _ _ _ (Nat.le_succ _) hL3.2 rfl rfl)⟩⟩
  | ret => exact stop .ret hp.1 hp.2
  | exit id => exact stop (.exit id) hp.1 hp.2
  | goto t => exact stop (.goto t) hp.1 hp.2
  | panic _ => exact hp.elim
  | outgrown => exact hp.elim

end
end Go.Proofs.YtghbfbohnoebiaaGreat
namespace Go.Proofs.YtghbfbohnoebiaaGreat
open Go.RowKit

theorem Laid.alloc {B : Nat} {r : Loop} {W : World} (h : Laid B r W) (o : Obj) : Laid B r (W.alloc o) :=
  h.keep fun k _ _ ho _ _ => (Below.heap_alloc W o k (Array.getElem?_eq_some_iff.1 ho).1).trans ho

section
variable {F : Fence} {n : Nat} {P : Program}

/-- The statement 'for .. := range g { .. }', over such an iterator; the round begins with one new block. -/
theorem wpIn_rangeFunc_va {α : Type} {g : Operand} {ps : Array Tmp} {assign body : Code} {Q : Exit → Act → World → Prop} {a : Act} {w : World}
    (hro : F.round = none) (h1 : 1 ≤ n) {gf : Nat} {lb : Array Value} (hg : a.eval g = .func (.func gf) #[] lb) (hFg : F.fn gf) (eg : ∀ args w, (callFunc gf args).run P w = .ok (.enter gf args) w)
    {encs : α → Array Value} {V : List α → α → World → Prop} {Kp : World → World → Prop} {S : List α → Prop} {w0 : World} (hseq : SeqV F (n - 1) P gf lb encs V Kp S w0)
    (hKt : ∀ {X Y Z : World}, Kp X Y → Kp Y Z → Kp X Z) (hKa : ∀ (W : World) (o : Obj), w.heap.size ≤ W.heap.size → Kp W (W.alloc o)) (hKb : ∀ (W : World) (l : Nat) (o o' : Obj), w.heap.size ≤ l → W.heap[l]? = some o → o.isCells = false → o.isWalk = false → Kp W (W.putObj l o')) (hb0 : Below w0.heap.size w0 w) (hps : ∀ x, (encs x).size = ps.size)
    (I : List α → World → Prop) (Ix : Code → List α → World → Prop) (hI : OwnFrom w.heap.size I) (hIx : ∀ c, OwnFrom w.heap.size (Ix c)) (hV : OwnFrom w.heap.size fun (p : List α × α) W => V p.1 p.2 W) (h0 : I [] w) (a₁ : α → Nat → Act) (bx : α → Obj)
    (hassign : ∀ (l : Nat) (x : α) (W : World) (K : Act → World → Prop), K (a₁ x W.heap.size) (W.alloc (bx x)) →
      assign.wpIn (F.inRound l) (n - 1 - 1) P (Exit.then K (fun _ _ _ => False)) { tmps := (ps.zip (encs x)).foldl (fun t (p, v) => t.setIfInBounds p v) a.tmps, defers := [] } W)
    (hbody : ∀ (l : Nat) (pre : List α) (x : α) (b : Nat) (W : World), I pre W → V pre x W → w.heap.size ≤ b → b < W.heap.size → W.heap[b]? = some (bx x) → body.wpIn (F.inRound l) (n - 1 - 1) P (ownPostG w.heap.size Kp I Ix (pre ++ [x]) W) (a₁ x b) W)
    (hdone : ∀ (D : Nat) (xs : List α) (W : World), w.heap.size ≤ D → S xs → I xs W → W.heap[D]? = some (.deferred (some [])) → Q .normal { a with defers := { target := .collected D, args := #[] } :: a.defers } W)
    (hstop : ∀ (D : Nat) (c : Code) (pre : List α) (W : World), w.heap.size ≤ D → Ix c pre W → W.heap[D]? = some (.deferred (some [])) → c.wpIn F n P Q { a with defers := { target := .collected D, args := #[] } :: a.defers } W) :
    (Code.rangeFunc g ps assign body).wpIn F n P Q a w := by
  refine wpIn_rangeFunc fun fn hfn => ?_
  rw [hro]
  obtain ⟨R, hR⟩ : ∃ R : LoopState → Option Code → Loop, R = fun st pe => { state := st, pending := pe, fn, tmps := a.tmps, params := ps, assign, body, defers := w.heap.size } := ⟨_, rfl⟩
  have hRR : ∀ s p s' p', ({ state := s', pending := p', fn := (R s p).fn, tmps := (R s p).tmps, params := (R s p).params, assign := (R s p).assign, body := (R s p).body, defers := (R s p).defers } : Loop) = R s' p' := fun _ _ _ _ => by rw [hR]
  obtain ⟨W1, hW1⟩ : ∃ W1, (w.alloc (.deferred (some []))).alloc (.loop (R .ready none)) = W1 := ⟨_, rfl⟩
  have hsz : W1.heap.size = w.heap.size + 2 := by rw [← hW1]; simp
  have hL1 : Laid w.heap.size (R .ready none) W1 := by
    rw [← hW1]
    refine ⟨(Below.heap_alloc _ _ _ (by simp)).trans (World.alloc_heap_new w _), ?_⟩
    have := World.alloc_heap_new (w.alloc (.deferred (some []))) (.loop (R .ready none))
    rwa [World.size_alloc] at this
  have hbel : Below w.heap.size w W1 := by rw [← hW1]; exact ((Below.refl _ w).alloc (Nat.le_refl _) _).alloc (by simp) _
  have hI1 : I [] W1 := by rw [← hW1]; exact hI.alloc _ (hI.alloc _ h0)
  refine ⟨w.heap.size + 1, [{ target := .collected w.heap.size, args := #[] }], W1, { target := .fn (.func gf) lb, args := #[.func (.yield (w.heap.size + 1)) #[] #[]] }, W1, gf, #[.func (.yield (w.heap.size + 1)) #[] #[]] ++ lb, W1, ?_, ?_, ?_, ?_, fun _ => h1, ?_⟩
  · rw [← hW1, hR]; exact run_enterLoop_outer _ _ _ _ _
  · simp only [resolve, hg]
    simp [go_sem]
  · intro f' hf'
    simp [Target.leads] at hf'
    subst hf'
    exact hFg
  · simp [invoke, go_sem, eg]
  · have hcells : ∀ {X : World} {row : Option Nat}, (∀ r, row = some r → W1.heap.size ≤ r ∧ ∃ o : Obj, X.heap[r]? = some o ∧ o.isWalk = true) → (∀ r, row = some r → w.heap.size ≤ r ∧ ∃ o : Obj, X.heap[r]? = some o ∧ o.isCells = false) := fun hr r e => by
      obtain ⟨hB, o, ho, hw⟩ := hr r e
      exact ⟨by omega, o, ho, Obj.not_cells_of_walk hw⟩
    refine (hseq (w.heap.size + 1) (fun pre W => I pre W ∧ Laid w.heap.size (R .ready none) W) (fun pre W => ∃ c, Ix c pre W ∧ Laid w.heap.size (R .done (some c)) W) W1 (hb0.trans (hbel.mono hb0.size))
      (fun s X Y row hs hg' hr => ⟨hI s X Y row hs.1 hg' (hcells hr), hs.2.grown hg' hr⟩)
      (fun s X Y row hs hg' hr => by
        obtain ⟨c, hc, hl⟩ := hs
        exact ⟨c, hIx c s X Y row hc hg' (hcells hr), hl.grown hg' hr⟩) ?_ ⟨hI1, hL1⟩).mono ?_
    · rintro pre x W ⟨hi, hl⟩ hv
      have hy := run_yield (P := P) (args := encs x) hl.2 (by rw [hR]; exact hps x)
      rw [hR] at hy
      have hsW : w.heap.size + 1 < W.heap.size := (Array.getElem?_eq_some_iff.1 hl.2).1
      have hla := hl.alloc (bx x)
      have hl2 : Laid w.heap.size (R .busy none) ((W.alloc (bx x)).putObj (w.heap.size + 1) (.loop (R .busy none))) := hla.turn _
      have hbr := run_beginRound (P := P) hla.2 (by rw [hR])
      rw [hRR, show (R .ready none).pending = none by rw [hR]] at hbr
      refine ⟨fn, _, assign, body, hy, roundIn_of_wpIn hfn (hassign _ x W _ ⟨_, hbr, ?_⟩)⟩
      refine wpIn_mono (hbody _ pre x W.heap.size _ (own_turn hI (hI.alloc _ hi) hla _) (hV.putObj (s := (pre, x)) _ (hV.alloc (s := (pre, x)) _ hv) (by omega) hla.2 rfl) (by omega) ?_ ?_) (round_ends (Kp := Kp) rfl hI hIx (fun h k => hKt h k) hKb R hRR (hKt (hKa W _ (by omega)) (hKb _ _ _ _ (Nat.le_succ _) hla.2 rfl rfl)) hl2)
      · simp
      · rw [World.putObj_heap_other (by omega)]; exact World.alloc_heap_new W _
    · rintro e W2 ⟨⟨v, rfl⟩, (⟨xs, hS, hi, hl⟩ | ⟨pre, c, hi, hl⟩)⟩
      · have hrun := run_endLoop (P := P) hl.2 (by rw [hR]; simp)
        refine ⟨none, _, by rw [hrun, hR], hdone _ xs _ (Nat.le_refl _) hS (own_turn hI hi hl _) ((World.putObj_heap_other (by omega)).trans hl.1)⟩
      · have hrun := run_endLoop (P := P) hl.2 (by rw [hR]; simp)
        refine ⟨some c, _, by rw [hrun, hR], hstop _ c pre _ (Nat.le_refl _) (own_turn (hIx c) hi hl _) ((World.putObj_heap_other (by omega)).trans hl.1)⟩
end
end Go.Proofs.YtghbfbohnoebiaaGreat
