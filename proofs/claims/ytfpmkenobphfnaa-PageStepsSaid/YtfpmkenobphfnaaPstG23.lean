/- Texts on which the proofs stand: DiskSteps, PageMath, PageTwin, DiskNeg, PageNil. No condition is laid on any input. -/
import Derived.Test.YtfpmkenobphfnaaPstG1
import Derived.Test.YtfpmkenobphfnaaPstG18
import Derived.Test.YtfpmkenobphfnaaPstG20
import Derived.Test.YtfpmkenobphfnaaPstG21
import Derived.Test.YtfpmkenobphfnaaPstG22
import Derived.Test.YtfpmkenobphfnaaPstG7
import Derived.Test.YtfpmkenobphfnaaPstRPageDev
/- The statement on what each step of a device's script tells, walked. -/
namespace Go.Proofs.Ytfpmkenobphfnaa
open Go.RowKit

theorem burnW_keeps (d : DDisk) : (burnW d).1.wait = d.wait ∧ (burnW d).1.safe = d.safe := ⟨(burnW_same d).2, (burnW_same d).1⟩
theorem goW_wait (d : DDisk) (x : DStep) : (goW d x).1.wait.length ≤ d.wait.length + 1 := by
  have h := (burnW_same d).2
  unfold goW
  split
  · exact Nat.le_succ _
  · split
    · exact Nat.zero_le _
    · split
      · exact Nat.le_succ _
      · split
        · show (burnW d).1.wait.length ≤ _; rw [h]; exact Nat.le_succ _
        · split
          · show ((burnW d).1.wait ++ [_]).length ≤ _; rw [h, List.length_append]; exact Nat.le_refl _
          · split
            · exact Nat.zero_le _
            · show (burnW d).1.wait.length ≤ _; rw [h]; exact Nat.le_succ _
theorem goW_safe (d : DDisk) (x : DStep) : (goW d x).1.safe.length = d.safe.length := by
  have h := (burnW_same d).1
  unfold goW
  split
  · rfl
  · split
    · exact crashTail_length d x.fates _
    · split
      · rfl
      · split
        · show (burnW d).1.safe.length = _; rw [h]
        · split
          · show (burnW d).1.safe.length = _; rw [h]
          · split
            · show (syncTail (burnW d).1.safe _).length = _; rw [syncTail_length, h]
            · show (burnW d).1.safe.length = _; rw [h]
/-- A box made ahead of a call. -/
theorem zero_kept {w4 w5 : World} (h : Below (w4.alloc (.cells #[.slice none 0 0, .slice none 0 0, .int .i64 0, .bool false, .int .i64 0, .int .i64 0] 33)).drew.heap.size (w4.alloc (.cells #[.slice none 0 0, .slice none 0 0, .int .i64 0, .bool false, .int .i64 0, .int .i64 0] 33)).drew w5) :
    w5.cell? ⟨w4.heap.size, 0, none⟩ = some (.slice none 0 0) ∧ w5.cell? ⟨w4.heap.size, 1, none⟩ = some (.slice none 0 0) ∧ w5.cell? ⟨w4.heap.size, 2, none⟩ = some (.int .i64 0) ∧ w5.cell? ⟨w4.heap.size, 3, none⟩ = some (.bool false) ∧ w5.cell? ⟨w4.heap.size, 4, none⟩ = some (.int .i64 0) ∧ w5.cell? ⟨w4.heap.size, 5, none⟩ = some (.int .i64 0) ∧
    w5.frozen? ⟨w4.heap.size, 0, none⟩ = false ∧ w5.frozen? ⟨w4.heap.size, 1, none⟩ = false ∧ w5.frozen? ⟨w4.heap.size, 2, none⟩ = false ∧ w5.frozen? ⟨w4.heap.size, 3, none⟩ = false ∧ w5.frozen? ⟨w4.heap.size, 4, none⟩ = false ∧ w5.frozen? ⟨w4.heap.size, 5, none⟩ = false := by
  have e := (h.block w4.heap.size (show w4.heap.size < (w4.alloc _).heap.size by simp)).trans (heap_alloc_new w4 _)
  exact ⟨cell_row e 0, cell_row e 1, cell_row e 2, cell_row e 3, cell_row e 4, cell_row e 5, frozen_row e 0, frozen_row e 1, frozen_row e 2, frozen_row e 3, frozen_row e 4, frozen_row e 5⟩
/-- What the reference's step has left: its box, what it reads, and its bytes. -/
structure Fresh (K : Nat → Prop) (B : Nat) (w4 W : World) (m : Nat) (d : DDisk) (E0 : Option Addr) (m0 : Nat) (E1 : Option Addr) (m1 : Nat) (u : Value) (l : List UInt8) : Prop where
  bel : Below w4.heap.size w4 W
  box : W.heap[m]? = some (.cells #[.slice E0 d.safe.length m0, .slice E1 d.wait.length m1, .int .i64 d.fuse, .bool d.off, .int .i64 d.reads, .int .i64 d.writes] 33 (0, 0))
  val : rDisk.val (fun b => (K b ∧ b ≠ B) ∨ w4.heap.size ≤ b) W (.agg #[.slice E0 d.safe.length m0, .slice E1 d.wait.length m1, .int .i64 d.fuse, .bool d.off, .int .i64 d.reads, .int .i64 d.writes]) d
  out : Rep.byte.list.val (fun b => (K b ∧ b ≠ B) ∨ w4.heap.size ≤ b) W u l
theorem fresh1 {K : Nat → Prop} {B : Nat} {w4 w5 Wc : World} {d : DDisk} {E0 E1 : Option Addr} {m0 m1 : Nat} {u : Value} {l : List UInt8} (hb : Below w4.heap.size w4 w5) (hs : w4.heap.size ≤ Wc.heap.size)
    (hz : rDisk.val (fun b => (K b ∧ b ≠ B) ∨ Wc.heap.size ≤ b) w5 (.agg #[.slice E0 d.safe.length m0, .slice E1 d.wait.length m1, .int .i64 d.fuse, .bool d.off, .int .i64 d.reads, .int .i64 d.writes]) d) (hu : Rep.byte.list.val (fun b => (K b ∧ b ≠ B) ∨ Wc.heap.size ≤ b) w5 u l) :
    Fresh K B w4 (w5.alloc (.cells #[.slice E0 d.safe.length m0, .slice E1 d.wait.length m1, .int .i64 d.fuse, .bool d.off, .int .i64 d.reads, .int .i64 d.writes] 33)) w5.heap.size d E0 m0 E1 m1 u l := by
  have h : Below w5.heap.size w5 (w5.alloc (.cells #[.slice E0 d.safe.length m0, .slice E1 d.wait.length m1, .int .i64 d.fuse, .bool d.off, .int .i64 d.reads, .int .i64 d.writes] 33)) := (Below.refl _ _).alloc (Nat.le_refl _) _
  exact ⟨hb.trans (h.mono hb.size), heap_alloc_new w5 _, Rep.val_keep (fun b hq hl => ⟨hq.imp id (fun e => Nat.le_trans hs e), h.block b hl.lt⟩) hz, Rep.val_keep (fun b hq hl => ⟨hq.imp id (fun e => Nat.le_trans hs e), h.block b hl.lt⟩) hu⟩
theorem fresh2 {K : Nat → Prop} {B : Nat} {w4 w5 : World} {d : DDisk} {E0 E1 : Option Addr} {m0 m1 : Nat} {u : Value} {l : List UInt8} (hk : ∀ b, K b → b < w4.heap.size)
    (h5 : Below (w4.alloc (.cells #[.slice none 0 0, .slice none 0 0, .int .i64 0, .bool false, .int .i64 0, .int .i64 0] 33)).drew.heap.size (w4.alloc (.cells #[.slice none 0 0, .slice none 0 0, .int .i64 0, .bool false, .int .i64 0, .int .i64 0] 33)).drew w5)
    (hz : rDisk.val (fun b => (K b ∧ b ≠ B) ∨ (w4.alloc (.cells #[.slice none 0 0, .slice none 0 0, .int .i64 0, .bool false, .int .i64 0, .int .i64 0] 33)).drew.heap.size ≤ b) w5 (.agg #[.slice E0 d.safe.length m0, .slice E1 d.wait.length m1, .int .i64 d.fuse, .bool d.off, .int .i64 d.reads, .int .i64 d.writes]) d) (hu : Rep.byte.list.val (fun b => (K b ∧ b ≠ B) ∨ (w4.alloc (.cells #[.slice none 0 0, .slice none 0 0, .int .i64 0, .bool false, .int .i64 0, .int .i64 0] 33)).drew.heap.size ≤ b) w5 u l) :
    Fresh K B w4 ((((((w5.setCell ⟨w4.heap.size, 0, none⟩ (.slice E0 d.safe.length m0)).setCell ⟨w4.heap.size, 1, none⟩ (.slice E1 d.wait.length m1)).setCell ⟨w4.heap.size, 2, none⟩ (.int .i64 d.fuse)).setCell ⟨w4.heap.size, 3, none⟩ (.bool d.off)).setCell ⟨w4.heap.size, 4, none⟩ (.int .i64 d.reads)).setCell ⟨w4.heap.size, 5, none⟩ (.int .i64 d.writes)) w4.heap.size d E0 m0 E1 m1 u l := by
  have hsz : (w4.alloc (.cells #[.slice none 0 0, .slice none 0 0, .int .i64 0, .bool false, .int .i64 0, .int .i64 0] 33)).drew.heap.size = w4.heap.size + 1 := by
    show (w4.alloc _).heap.size = _
    simp
  have ha : Below w4.heap.size w4 (w4.alloc (.cells #[.slice none 0 0, .slice none 0 0, .int .i64 0, .bool false, .int .i64 0, .int .i64 0] 33)).drew := ((Below.refl w4.heap.size w4).alloc (Nat.le_refl _) _).drew
  have hbut : But w4.heap.size w5 ((((((w5.setCell ⟨w4.heap.size, 0, none⟩ (.slice E0 d.safe.length m0)).setCell ⟨w4.heap.size, 1, none⟩ (.slice E1 d.wait.length m1)).setCell ⟨w4.heap.size, 2, none⟩ (.int .i64 d.fuse)).setCell ⟨w4.heap.size, 3, none⟩ (.bool d.off)).setCell ⟨w4.heap.size, 4, none⟩ (.int .i64 d.reads)).setCell ⟨w4.heap.size, 5, none⟩ (.int .i64 d.writes)) := ((((((But.refl _ _).set _ _).set _ _).set _ _).set _ _).set _ _).set _ _
  have hne : ∀ b, ((K b ∧ b ≠ B) ∨ (w4.alloc (.cells #[.slice none 0 0, .slice none 0 0, .int .i64 0, .bool false, .int .i64 0, .int .i64 0] 33)).drew.heap.size ≤ b) → b ≠ w4.heap.size := fun b hb => by
    rcases hb with hb | hb
    · have := hk b hb.1; omega
    · rw [hsz] at hb; omega
  exact ⟨hbut.below (ha.trans (h5.mono ha.size)) (Nat.le_refl _), row6_set ((h5.block w4.heap.size (by rw [hsz]; exact Nat.lt_succ_self _)).trans (heap_alloc_new w4 _)),
    Rep.val_keep (fun b hb _ => ⟨hb.imp id (fun e => by rw [hsz] at e; omega), hbut.block b (hne b hb)⟩) hz, Rep.val_keep (fun b hb _ => ⟨hb.imp id (fun e => by rw [hsz] at e; omega), hbut.block b (hne b hb)⟩) hu⟩
/-- A device and the reference's, side by side: the reference's lies in the box B. -/
def Twin (w W : World) (P B n k : Nat) (st : DiskSt) (d : DDisk) (A0 : Option Addr) (c0 : Nat) (A1 : Option Addr) (c1 : Nat) : Prop :=
  ∃ K : Nat → Prop, (∀ b, b < w.heap.size → K b) ∧ K B ∧ w.heap.size ≤ B ∧ DevAt K W P n st ∧ W.heap[B]? = some (.cells (dcells d A0 c0 A1 c1) 33 (0, 0)) ∧ rDisk.val (fun b => K b ∧ b ≠ B) W (.agg (dcells d A0 c0 A1 c1)) d ∧ Mirror st d ∧ d.wait.length ≤ n ∧ d.safe.length = k ∧ Below w.heap.size w W

end Go.Proofs.Ytfpmkenobphfnaa
/- Plain law of a script of pages: a device and the reference's stay alike. -/
namespace Go.Proofs.Ytfpmkenobphfnaa
open Go.RowKit

theorem mirror_pageWrite {st : DiskSt} {d : DDisk} (h : Mirror st d) (c : DConf) (epoch p : Int) (b : List UInt8) : Mirror (pageWriteSt st c epoch p b).1 (rpageWriteD d c epoch p b).1 ∧ (pageWriteSt st c epoch p b).2 = (rpageWriteD d c epoch p b).2 := by
  unfold pageWriteSt rpageWriteD
  by_cases h0 : pageOf c p < 0
  · rw [if_pos h0, if_pos h0]; exact ⟨h, rfl⟩
  rw [if_neg h0, if_neg h0]
  by_cases h4 : 472 < b.length
  · rw [if_pos h4, if_pos h4]; exact ⟨h, rfl⟩
  rw [if_neg h4, if_neg h4]
  have hm := mirror_step h ⟨1, pageOf c p, pageBytes epoch p b, []⟩
  have e1 : stepSt st ⟨1, pageOf c p, pageBytes epoch p b, []⟩ = (writeSt st (pageOf c p) (pageBytes epoch p b)).1 := rfl
  have e2 : outSt st ⟨1, pageOf c p, pageBytes epoch p b, []⟩ = ([], (writeSt st (pageOf c p) (pageBytes epoch p b)).2) := rfl
  rw [e1, e2] at hm
  exact ⟨hm.1, by have := congrArg Prod.snd hm.2; exact this⟩
theorem mirror_pageRead {st : DiskSt} {d : DDisk} (h : Mirror st d) (c : DConf) (p : Int) : Mirror (pageReadSt st c p).1 (rpageReadD d c p).1 ∧ (pageReadSt st c p).2 = (rpageReadD d c p).2 := by
  unfold pageReadSt rpageReadD
  by_cases h0 : pageOf c p < 0
  · rw [if_pos h0, if_pos h0]; exact ⟨h, rfl⟩
  rw [if_neg h0, if_neg h0]
  have hm := mirror_step h ⟨0, pageOf c p, [], []⟩
  have e1 : stepSt st ⟨0, pageOf c p, [], []⟩ = (readSt st (pageOf c p)).1 := rfl
  have e2 : outSt st ⟨0, pageOf c p, [], []⟩ = (readSt st (pageOf c p)).2 := rfl
  rw [e1, e2] at hm
  obtain ⟨hm1, hm2⟩ := hm
  rw [hm2]
  by_cases hz : (goW d ⟨0, pageOf c p, [], []⟩).2.2 ≠ 0
  · rw [if_pos hz, if_pos hz]; exact ⟨hm1, rfl⟩
  rw [if_neg hz, if_neg hz]
  cases pageGet (goW d ⟨0, pageOf c p, [], []⟩).2.1 p with
  | none => exact ⟨hm1, rfl⟩
  | some x => exact ⟨hm1, rfl⟩
theorem sound_pageWrite {st : DiskSt} {k : Nat} (h : Sound st k) (c : DConf) (epoch p : Int) (b : List UInt8) : Sound (pageWriteSt st c epoch p b).1 k := by
  unfold pageWriteSt
  split
  · exact h
  · split
    · exact h
    · exact step_sound h ⟨1, pageOf c p, pageBytes epoch p b, []⟩
theorem sound_pageRead {st : DiskSt} {k : Nat} (h : Sound st k) (c : DConf) (p : Int) : Sound (pageReadSt st c p).1 k := by
  have hs : Sound (readSt st (pageOf c p)).1 k := step_sound h ⟨0, pageOf c p, [], []⟩
  unfold pageReadSt
  split
  · exact h
  · split
    · exact hs
    · split <;> exact hs
theorem rwrite_wait (d : DDisk) (c : DConf) (epoch p : Int) (b : List UInt8) : (rpageWriteD d c epoch p b).1.wait.length ≤ d.wait.length + 1 ∧ (rpageWriteD d c epoch p b).1.safe.length = d.safe.length := by
  unfold rpageWriteD
  split
  · exact ⟨Nat.le_succ _, rfl⟩
  · split
    · exact ⟨Nat.le_succ _, rfl⟩
    · exact ⟨goW_wait _ _, goW_safe _ _⟩
theorem rread_wait (d : DDisk) (c : DConf) (p : Int) : (rpageReadD d c p).1.wait.length ≤ d.wait.length + 1 ∧ (rpageReadD d c p).1.safe.length = d.safe.length := by
  unfold rpageReadD
  split
  · exact ⟨Nat.le_succ _, rfl⟩
  · split
    · exact ⟨goW_wait _ _, goW_safe _ _⟩
    · split <;> exact ⟨goW_wait _ _, goW_safe _ _⟩
end Go.Proofs.Ytfpmkenobphfnaa
/- A device and the reference's, side by side: what a store of the reference's keeps. -/
namespace Go.Proofs.Ytfpmkenobphfnaa
open Go.RowKit

theorem Twin.later {w W W' : World} {P B n k : Nat} {st : DiskSt} {d : DDisk} {A0 : Option Addr} {c0 : Nat} {A1 : Option Addr} {c1 : Nat} (h : Twin w W P B n k st d A0 c0 A1 c1) (hb : Below W.heap.size W W') : Twin w W' P B n k st d A0 c0 A1 c1 := by
  obtain ⟨K, h1, h2, h3, h4, h5, h6, h7, h8, h9, h10⟩ := h
  exact ⟨K, h1, h2, h3, h4.below hb, (hb.block B (h4.lt B h2)).trans h5, Rep.val_below h6 hb (fun b hq _ => h4.lt b hq.1), h7, h8, h9, h10.trans (hb.mono h10.size)⟩
theorem Twin.more {w W : World} {P B n n' k : Nat} {st : DiskSt} {d : DDisk} {A0 : Option Addr} {c0 : Nat} {A1 : Option Addr} {c1 : Nat} (h : Twin w W P B n k st d A0 c0 A1 c1) (hn : n ≤ n') : Twin w W P B n' k st d A0 c0 A1 c1 := by
  obtain ⟨K, h1, h2, h3, h4, h5, h6, h7, h8, h9, h10⟩ := h
  exact ⟨K, h1, h2, h3, h4.more hn, h5, h6, h7, Nat.le_trans h8 hn, h9, h10⟩
/-- The reference's new state is stored in its box. -/
theorem twin_store {w w4 W : World} {P B n k : Nat} {K : Nat → Prop} {st : DiskSt} {d' : DDisk} {E0 : Option Addr} {m0 : Nat} {E1 : Option Addr} {m1 : Nat} {a0 a1 a2 a3 a4 a5 : Value} (hKw : ∀ b, b < w.heap.size → K b) (hKB : K B) (hwB : w.heap.size ≤ B)
    (hd : DevAt K w4 P n st) (hb : Below w4.heap.size w4 W) (hrow : w4.heap[B]? = some (.cells #[a0, a1, a2, a3, a4, a5] 33 (0, 0))) (hv : rDisk.val (fun b => (K b ∧ b ≠ B) ∨ w4.heap.size ≤ b) W (.agg (dcells d' E0 m0 E1 m1)) d')
    (hm : Mirror st d') (hn : d'.wait.length ≤ n) (hk : d'.safe.length = k) (hw : Below w.heap.size w w4) :
    Twin w (set6 W B (.slice E0 d'.safe.length m0) (.slice E1 d'.wait.length m1) (.int .i64 d'.fuse) (.bool d'.off) (.int .i64 d'.reads) (.int .i64 d'.writes)) P B n k st d' E0 m0 E1 m1 := by
  have hBlt := hd.lt B hKB
  obtain ⟨Wz, hWz⟩ : ∃ Wz, Wz = set6 W B (.slice E0 d'.safe.length m0) (.slice E1 d'.wait.length m1) (.int .i64 d'.fuse) (.bool d'.off) (.int .i64 d'.reads) (.int .i64 d'.writes) := ⟨_, rfl⟩
  have hbut : But B W Wz := by rw [hWz]; exact ((((((But.refl _ _).set _ _).set _ _).set _ _).set _ _).set _ _).set _ _
  have hr : Wz.heap[B]? = some (.cells #[.slice E0 d'.safe.length m0, .slice E1 d'.wait.length m1, .int .i64 d'.fuse, .bool d'.off, .int .i64 d'.reads, .int .i64 d'.writes] 33 (0, 0)) := by rw [hWz]; exact row6_set ((hb.block B hBlt).trans hrow)
  rw [← hWz]
  refine ⟨fun b => K b ∨ (w4.heap.size ≤ b ∧ b < W.heap.size), fun b h => .inl (hKw b h), .inl hKB, hwB, ?_, hr, ?_, hm, hn, hk, hbut.below (hw.trans (hb.mono hw.size)) hwB⟩
  · obtain ⟨hl, F, BB, hdd, hf⟩ := hd.grow (K' := fun b => K b ∨ (w4.heap.size ≤ b ∧ b < W.heap.size)) hb (fun b h => h)
    exact ⟨fun b h => by rw [hbut.size]; exact hl b h, F, BB, hdd.keep (Nat.le_of_eq hbut.size.symm) (fun b h => hbut.block b (fun e => hf b h (e ▸ .inl hKB))), hf⟩
  · refine Rep.val_keep (fun b h hl => ⟨⟨h.elim (fun e => .inl e.1) (fun e => .inr ⟨e, hl.lt⟩), ?_⟩, hbut.block b ?_⟩) hv <;> (rcases h with h | h; (· exact h.2); (· omega))
theorem share5 {α1 α2 α3 α4 α5 β : Type} {G : Prop} (S : α1 → α2 → α3 → α4 → α5 → β → Prop) {Q : α1 → α2 → α3 → α4 → α5 → β → Prop} (leaf : (∀ a b c d e y, S a b c d e y → Q a b c d e y) → G) (main : ∀ a b c d e y, S a b c d e y → Q a b c d e y) : G := leaf main
/-- The reference's answer waits for its box X. -/
structure Wait (Q : Nat → Prop) (w5 W : World) (X : Nat) (d' : DDisk) (E0 : Option Addr) (m0 : Nat) (E1 : Option Addr) (m1 : Nat) : Prop where
  bel : Below w5.heap.size w5 W
  row : W.heap[X]? = some (.cells #[.slice none 0 0, .slice none 0 0, .int .i64 0, .bool false, .int .i64 0, .int .i64 0] 33 (0, 0))
  big : w5.heap.size ≤ X
  val : rDisk.val (fun b => (Q b ∨ w5.heap.size ≤ b) ∧ b ≠ X) W (.agg #[.slice E0 d'.safe.length m0, .slice E1 d'.wait.length m1, .int .i64 d'.fuse, .bool d'.off, .int .i64 d'.reads, .int .i64 d'.writes]) d'
/-- The reference's answer waits for its box X, and its bytes. -/
structure Wait2 (Q : Nat → Prop) (w5 W : World) (X : Nat) (d' : DDisk) (l : List UInt8) (E0 : Option Addr) (m0 : Nat) (E1 : Option Addr) (m1 : Nat) (A5 : Option Addr) (c5 : Nat) : Prop where
  bel : Below w5.heap.size w5 W
  row : W.heap[X]? = some (.cells #[.slice none 0 0, .slice none 0 0, .int .i64 0, .bool false, .int .i64 0, .int .i64 0] 33 (0, 0))
  big : w5.heap.size ≤ X
  val : rDisk.val (fun b => (Q b ∨ w5.heap.size ≤ b) ∧ b ≠ X) W (.agg #[.slice E0 d'.safe.length m0, .slice E1 d'.wait.length m1, .int .i64 d'.fuse, .bool d'.off, .int .i64 d'.reads, .int .i64 d'.writes]) d'
  out : Rep.byte.list.val (fun b => (Q b ∨ w5.heap.size ≤ b) ∧ b ≠ X) W (.slice A5 l.length c5) l
end Go.Proofs.Ytfpmkenobphfnaa
/- A device of less than no sectors, and of any number up to 4096. -/
namespace Go.Proofs.Ytfpmkenobphfnaa
open Go.RowKit
open Extern.Stop (cell)

set_option maxRecDepth 100000 in
set_option maxHeartbeats 1000000 in
/-- disk.New of a negative number -/
theorem dnew_neg {n : Int} (hneg : n < 0) (w : World) : Calls Try.prog 12 #[.int .i64 n] w (NewPost w n) := by
  have hmm := @run_makeMap Try.prog
  obtain ⟨W1, hW1⟩ : ∃ W1, w.alloc (.map #[] 0) = W1 := ⟨_, rfl⟩
  have hm1 : W1.heap[w.heap.size]? = some (.map #[] 0) := by rw [← hW1]; exact heap_alloc_new _ _
  have hb1 : Below w.heap.size w W1 := by rw [← hW1]; exact (Below.refl _ _).alloc (Nat.le_refl _) _
  have hz1 : W1.heap.size = w.heap.size + 1 := by rw [← hW1]; simp
  obtain ⟨W2, hW2⟩ : ∃ W2, W1.alloc (.cells #[.slice none 0 0, .map (some w.heap.size), .int .i64 (-1), .bool false, .int .i64 0, .int .i64 0] 131) = W2 := ⟨_, rfl⟩
  have hz2 : W2.heap.size = w.heap.size + 1 + 1 := by rw [← hW2]; simp [hz1]
  have H0 := Lib.hid (show NewAt w W2 (w.heap.size + 1) w.heap.size 0 none 0 [] from ⟨rfl, by rw [← hW2, ← hz1]; exact heap_alloc_new _ _, Rep.acc_nil, by rw [← hW2, heap_alloc_old _ _ (by omega)]; exact hm1, by rw [← hW2]; exact hb1.alloc (by omega) _, by simp, by simp, ⟨Nat.le_refl _, by omega, by omega⟩⟩)
  have HN := Lib.hid (show newN n = 0 by rcases newN_cases n with h | h | h <;> omega)
  have hmax : ¬ (0 : Int) < n := by omega
  have hmax2 : ¬ (0 : Int) ≤ n := by omega
  have hmax3 : max n 0 = 0 := by omega
  clear hm1 hb1
  go_enter Try.func12, Try.ntmps12
  go_wp2_with fail
  try rw [hW1]
  try rw [hW2]
  go_wp2_with fail
  clear hW1 hW2 hz1 hz2
  go_loopw [10] (fun i wr => i = .int .i64 0 ∧ wr = W2) (fun _ _ => 0)
  case atStart => exact ⟨rfl, rfl⟩
  case round =>
    obtain ⟨rfl, rfl⟩ := hrel
    go_wp2_with fail
    go_ret
    exact ⟨_, _, none, 0, [], rfl, by rw [HN.out]; exact H0.out, by simp⟩

theorem dev_new_any {n : Int} (h1 : n ≤ 4096) (w : World) : Calls Try.prog 12 #[.int .i64 n] w (DevNew w n) := by
  by_cases h0 : 0 ≤ n
  · exact dev_new h0 h1 w
  refine (dnew_neg (by omega) w).mono ?_
  rintro e w1 ⟨P, M, Sf, cs, xs, rfl, hnew, hz⟩
  have hd := hnew.disk
  have hold := hnew.old
  have he : xs.map (·.1) = List.replicate (newN n) (zeros 512) := by
    rw [List.eq_replicate_iff]
    exact ⟨by rw [List.length_map]; exact hnew.len, fun b hb => by obtain ⟨x, hx, rfl⟩ := List.mem_map.1 hb; exact hz x hx⟩
  rw [he] at hd
  exact ⟨P, rfl, ⟨fun b hb => Nat.lt_of_lt_of_le hb hnew.bel.size, _, _, hd, fun b hF hK => by have := hold b hF; have hK' : b < w.heap.size := hK; omega⟩, hnew.bel⟩
end Go.Proofs.Ytfpmkenobphfnaa
/- Walks of the writing and the reading of a page where there is no device. -/
namespace Go.Proofs.Ytfpmkenobphfnaa
open Go.RowKit

set_option maxRecDepth 100000 in
set_option maxHeartbeats 2000000 in
/-- page.Read of no device -/
theorem pageRead_nil {Q : Nat → Prop} {w : World} {v : Value} {c : DConf} {p : Int} (hx : rConf.val Q w v c) :
    Calls Try.prog 19 #[.pointer none, v, .int .i64 p] w fun e w' => e = .returned (.tuple #[.slice none 0 0, .int .i64 4]) ∧ Below w.heap.size w w' := by
  obtain ⟨A, cap, rfl, _⟩ := rConf_val hx
  have hm := InBox.made hx 24
  have hbel : Below w.heap.size w (w.alloc (.cells #[.int .i64 c.log, .int .i64 c.pages, .int .i64 c.entities, .int .i64 c.gens, .slice A c.comps.length cap] 24)) := (Below.refl _ _).alloc (Nat.le_refl _) _
  generalize hW1 : w.alloc (.cells #[.int .i64 c.log, .int .i64 c.pages, .int .i64 c.entities, .int .i64 c.gens, .slice A c.comps.length cap] 24) = W1 at *
  have HM := Lib.hid hm
  have HB := Lib.hid hbel
  obtain ⟨a0, a1, a2, a3, a4, _⟩ := hm
  clear hx hbel
  go_enter Try.func19, Try.ntmps19
  go_wp2_with fail
  try rw [hW1]
  clear hW1
  try go_wp2_with fail
  refine (atNil_calls (c := c) HM.out.val).mono ?_
  rintro e w2 ⟨rfl, hb2⟩
  have HB2 := Lib.hid (HB.out.trans (hb2.mono HB.out.size))
  clear hb2 a0 a1 a2 a3 a4
  go_wp2_with fail
  go_ret2
  exact ⟨rfl, HB2.out⟩

set_option maxRecDepth 100000 in
set_option maxHeartbeats 2000000 in
/-- page.Write of no device -/
theorem pageWrite_nil {Q : Nat → Prop} {w : World} {v u : Value} {c : DConf} {n p : Int} (hx : rConf.val Q w v c) :
    Calls Try.prog 17 #[.pointer none, v, .int .i64 n, .int .i64 p, u] w fun e w' => e = .returned (.int .i64 4) ∧ Below w.heap.size w w' := by
  obtain ⟨A, cap, rfl, _⟩ := rConf_val hx
  have hm := InBox.made hx 24
  have hbel : Below w.heap.size w (w.alloc (.cells #[.int .i64 c.log, .int .i64 c.pages, .int .i64 c.entities, .int .i64 c.gens, .slice A c.comps.length cap] 24)) := (Below.refl _ _).alloc (Nat.le_refl _) _
  generalize hW1 : w.alloc (.cells #[.int .i64 c.log, .int .i64 c.pages, .int .i64 c.entities, .int .i64 c.gens, .slice A c.comps.length cap] 24) = W1 at *
  have HM := Lib.hid hm
  have HB := Lib.hid hbel
  obtain ⟨a0, a1, a2, a3, a4, _⟩ := hm
  clear hx hbel
  go_enter Try.func17, Try.ntmps17
  go_wp2_with fail
  try rw [hW1]
  clear hW1
  try go_wp2_with fail
  refine (atNil_calls (c := c) HM.out.val).mono ?_
  rintro e w2 ⟨rfl, hb2⟩
  have HB2 := Lib.hid (HB.out.trans (hb2.mono HB.out.size))
  clear hb2 a0 a1 a2 a3 a4
  go_wp2_with fail
  go_ret
  exact ⟨rfl, HB2.out⟩
end Go.Proofs.Ytfpmkenobphfnaa
