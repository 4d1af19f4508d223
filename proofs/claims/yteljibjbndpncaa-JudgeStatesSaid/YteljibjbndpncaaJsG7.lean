/- Texts on which the proofs stand: MClone, Has06. No condition is laid on any input. -/
import Derived.Test.YteljibjbndpncaaJsG6
namespace Go.Proofs.Yteljibjbndpncaa
open Go.RowKit

/-- What the copy's first part made: numbers, and a box. -/
structure Cl (w W0 W : World) (X : Nat) (s : DState) (vg vf : Value) : Prop where
  bel : Below W0.heap.size W0 W
  rowX : W.heap[X]? = some (.cells #[.slice none 0 0, .slice none 0 0, .slice none 0 0] 75 (0, 0))
  bigX : W0.heap.size ≤ X
  gens : (Rep.int .i64).acc 3 W0.heap.size (fun _ => False) W vg s.gens
  free : (Rep.int .i64).acc 3 W0.heap.size (fun _ => False) W vf s.free
  gx : ∀ b, vg.ownBlock = some b → b ≠ X
  fx : ∀ b, vf.ownBlock = some b → b ≠ X
  gf : ∀ b, vg.ownBlock = some b → vf.ownBlock ≠ some b
/-- A copy of a state. -/
def ClonePost (w : World) (s : DState) (e : Ending) (W : World) : Prop := ∃ A1 c1 A2 c2 A3 c3 z cl raws, e = .returned (.agg #[.slice A1 s.gens.length c1, .slice A2 s.free.length c2, .slice A3 s.ents.length c3]) ∧
  Below w.heap.size w W ∧ StOwn w.heap.size W s (.slice A1 s.gens.length c1) (.slice A2 s.free.length c2) (.slice A3 s.ents.length c3) z cl raws ∧ z ≤ W.heap.size
theorem shareM {α1 α2 α3 α4 α5 β : Type} {G : Prop} (S : α1 → α2 → α3 → α4 → α5 → β → Prop) {Q : α1 → α2 → α3 → α4 → α5 → β → Prop} (leaf : (∀ a b c d e y, S a b c d e y → Q a b c d e y) → G) (main : ∀ a b c d e y, S a b c d e y → Q a b c d e y) : G := leaf main

set_option maxRecDepth 100000 in
set_option maxHeartbeats 4000000 in
/-- model.clone -/
theorem mclone_calls {Q : Nat → Prop} {w : World} {v : Value} {s : DState} (hx : rState.val Q w v s) (hs : StSmall s) :
    Calls Try.prog 184 #[v] w (ClonePost w s) := by
  obtain ⟨A1, c1, A2, c2, A3, c3, rfl, f1, f2, f3⟩ := rState_val hx
  have F1 := Lib.hid f1
  have F2 := Lib.hid f2
  have F3 := Lib.hid f3
  have HS := Lib.hid hs
  have l3 := f3.2.1
  have m3 := f3.1
  unfold maxLen at l3
  have hfr : Try.f184.results = #[.cell 2 75] := rfl
  clear hx hs f1 f2 f3
  obtain ⟨W0, hW0⟩ : ∃ W, ((w.alloc (.cells #[.slice A1 s.gens.length c1, .slice A2 s.free.length c2, .slice A3 s.ents.length c3] 75)).alloc (.cells #[.slice none 0 0, .slice none 0 0, .slice none 0 0] 75)) = W := ⟨_, rfl⟩
  have hz0 : W0.heap.size = w.heap.size + 2 := by rw [← hW0]; simp
  have hb0 : Below w.heap.size w W0 := by rw [← hW0]; exact ((Below.refl _ _).alloc (Nat.le_refl _) _).alloc (by first | (simp; done) | (simp; omega)) _
  have HZ := Lib.hid hz0
  have HB0 := Lib.hid hb0
  have R0_0 := Lib.hid (show W0.heap[w.heap.size]? = some (.cells #[.slice A1 s.gens.length c1, .slice A2 s.free.length c2, .slice A3 s.ents.length c3] 75 (0, 0)) by rw [← hW0]; exact alloc_old (alloc_at rfl))
  have R1_0 := Lib.hid (show W0.heap[w.heap.size + 1]? = some (.cells #[.slice none 0 0, .slice none 0 0, .slice none 0 0] 75 (0, 0)) by rw [← hW0]; exact alloc_at (by simp))
  have O0 := Lib.hid (Only.refl (Box w 2) W0)
  have HVG := Lib.hid (show (Rep.int .i64).list.val (Lo Q w) W0 (.slice A1 s.gens.length c1) s.gens from val_lo F1.out.val hb0)
  have HVF := Lib.hid (show (Rep.int .i64).list.val (Lo Q w) W0 (.slice A2 s.free.length c2) s.free from val_lo F2.out.val hb0)
  have HVE := Lib.hid (show rEnt.list.val (Lo Q w) W0 (.slice A3 s.ents.length c3) s.ents from val_lo F3.out.val hb0)
  clear hz0 hb0
  have q0_0 := rw3 R0_0.out
  have q1_0 := rw3 R1_0.out
  go_enter Try.func184, Try.ntmps184
  go_wp2_with fail
  try rw [hW0]
  clear hW0
  try go_wp2_with fail
  clear q0_0 q1_0
  refine wp_region_tail (S := fun W => Below W0.heap.size W0 W) (T := [8]) (by kernel_rfl) ((Below.refl _ _).drew) (fun s0 => ?_)
  obtain ⟨u0, hu0⟩ : ∃ V, V = W0.drew := ⟨_, rfl⟩
  rw [← hu0] at s0 ⊢
  have t0 : Below W0.heap.size W0 u0 := s0
  clear hu0 s0
  refine tkTV (i := 0) (v := .pointer (some ⟨w.heap.size, 0, none⟩)) rfl t0 ?_
  go_simp
  refine tkT (i := 1) (v := .slice A1 s.gens.length c1) rfl (Or.inl ⟨by rfl, fun w' h => by have e := row_call (h : Below W0.heap.size W0 w') R0_0.out; have e0 := cell_row e 0; have e1 := cell_row e 1; have e2 := cell_row e 2; go_simp⟩) t0 ?_
  go_simp
  refine tkTV (i := 3) (v := .pointer (some ⟨w.heap.size, 1, none⟩)) rfl t0 ?_
  go_simp
  refine tkT (i := 4) (v := .slice A2 s.free.length c2) rfl (Or.inl ⟨by rfl, fun w' h => by have e := row_call (h : Below W0.heap.size W0 w') R0_0.out; have e0 := cell_row e 0; have e1 := cell_row e 1; have e2 := cell_row e 2; go_simp⟩) t0 ?_
  go_simp
  apply shareM (fun (A4 : Option Addr) (c4 : Nat) (A5 : Option Addr) (c5 : Nat) (X : Nat) (W : World) => Cl w W0 W X s (.slice A4 s.gens.length c4) (.slice A5 s.free.length c5))
  · intro key
    have KEY := Lib.hid key
    clear key
    refine wpAnyT_all (rs := [2, 7]) (by kernel_rfl) (by simp) ?_
    intro i hi
    have hi2 : i = 2 ∨ i = 7 := by simpa using hi
    clear hi
    rcases hi2 with rfl | rfl
    · skip
      refine wpOp_step rfl (fun K hK => ?_)
      go_simp
      refine (cloneInts_calls (val_lo_later HVG.out t0) (by have := HS.out.gens; omega)).mono ?_
      rintro e u1 ⟨z, rfl, hz, hb⟩
      have t1 : Below W0.heap.size W0 u1 := Below.trans t0 (hb.mono (Below.size t0))
      have y1 := Rep.acc_base (base' := W0.heap.size) (Below.size t0) hz
      obtain ⟨A4, c4, rfl, _, _⟩ := Rep.acc_form hz
      refine hK _ _ ⟨fun _ => t1, ?_⟩
      clear hb hz hK K
      go_simp
      refine wpAnyT_all (rs := [5, 7]) (by kernel_rfl) (by simp) ?_
      intro i hi
      have hi2 : i = 5 ∨ i = 7 := by simpa using hi
      clear hi
      rcases hi2 with rfl | rfl
      · skip
        refine wpOp_step rfl (fun K hK => ?_)
        go_simp
        refine (cloneInts_calls (val_lo_later HVF.out t1) (by have := HS.out.free; omega)).mono ?_
        rintro e u2 ⟨z, rfl, hz, hb⟩
        have t2 : Below W0.heap.size W0 u2 := Below.trans t1 (hb.mono (Below.size t1))
        have y2 := Rep.acc_base (base' := W0.heap.size) (Below.size t1) hz
        obtain ⟨A5, c5, rfl, _, _⟩ := Rep.acc_form hz
        have g2 := Rep.acc_later y1 hb
        have hgf : ∀ b, (Value.slice A4 s.gens.length c4).ownBlock = some b → (Value.slice A5 s.free.length c5).ownBlock ≠ some b := fun b e e2 => by have h1 := (Rep.acc_own y1 b e).2; have h2 := (Rep.acc_own hz b e2).1; omega
        refine hK _ _ ⟨fun _ => t2, ?_⟩
        clear hb hz hK K
        go_simp
        refine tkTV (i := 6) (v := .agg #[.slice A4 s.gens.length c4, .slice A5 s.free.length c5, .slice none 0 0]) rfl t2 ?_
        go_simp
        refine wpAnyT_all (rs := [7]) (by kernel_rfl) (by simp) ?_
        intro i hi
        obtain rfl : i = 7 := by simpa using hi
        clear hi
        refine wpOp_step rfl (fun K hK => ?_)
        go_simp
        obtain ⟨u3, hu3⟩ : ∃ V, V = u2.alloc (.cells #[.slice none 0 0, .slice none 0 0, .slice none 0 0] 75) := ⟨_, rfl⟩
        obtain ⟨X, hN⟩ : ∃ X, X = u2.heap.size := ⟨_, rfl⟩
        have hbx : Below u2.heap.size u2 u3 := by rw [hu3]; exact (Below.refl _ _).alloc (Nat.le_refl _) _
        have t3 : Below W0.heap.size W0 u3 := Below.trans t2 (hbx.mono (Below.size t2))
        have r3 : u3.heap[X]? = some (.cells #[.slice none 0 0, .slice none 0 0, .slice none 0 0] 75 (0, 0)) := by rw [hu3, hN]; exact heap_alloc_new _ _
        have hXb : W0.heap.size ≤ X := by rw [hN]; exact Below.size t2
        have g3 := Rep.acc_later g2 hbx
        have hgx : ∀ b, (Value.slice A4 s.gens.length c4).ownBlock = some b → b ≠ X := fun b e => by have := (Rep.acc_own g2 b e).2; omega
        have f3 := Rep.acc_later y2 hbx
        have hfx : ∀ b, (Value.slice A5 s.free.length c5).ownBlock = some b → b ≠ X := fun b e => by have := (Rep.acc_own y2 b e).2; omega
        rw [← hu3, ← hN]
        clear hu3 hN
        refine hK _ _ ⟨fun _ => t3, ?_⟩
        clear hK K
        go_simp
        exact KEY.out A4 c4 A5 c5 X u3 ⟨t3, r3, hXb, g3, f3, hgx, hfx, hgf⟩
      · skip
        refine wpOp_step rfl (fun K hK => ?_)
        go_simp
        obtain ⟨u4, hu4⟩ : ∃ V, V = u1.alloc (.cells #[.slice none 0 0, .slice none 0 0, .slice none 0 0] 75) := ⟨_, rfl⟩
        obtain ⟨X, hN⟩ : ∃ X, X = u1.heap.size := ⟨_, rfl⟩
        have hbx : Below u1.heap.size u1 u4 := by rw [hu4]; exact (Below.refl _ _).alloc (Nat.le_refl _) _
        have t4 : Below W0.heap.size W0 u4 := Below.trans t1 (hbx.mono (Below.size t1))
        have r4 : u4.heap[X]? = some (.cells #[.slice none 0 0, .slice none 0 0, .slice none 0 0] 75 (0, 0)) := by rw [hu4, hN]; exact heap_alloc_new _ _
        have hXb : W0.heap.size ≤ X := by rw [hN]; exact Below.size t1
        have g4 := Rep.acc_later y1 hbx
        have hgx : ∀ b, (Value.slice A4 s.gens.length c4).ownBlock = some b → b ≠ X := fun b e => by have := (Rep.acc_own y1 b e).2; omega
        rw [← hu4, ← hN]
        clear hu4 hN
        refine hK _ _ ⟨fun _ => t4, ?_⟩
        clear hK K
        go_simp
        refine wpAnyT_all (rs := [5]) (by kernel_rfl) (by simp) ?_
        intro i hi
        obtain rfl : i = 5 := by simpa using hi
        clear hi
        refine wpOp_step rfl (fun K hK => ?_)
        go_simp
        refine (cloneInts_calls (val_lo_later HVF.out t4) (by have := HS.out.free; omega)).mono ?_
        rintro e u5 ⟨z, rfl, hz, hb⟩
        have t5 : Below W0.heap.size W0 u5 := Below.trans t4 (hb.mono (Below.size t4))
        have y5 := Rep.acc_base (base' := W0.heap.size) (Below.size t4) hz
        obtain ⟨A5, c5, rfl, _, _⟩ := Rep.acc_form hz
        have g5 := Rep.acc_later g4 hb
        have hgf : ∀ b, (Value.slice A4 s.gens.length c4).ownBlock = some b → (Value.slice A5 s.free.length c5).ownBlock ≠ some b := fun b e e2 => by have h1 := (Rep.acc_own g4 b e).2; have h2 := (Rep.acc_own hz b e2).1; omega
        have r5 := row_call hb r4
        have hfx : ∀ b, (Value.slice A5 s.free.length c5).ownBlock = some b → b ≠ X := fun b e => by have h1 := (Rep.acc_own hz b e).1; have h2 := (Array.getElem?_eq_some_iff.1 r4).1; omega
        refine hK _ _ ⟨fun _ => t5, ?_⟩
        clear hb hz hK K
        go_simp
        refine tkTV (i := 6) (v := .agg #[.slice A4 s.gens.length c4, .slice A5 s.free.length c5, .slice none 0 0]) rfl t5 ?_
        go_simp
        exact KEY.out A4 c4 A5 c5 X u5 ⟨t5, r5, hXb, g5, y5, hgx, hfx, hgf⟩
    · skip
      refine wpOp_step rfl (fun K hK => ?_)
      go_simp
      obtain ⟨u6, hu6⟩ : ∃ V, V = u0.alloc (.cells #[.slice none 0 0, .slice none 0 0, .slice none 0 0] 75) := ⟨_, rfl⟩
      obtain ⟨X, hN⟩ : ∃ X, X = u0.heap.size := ⟨_, rfl⟩
      have hbx : Below u0.heap.size u0 u6 := by rw [hu6]; exact (Below.refl _ _).alloc (Nat.le_refl _) _
      have t6 : Below W0.heap.size W0 u6 := Below.trans t0 (hbx.mono (Below.size t0))
      have r6 : u6.heap[X]? = some (.cells #[.slice none 0 0, .slice none 0 0, .slice none 0 0] 75 (0, 0)) := by rw [hu6, hN]; exact heap_alloc_new _ _
      have hXb : W0.heap.size ≤ X := by rw [hN]; exact Below.size t0
      rw [← hu6, ← hN]
      clear hu6 hN
      refine hK _ _ ⟨fun _ => t6, ?_⟩
      clear hK K
      go_simp
      refine wpAnyT_all (rs := [2]) (by kernel_rfl) (by simp) ?_
      intro i hi
      obtain rfl : i = 2 := by simpa using hi
      clear hi
      refine wpOp_step rfl (fun K hK => ?_)
      go_simp
      refine (cloneInts_calls (val_lo_later HVG.out t6) (by have := HS.out.gens; omega)).mono ?_
      rintro e u7 ⟨z, rfl, hz, hb⟩
      have t7 : Below W0.heap.size W0 u7 := Below.trans t6 (hb.mono (Below.size t6))
      have y7 := Rep.acc_base (base' := W0.heap.size) (Below.size t6) hz
      obtain ⟨A4, c4, rfl, _, _⟩ := Rep.acc_form hz
      have r7 := row_call hb r6
      have hgx : ∀ b, (Value.slice A4 s.gens.length c4).ownBlock = some b → b ≠ X := fun b e => by have h1 := (Rep.acc_own hz b e).1; have h2 := (Array.getElem?_eq_some_iff.1 r6).1; omega
      refine hK _ _ ⟨fun _ => t7, ?_⟩
      clear hb hz hK K
      go_simp
      refine wpAnyT_all (rs := [5]) (by kernel_rfl) (by simp) ?_
      intro i hi
      obtain rfl : i = 5 := by simpa using hi
      clear hi
      refine wpOp_step rfl (fun K hK => ?_)
      go_simp
      refine (cloneInts_calls (val_lo_later HVF.out t7) (by have := HS.out.free; omega)).mono ?_
      rintro e u8 ⟨z, rfl, hz, hb⟩
      have t8 : Below W0.heap.size W0 u8 := Below.trans t7 (hb.mono (Below.size t7))
      have y8 := Rep.acc_base (base' := W0.heap.size) (Below.size t7) hz
      obtain ⟨A5, c5, rfl, _, _⟩ := Rep.acc_form hz
      have g8 := Rep.acc_later y7 hb
      have hgf : ∀ b, (Value.slice A4 s.gens.length c4).ownBlock = some b → (Value.slice A5 s.free.length c5).ownBlock ≠ some b := fun b e e2 => by have h1 := (Rep.acc_own y7 b e).2; have h2 := (Rep.acc_own hz b e2).1; omega
      have r8 := row_call hb r7
      have hfx : ∀ b, (Value.slice A5 s.free.length c5).ownBlock = some b → b ≠ X := fun b e => by have h1 := (Rep.acc_own hz b e).1; have h2 := (Array.getElem?_eq_some_iff.1 r7).1; omega
      refine hK _ _ ⟨fun _ => t8, ?_⟩
      clear hb hz hK K
      go_simp
      refine tkTV (i := 6) (v := .agg #[.slice A4 s.gens.length c4, .slice A5 s.free.length c5, .slice none 0 0]) rfl t8 ?_
      go_simp
      exact KEY.out A4 c4 A5 c5 X u8 ⟨t8, r8, hXb, g8, y8, hgx, hfx, hgf⟩
  · rintro A4 c4 A5 c5 X u9 hG
    have HG := Lib.hid hG
    clear hG
    refine wpAnyT_last (i := 8) rfl (by kernel_rfl) rfl (fun K hK => ?_)
    have q0 := rw3 HG.out.rowX
    go_simp
    refine hK _ _ ?_
    clear hK K q0
    refine nm_anyT (fun x1 hx1 => ?_)
    have RX1 := Lib.hid (show x1.heap[X]? = some (.cells #[.slice A4 s.gens.length c4, .slice A5 s.free.length c5, .slice none 0 0] 75 (0, 0)) by rw [hx1]; exact heap_setRow (heap_setRow (heap_setRow HG.out.rowX)))
    have HX1 := Lib.hid (show ∀ b, b ≠ X → x1.heap[b]? = u9.heap[b]? from fun b hb => by rw [hx1]; exact (Below.heap_setCell _ _ _ _ hb).trans ((Below.heap_setCell _ _ _ _ hb).trans (Below.heap_setCell _ _ _ _ hb)))
    have HB1 := Lib.hid (show Below W0.heap.size W0 x1 by rw [hx1]; exact below_put (below_put (below_put HG.out.bel HG.out.bigX) HG.out.bigX) HG.out.bigX)
    have HSZ := Lib.hid (show x1.heap.size = u9.heap.size by rw [hx1]; simp)
    clear hx1
    refine wpAnyT_done (by kernel_rfl) ?_ _
    obtain ⟨z, hz⟩ : ∃ z, x1.heap.size = z := ⟨_, rfl⟩
    have HZZ := Lib.hid hz
    have HXZ := Lib.hid (show X < z by rw [← hz]; exact (Array.getElem?_eq_some_iff.1 RX1.out).1)
    have HXW := Lib.hid (show w.heap.size + 2 ≤ X by have := HG.out.bigX; have := HZ.out; omega)
    have HGN := Lib.hid (show (Rep.int .i64).acc 3 W0.heap.size (fun _ => False) x1 (.slice A4 s.gens.length c4) s.gens from Rep.acc_keep (fun b hb _ => HX1.out b (hb.elim False.elim (HG.out.gx b))) (fun _ h _ => h) HG.out.gens)
    have HFN := Lib.hid (show (Rep.int .i64).acc 3 W0.heap.size (fun _ => False) x1 (.slice A5 s.free.length c5) s.free from Rep.acc_keep (fun b hb _ => HX1.out b (hb.elim False.elim (HG.out.fx b))) (fun _ h _ => h) HG.out.free)
    have T0 := Lib.hid (row_call HB1.out R0_0.out)
    have T1 := Lib.hid (row_call HB1.out R1_0.out)
    clear hz
    have q0 := cell_row T0.out 2
    go_wp2_with fail
    clear q0
    go_loopw [16] (fun i wr => ∃ (k : Nat) (A6 : Option Addr) (c6 : Nat) (cl : Nat → Option Nat) (raws : List (DID × Value)), i = .int .i64 k ∧ k ≤ s.ents.length ∧ Hid (Only (fun b => b = X) x1 wr) ∧ Hid (wr.heap[X]? = some (.cells #[.slice A4 s.gens.length c4, .slice A5 s.free.length c5, .slice A6 k c6] 75 (0, 0))) ∧ Hid (Deep wr z cl (.slice A6 k c6) raws (s.ents.take k)) ∧ Hid (∀ b, b < z → cl b = none)) (fun i _ => s.ents.length - (intOf i).toNat)
    case atStart => exact ⟨0, none, 0, fun _ => none, [], rfl, Nat.zero_le _, Lib.hid (Only.refl _ _), RX1, Lib.hid Deep.nil, Lib.hid (fun _ _ => rfl)⟩
    case round =>
      obtain ⟨k, A6, c6, cl, raws, rfl, hk, HO, HRX, HD, HN⟩ := hrel
      have HZR := Lib.hid (show z ≤ wr.heap.size by rw [← HZZ.out]; exact HO.out.size)
      by_cases hlt : (k : Int) < s.ents.length
      · skip
        obtain ⟨e, he⟩ : ∃ e, s.ents[k]? = some e := ⟨_, List.getElem?_eq_getElem (by omega)⟩
        have HE := Lib.hid he
        have HVR := Lib.hid (show rEnt.list.val (Lo Q w) wr (.slice A3 s.ents.length c3) s.ents from Rep.val_keep (fun b hb hl => ⟨hb, (HO.out.block b (by have := hb.2; have := HB1.out.size; have := HZ.out; omega) (fun e2 => by have := hb.2; have := HXW.out; omega)).trans (HB1.out.block b (by have := hb.2; have := HZ.out; omega))⟩) HVE.out)
        obtain ⟨b, off, Ap, cp, rfl, _, e0, e1, e2, w0, w1, sp⟩ := rEnt_at (sl_of HVR.out).2.2 he
        have HW0 := Lib.hid w0
        have HW1 := Lib.hid w1
        have HSP := Lib.hid sp.val
        have HPL := Lib.hid (HS.out.parts e (List.mem_of_getElem? he))
        clear he w0 w1 sp
        go_wp2_with fail
        refine nm_region (fun W1 hW1 => ?_)
        have RE := Lib.hid (show W1.heap[wr.heap.size]? = some (.cells #[.int .i64 e.id.index, .int .i64 e.id.gen, .slice Ap e.parts.length cp] 133 (0, 0)) by rw [hW1]; exact alloc_at rfl)
        have B1 := Lib.hid (show Below wr.heap.size wr W1 by rw [hW1]; exact (Below.refl _ _).alloc (Nat.le_refl _) _)
        have RX := Lib.hid (row_call B1.out HRX.out)
        have HSZ1 := Lib.hid (show W1.heap.size = wr.heap.size + 1 by rw [hW1]; simp)
        clear hW1 e0 e1 e2
        refine wp_region_tail (S := fun W => Below W1.heap.size W1 W) (T := [9, 10, 11]) (by kernel_rfl) ((Below.refl _ _).drew) (fun s0 => ?_)
        obtain ⟨u0, hu0⟩ : ∃ V, V = W1.drew := ⟨_, rfl⟩
        rw [← hu0] at s0 ⊢
        have t0 : Below W1.heap.size W1 u0 := s0
        clear hu0 s0
        refine tkTV (i := 0) (v := .pointer (some ⟨X, 2, none⟩)) rfl t0 ?_
        go_simp
        refine tkT (i := 1) (v := .slice A6 k c6) rfl (Or.inl ⟨by rfl, fun w' h => by have e := row_call (h : Below W1.heap.size W1 w') RX.out; have e0 := cell_row e 0; have e1 := cell_row e 1; have e2 := cell_row e 2; go_simp⟩) t0 ?_
        go_simp
        refine tkTV (i := 2) (v := .pointer (some ⟨wr.heap.size, 0, none⟩)) rfl t0 ?_
        go_simp
        refine tkT (i := 3) (v := .agg #[.int .i64 e.id.index, .int .i64 e.id.gen]) rfl (Or.inl ⟨by rfl, fun w' h => by have e := row_call (h : Below W1.heap.size W1 w') RE.out; have e0 := cell_row e 0; have e1 := cell_row e 1; have e2 := cell_row e 2; go_simp⟩) t0 ?_
        go_simp
        refine tkTV (i := 4) (v := .pointer (some ⟨wr.heap.size, 2, none⟩)) rfl t0 ?_
        go_simp
        refine tkT (i := 5) (v := .slice Ap e.parts.length cp) rfl (Or.inl ⟨by rfl, fun w' h => by have e := row_call (h : Below W1.heap.size W1 w') RE.out; have e0 := cell_row e 0; have e1 := cell_row e 1; have e2 := cell_row e 2; go_simp⟩) t0 ?_
        go_simp
        have HB2 := Lib.hid (show Below wr.heap.size wr u0 from B1.out.trans (t0.mono B1.out.size))
        have HSU := Lib.hid (val_lo HSP.out HB2.out)
        have HD0 := Lib.hid (show Deep u0 z cl (.slice A6 k c6) raws (s.ents.take k) from HD.out.keep fun b hb _ => HB2.out.block b hb)
        have HZ0 := Lib.hid (show z ≤ u0.heap.size from Nat.le_trans HZR.out HB2.out.size)
        refine wpAnyT_one (i := 6) rfl (by kernel_rfl) rfl (fun K hK => ?_)
        go_simp
        refine (mown_calls HSU.out HPL.out.1 HPL.out.2).mono ?_
        rintro en u1 ⟨vp, rfl, hvp, hb⟩
        have t1 : Below W1.heap.size W1 u1 := t0.trans (hb.mono t0.size)
        have HB3 := Lib.hid hb
        obtain ⟨Bp, dp, rfl, _, _⟩ := Rep.acc_form hvp
        have HVP := Lib.hid hvp
        refine hK _ _ ⟨t1, ?_⟩
        clear hb hvp hK K
        go_simp
        refine tkTV (i := 7) (v := .agg #[.int .i64 e.id.index, .int .i64 e.id.gen, .slice Bp e.parts.length dp]) rfl t1 ?_
        go_simp
        have HAC := Lib.hid (show rBE.acc 133 z (fun _ => False) u1 (.slice A6 k c6) raws from Rep.acc_later HD0.out.acc HB3.out)
        have HBZ := Lib.hid (show z ≤ u1.heap.size from Nat.le_trans HZ0.out HB3.out.size)
        have HRL := Lib.hid (show raws.length = k by rw [HD0.out.len, List.length_take]; omega)
        have HLN := Lib.hid (show raws.length + 1 ≤ maxLen ∧ (raws.length + 1) * 40 ≤ 140737488355328 by rw [HRL.out]; have := HS.out.ents; unfold maxLen; omega)
        refine wpAnyT_one (i := 8) rfl (by kernel_rfl) rfl (fun K hK => ?_)
        go_simp
        refine hK _ _ ⟨t1.alloc (Nat.le_trans (Nat.le_refl _) t1.size) _, ?_⟩
        clear hK K
        refine wpAnyT_last (i := 9) rfl (by kernel_rfl) rfl (fun K hK => ?_)
        refine step_snoc2 (w := u1) (r := rBE) rfl _ _ 73 rfl (.agg #[.int .i64 0, .int .i64 0, .slice none 0 0]) 3 40 Try.underlying73 (by kernel_rfl) rfl (by decide) rfl _ raws (by exact rfl) HAC.out (e.id, .slice Bp e.parts.length dp) (.agg #[.int .i64 e.id.index, .int .i64 e.id.gen, .slice Bp e.parts.length dp]) (rBE_agg HW0.out HW1.out) (by exact rfl) HLN.out.1 HLN.out.2 HBZ.out (fun v7 w7 hacc7 hgr7 hat7 => ?_)
        obtain ⟨A7, c7, hv7, _, _⟩ := Rep.acc_form hacc7
        rw [show (raws ++ [(e.id, Value.slice Bp e.parts.length dp)]).length = k + 1 by rw [List.length_append, HRL.out]; rfl] at hv7
        subst hv7
        have hbw : Below u0.heap.size u0 u1 := HB3.out
        obtain ⟨cl7, HD7, HN7⟩ : ∃ cl7, Hid (Deep w7 z cl7 (.slice A7 (k + 1) c7) (raws ++ [(e.id, .slice Bp e.parts.length dp)]) (s.ents.take (k + 1))) ∧ Hid (∀ b, b < z → cl7 b = none) :=
          ⟨_, Lib.hid (by rw [List.take_add_one, HE.out]; exact HD0.out.snoc HZ0.out hbw HVP.out hacc7 hgr7 hat7), Lib.hid (fun b hb => by rw [if_pos (Nat.lt_of_lt_of_le hb HZ0.out)]; exact HN.out b hb)⟩
        have HXU := Lib.hid (show X < u0.heap.size by have := HXZ.out; have := HZ0.out; omega)
        have RX7 := Lib.hid (show w7.heap[X]? = some (.cells #[.slice A4 s.gens.length c4, .slice A5 s.free.length c5, .slice A6 k c6] 75 (0, 0)) from (hgr7.block X (Nat.lt_of_lt_of_le HXU.out hbw.size) (fun e => by have := (Rep.acc_own HAC.out X e.symm).1; have := HXZ.out; omega)).trans ((hbw.block X HXU.out).trans (row_call t0 RX.out)))
        have hou : Only (fun b => b = X) x1 u1 := HO.out.trans (Only.of_below (HB2.out.trans (hbw.mono HB2.out.size)))
        have HO7 := Lib.hid (show Only (fun b => b = X) x1 w7 from ⟨hgr7.os.trans hou.os, hgr7.tape.trans hou.tape, hgr7.output.trans hou.output, Nat.le_trans hou.size hgr7.size, fun b hl hf => (hgr7.block b (Nat.lt_of_lt_of_le hl hou.size) (fun e => by have := (Rep.acc_own HAC.out b e.symm).1; have := HZZ.out; omega)).trans (hou.block b hl hf)⟩)
        clear hacc7 hgr7 hat7 hbw hou
        go_simp
        refine hK _ _ ?_
        clear hK K
        refine tk0 (i := 10) (v := .pointer (some ⟨X, 2, none⟩)) rfl (Or.inl ⟨by rfl, fun w' _ => by go_simp⟩) ?_
        go_simp
        have q0 := cell_row RX7.out 0
        have q1 := cell_row RX7.out 1
        have q2 := cell_row RX7.out 2
        have z2 := frozen_row RX7.out 2
        refine wpAnyT_last (i := 11) rfl (by kernel_rfl) rfl (fun K hK => ?_)
        go_simp
        refine hK _ _ ?_
        clear hK K q0
        refine nm_anyT (fun x8 hx8 => ?_)
        have HRX8 := Lib.hid (show x8.heap[X]? = some (.cells #[.slice A4 s.gens.length c4, .slice A5 s.free.length c5, .slice A7 (k + 1) c7] 75 (0, 0)) by rw [hx8]; exact heap_setRow RX7.out)
        have HO8 := Lib.hid (show Only (fun b => b = X) x1 x8 by rw [hx8]; exact HO7.out.put rfl)
        have HD8 := Lib.hid (show Deep x8 z cl7 (.slice A7 (k + 1) c7) (raws ++ [(e.id, .slice Bp e.parts.length dp)]) (s.ents.take (k + 1)) from HD7.out.keep fun b _ hc => by
          rw [hx8]
          refine Below.heap_setCell _ _ _ _ (fun e => ?_)
          have hbX : b = X := e
          rcases hc with hc | hc
          · exact hc (HN7.out b (by rw [hbX]; exact HXZ.out))
          · have := (Rep.acc_own HD7.out.acc b hc).1; have := HXZ.out; omega)
        clear hx8
        refine wpAnyT_done (by kernel_rfl) ?_ _
        go_wp2_with fail
        exact ⟨⟨k + 1, A7, c7, cl7, _, by go_num, by omega, HO8, HRX8, HD8, HN7⟩, by simp [intOf]; omega⟩
      · obtain rfl : k = s.ents.length := by omega
        rw [List.take_length] at HD
        have HR1 := Lib.hid (show wr.heap[w.heap.size + 1]? = some (.cells #[.slice none 0 0, .slice none 0 0, .slice none 0 0] 75 (0, 0)) from row_only HO.out T1.out (by have := HXW.out; omega))
        have q0 := cl3 HRX.out
        have p0 := rw3 HR1.out
        go_wp2_with fail
        clear q0 p0
        refine nm_post (fun W9 hW9 => ?_)
        have HR2 := Lib.hid (show W9.heap[w.heap.size + 1]? = some (.cells #[.slice A4 s.gens.length c4, .slice A5 s.free.length c5, .slice A6 s.ents.length c6] 75 (0, 0)) by rw [hW9]; exact heap_setRow (heap_setRow (heap_setRow HR1.out)))
        have HX9 := Lib.hid (show ∀ b, b ≠ w.heap.size + 1 → W9.heap[b]? = wr.heap[b]? from fun b hb => by rw [hW9]; exact (Below.heap_setCell _ _ _ _ hb).trans ((Below.heap_setCell _ _ _ _ hb).trans (Below.heap_setCell _ _ _ _ hb)))
        have HO9 := Lib.hid (show Only (fun b => b = w.heap.size + 1) wr W9 by rw [hW9]; exact (((Only.refl (fun b => b = w.heap.size + 1) wr).put rfl).put rfl).put rfl)
        clear hW9
        have HBW := Lib.hid (show Below w.heap.size w wr from HB0.out.trans ((HB1.out.mono (by have := HZ.out; omega)).trans (HO.out.below (by have := HZ.out; have := HB1.out.size; omega) (fun b hf => by rw [hf]; have := HXW.out; omega))))
        have HG9 := Lib.hid (show (Rep.int .i64).acc 3 W0.heap.size (fun _ => False) wr (.slice A4 s.gens.length c4) s.gens from Rep.acc_keep (fun b hb _ => (HO.out.block b (by have := (Rep.acc_own HGN.out b (hb.elim False.elim id)).2; omega) (fun e => by rw [e] at hb; exact hb.elim False.elim (fun h => HG.out.gx X h rfl)))) (fun _ h _ => h) HGN.out)
        have HF9 := Lib.hid (show (Rep.int .i64).acc 3 W0.heap.size (fun _ => False) wr (.slice A5 s.free.length c5) s.free from Rep.acc_keep (fun b hb _ => (HO.out.block b (by have := (Rep.acc_own HFN.out b (hb.elim False.elim id)).2; omega) (fun e => by rw [e] at hb; exact hb.elim False.elim (fun h => HG.out.fx X h rfl)))) (fun _ h _ => h) HFN.out)
        have p0 := cl3 HR2.out
        refine ⟨rfl, .agg #[.slice A4 s.gens.length c4, .slice A5 s.free.length c5, .slice A6 s.ents.length c6], by simp only [results, hfr]; go_simp, ?_⟩
        clear p0
        have hlow : w.heap.size + 2 ≤ z := by have := HXZ.out; have := HXW.out; omega
        refine ⟨A4, c4, A5, c5, A6, c6, z, cl, raws, rfl, HBW.out.trans (HO9.out.below (HBW.out.size) (fun b hf => by rw [hf]; omega)), ⟨by omega, ?_, ?_, ?_, HN.out, fun b e => ?_, fun b e => ?_, HG.out.gf⟩, by have := HZZ.out; have := HO.out.size; have := HO9.out.size; omega⟩
        · exact Rep.acc_base (by have := HZ.out; omega) (Rep.acc_keep (fun b hb _ => HX9.out b (fun e => by have h1 := (Rep.acc_own HG9.out b (hb.elim False.elim id)).1; have := HZ.out; omega)) (fun _ h _ => h) HG9.out)
        · exact Rep.acc_base (by have := HZ.out; omega) (Rep.acc_keep (fun b hb _ => HX9.out b (fun e => by have h1 := (Rep.acc_own HF9.out b (hb.elim False.elim id)).1; have := HZ.out; omega)) (fun _ h _ => h) HF9.out)
        · exact HD.out.keep fun b _ hc => HX9.out b (fun e => by
            rcases hc with hc | hc
            · exact hc (HN.out b (by omega))
            · have := (Rep.acc_own HD.out.acc b hc).1; omega)
        · have := (Rep.acc_own HGN.out b e).2; rw [HZZ.out] at this; exact this
        · have := (Rep.acc_own HFN.out b e).2; rw [HZZ.out] at this; exact this
end Go.Proofs.Yteljibjbndpncaa
namespace Go.Proofs.Yteljibjbndpncaa
open Go.RowKit

/-- ref06.Has -/
theorem has06_calls {Q : Nat → Prop} {w : World} {v : Value} {l : List Int} {n : Int} (hx : (Rep.int .i64).list.val Q w v l) :
    Calls Try.prog 15 #[v, .int .i64 n] w fun e w' => e = .returned (.bool (decide (n ∈ l))) ∧ w' = w := by
  obtain ⟨A, c, rfl, hc1, hc2, hA⟩ := Rep.val_list hx
  unfold maxLen at hc2
  have HA := Lib.hid hA
  clear hx hA
  go_enter Try.func15, Try.ntmps15
  go_wp2_with fail
  go_loop [5] (fun i => ∃ k : Nat, i = .int .i64 k ∧ k ≤ l.length ∧ Hid (n ∉ l.take k)) (fun i => l.length - (intOf i).toNat)
  case atStart => exact ⟨0, rfl, Nat.zero_le _, Lib.hid (by simp)⟩
  case round =>
    obtain ⟨k, rfl, hk, hn⟩ := hrel
    by_cases hlt : (k : Int) < l.length
    · have hk' : k < l.length := by omega
      obtain ⟨b, off, rfl, hcell, _⟩ := HA.out.int (List.getElem?_eq_getElem hk')
      have HT := Lib.hid (show l.take (k + 1) = l.take k ++ [l[k]] from List.take_succ_eq_append_getElem hk')
      have HM := Lib.hid (List.getElem_mem hk')
      generalize l[k] = x at *
      by_cases hx : x = n
      · have HF := Lib.hid (show decide (n ∈ l) = true from decide_eq_true (hx ▸ HM.out))
        have g : (x == n) = true := by simp [hx]
        clear hx
        go_wp2_with fail
        go_ret
        exact ⟨by first | rfl | (rw [HF.out]; rfl), rfl⟩
      · have HF := Lib.hid (show n ∉ l.take (k + 1) by rw [HT.out, List.mem_append]; intro h; rcases h with h | h; (· exact hn.out h); (· exact hx (List.mem_singleton.1 h).symm))
        have g : (x == n) = false := by simp [hx]
        clear hx
        go_wp2_with fail
        go_round
        case rel => exact ⟨k + 1, by go_num, by omega, Lib.hid HF.out⟩
        case measure => simp [intOf]; omega
    · have HF := Lib.hid (show decide (n ∈ l) = false from decide_eq_false (by have := hn.out; rwa [List.take_of_length_le (by omega)] at this))
      go_wp2_with fail
      go_ret
      exact ⟨by first | rfl | (rw [HF.out]; rfl), rfl⟩

end Go.Proofs.Yteljibjbndpncaa
