/- Texts on which the proofs stand: RState33, JStates, EqualInts. No condition is laid on any input. -/
import Derived.Test.YteljibjbndpncaaJsG27
namespace Go.Proofs.Yteljibjbndpncaa
open Go.RowKit

theorem stateS_next {c : DConf} {frames : List (List DCmd)} {j : Nat} {l : List DCmd} (hx : frames[j]? = some l) : stateS c frames (j + 1) = (allS c (stateS c frames j) l).1 := by
  conv => lhs; unfold stateS
  rw [hx]
/-- What a frame made, and a box that waits. -/
structure DidF (Q : Nat → Prop) (w Wk W : World) (X : Nat) (r : DState) (D1 : Option Addr) (e1 : Nat) (D2 : Option Addr) (e2 : Nat) (D3 : Option Addr) (e3 : Nat) : Prop where
  bel : Below Wk.heap.size Wk W
  rowX : W.heap[X]? = some (.cells #[.slice none 0 0, .slice none 0 0, .slice none 0 0] 75 (0, 0))
  bigX : Wk.heap.size ≤ X
  val : rState.val (fun b => In Q w 3 b ∧ b ≠ X) W (.agg #[.slice D1 r.gens.length e1, .slice D2 r.free.length e2, .slice D3 r.ents.length e3]) r

set_option maxRecDepth 100000 in
set_option maxHeartbeats 4000000 in
/-- r33.State -/
theorem rstate33_calls {Q : Nat → Prop} {w : World} {vc vf : Value} {c : DConf} {frames : List (List DCmd)} {k : Int} (hc : rConf.val Q w vc c) (hf : rCmd.list.list.val Q w vf frames) (hr : confRight c = true) (hl : ∀ l ∈ frames, l.length ≤ 10000) (hk : k ≤ frames.length) :
    Calls Try.prog 40 #[vc, vf, .int .i64 k] w (StatePost Q w (stateS c frames k.toNat)) := by
  have HC := Lib.hid hc
  have HL := Lib.hid hl
  have HRT := Lib.hid hr
  obtain ⟨A, cap, rfl, _⟩ := rConf_val hc
  obtain ⟨Af, cf, rfl, mf, lf, _⟩ := Rep.val_list hf
  have HFF := Lib.hid hf
  unfold maxLen at lf
  have hfr : Try.f40.results = #[.cell 6 75] := rfl
  clear hc hf hr hl
  obtain ⟨W0, hW0⟩ : ∃ W, (((w.alloc (.cells #[.int .i64 c.log, .int .i64 c.pages, .int .i64 c.entities, .int .i64 c.gens, .slice A c.comps.length cap] 49)).alloc (.cells #[.slice none 0 0, .slice none 0 0, .slice none 0 0] 75)).alloc (.cells #[.slice none 0 0, .slice none 0 0, .slice none 0 0] 75)) = W := ⟨_, rfl⟩
  have hz0 : W0.heap.size = w.heap.size + 3 := by rw [← hW0]; simp
  have hb0 : Below w.heap.size w W0 := by rw [← hW0]; exact (((Below.refl _ _).alloc (Nat.le_refl _) _).alloc (by first | (simp; done) | (simp; omega)) _).alloc (by first | (simp; done) | (simp; omega)) _
  have HZ := Lib.hid hz0
  have HB0 := Lib.hid hb0
  have R0_0 := Lib.hid (show W0.heap[w.heap.size]? = some (.cells #[.int .i64 c.log, .int .i64 c.pages, .int .i64 c.entities, .int .i64 c.gens, .slice A c.comps.length cap] 49 (0, 0)) by rw [← hW0]; exact alloc_old (alloc_old (alloc_at rfl)))
  have R1_0 := Lib.hid (show W0.heap[w.heap.size + 1]? = some (.cells #[.slice none 0 0, .slice none 0 0, .slice none 0 0] 75 (0, 0)) by rw [← hW0]; exact alloc_old (alloc_at (by simp)))
  have R2_0 := Lib.hid (show W0.heap[w.heap.size + 1 + 1]? = some (.cells #[.slice none 0 0, .slice none 0 0, .slice none 0 0] 75 (0, 0)) by rw [← hW0]; exact alloc_at (by simp))
  have O0 := Lib.hid (Only.refl (Box w 3) W0)
  have HVC := Lib.hid (show rConf.val (Lo Q w) W0 (.agg #[.int .i64 c.log, .int .i64 c.pages, .int .i64 c.entities, .int .i64 c.gens, .slice A c.comps.length cap]) c from val_lo HC.out hb0)
  have HVF := Lib.hid (show rCmd.list.list.val (Lo Q w) W0 (.slice Af frames.length cf) frames from val_lo HFF.out hb0)
  have HS0 := Lib.hid (show rState.val (In Q w 3) W0 (.agg #[.slice none 0 0, .slice none 0 0, .slice none 0 0]) noState from rState_agg (x := noState) (show (Rep.int .i64).Sl _ _ none 0 [] from ⟨Nat.le_refl _, by simp [maxLen], [], rfl, fun h => absurd h (by simp)⟩) (show (Rep.int .i64).Sl _ _ none 0 [] from ⟨Nat.le_refl _, by simp [maxLen], [], rfl, fun h => absurd h (by simp)⟩) (show rEnt.Sl _ _ none 0 [] from ⟨Nat.le_refl _, by simp [maxLen], [], rfl, fun h => absurd h (by simp)⟩))
  clear hz0 hb0
  have q0_0 := rw5 R0_0.out
  have q1_0 := rw3 R1_0.out
  have q2_0 := rw3 R2_0.out
  go_enter Try.func40, Try.ntmps40
  go_wp2_with fail
  try rw [hW0]
  clear hW0
  try go_wp2_with fail
  clear q0_0 q1_0 q2_0
  go_loopw [8] (fun i wr => ∃ (j : Nat) (D1 : Option Addr) (e1 : Nat) (D2 : Option Addr) (e2 : Nat) (D3 : Option Addr) (e3 : Nat), i = .int .i64 j ∧ j ≤ k.toNat ∧ Hid (Only (Box w 3) W0 wr) ∧
    Hid (wr.heap[w.heap.size]? = some (.cells #[.int .i64 c.log, .int .i64 c.pages, .int .i64 c.entities, .int .i64 c.gens, .slice A c.comps.length cap] 49 (0, 0))) ∧ Hid (wr.heap[w.heap.size + 1]? = some (.cells #[.slice none 0 0, .slice none 0 0, .slice none 0 0] 75 (0, 0))) ∧ Hid (wr.heap[w.heap.size + 1 + 1]? = some (.cells #[.slice D1 (stateS c frames j).gens.length e1, .slice D2 (stateS c frames j).free.length e2, .slice D3 (stateS c frames j).ents.length e3] 75 (0, 0))) ∧
    Hid (rState.val (In Q w 3) wr (.agg #[.slice D1 (stateS c frames j).gens.length e1, .slice D2 (stateS c frames j).free.length e2, .slice D3 (stateS c frames j).ents.length e3]) (stateS c frames j))) (fun i _ => k.toNat - (intOf i).toNat)
  case atStart => exact ⟨0, none, 0, none, 0, none, 0, rfl, Nat.zero_le _, Lib.hid (Only.refl _ _), R0_0, R1_0, R2_0, HS0⟩
  case round =>
    obtain ⟨j, D1, e1, D2, e2, D3, e3, rfl, hj, HO, HR0, HR1, HR2, HV⟩ := hrel
    have HZR := Lib.hid (show w.heap.size + 3 ≤ wr.heap.size by have := HO.out.size; have := HZ.out; omega)
    have HOKJ := Lib.hid (stateS_ok (c := c) (frames := frames) HRT.out j)
    obtain ⟨sj, hsj⟩ : ∃ q, (stateS c frames j) = q := ⟨_, rfl⟩
    rw [hsj] at HR2 HV HOKJ
    have HSJ := Lib.hid hsj
    clear hsj
    by_cases hlt : (j : Int) < k
    · skip
      obtain ⟨l, hx⟩ : ∃ l, frames[j]? = some l := ⟨_, List.getElem?_eq_getElem (by omega)⟩
      have hjf : (j : Int) < frames.length := by omega
      have hbl : ∀ b, Lo Q w b → wr.heap[b]? = W0.heap[b]? := fun b hb => HO.out.block b (by have := hb.2; have := HZ.out; omega) (fun h => by have := hb.2; have := h.1; omega)
      have HVCR := Lib.hid (show rConf.val (Lo Q w) wr (.agg #[.int .i64 c.log, .int .i64 c.pages, .int .i64 c.entities, .int .i64 c.gens, .slice A c.comps.length cap]) c from Rep.val_keep (fun b hb _ => ⟨hb, hbl b hb⟩) HVC.out)
      have HVFR := Lib.hid (show rCmd.list.list.val (Lo Q w) wr (.slice Af frames.length cf) frames from Rep.val_keep (fun b hb _ => ⟨hb, hbl b hb⟩) HVF.out)
      obtain ⟨fb, fo, Al, cl, rfl, k0, n0, n1, hat⟩ := Rep.At.list (sl_of HVFR.out).2.2 hx
      have HLV := Lib.hid (show rCmd.list.val (Lo Q w) wr (.slice Al l.length cl) l from Rep.list_val rfl n0 n1 hat)
      have K0 := Lib.hid k0
      have HLL := Lib.hid (HL.out l (List.mem_of_getElem? hx))
      have HN := Lib.hid (show stateS c frames (j + 1) = (allS c sj l).1 by rw [stateS_next hx, HSJ.out])
      clear hx hbl k0 n0 n1 hat
      have q0_0 := cl5 HR0.out
      have q1_0 := cl3 HR1.out
      have q2_0 := cl3 HR2.out
      go_wp2_with fail
      clear q0_0 q1_0 q2_0
      refine wp_region_tail (S := fun W => Below wr.heap.size wr W) (T := [9, 11, 12]) (by kernel_rfl) ((Below.refl _ _).drew) (fun s0 => ?_)
      obtain ⟨u0, hu0⟩ : ∃ V, V = wr.drew := ⟨_, rfl⟩
      rw [← hu0] at s0 ⊢
      have t0 : Below wr.heap.size wr u0 := s0
      clear hu0 s0
      refine tkT (i := 0) (v := .agg #[.int .i64 c.log, .int .i64 c.pages, .int .i64 c.entities, .int .i64 c.gens, .slice A c.comps.length cap]) rfl (Or.inl ⟨by rfl, fun w' h => by have e := row_call (h : Below wr.heap.size wr w') HR0.out; have e0 := cell_row e 0; have e1 := cell_row e 1; have e2 := cell_row e 2; have e3 := cell_row e 3; have e4 := cell_row e 4; go_simp⟩) t0 ?_
      go_simp
      refine tkT (i := 1) (v := .agg #[.slice D1 sj.gens.length e1, .slice D2 sj.free.length e2, .slice D3 sj.ents.length e3]) rfl (Or.inl ⟨by rfl, fun w' h => by have e := row_call (h : Below wr.heap.size wr w') HR2.out; have e0 := cell_row e 0; have e1 := cell_row e 1; have e2 := cell_row e 2; go_simp⟩) t0 ?_
      go_simp
      refine tkTV (i := 2) (v := .slice (some ⟨fb, fo, none⟩) frames.length cf) rfl t0 ?_
      go_simp
      refine tkTV (i := 3) (v := .int .i64 j) rfl t0 ?_
      go_simp
      refine tkTV (i := 4) (v := .pointer (some ⟨fb, fo + j, none⟩)) rfl t0 ?_
      go_simp
      refine tkT (i := 5) (v := .slice Al l.length cl) rfl (Or.inl ⟨by rfl, fun w' h => by have e0 := cell_call (h : Below wr.heap.size wr w') K0.out; go_simp⟩) t0 ?_
      go_simp
      obtain ⟨r, hr⟩ : ∃ r, (allS c sj l).1 = r := ⟨_, rfl⟩
      rw [hr] at HN
      have HR := Lib.hid hr
      clear hr
      apply share8' (α7 := Value) (fun (D1 : Option Addr) (e1 : Nat) (D2 : Option Addr) (e2 : Nat) (D3 : Option Addr) (e3 : Nat) (_ : Value) (X : Nat) (W : World) => DidF Q w wr W X r D1 e1 D2 e2 D3 e3)
      · intro key
        have KEY := Lib.hid key
        clear key
        refine wpAnyT_all (rs := [6, 10]) (by kernel_rfl) (by simp) ?_
        intro i hi
        have hi2 : i = 6 ∨ i = 10 := by simpa using hi
        clear hi
        rcases hi2 with rfl | rfl
        · skip
          refine wpOp_step rfl (fun K hK => ?_)
          go_simp
          have ac := Rep.val_keep (Q' := (In Q w 3)) (w' := u0) (fun b hb hl => ⟨hb.inn, (t0).block b hl.lt⟩) HVCR.out
          have as1 := Rep.val_keep (Q' := (In Q w 3)) (w' := u0) (fun b hb hl => ⟨hb, (t0).block b hl.lt⟩) HV.out
          have aa := Rep.val_keep (Q' := (In Q w 3)) (w' := u0) (fun b hb hl => ⟨hb.inn, (t0).block b hl.lt⟩) HLV.out
          refine (rall15_calls ac as1 aa HOKJ.out HLL.out).mono ?_
          rintro e u1 ⟨z, m1, rfl, d1, hb⟩
          rw [HR.out] at d1
          have t1 : Below wr.heap.size wr u1 := Below.trans t0 (hb.mono (Below.size t0))
          obtain ⟨D4, e4, D5, e5, D6, e6, rfl, _⟩ := rState_val d1
          replace d1 := Rep.val_mono (Q' := (In Q w 3)) (fun b hb _ => hb.elim (fun h => h) (fun h => .inr (by have := HZR.out; have := Below.size t0; omega))) d1
          refine hK _ _ ⟨fun _ => t1, ?_⟩
          clear hb hK K ac as1 aa
          go_simp
          refine tkTV (i := 7) (v := .tuple #[.agg #[.slice D4 r.gens.length e4, .slice D5 r.free.length e5, .slice D6 r.ents.length e6], m1]) rfl t1 ?_
          go_simp
          refine tk0 (i := 9) (v := m1) rfl (Or.inl ⟨by rfl, fun w' _ => by go_simp <;> omega⟩) ?_
          go_simp
          refine tkTV (i := 8) (v := .agg #[.slice D4 r.gens.length e4, .slice D5 r.free.length e5, .slice D6 r.ents.length e6]) rfl t1 ?_
          go_simp
          refine wpAnyT_all (rs := [10]) (by kernel_rfl) (by simp) ?_
          intro i hi
          obtain rfl : i = 10 := by simpa using hi
          clear hi
          refine wpOp_step rfl (fun K hK => ?_)
          go_simp
          obtain ⟨u2, hu2⟩ : ∃ V, V = u1.alloc (.cells #[.slice none 0 0, .slice none 0 0, .slice none 0 0] 75) := ⟨_, rfl⟩
          obtain ⟨X, hN⟩ : ∃ X, X = u1.heap.size := ⟨_, rfl⟩
          have hbx : Below u1.heap.size u1 u2 := by rw [hu2]; exact (Below.refl _ _).alloc (Nat.le_refl _) _
          have t2 : Below wr.heap.size wr u2 := Below.trans t1 (hbx.mono (Below.size t1))
          have r2 : u2.heap[X]? = some (.cells #[.slice none 0 0, .slice none 0 0, .slice none 0 0] 75 (0, 0)) := by rw [hu2, hN]; exact heap_alloc_new _ _
          have hXb : wr.heap.size ≤ X := by rw [hN]; exact Below.size t1
          have d2 := Rep.val_keep (Q' := (fun b => In Q w 3 b ∧ b ≠ X)) (w' := u2) (fun b hb hl => ⟨⟨hb, fun e => by have := hl.lt; omega⟩, hbx.block b hl.lt⟩) d1
          rw [← hu2, ← hN]
          clear hu2 hN
          refine hK _ _ ⟨fun _ => t2, ?_⟩
          clear hK K
          go_simp
          exact KEY.out D4 e4 D5 e5 D6 e6 m1 X u2 ⟨t2, r2, hXb, d2⟩
        · skip
          refine wpOp_step rfl (fun K hK => ?_)
          go_simp
          obtain ⟨u3, hu3⟩ : ∃ V, V = u0.alloc (.cells #[.slice none 0 0, .slice none 0 0, .slice none 0 0] 75) := ⟨_, rfl⟩
          obtain ⟨X, hN⟩ : ∃ X, X = u0.heap.size := ⟨_, rfl⟩
          have hbx : Below u0.heap.size u0 u3 := by rw [hu3]; exact (Below.refl _ _).alloc (Nat.le_refl _) _
          have t3 : Below wr.heap.size wr u3 := Below.trans t0 (hbx.mono (Below.size t0))
          have r3 : u3.heap[X]? = some (.cells #[.slice none 0 0, .slice none 0 0, .slice none 0 0] 75 (0, 0)) := by rw [hu3, hN]; exact heap_alloc_new _ _
          have hXb : wr.heap.size ≤ X := by rw [hN]; exact Below.size t0
          rw [← hu3, ← hN]
          clear hu3 hN
          refine hK _ _ ⟨fun _ => t3, ?_⟩
          clear hK K
          go_simp
          refine wpAnyT_all (rs := [6]) (by kernel_rfl) (by simp) ?_
          intro i hi
          obtain rfl : i = 6 := by simpa using hi
          clear hi
          refine wpOp_step rfl (fun K hK => ?_)
          go_simp
          have ac := Rep.val_keep (Q' := (fun b => In Q w 3 b ∧ b ≠ X)) (w' := u3) (fun b hb hl => ⟨⟨hb.inn, fun e => by have := hXb; have := hb.2; have := HZR.out; omega⟩, (t3).block b hl.lt⟩) HVCR.out
          have as1 := Rep.val_keep (Q' := (fun b => In Q w 3 b ∧ b ≠ X)) (w' := u3) (fun b hb hl => ⟨⟨hb, fun e => by have := hl.lt; have := hXb; omega⟩, (t3).block b hl.lt⟩) HV.out
          have aa := Rep.val_keep (Q' := (fun b => In Q w 3 b ∧ b ≠ X)) (w' := u3) (fun b hb hl => ⟨⟨hb.inn, fun e => by have := hXb; have := hb.2; have := HZR.out; omega⟩, (t3).block b hl.lt⟩) HLV.out
          refine (rall15_calls ac as1 aa HOKJ.out HLL.out).mono ?_
          rintro e u4 ⟨z, m1, rfl, d4, hb⟩
          rw [HR.out] at d4
          have t4 : Below wr.heap.size wr u4 := Below.trans t3 (hb.mono (Below.size t3))
          obtain ⟨D4, e4, D5, e5, D6, e6, rfl, _⟩ := rState_val d4
          replace d4 := Rep.val_mono (Q' := (fun b => In Q w 3 b ∧ b ≠ X)) (fun b hb _ => hb.elim (fun h => h) (fun h => ⟨.inr (by have := HZR.out; have := Below.size t3; omega), fun e => by have := (Array.getElem?_eq_some_iff.1 r3).1; omega⟩)) d4
          have r4 := row_call hb r3
          refine hK _ _ ⟨fun _ => t4, ?_⟩
          clear hb hK K ac as1 aa
          go_simp
          refine tkTV (i := 7) (v := .tuple #[.agg #[.slice D4 r.gens.length e4, .slice D5 r.free.length e5, .slice D6 r.ents.length e6], m1]) rfl t4 ?_
          go_simp
          refine tk0 (i := 9) (v := m1) rfl (Or.inl ⟨by rfl, fun w' _ => by go_simp <;> omega⟩) ?_
          go_simp
          refine tkTV (i := 8) (v := .agg #[.slice D4 r.gens.length e4, .slice D5 r.free.length e5, .slice D6 r.ents.length e6]) rfl t4 ?_
          go_simp
          exact KEY.out D4 e4 D5 e5 D6 e6 m1 X u4 ⟨t4, r4, hXb, d4⟩
      · rintro D4 e4 D5 e5 D6 e6 m1 X u9 hG
        have HG := Lib.hid hG
        clear hG
        refine wpAnyT_last (i := 11) rfl (by kernel_rfl) rfl (fun K hK => ?_)
        have q0 := rw3 HG.out.rowX
        go_simp
        refine hK _ _ ?_
        clear hK K q0
        refine nm_anyT (fun x1 hx1 => ?_)
        have RX1 := Lib.hid (show x1.heap[X]? = some (.cells #[.slice D4 r.gens.length e4, .slice D5 r.free.length e5, .slice D6 r.ents.length e6] 75 (0, 0)) by rw [hx1]; exact heap_setRow (heap_setRow (heap_setRow HG.out.rowX)))
        have HB1 := Lib.hid (show Below wr.heap.size wr x1 by rw [hx1]; exact below_put (below_put (below_put HG.out.bel HG.out.bigX) HG.out.bigX) HG.out.bigX)
        have HVZ := Lib.hid (show rState.val (fun b => In Q w 3 b ∧ b ≠ X) x1 (.agg #[.slice D4 r.gens.length e4, .slice D5 r.free.length e5, .slice D6 r.ents.length e6]) r from Rep.val_keep (fun b hb _ => ⟨hb, by rw [hx1]; exact (Below.heap_setCell _ _ _ _ hb.2).trans ((Below.heap_setCell _ _ _ _ hb.2).trans (Below.heap_setCell _ _ _ _ hb.2))⟩) HG.out.val)
        have HXW := Lib.hid (show w.heap.size + 3 ≤ X from Nat.le_trans HZR.out HG.out.bigX)
        clear hx1
        refine tk0 (i := 12) (v := m1) rfl (Or.inl ⟨by rfl, fun w' _ => by go_simp <;> omega⟩) ?_
        go_simp
        refine wpAnyT_done (by kernel_rfl) ?_ _
        have HS0 := Lib.hid (row_call HB1.out HR0.out)
        have HS1 := Lib.hid (row_call HB1.out HR1.out)
        have HS2 := Lib.hid (row_call HB1.out HR2.out)
        have q2_0 := rw1 HS2.out
        have qX_0 := cell_row RX1.out 0
        have q2_1 := cell_row HS2.out 1
        have z2_1 := frozen_row HS2.out 1
        have qX_1 := cell_row RX1.out 1
        have q2_2 := cell_row HS2.out 2
        have z2_2 := frozen_row HS2.out 2
        have qX_2 := cell_row RX1.out 2
        go_wp2_with fail
        skip
        clear q2_0 qX_0 qX_1 qX_2
        obtain ⟨x3, hx3⟩ : ∃ W, W = ((x1.setCell ⟨w.heap.size + 1 + 1, 0, none⟩ (.slice D4 r.gens.length e4)).setCell ⟨w.heap.size + 1 + 1, 1, none⟩ (.slice D5 r.free.length e5)).setCell ⟨w.heap.size + 1 + 1, 2, none⟩ (.slice D6 r.ents.length e6) := ⟨_, rfl⟩
        rw [← hx3]
        have SO := Lib.hid (show Only (Box w 3) x1 x3 by rw [hx3]; exact (((Only.refl _ _).put ⟨by omega, by omega⟩).put ⟨by omega, by omega⟩).put ⟨by omega, by omega⟩)
        have T0 := Lib.hid (show x3.heap[w.heap.size]? = some (.cells #[.int .i64 c.log, .int .i64 c.pages, .int .i64 c.entities, .int .i64 c.gens, .slice A c.comps.length cap] 49 (0, 0)) by rw [hx3]; exact row_other (row_other (row_other HS0.out (by omega)) (by omega)) (by omega))
        have T1 := Lib.hid (show x3.heap[w.heap.size + 1]? = some (.cells #[.slice none 0 0, .slice none 0 0, .slice none 0 0] 75 (0, 0)) by rw [hx3]; exact row_other (row_other (row_other HS1.out (by omega)) (by omega)) (by omega))
        have T2 := Lib.hid (show x3.heap[w.heap.size + 1 + 1]? = some (.cells #[.slice D4 r.gens.length e4, .slice D5 r.free.length e5, .slice D6 r.ents.length e6] 75 (0, 0)) by rw [hx3]; exact heap_setRow (heap_setRow (heap_setRow HS2.out)))
        have HV3 := Lib.hid (show rState.val (In Q w 3) x3 (.agg #[.slice D4 r.gens.length e4, .slice D5 r.free.length e5, .slice D6 r.ents.length e6]) r from Rep.val_keep (fun b hb hl => ⟨hb.1, SO.out.block b hl.lt hb.1.no⟩) HVZ.out)
        have O3 := Lib.hid (show Only (Box w 3) W0 x3 from (HO.out.trans (Only.of_below HB1.out)).trans SO.out)
        clear hx3
        exact ⟨⟨j + 1, D4, e4, D5, e5, D6, e6, by go_num, by omega, O3, T0, T1, by rw [HN.out]; exact T2, by rw [HN.out]; exact HV3⟩, by simp [intOf]; omega⟩
    · skip
      have HE := Lib.hid (show stateS c frames k.toNat = sj by rw [← HSJ.out]; congr 1; omega)
      have q0_0 := rw5 HR0.out
      have q1_0 := rw3 HR1.out
      have q2_0 := rw3 HR2.out
      go_wp2_with fail
      clear q0_0 q1_0 q2_0
      refine nm_post (fun wz hnm => ?_)
      have S101 := Lib.hid (show Only (Box w 3) wr wz from (by rw [hnm]; exact (((Only.refl (Box w 3) wr).put ⟨by omega, by omega⟩).put ⟨by omega, by omega⟩).put ⟨by omega, by omega⟩))
      have O101 := Lib.hid (HO.out.trans S101.out)
      have R0_101 := Lib.hid (row_nm hnm (row_other (row_other (row_other (HR0.out) (by omega)) (by omega)) (by omega)))
      have R1_101 := Lib.hid (show wz.heap[w.heap.size + 1]? = some (.cells #[.slice D1 sj.gens.length e1, .slice D2 sj.free.length e2, .slice D3 sj.ents.length e3] 75 (0, 0)) from (by rw [hnm]; exact heap_setRow (heap_setRow (heap_setRow (HR1.out)))))
      have R2_101 := Lib.hid (row_nm hnm (row_other (row_other (row_other (HR2.out) (by omega)) (by omega)) (by omega)))
      clear hnm
      have q1_0 := cl3 R1_101.out
      refine ⟨rfl, .agg #[.slice D1 sj.gens.length e1, .slice D2 sj.free.length e2, .slice D3 sj.ents.length e3], by simp only [results, hfr]; go_simp, ?_⟩
      clear q1_0
      rw [HE.out]
      exact ⟨_, rfl, Rep.val_keep (fun b hb hl => ⟨hb.elim (fun h => .inl h.1) (fun h => .inr (by omega)), S101.out.block b hl.lt hb.no⟩) HV.out, Only.fin HB0.out O101.out⟩
end Go.Proofs.Yteljibjbndpncaa
namespace Go.Proofs.Yteljibjbndpncaa
open Go.RowKit

def StepDid (Q : Nat → Prop) (w : World) (S : Nat) (t : DState) (e : Ending) (W : World) : Prop := ∃ A1 c1 A2 c2 A3 c3,
  e = .returned (.agg #[.slice A1 t.gens.length c1, .slice A2 t.free.length c2, .slice A3 t.ents.length c3]) ∧
  W.heap[S]? = some (.cells #[.slice A1 t.gens.length c1, .slice A2 t.free.length c2, .slice A3 t.ents.length c3] 75 (0, 0)) ∧
  rState.val (fun b => Q b ∨ w.heap.size ≤ b) W (.agg #[.slice A1 t.gens.length c1, .slice A2 t.free.length c2, .slice A3 t.ents.length c3]) t ∧ Only (fun b => b = S) w W

set_option maxRecDepth 100000 in
set_option maxHeartbeats 2000000 in
/-- judge.States$1 -/
theorem jstep_calls {Q : Nat → Prop} {w : World} {va : Value} {c : DConf} {s : DState} {l : List DCmd} {C S cap c1 c2 c3 : Nat} {A A1 A2 A3 : Option Addr}
    (hrc : w.heap[C]? = some (.cells #[.int .i64 c.log, .int .i64 c.pages, .int .i64 c.entities, .int .i64 c.gens, .slice A c.comps.length cap] 49 (0, 0)))
    (hrs : w.heap[S]? = some (.cells #[.slice A1 s.gens.length c1, .slice A2 s.free.length c2, .slice A3 s.ents.length c3] 75 (0, 0)))
    (hc : rConf.val Q w (.agg #[.int .i64 c.log, .int .i64 c.pages, .int .i64 c.entities, .int .i64 c.gens, .slice A c.comps.length cap]) c)
    (hs : rState.val Q w (.agg #[.slice A1 s.gens.length c1, .slice A2 s.free.length c2, .slice A3 s.ents.length c3]) s)
    (ha : rCmd.list.val Q w va l) (hq : ∀ b, Q b → b ≠ S) (hok : StOk c s) (hl : l.length ≤ 10000) :
    Calls Try.prog 74 #[va, .pointer (some ⟨C, 0, none⟩), .pointer (some ⟨S, 0, none⟩)] w (StepDid Q w S (allS c s l).1) := by
  have HOK := Lib.hid hok
  have HL := Lib.hid hl
  have HQ := Lib.hid hq
  have HCL := Lib.hid (Array.getElem?_eq_some_iff.1 hrc).1
  have HSL := Lib.hid (Array.getElem?_eq_some_iff.1 hrs).1
  obtain ⟨r, hr⟩ : ∃ r, allS c s l = r := ⟨_, rfl⟩
  rw [hr]
  have HR := Lib.hid hr
  have hfr : Try.f74.results = #[.cell 4 75] := rfl
  clear hok hl hr
  obtain ⟨W0, hW0⟩ : ∃ W, (w.alloc (.cells #[.slice none 0 0, .slice none 0 0, .slice none 0 0] 75)) = W := ⟨_, rfl⟩
  have hz0 : W0.heap.size = w.heap.size + 1 := by rw [← hW0]; simp
  have hb0 : Below w.heap.size w W0 := by rw [← hW0]; exact (Below.refl _ _).alloc (Nat.le_refl _) _
  have HZ := Lib.hid hz0
  have HB0 := Lib.hid hb0
  have R0_0 := Lib.hid (show W0.heap[w.heap.size]? = some (.cells #[.slice none 0 0, .slice none 0 0, .slice none 0 0] 75 (0, 0)) by rw [← hW0]; exact alloc_at rfl)
  have O0 := Lib.hid (Only.refl (Box w 1) W0)
  have HRC := Lib.hid (show ∀ V, Below W0.heap.size W0 V → V.heap[C]? = some (.cells #[.int .i64 c.log, .int .i64 c.pages, .int .i64 c.entities, .int .i64 c.gens, .slice A c.comps.length cap] 49 (0, 0)) from fun V hv => (hv.block C (by have := HCL.out; omega)).trans ((hb0.block C HCL.out).trans hrc))
  have HRS := Lib.hid (show ∀ V, Below W0.heap.size W0 V → V.heap[S]? = some (.cells #[.slice A1 s.gens.length c1, .slice A2 s.free.length c2, .slice A3 s.ents.length c3] 75 (0, 0)) from fun V hv => (hv.block S (by have := HSL.out; omega)).trans ((hb0.block S HSL.out).trans hrs))
  have HCV := Lib.hid (show rConf.val (Lo Q w) W0 (.agg #[.int .i64 c.log, .int .i64 c.pages, .int .i64 c.entities, .int .i64 c.gens, .slice A c.comps.length cap]) c from val_lo hc hb0)
  have HSV := Lib.hid (show rState.val (Lo Q w) W0 (.agg #[.slice A1 s.gens.length c1, .slice A2 s.free.length c2, .slice A3 s.ents.length c3]) s from val_lo hs hb0)
  have HAV := Lib.hid (show rCmd.list.val (Lo Q w) W0 va l from val_lo ha hb0)
  have q0 := HRC.out W0 (Below.refl _ _)
  have q1 := HRS.out W0 (Below.refl _ _)
  have a0 := cl5 q0
  have b0 := cl3 q1
  clear hz0 hb0 hrc hrs hc hs ha q0 q1
  have q0_0 := rw3 R0_0.out
  go_enter Try.func74, Try.ntmps74
  go_wp2_with fail
  try rw [hW0]
  clear hW0
  try go_wp2_with fail
  clear q0_0
  clear a0 b0
  refine (fmodel_calls HCV.out HSV.out HAV.out HOK.out HL.out).mono ?_
  rw [HR.out]
  rintro e w1 ⟨zz, u, rfl, hz, _, hb⟩
  obtain ⟨D1, e1, D2, e2, D3, e3, rfl, _⟩ := rState_val hz
  have HZ1 := Lib.hid hz
  have HB1 := Lib.hid hb
  have T0 := Lib.hid (row_call hb R0_0.out)
  have HS1 := Lib.hid (HRS.out w1 hb)
  have d1 : ¬ S = w.heap.size := by have := HSL.out; omega
  have d2 : ¬ w.heap.size = S := by have := HSL.out; omega
  clear hz hb
  have q0 := rw1 T0.out
  have p0 := rw1 HS1.out
  have q1 := cell_row T0.out 1
  have z1 := frozen_row T0.out 1
  have p1 := cell_row HS1.out 1
  have y1 := frozen_row HS1.out 1
  have q2 := cell_row T0.out 2
  have z2 := frozen_row T0.out 2
  have p2 := cell_row HS1.out 2
  have y2 := frozen_row HS1.out 2
  go_wp2_with fail
  clear q0 p0 q1 z1 p1 y1 q2 z2 p2 y2
  refine nm_post (fun w9 hnm => ?_)
  have HO9 := Lib.hid (show Only (fun b => b = S ∨ b = w.heap.size) w1 w9 by rw [hnm]; exact (((((((Only.refl (fun b => b = S ∨ b = w.heap.size) w1)).put (.inl rfl)).put (.inl rfl)).put (.inl rfl)).put (.inr rfl)).put (.inr rfl)).put (.inr rfl))
  have RS9 := Lib.hid (show w9.heap[S]? = some (.cells #[.slice D1 r.1.gens.length e1, .slice D2 r.1.free.length e2, .slice D3 r.1.ents.length e3] 75 (0, 0)) by rw [hnm]; exact row_other (row_other (row_other (heap_setRow (heap_setRow (heap_setRow HS1.out))) d1) d1) d1)
  have R9 := Lib.hid (show w9.heap[w.heap.size]? = some (.cells #[.slice D1 r.1.gens.length e1, .slice D2 r.1.free.length e2, .slice D3 r.1.ents.length e3] 75 (0, 0)) by rw [hnm]; exact heap_setRow (heap_setRow (heap_setRow (row_other (row_other (row_other T0.out d2) d2) d2))))
  clear hnm
  have q0_0 := cl3 R9.out
  refine ⟨rfl, .agg #[.slice D1 r.1.gens.length e1, .slice D2 r.1.free.length e2, .slice D3 r.1.ents.length e3], by simp only [results, hfr]; go_simp, ?_⟩
  clear q0_0
  refine ⟨D1, e1, D2, e2, D3, e3, rfl, RS9.out, Rep.val_keep (fun b hb hl => ⟨hb.elim (fun h => .inl h.1) (fun h => .inr (Nat.le_trans HB0.out.size h)), HO9.out.block b hl.lt (fun e => ?_)⟩) HZ1.out, ?_⟩
  · rcases hb with hb | hb
    · rcases e with e | e
      · exact HQ.out b hb.1 e
      · have := hb.2; omega
    · have := HZ.out
      have := HSL.out
      rcases e with e | e <;> omega
  · have hbb := HB0.out.trans (HB1.out.mono HB0.out.size)
    exact ⟨HO9.out.os.trans hbb.os, HO9.out.tape.trans hbb.tape, HO9.out.output.trans hbb.output, Nat.le_trans hbb.size HO9.out.size, fun b hl hf => (HO9.out.block b (Nat.lt_of_lt_of_le hl hbb.size) (fun e => by rcases e with e | e; (· exact hf e); omega)).trans (hbb.block b hl)⟩

theorem infoState : (Try.prog.info? 75).map (fun i => (i.zero, i.size, i.bytes)) = some (some (.agg #[.slice none 0 0, .slice none 0 0, .slice none 0 0]), 3, 72) := by kernel_rfl
def statesTo (c : DConf) (frames : List (List DCmd)) (n : Nat) : List DState := (List.range n).map (stateS c frames)
theorem statesTo_next {c : DConf} {frames : List (List DCmd)} {n : Nat} : statesTo c frames (n + 1) = statesTo c frames n ++ [stateS c frames n] := by
  unfold statesTo; rw [List.range_succ, List.map_append]; rfl
theorem statesTo_len {c : DConf} {frames : List (List DCmd)} {n : Nat} : (statesTo c frames n).length = n := by unfold statesTo; simp
def StatesDid (Q : Nat → Prop) (w : World) (l : List DState) (e : Ending) (W : World) : Prop := ∃ u, e = .returned u ∧ rState.list.val (fun b => Q b ∨ w.heap.size ≤ b) W u l ∧ Below w.heap.size w W
/-- What the states read. -/
def Q7 (Q : Nat → Prop) (w : World) (B : Nat) (b : Nat) : Prop := Lo Q w b ∨ B ≤ b

set_option maxRecDepth 100000 in
set_option maxHeartbeats 4000000 in
/-- judge.States -/
theorem jstates_calls {Q : Nat → Prop} {w : World} {vc vf : Value} {c : DConf} {frames : List (List DCmd)} (hc : rConf.val Q w vc c) (hf : rCmd.list.list.val Q w vf frames) (hr : frames = [] ∨ confRight c = true) (hl : ∀ l ∈ frames, l.length ≤ 10000) (hn : frames.length ≤ 10000) :
    Calls Try.prog 44 #[vc, vf] w (StatesDid Q w (statesTo c frames (frames.length + 1))) := by
  have HR := Lib.hid hr
  have HL := Lib.hid hl
  have HN := Lib.hid hn
  have HC := Lib.hid hc
  obtain ⟨A, cap, rfl, _⟩ := rConf_val hc
  obtain ⟨Af, cf, rfl, mf, lf, _⟩ := Rep.val_list hf
  have HF := Lib.hid hf
  unfold maxLen at lf
  clear hc hf hr hl hn
  obtain ⟨W0, hW0⟩ : ∃ W, ((w.alloc (.cells #[.int .i64 c.log, .int .i64 c.pages, .int .i64 c.entities, .int .i64 c.gens, .slice A c.comps.length cap] 49)).alloc (.cells #[.slice none 0 0, .slice none 0 0, .slice none 0 0] 75)) = W := ⟨_, rfl⟩
  have hz0 : W0.heap.size = w.heap.size + 2 := by rw [← hW0]; simp
  have hb0 : Below w.heap.size w W0 := by rw [← hW0]; exact ((Below.refl _ _).alloc (Nat.le_refl _) _).alloc (by first | (simp; done) | (simp; omega)) _
  have HZ := Lib.hid hz0
  have HB0 := Lib.hid hb0
  have R0_0 := Lib.hid (show W0.heap[w.heap.size]? = some (.cells #[.int .i64 c.log, .int .i64 c.pages, .int .i64 c.entities, .int .i64 c.gens, .slice A c.comps.length cap] 49 (0, 0)) by rw [← hW0]; exact alloc_old (alloc_at rfl))
  have R1_0 := Lib.hid (show W0.heap[w.heap.size + 1]? = some (.cells #[.slice none 0 0, .slice none 0 0, .slice none 0 0] 75 (0, 0)) by rw [← hW0]; exact alloc_at (by simp))
  have O0 := Lib.hid (Only.refl (Box w 2) W0)
  have HCV := Lib.hid (show rConf.val (Lo Q w) W0 (.agg #[.int .i64 c.log, .int .i64 c.pages, .int .i64 c.entities, .int .i64 c.gens, .slice A c.comps.length cap]) c from val_lo HC.out hb0)
  have HFV := Lib.hid (show rCmd.list.list.val (Lo Q w) W0 (.slice Af frames.length cf) frames from val_lo HF.out hb0)
  obtain ⟨X1, hX1⟩ : ∃ W, W0.alloc (.cells #[.slice none 0 0, .slice none 0 0, .slice none 0 0] 75) = W := ⟨_, rfl⟩
  have HBX := Lib.hid (show Below W0.heap.size W0 X1 by rw [← hX1]; exact (Below.refl _ _).alloc (Nat.le_refl _) _)
  have HAX := Lib.hid (show rState.acc 75 W0.heap.size (Q7 Q w W0.heap.size) X1 (.slice (some ⟨W0.heap.size, 0, none⟩) 1 1) [noState] by
    rw [← hX1]
    exact acc_of (xs := [noState]) (cells := [.slice none 0 0, .slice none 0 0, .slice none 0 0]) (Nat.le_refl _) (alloc_at rfl) (Nat.le_refl _) (by simp [maxLen]) rfl rfl (Rep.row_one_elem (rState_mk (x := noState) (sl_of (Rep.val_nil (by simp [maxLen]))) (sl_of (Rep.val_nil (by simp [maxLen]))) (sl_of (Rep.val_nil (by simp [maxLen]))))))
  have T0 := Lib.hid (row_call HBX.out R0_0.out)
  have T1 := Lib.hid (row_call HBX.out R1_0.out)
  clear hz0 hb0
  have q0_0 := rw5 R0_0.out
  have q1_0 := rw3 R1_0.out
  go_enter Try.func44, Try.ntmps44
  go_wp2_with fail
  try rw [hW0]
  clear hW0
  try go_wp2_with fail
  clear q0_0 q1_0
  try rw [hX1]
  clear hX1
  go_loopw [7, 15] (fun u7 i wr => ∃ (j : Nat) (D1 : Option Addr) (e1 : Nat) (D2 : Option Addr) (e2 : Nat) (D3 : Option Addr) (e3 : Nat), i = .int .i64 j ∧ j ≤ frames.length ∧ Hid (Only (fun b => b = w.heap.size + 1) W0 wr) ∧ Hid (rState.acc 75 W0.heap.size (Q7 Q w W0.heap.size) wr u7 (statesTo c frames (j + 1))) ∧
    Hid (wr.heap[w.heap.size + 1]? = some (.cells #[.slice D1 (stateS c frames j).gens.length e1, .slice D2 (stateS c frames j).free.length e2, .slice D3 (stateS c frames j).ents.length e3] 75 (0, 0))) ∧ Hid (rState.val (fun b => Q7 Q w W0.heap.size b ∧ u7.ownBlock ≠ some b) wr (.agg #[.slice D1 (stateS c frames j).gens.length e1, .slice D2 (stateS c frames j).free.length e2, .slice D3 (stateS c frames j).ents.length e3]) (stateS c frames j))) (fun _ i _ => frames.length - (intOf i).toNat)
  case atStart => exact ⟨0, none, 0, none, 0, none, 0, rfl, Nat.zero_le _, Lib.hid (Only.of_below HBX.out), HAX, T1, Lib.hid (rState_agg (x := noState) (sl_of (Rep.val_nil (by simp [maxLen]))) (sl_of (Rep.val_nil (by simp [maxLen]))) (sl_of (Rep.val_nil (by simp [maxLen]))))⟩
  case round =>
    rename_i u7 _
    obtain ⟨j, D1, e1, D2, e2, D3, e3, rfl, hj, HO, HA, HRS, HV⟩ := hrel
    have hzw1 : w.heap.size + 2 ≤ W0.heap.size := Nat.le_of_eq HZ.out.symm
    have hzw2 : W0.heap.size ≤ w.heap.size + 2 := Nat.le_of_eq HZ.out
    by_cases hlt : (j : Int) < frames.length
    · obtain ⟨l, hx⟩ : ∃ l, frames[j]? = some l := ⟨_, List.getElem?_eq_getElem (by omega)⟩
      have HXJ := Lib.hid hx
      have HLX := Lib.hid (HL.out l (List.mem_of_getElem? hx))
      have HFR := Lib.hid (show rCmd.list.list.val (Lo Q w) wr (.slice Af frames.length cf) frames from Rep.val_keep (fun b hb hl => ⟨hb, HO.out.block b (by have := hb.2; omega) (fun e => by have := hb.2; have e2 : b = w.heap.size + 1 := e; omega)⟩) HFV.out)
      obtain ⟨fb, fo, es, rfl, _, _, hrd, hcell⟩ := (sl_of HFR.out).2.2.get hx
      obtain ⟨Al, cl, rfl, hll⟩ := Rep.rd_sl hrd
      have k0 := hcell 0 _ rfl
      rw [show rCmd.list.size = 1 from rfl, Nat.mul_one, Nat.add_zero] at k0
      have HLV := Lib.hid (show rCmd.list.val (Lo Q w) wr (.slice Al l.length cl) l from hll.val)
      have HT0 := Lib.hid (row_only HO.out R0_0.out (by show ¬ w.heap.size = w.heap.size + 1; omega))
      have HCR := Lib.hid (show rConf.val (Lo Q w) wr (.agg #[.int .i64 c.log, .int .i64 c.pages, .int .i64 c.entities, .int .i64 c.gens, .slice A c.comps.length cap]) c from Rep.val_keep (fun b hb hl => ⟨hb, HO.out.block b (by have := hb.2; omega) (fun e => by have := hb.2; have e2 : b = w.heap.size + 1 := e; omega)⟩) HCV.out)
      have HOWN := Lib.hid (show ∀ b, u7.ownBlock = some b → W0.heap.size ≤ b ∧ b < wr.heap.size from Rep.acc_own HA.out)
      have HQS := Lib.hid (show ∀ b, (Q7 Q w W0.heap.size b ∧ u7.ownBlock ≠ some b) → b ≠ w.heap.size + 1 from fun b hb e => by rcases hb.1 with h | h; (· have := h.2; omega); omega)
      have HNX := Lib.hid (show stateS c frames (j + 1) = (allS c (stateS c frames j) l).1 from stateS_next hx)
      obtain ⟨A8, c8, rfl, h81, h82⟩ := Rep.acc_form HA.out
      unfold maxLen at h82
      rw [statesTo_len] at h81 HA HV HOWN HQS ⊢
      clear hx hrd hcell hll
      go_wp2_with fail
      clear k0
      refine (jstep_calls (Q := fun b => Q7 Q w W0.heap.size b ∧ (Value.slice A8 (j + 1) c8).ownBlock ≠ some b) HT0.out HRS.out (Rep.val_mono (fun b hb _ => ⟨.inl hb, fun e => by have := (HOWN.out b e).1; have := hb.2; omega⟩) HCR.out) HV.out (Rep.val_mono (fun b hb _ => ⟨.inl hb, fun e => by have := (HOWN.out b e).1; have := hb.2; omega⟩) HLV.out) HQS.out (stateS_ok (HR.out.resolve_left (fun h => by have hx := HXJ.out; rw [h] at hx; simp at hx)) j) HLX.out).mono ?_
      obtain ⟨t, ht⟩ : ∃ t, (allS c (stateS c frames j) l).1 = t := ⟨_, rfl⟩
      rw [ht] at HNX ⊢
      clear ht
      rintro e w2 ⟨E1, g1, E2, g2, E3, g3, rfl, hrs2, hv2, ho2⟩
      have HRS2 := Lib.hid hrs2
      have HO2 := Lib.hid ho2
      have HV2 := Lib.hid (show rState.val (fun b => Q7 Q w W0.heap.size b ∧ (Value.slice A8 (j + 1) c8).ownBlock ≠ some b) w2 (.agg #[.slice E1 t.gens.length g1, .slice E2 t.free.length g2, .slice E3 t.ents.length g3]) t from Rep.val_mono (fun b hb _ => hb.elim (fun h => h) (fun h => ⟨.inr (Nat.le_trans HO.out.size h), fun e => by have := (HOWN.out b e).2; omega⟩)) hv2)
      have HA2 := Lib.hid (show rState.acc 75 W0.heap.size (Q7 Q w W0.heap.size) w2 (.slice A8 (j + 1) c8) (statesTo c frames (j + 1)) from Rep.acc_keep (fun b hb hl => HO2.out.block b hl.lt (fun e => by have e2 : b = w.heap.size + 1 := e; rcases hb with hb | hb; (· rcases hb with h | h; (· have := h.2; omega); omega); have := (HOWN.out b hb).1; omega)) (fun _ h _ => h) HA.out)
      have HB2 := Lib.hid (show W0.heap.size ≤ w2.heap.size from Nat.le_trans HO.out.size HO2.out.size)
      have HLN := Lib.hid (show (statesTo c frames (j + 1)).length + 1 ≤ 10001 by rw [statesTo_len]; have := HN.out; omega)
      clear hrs2 hv2 ho2
      go_wp2_with (with_reducible refine stopOne rfl ?_)
      refine Lib.hid ?_
      refine wpList_snoc (e := 75) (base := W0.heap.size) (Q := Q7 Q w W0.heap.size) (r := rState) rfl rfl _ _ 82 _ rfl rfl rfl (.agg #[.slice none 0 0, .slice none 0 0, .slice none 0 0]) 3 72 Try.underlying82 infoState rfl (by decide) rfl _ (statesTo c frames (j + 1)) HA2.out t _ (by exact rfl) HV2.out (by exact rfl) (by exact rfl) (by have := HLN.out; unfold maxLen; omega) (by have := HLN.out; omega) HB2.out ?_
      intro s7 x7 hacc7 hgr7 hat7
      have HOW2 := Lib.hid (show ∀ b, (Value.slice A8 (j + 1) c8).ownBlock = some b → W0.heap.size ≤ b ∧ b < w2.heap.size from Rep.acc_own HA2.out)
      have HO7 := Lib.hid (show Only (fun b => b = w.heap.size + 1) W0 x7 from by
        have h : Only (fun b => b = w.heap.size + 1) W0 w2 := HO.out.trans HO2.out
        exact ⟨hgr7.os.trans h.os, hgr7.tape.trans h.tape, hgr7.output.trans h.output, Nat.le_trans h.size hgr7.size, fun b hb hf => (hgr7.block b (Nat.lt_of_lt_of_le hb h.size) (fun e => by have := (HOW2.out b e.symm).1; omega)).trans (h.block b hb hf)⟩)
      have HRS7 := Lib.hid ((hgr7.block (w.heap.size + 1) (Array.getElem?_eq_some_iff.1 HRS2.out).1 (fun e => by have := (HOW2.out _ e.symm).1; omega)).trans HRS2.out)
      have HV7 := Lib.hid (show rState.val (fun b => Q7 Q w W0.heap.size b ∧ s7.ownBlock ≠ some b) x7 (.agg #[.slice E1 t.gens.length g1, .slice E2 t.free.length g2, .slice E3 t.ents.length g3]) t from Rep.val_keep (fun b hb hl => ⟨⟨hb.1, fun e => by rcases hat7 with h | h; (· exact hb.2 (h ▸ e)); have h1 := Option.some.inj (h.symm.trans e); have := hl.lt; omega⟩, hgr7.block b hl.lt (fun e => hb.2 e.symm)⟩) HV2.out)
      have HA7 := Lib.hid (show rState.acc 75 W0.heap.size (Q7 Q w W0.heap.size) x7 s7 (statesTo c frames (j + 1 + 1)) by rw [statesTo_next (n := j + 1), HNX.out]; exact hacc7)
      clear hacc7 hgr7 hat7
      rw [← HNX.out] at HRS7 HV7
      go_wp2_with fail
      exact ⟨⟨j + 1, E1, g1, E2, g2, E3, g3, by go_num, by omega, HO7, HA7, HRS7, HV7⟩, by simp [intOf]; omega⟩
    · obtain rfl : j = frames.length := by omega
      go_wp2_with fail
      go_ret
      refine ⟨_, rfl, Rep.val_mono (fun b hb _ => hb.elim (fun h => h.elim (fun h => .inl h.1) (fun h => .inr (Nat.le_trans HB0.out.size h))) (fun e => .inr (Nat.le_trans HB0.out.size (Rep.acc_own HA.out b e).1))) (Rep.acc_val HA.out), HB0.out.trans (HO.out.below HB0.out.size (fun b e => by rw [show b = w.heap.size + 1 from e]; omega))⟩
end Go.Proofs.Yteljibjbndpncaa
namespace Go.Proofs.Yteljibjbndpncaa
open Go.RowKit

set_option maxRecDepth 100000 in
set_option maxHeartbeats 1000000 in
/-- slices.Equal of ints -/
theorem equalInts {Q Q' : Nat → Prop} {w : World} {v u : Value} {xs ys : List Int} (hx : (Rep.int .i64).list.val Q w v xs) (hy : (Rep.int .i64).list.val Q' w u ys) :
    Calls Try.prog 103 #[v, u] w fun e w' => e = .returned (.bool (decide (xs = ys))) ∧ ∃ n, w' = w.drewN n := by
  obtain ⟨A, c, rfl, hc1, hc2, hA⟩ := Rep.val_list hx
  obtain ⟨B, d, rfl, hd1, hd2, hB⟩ := Rep.val_list hy
  clear hx hy
  unfold maxLen at hc2 hd2
  by_cases hlen : xs.length = ys.length
  · have hne : ((xs.length : Int) != (ys.length : Int)) = false := by simp [hlen]
    have H := Lib.hid hlen
    clear hlen
    go_enter Try.func103, Try.ntmps103
    go_wp2_with fail
    go_loopw [13] (fun i wr => ∃ k : Nat, i = .int .i64 k ∧ k ≤ xs.length ∧ xs.take k = ys.take k ∧ ∃ n, w.drewN n = wr) (fun i _ => xs.length - (intOf i).toNat)
    case atStart => exact ⟨0, rfl, Nat.zero_le _, by simp, 0, rfl⟩
    case round =>
      obtain ⟨k, rfl, hk, htk, n, rfl⟩ := hrel
      by_cases hlt : k < xs.length
      · obtain ⟨b, off, rfl, cx, wx⟩ := hA.int (List.getElem?_eq_getElem hlt)
        have hlt' : k < ys.length := by rw [← H.out]; exact hlt
        obtain ⟨b', off', rfl, cy, wy⟩ := hB.int (List.getElem?_eq_getElem hlt')
        have T := Lib.hid htk
        clear htk
        have i1 : (k : Int) < (xs.length : Int) := by omega
        have i2 : (k : Int) < (ys.length : Int) := by omega
        generalize hX : xs[k] = x at *
        generalize hY : ys[k] = y at *
        have HX := Lib.hid hX
        have HY := Lib.hid hY
        clear hX hY
        by_cases hxy : x = y
        · have g1 : (x != y) = false := by simp [hxy]
          have HXY := Lib.hid hxy
          clear hxy
          go_wp2_with fail
          go_quiet (fail)
          go_wp2_with fail
          go_roundw
          case rel => exact ⟨k + 1, by go_num, by omega, by rw [List.take_succ_eq_append_getElem hlt, List.take_succ_eq_append_getElem hlt', T.out, HX.out, HY.out, HXY.out], _, rfl⟩
          case measure => simp [intOf]; omega
        · have g1 : (x != y) = true := by simp [hxy]
          have HXY := Lib.hid hxy
          clear hxy
          go_wp2_with fail
          go_quiet (fail)
          go_wp2_with fail
          go_ret
          refine ⟨?_, by rw [World.drewN_drewN]; exact ⟨_, rfl⟩⟩
          have : ¬ xs = ys := by rintro rfl; exact HXY.out (HX.out.symm.trans HY.out)
          simp [this]
      · have hk' : k = xs.length := by omega
        have hall : xs = ys := by rw [← List.take_length (l := xs), ← hk', htk, hk', H.out, List.take_length]
        have HA := Lib.hid hall
        have HK := Lib.hid hk'
        clear hall hk' htk
        have i1 : ¬ (k : Int) < (xs.length : Int) := by omega
        go_wp2_with fail
        go_ret
        exact ⟨by simp [HA.out], _, rfl⟩
  · have hne : ((xs.length : Int) != (ys.length : Int)) = true := by simp; omega
    have H := Lib.hid hlen
    clear hlen
    go_enter Try.func103, Try.ntmps103
    go_wp2_with fail
    go_ret
    refine ⟨?_, 0, rfl⟩
    have : ¬ xs = ys := by rintro rfl; exact H.out rfl
    simp [this]

end Go.Proofs.Yteljibjbndpncaa
