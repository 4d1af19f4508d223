/- Texts on which the proofs stand: RAll15. No condition is laid on any input. -/
import Derived.Test.YteljibjbndpncaaJsG24
namespace Go.Proofs.Yteljibjbndpncaa
open Go.RowKit

theorem runS_next {c : DConf} {s : DState} {l : List DCmd} {j : Nat} {x : DCmd} (hx : l[j]? = some x) : runS c s l (j + 1) = ((oneS c (runS c s l j).1 (l.take j) (runS c s l j).2 x).1, (runS c s l j).2 ++ [(oneS c (runS c s l j).1 (l.take j) (runS c s l j).2 x).2]) := by
  conv => lhs; unfold runS
  dsimp only
  rw [hx]
theorem wf_small {n : Int} (h : 0 ≤ n ∧ n ≤ 100) : (Lit.int .i64 n).wf = true := wf_i64 (by omega) (by omega)
theorem despawnS_err {c : DConf} {s : DState} {id : DID} : 0 ≤ (despawnS c s id).2 ∧ (despawnS c s id).2 ≤ 100 := by
  unfold despawnS; split <;> dsimp only <;> omega
theorem setS_err {c : DConf} {s : DState} {id : DID} {k : Int} {b : List UInt8} : 0 ≤ (setS c s id k b).2 ∧ (setS c s id k b).2 ≤ 100 := by
  unfold setS; split; · dsimp only; omega
  split; · dsimp only; omega
  split <;> dsimp only <;> omega
theorem removeS_err {c : DConf} {s : DState} {id : DID} {k : Int} : 0 ≤ (removeS c s id k).2 ∧ (removeS c s id k).2 ≤ 100 := by
  unfold removeS; split; · dsimp only; omega
  split; · dsimp only; omega
  split <;> dsimp only <;> omega
theorem spawnS_wf {c : DConf} {s : DState} (h : StOk c s) : (0 ≤ (spawnS c s).2.2 ∧ (spawnS c s).2.2 ≤ 100) ∧ (Lit.int .i64 (spawnS c s).2.1.index).wf = true ∧ (Lit.int .i64 (spawnS c s).2.1.gen).wf = true := by
  by_cases ht : (takeI (idsOf c s)).2.2 = 0
  · obtain ⟨y, id, _, h2, _, h4, h5⟩ := spawn_more h ht
    rw [h2]; exact ⟨by dsimp only; omega, h4, h5⟩
  · rw [(spawn_full ht).2]; exact ⟨by dsimp only; omega, (show (Lit.int .i64 (0 : Int)).wf = true by decide), (show (Lit.int .i64 (0 : Int)).wf = true by decide)⟩
theorem oneS_wf {c : DConf} {s : DState} {a : List DCmd} {d : List DResult} {x : DCmd} (h : StOk c s) : (Lit.int .i64 (oneS c s a d x).2.err).wf = true ∧ (Lit.int .i64 (oneS c s a d x).2.id.index).wf = true ∧ (Lit.int .i64 (oneS c s a d x).2.id.gen).wf = true := by
  unfold oneS
  split
  · exact ⟨(show (Lit.int .i64 (1 : Int)).wf = true by decide), (show (Lit.int .i64 (0 : Int)).wf = true by decide), (show (Lit.int .i64 (0 : Int)).wf = true by decide)⟩
  · split
    · exact ⟨(show (Lit.int .i64 (10 : Int)).wf = true by decide), (show (Lit.int .i64 (0 : Int)).wf = true by decide), (show (Lit.int .i64 (0 : Int)).wf = true by decide)⟩
    · unfold goS
      split
      · exact ⟨wf_small despawnS_err, (show (Lit.int .i64 (0 : Int)).wf = true by decide), (show (Lit.int .i64 (0 : Int)).wf = true by decide)⟩
      · split
        · exact ⟨wf_small setS_err, (show (Lit.int .i64 (0 : Int)).wf = true by decide), (show (Lit.int .i64 (0 : Int)).wf = true by decide)⟩
        · split
          · exact ⟨wf_small removeS_err, (show (Lit.int .i64 (0 : Int)).wf = true by decide), (show (Lit.int .i64 (0 : Int)).wf = true by decide)⟩
          · have := spawnS_wf h
            exact ⟨wf_small this.1, this.2.1, this.2.2⟩
def All15Post (Q : Nat → Prop) (w : World) (r : DState) (e : Ending) (w' : World) : Prop :=
  ∃ z u, e = .returned (.tuple #[z, u]) ∧ rState.val (fun b => Q b ∨ w.heap.size ≤ b) w' z r ∧ Below w.heap.size w w'
/-- What a command made, and two boxes that wait. -/
structure Did (PI : Nat → Prop) (Wk W : World) (X Y : Nat) (r : DState × DResult) (D1 : Option Addr) (e1 : Nat) (D2 : Option Addr) (e2 : Nat) (D3 : Option Addr) (e3 : Nat) : Prop where
  bel : Below Wk.heap.size Wk W
  rowX : W.heap[X]? = some (.cells #[.slice none 0 0, .slice none 0 0, .slice none 0 0] 75 (0, 0))
  rowY : W.heap[Y]? = some (.cells #[.int .i64 0, .int .i64 0, .int .i64 0] 168 (0, 0))
  bigX : Wk.heap.size ≤ X
  bigY : Wk.heap.size ≤ Y
  ne : X ≠ Y
  wf : (Lit.int .i64 r.2.err).wf = true ∧ (Lit.int .i64 r.2.id.index).wf = true ∧ (Lit.int .i64 r.2.id.gen).wf = true
  val : rState.val (fun b => PI b ∧ b ≠ X ∧ b ≠ Y) W (.agg #[.slice D1 r.1.gens.length e1, .slice D2 r.1.free.length e2, .slice D3 r.1.ents.length e3]) r.1
theorem share8' {α1 α2 α3 α4 α5 α6 α7 α8 β : Type} {G : Prop} (S : α1 → α2 → α3 → α4 → α5 → α6 → α7 → α8 → β → Prop) {Q : α1 → α2 → α3 → α4 → α5 → α6 → α7 → α8 → β → Prop} (leaf : (∀ a b c d e f g h y, S a b c d e f g h y → Q a b c d e f g h y) → G) (main : ∀ a b c d e f g h y, S a b c d e f g h y → Q a b c d e f g h y) : G := leaf main

set_option maxRecDepth 100000 in
set_option maxHeartbeats 4000000 in
/-- r15.All -/
theorem rall15_calls {Q : Nat → Prop} {w : World} {vc v vl : Value} {c : DConf} {s : DState} {l : List DCmd} (hc : rConf.val Q w vc c) (hs : rState.val Q w v s) (ha : rCmd.list.val Q w vl l) (hok : StOk c s) (hl : l.length ≤ 10000) :
    Calls Try.prog 72 #[vc, v, vl] w (All15Post Q w (allS c s l).1) := by
  have HC := Lib.hid hc
  have HX := Lib.hid hs
  have HOK := Lib.hid hok
  have HL := Lib.hid hl
  obtain ⟨A, cap, rfl, _⟩ := rConf_val hc
  obtain ⟨A1, c1, A2, c2, A3, c3, rfl, _⟩ := rState_val hs
  obtain ⟨A4, c4, rfl, m4, l4, hA⟩ := Rep.val_list ha
  have HAA := Lib.hid ha
  unfold maxLen at l4
  have hfr : Try.f72.results = #[.cell 6 75, .tmp 7] := rfl
  clear hc hs ha hok hA
  obtain ⟨W0, hW0⟩ : ∃ W, (((w.alloc (.cells #[.int .i64 c.log, .int .i64 c.pages, .int .i64 c.entities, .int .i64 c.gens, .slice A c.comps.length cap] 49)).alloc (.cells #[.slice A1 s.gens.length c1, .slice A2 s.free.length c2, .slice A3 s.ents.length c3] 75)).alloc (.cells #[.slice none 0 0, .slice none 0 0, .slice none 0 0] 75)) = W := ⟨_, rfl⟩
  have hz0 : W0.heap.size = w.heap.size + 3 := by rw [← hW0]; simp
  have hb0 : Below w.heap.size w W0 := by rw [← hW0]; exact (((Below.refl _ _).alloc (Nat.le_refl _) _).alloc (by first | (simp; done) | (simp; omega)) _).alloc (by first | (simp; done) | (simp; omega)) _
  have HZ := Lib.hid hz0
  have HB0 := Lib.hid hb0
  have R0_0 := Lib.hid (show W0.heap[w.heap.size]? = some (.cells #[.int .i64 c.log, .int .i64 c.pages, .int .i64 c.entities, .int .i64 c.gens, .slice A c.comps.length cap] 49 (0, 0)) by rw [← hW0]; exact alloc_old (alloc_old (alloc_at rfl)))
  have R1_0 := Lib.hid (show W0.heap[w.heap.size + 1]? = some (.cells #[.slice A1 s.gens.length c1, .slice A2 s.free.length c2, .slice A3 s.ents.length c3] 75 (0, 0)) by rw [← hW0]; exact alloc_old (alloc_at (by simp)))
  have R2_0 := Lib.hid (show W0.heap[w.heap.size + 1 + 1]? = some (.cells #[.slice none 0 0, .slice none 0 0, .slice none 0 0] 75 (0, 0)) by rw [← hW0]; exact alloc_at (by simp))
  have O0 := Lib.hid (Only.refl (Box w 3) W0)
  have Vs_0 := Lib.hid (show rState.val (In Q w 3) W0 (.agg #[.slice A1 s.gens.length c1, .slice A2 s.free.length c2, .slice A3 s.ents.length c3]) s from val_in HX.out hb0)
  have HVC := Lib.hid (show rConf.val (Lo Q w) W0 (.agg #[.int .i64 c.log, .int .i64 c.pages, .int .i64 c.entities, .int .i64 c.gens, .slice A c.comps.length cap]) c from val_lo HC.out hb0)
  have HVA := Lib.hid (show rCmd.list.val (Lo Q w) W0 (.slice A4 l.length c4) l from val_lo HAA.out hb0)
  clear hz0 hb0
  have q0_0 := rw5 R0_0.out
  have q1_0 := rw3 R1_0.out
  have q2_0 := rw3 R2_0.out
  go_enter Try.func72, Try.ntmps72
  go_wp2_with fail
  try rw [hW0]
  clear hW0
  try go_wp2_with fail
  clear q0_0 q1_0 q2_0
  go_loopw [8, 9] (fun u8 i wr => ∃ (j : Nat) (D1 : Option Addr) (e1 : Nat) (D2 : Option Addr) (e2 : Nat) (D3 : Option Addr) (e3 : Nat), i = .int .i64 j ∧ j ≤ l.length ∧ Hid (Only (Box w 3) W0 wr) ∧
    Hid (wr.heap[w.heap.size]? = some (.cells #[.int .i64 c.log, .int .i64 c.pages, .int .i64 c.entities, .int .i64 c.gens, .slice A c.comps.length cap] 49 (0, 0))) ∧ Hid (wr.heap[w.heap.size + 1]? = some (.cells #[.slice D1 (runS c s l j).1.gens.length e1, .slice D2 (runS c s l j).1.free.length e2, .slice D3 (runS c s l j).1.ents.length e3] 75 (0, 0))) ∧ Hid (wr.heap[w.heap.size + 1 + 1]? = some (.cells #[.slice none 0 0, .slice none 0 0, .slice none 0 0] 75 (0, 0))) ∧
    Hid (rState.val (fun b => In Q w 3 b ∧ u8.ownBlock ≠ some b) wr (.agg #[.slice D1 (runS c s l j).1.gens.length e1, .slice D2 (runS c s l j).1.free.length e2, .slice D3 (runS c s l j).1.ents.length e3]) (runS c s l j).1) ∧ Hid (rResult.acc 168 W0.heap.size (fun _ => False) wr u8 (runS c s l j).2)) (fun _ i _ => l.length - (intOf i).toNat)
  case atStart => exact ⟨0, A1, c1, A2, c2, A3, c3, rfl, Nat.zero_le _, Lib.hid (Only.refl _ _), R0_0, R1_0, R2_0, Lib.hid (Rep.val_mono (fun b hb _ => ⟨hb, fun e => by cases e⟩) Vs_0.out), Lib.hid Rep.acc_nil⟩
  case round =>
    obtain ⟨j, D1, e1, D2, e2, D3, e3, rfl, hj, HO, HR0, HR1, HR2, HV, HA⟩ := hrel
    obtain ⟨A8, c8, rfl, h81, h82⟩ := Rep.acc_form HA.out
    unfold maxLen at h82
    have hjn := runS_len (c := c) (s := s) (l := l) j hj
    have HOKJ := Lib.hid (runS_ok (l := l) HOK.out j)
    have HZR := Lib.hid (show w.heap.size + 3 ≤ wr.heap.size by have := HO.out.size; have := HZ.out; omega)
    have HJN := Lib.hid hjn
    obtain ⟨sj, hsj⟩ : ∃ q, (runS c s l j) = q := ⟨_, rfl⟩
    rw [hsj] at HR1 HV HA HOKJ HJN h81
    have HSJ := Lib.hid hsj
    rw [hsj]
    clear hsj hjn
    by_cases hlt : (j : Int) < l.length
    · skip
      obtain ⟨x, hx⟩ : ∃ x, l[j]? = some x := ⟨_, List.getElem?_eq_getElem (by omega)⟩
      have HXJ := Lib.hid hx
      have hbl : ∀ b, Lo Q w b → wr.heap[b]? = W0.heap[b]? := fun b hb => HO.out.block b (by have := hb.2; have := HZ.out; omega) (fun h => by have := hb.2; have := h.1; omega)
      have HVCR := Lib.hid (show rConf.val (Lo Q w) wr (.agg #[.int .i64 c.log, .int .i64 c.pages, .int .i64 c.entities, .int .i64 c.gens, .slice A c.comps.length cap]) c from Rep.val_keep (fun b hb _ => ⟨hb, hbl b hb⟩) HVC.out)
      have HVAR := Lib.hid (show rCmd.list.val (Lo Q w) wr (.slice A4 l.length c4) l from Rep.val_keep (fun b hb _ => ⟨hb, hbl b hb⟩) HVA.out)
      obtain ⟨cb, co, Ad, cd, hA4, _, k0, k1, k2, k3, k4, k5, g0, g1, g2, g3, gs⟩ := rCmd_at (sl_of HVAR.out).2.2 hx
      subst hA4
      have HXV := Lib.hid (show rCmd.val (Lo Q w) wr (.agg #[.int .i64 x.kind, .bool x.loc, .int .i64 x.id.index, .int .i64 x.id.gen, .int .i64 x.comp, .slice Ad x.data.length cd]) x from rCmd_agg g0 g1 g2 g3 gs)
      have HTK := Lib.hid (show rCmd.list.val (Lo Q w) wr (.slice (some ⟨cb, co, none⟩) j c4) (l.take j) from Rep.list_val (by rw [List.length_take]; omega) (by omega) (by unfold maxLen; omega) ((sl_of HVAR.out).2.2.take j))
      have K0 := Lib.hid k0
      have K1 := Lib.hid k1
      have K2 := Lib.hid k2
      have K3 := Lib.hid k3
      have K4 := Lib.hid k4
      have K5 := Lib.hid k5
      have HLO := Lib.hid (show ∀ b, Lo Q w b → In Q w 3 b ∧ (Value.slice A8 sj.2.length c8).ownBlock ≠ some b from fun b hb => ⟨hb.inn, fun e => by have h1 := (Rep.acc_own HA.out b e).1; have := hb.2; have := HZ.out; omega⟩)
      clear hx hbl k0 k1 k2 k3 k4 k5 g0 g1 g2 g3 gs
      have q0_0 := cl5 HR0.out
      have q1_0 := cl3 HR1.out
      have q2_0 := cl3 HR2.out
      go_wp2_with fail
      clear q0_0 q1_0 q2_0
      refine wp_region_tail (S := fun W => Below wr.heap.size wr W) (T := [13, 16, 17]) (by kernel_rfl) ((Below.refl _ _).drew) (fun s0 => ?_)
      obtain ⟨u0, hu0⟩ : ∃ V, V = wr.drew := ⟨_, rfl⟩
      rw [← hu0] at s0 ⊢
      have t0 : Below wr.heap.size wr u0 := s0
      clear hu0 s0
      have hjl0 : (0 : Int) ≤ (j : Int) := by omega
      have hjl1 : (j : Int) ≤ (l.length : Int) := by omega
      have hjl2 : ¬ c4 < j := by omega
      refine tkT (i := 0) (v := .agg #[.int .i64 c.log, .int .i64 c.pages, .int .i64 c.entities, .int .i64 c.gens, .slice A c.comps.length cap]) rfl (Or.inl ⟨by rfl, fun w' h => by have e := row_call (h : Below wr.heap.size wr w') HR0.out; have e0 := cell_row e 0; have e1 := cell_row e 1; have e2 := cell_row e 2; have e3 := cell_row e 3; have e4 := cell_row e 4; go_simp⟩) t0 ?_
      go_simp
      refine tkT (i := 1) (v := .agg #[.slice D1 sj.1.gens.length e1, .slice D2 sj.1.free.length e2, .slice D3 sj.1.ents.length e3]) rfl (Or.inl ⟨by rfl, fun w' h => by have e := row_call (h : Below wr.heap.size wr w') HR1.out; have e0 := cell_row e 0; have e1 := cell_row e 1; have e2 := cell_row e 2; go_simp⟩) t0 ?_
      go_simp
      refine tkTV (i := 2) (v := .slice (some ⟨cb, co, none⟩) l.length c4) rfl t0 ?_
      go_simp
      refine tkTV (i := 3) (v := .int .i64 j) rfl t0 ?_
      go_simp
      refine tkTV (i := 4) (v := .slice (some ⟨cb, co, none⟩) j c4) rfl t0 ?_
      go_simp
      refine tkTV (i := 5) (v := (Value.slice A8 sj.2.length c8)) rfl t0 ?_
      go_simp
      refine tkTV (i := 6) (v := .slice (some ⟨cb, co, none⟩) l.length c4) rfl t0 ?_
      go_simp
      refine tkTV (i := 7) (v := .int .i64 j) rfl t0 ?_
      go_simp
      refine tkTV (i := 8) (v := .pointer (some ⟨cb, co + j * 6, none⟩)) rfl t0 ?_
      go_simp
      refine tkT (i := 9) (v := .agg #[.int .i64 x.kind, .bool x.loc, .int .i64 x.id.index, .int .i64 x.id.gen, .int .i64 x.comp, .slice Ad x.data.length cd]) rfl (Or.inl ⟨by rfl, fun w' h => by have e0 := cell_call (h : Below wr.heap.size wr w') K0.out; have e1 := cell_call (h : Below wr.heap.size wr w') K1.out; have e2 := cell_call (h : Below wr.heap.size wr w') K2.out; have e3 := cell_call (h : Below wr.heap.size wr w') K3.out; have e4 := cell_call (h : Below wr.heap.size wr w') K4.out; have e5 := cell_call (h : Below wr.heap.size wr w') K5.out; go_simp⟩) t0 ?_
      go_simp
      clear hjl0 hjl1 hjl2
      obtain ⟨r, hr⟩ : ∃ r, oneS c sj.1 (l.take j) sj.2 x = r := ⟨_, rfl⟩
      have HR := Lib.hid hr
      clear hr
      have HRW := Lib.hid (show (Lit.int .i64 r.2.err).wf = true ∧ (Lit.int .i64 r.2.id.index).wf = true ∧ (Lit.int .i64 r.2.id.gen).wf = true from by rw [← HR.out]; exact oneS_wf HOKJ.out)
      apply share8' (fun (D1 : Option Addr) (e1 : Nat) (D2 : Option Addr) (e2 : Nat) (D3 : Option Addr) (e3 : Nat) (X Y : Nat) (W : World) => Did (fun b => In Q w 3 b ∧ (Value.slice A8 sj.2.length c8).ownBlock ≠ some b) wr W X Y r D1 e1 D2 e2 D3 e3)
      · intro key
        have KEY := Lib.hid key
        clear key
        refine wpAnyT_all (rs := [10, 14, 15]) (by kernel_rfl) (by simp) ?_
        intro i hi
        have hi2 : i = 10 ∨ i = 14 ∨ i = 15 := by simpa using hi
        clear hi
        rcases hi2 with rfl | rfl | rfl
        · skip
          refine wpOp_step rfl (fun K hK => ?_)
          go_simp
          have ac := Rep.val_keep (Q' := (fun b => (fun b => In Q w 3 b ∧ (Value.slice A8 sj.2.length c8).ownBlock ≠ some b) b)) (w' := u0) (fun b hb hl => ⟨HLO.out b hb, (t0).block b hl.lt⟩) HVCR.out
          have as1 := Rep.val_keep (Q' := (fun b => (fun b => In Q w 3 b ∧ (Value.slice A8 sj.2.length c8).ownBlock ≠ some b) b)) (w' := u0) (fun b hb hl => ⟨hb, (t0).block b hl.lt⟩) HV.out
          have aa := Rep.val_keep (Q' := (fun b => (fun b => In Q w 3 b ∧ (Value.slice A8 sj.2.length c8).ownBlock ≠ some b) b)) (w' := u0) (fun b hb hl => ⟨HLO.out b hb, (t0).block b hl.lt⟩) HTK.out
          have ax := Rep.val_keep (Q' := (fun b => (fun b => In Q w 3 b ∧ (Value.slice A8 sj.2.length c8).ownBlock ≠ some b) b)) (w' := u0) (fun b hb hl => ⟨HLO.out b hb, (t0).block b hl.lt⟩) HXV.out
          have ad := Rep.acc_val (Rep.acc_later HA.out t0)
          refine (rone15_calls ac as1 aa ad ax HOKJ.out (by have := HJN.out; have := HL.out; omega)).mono ?_
          rintro e u1 ⟨z, rfl, d1, hb⟩
          rw [HR.out] at d1 ⊢
          have t1 : Below wr.heap.size wr u1 := Below.trans t0 (hb.mono (Below.size t0))
          obtain ⟨D4, e4, D5, e5, D6, e6, rfl, _⟩ := rState_val d1
          replace d1 := Rep.val_mono (Q' := (fun b => (fun b => In Q w 3 b ∧ (Value.slice A8 sj.2.length c8).ownBlock ≠ some b) b)) (fun b hb _ => hb.elim (fun h => h) (fun h => ⟨.inr (by have := HZR.out; have := Below.size t0; omega), fun e => by have h1 := (Rep.acc_own HA.out b e).2; have := Below.size t0; omega⟩)) d1
          refine hK _ _ ⟨fun _ => t1, ?_⟩
          clear hb hK K ac as1 aa ad ax
          go_simp
          refine tkTV (i := 11) (v := .tuple #[.agg #[.slice D4 r.1.gens.length e4, .slice D5 r.1.free.length e5, .slice D6 r.1.ents.length e6], .agg #[.int .i64 r.2.err, .int .i64 r.2.id.index, .int .i64 r.2.id.gen]]) rfl t1 ?_
          go_simp
          refine tk0 (i := 13) (v := .agg #[.int .i64 r.2.err, .int .i64 r.2.id.index, .int .i64 r.2.id.gen]) rfl (Or.inl ⟨by rfl, fun w' _ => by go_simp <;> omega⟩) ?_
          go_simp
          refine tkTV (i := 12) (v := .agg #[.slice D4 r.1.gens.length e4, .slice D5 r.1.free.length e5, .slice D6 r.1.ents.length e6]) rfl t1 ?_
          go_simp
          refine wpAnyT_all (rs := [14, 15]) (by kernel_rfl) (by simp) ?_
          intro i hi
          have hi2 : i = 14 ∨ i = 15 := by simpa using hi
          clear hi
          rcases hi2 with rfl | rfl
          · skip
            refine wpOp_step rfl (fun K hK => ?_)
            go_simp
            obtain ⟨u2, hu2⟩ : ∃ V, V = u1.alloc (.cells #[.slice none 0 0, .slice none 0 0, .slice none 0 0] 75) := ⟨_, rfl⟩
            obtain ⟨X, hN⟩ : ∃ X, X = u1.heap.size := ⟨_, rfl⟩
            have hbx : Below u1.heap.size u1 u2 := by rw [hu2]; exact (Below.refl _ _).alloc (Nat.le_refl _) _
            have t2 : Below wr.heap.size wr u2 := Below.trans t1 (hbx.mono (Below.size t1))
            have r2 : u2.heap[X]? = some (.cells #[.slice none 0 0, .slice none 0 0, .slice none 0 0] 75 (0, 0)) := by rw [hu2, hN]; exact heap_alloc_new _ _
            have hXb : wr.heap.size ≤ X := by rw [hN]; exact Below.size t1
            have d2 := Rep.val_keep (Q' := (fun b => (fun b => In Q w 3 b ∧ (Value.slice A8 sj.2.length c8).ownBlock ≠ some b) b ∧ b ≠ X)) (w' := u2) (fun b hb hl => ⟨⟨hb, fun e => by have := hl.lt; omega⟩, hbx.block b hl.lt⟩) d1
            rw [← hu2, ← hN]
            clear hu2 hN
            refine hK _ _ ⟨fun _ => t2, ?_⟩
            clear hK K
            go_simp
            refine wpAnyT_all (rs := [15]) (by kernel_rfl) (by simp) ?_
            intro i hi
            obtain rfl : i = 15 := by simpa using hi
            clear hi
            refine wpOp_step rfl (fun K hK => ?_)
            go_simp
            obtain ⟨u3, hu3⟩ : ∃ V, V = u2.alloc (.cells #[.int .i64 0, .int .i64 0, .int .i64 0] 168) := ⟨_, rfl⟩
            obtain ⟨Y, hN⟩ : ∃ X, X = u2.heap.size := ⟨_, rfl⟩
            have hbx : Below u2.heap.size u2 u3 := by rw [hu3]; exact (Below.refl _ _).alloc (Nat.le_refl _) _
            have t3 : Below wr.heap.size wr u3 := Below.trans t2 (hbx.mono (Below.size t2))
            have r3 : u3.heap[Y]? = some (.cells #[.int .i64 0, .int .i64 0, .int .i64 0] 168 (0, 0)) := by rw [hu3, hN]; exact heap_alloc_new _ _
            have hYb : wr.heap.size ≤ Y := by rw [hN]; exact Below.size t2
            have r3X := row_call hbx r2
            have hXY : X ≠ Y := by have := (Array.getElem?_eq_some_iff.1 r2).1; omega
            have d3 := Rep.val_keep (Q' := (fun b => (fun b => In Q w 3 b ∧ (Value.slice A8 sj.2.length c8).ownBlock ≠ some b) b ∧ b ≠ X ∧ b ≠ Y)) (w' := u3) (fun b hb hl => ⟨⟨hb.1, hb.2, fun e => by have := hl.lt; omega⟩, hbx.block b hl.lt⟩) d2
            rw [← hu3, ← hN]
            clear hu3 hN
            refine hK _ _ ⟨fun _ => t3, ?_⟩
            clear hK K
            go_simp
            exact KEY.out D4 e4 D5 e5 D6 e6 X Y u3 ⟨t3, r3X, r3, hXb, hYb, hXY, HRW.out, d3⟩
          · skip
            refine wpOp_step rfl (fun K hK => ?_)
            go_simp
            obtain ⟨u4, hu4⟩ : ∃ V, V = u1.alloc (.cells #[.int .i64 0, .int .i64 0, .int .i64 0] 168) := ⟨_, rfl⟩
            obtain ⟨Y, hN⟩ : ∃ X, X = u1.heap.size := ⟨_, rfl⟩
            have hbx : Below u1.heap.size u1 u4 := by rw [hu4]; exact (Below.refl _ _).alloc (Nat.le_refl _) _
            have t4 : Below wr.heap.size wr u4 := Below.trans t1 (hbx.mono (Below.size t1))
            have r4 : u4.heap[Y]? = some (.cells #[.int .i64 0, .int .i64 0, .int .i64 0] 168 (0, 0)) := by rw [hu4, hN]; exact heap_alloc_new _ _
            have hYb : wr.heap.size ≤ Y := by rw [hN]; exact Below.size t1
            have d4 := Rep.val_keep (Q' := (fun b => (fun b => In Q w 3 b ∧ (Value.slice A8 sj.2.length c8).ownBlock ≠ some b) b ∧ b ≠ Y)) (w' := u4) (fun b hb hl => ⟨⟨hb, fun e => by have := hl.lt; omega⟩, hbx.block b hl.lt⟩) d1
            rw [← hu4, ← hN]
            clear hu4 hN
            refine hK _ _ ⟨fun _ => t4, ?_⟩
            clear hK K
            go_simp
            refine wpAnyT_all (rs := [14]) (by kernel_rfl) (by simp) ?_
            intro i hi
            obtain rfl : i = 14 := by simpa using hi
            clear hi
            refine wpOp_step rfl (fun K hK => ?_)
            go_simp
            obtain ⟨u5, hu5⟩ : ∃ V, V = u4.alloc (.cells #[.slice none 0 0, .slice none 0 0, .slice none 0 0] 75) := ⟨_, rfl⟩
            obtain ⟨X, hN⟩ : ∃ X, X = u4.heap.size := ⟨_, rfl⟩
            have hbx : Below u4.heap.size u4 u5 := by rw [hu5]; exact (Below.refl _ _).alloc (Nat.le_refl _) _
            have t5 : Below wr.heap.size wr u5 := Below.trans t4 (hbx.mono (Below.size t4))
            have r5 : u5.heap[X]? = some (.cells #[.slice none 0 0, .slice none 0 0, .slice none 0 0] 75 (0, 0)) := by rw [hu5, hN]; exact heap_alloc_new _ _
            have hXb : wr.heap.size ≤ X := by rw [hN]; exact Below.size t4
            have r5Y := row_call hbx r4
            have hXY : X ≠ Y := by have := (Array.getElem?_eq_some_iff.1 r4).1; omega
            have d5 := Rep.val_keep (Q' := (fun b => (fun b => In Q w 3 b ∧ (Value.slice A8 sj.2.length c8).ownBlock ≠ some b) b ∧ b ≠ X ∧ b ≠ Y)) (w' := u5) (fun b hb hl => ⟨⟨hb.1, fun e => by have := hl.lt; omega, hb.2⟩, hbx.block b hl.lt⟩) d4
            rw [← hu5, ← hN]
            clear hu5 hN
            refine hK _ _ ⟨fun _ => t5, ?_⟩
            clear hK K
            go_simp
            exact KEY.out D4 e4 D5 e5 D6 e6 X Y u5 ⟨t5, r5, r5Y, hXb, hYb, hXY, HRW.out, d5⟩
        · skip
          refine wpOp_step rfl (fun K hK => ?_)
          go_simp
          obtain ⟨u6, hu6⟩ : ∃ V, V = u0.alloc (.cells #[.slice none 0 0, .slice none 0 0, .slice none 0 0] 75) := ⟨_, rfl⟩
          obtain ⟨X, hN⟩ : ∃ X, X = u0.heap.size := ⟨_, rfl⟩
          have hbx : Below u0.heap.size u0 u6 := by rw [hu6]; exact (Below.refl _ _).alloc (Nat.le_refl _) _
          have t6 : Below wr.heap.size wr u6 := Below.trans t0 (hbx.mono (Below.size t0))
          have r6 : u6.heap[X]? = some (.cells #[.slice none 0 0, .slice none 0 0, .slice none 0 0] 75 (0, 0)) := by rw [hu6, hN]; exact heap_alloc_new _ _
          have hXb : wr.heap.size ≤ X := by rw [hN]; exact Below.size t0
          rw [← hu6, ← hN]
          clear hu6 hN
          refine hK _ _ ⟨fun _ => t6, ?_⟩
          clear hK K
          go_simp
          refine wpAnyT_all (rs := [10, 15]) (by kernel_rfl) (by simp) ?_
          intro i hi
          have hi2 : i = 10 ∨ i = 15 := by simpa using hi
          clear hi
          rcases hi2 with rfl | rfl
          · skip
            refine wpOp_step rfl (fun K hK => ?_)
            go_simp
            have ac := Rep.val_keep (Q' := (fun b => (fun b => In Q w 3 b ∧ (Value.slice A8 sj.2.length c8).ownBlock ≠ some b) b ∧ b ≠ X)) (w' := u6) (fun b hb hl => ⟨⟨HLO.out b hb, fun e => by have := hXb; have := hb.2; have := HZR.out; omega⟩, (t6).block b hl.lt⟩) HVCR.out
            have as1 := Rep.val_keep (Q' := (fun b => (fun b => In Q w 3 b ∧ (Value.slice A8 sj.2.length c8).ownBlock ≠ some b) b ∧ b ≠ X)) (w' := u6) (fun b hb hl => ⟨⟨hb, fun e => by have := hl.lt; have := hXb; omega⟩, (t6).block b hl.lt⟩) HV.out
            have aa := Rep.val_keep (Q' := (fun b => (fun b => In Q w 3 b ∧ (Value.slice A8 sj.2.length c8).ownBlock ≠ some b) b ∧ b ≠ X)) (w' := u6) (fun b hb hl => ⟨⟨HLO.out b hb, fun e => by have := hXb; have := hb.2; have := HZR.out; omega⟩, (t6).block b hl.lt⟩) HTK.out
            have ax := Rep.val_keep (Q' := (fun b => (fun b => In Q w 3 b ∧ (Value.slice A8 sj.2.length c8).ownBlock ≠ some b) b ∧ b ≠ X)) (w' := u6) (fun b hb hl => ⟨⟨HLO.out b hb, fun e => by have := hXb; have := hb.2; have := HZR.out; omega⟩, (t6).block b hl.lt⟩) HXV.out
            have ad := Rep.acc_val (Rep.acc_later HA.out t6)
            refine (rone15_calls ac as1 aa ad ax HOKJ.out (by have := HJN.out; have := HL.out; omega)).mono ?_
            rintro e u7 ⟨z, rfl, d7, hb⟩
            rw [HR.out] at d7 ⊢
            have t7 : Below wr.heap.size wr u7 := Below.trans t6 (hb.mono (Below.size t6))
            obtain ⟨D4, e4, D5, e5, D6, e6, rfl, _⟩ := rState_val d7
            replace d7 := Rep.val_mono (Q' := (fun b => (fun b => In Q w 3 b ∧ (Value.slice A8 sj.2.length c8).ownBlock ≠ some b) b ∧ b ≠ X)) (fun b hb _ => hb.elim (fun h => h) (fun h => ⟨⟨.inr (by have := HZR.out; have := Below.size t6; omega), fun e => by have h1 := (Rep.acc_own HA.out b e).2; have := Below.size t6; omega⟩, fun e => by have := (Array.getElem?_eq_some_iff.1 r6).1; omega⟩)) d7
            have r7X := row_call hb r6
            refine hK _ _ ⟨fun _ => t7, ?_⟩
            clear hb hK K ac as1 aa ad ax
            go_simp
            refine tkTV (i := 11) (v := .tuple #[.agg #[.slice D4 r.1.gens.length e4, .slice D5 r.1.free.length e5, .slice D6 r.1.ents.length e6], .agg #[.int .i64 r.2.err, .int .i64 r.2.id.index, .int .i64 r.2.id.gen]]) rfl t7 ?_
            go_simp
            refine tk0 (i := 13) (v := .agg #[.int .i64 r.2.err, .int .i64 r.2.id.index, .int .i64 r.2.id.gen]) rfl (Or.inl ⟨by rfl, fun w' _ => by go_simp <;> omega⟩) ?_
            go_simp
            refine tkTV (i := 12) (v := .agg #[.slice D4 r.1.gens.length e4, .slice D5 r.1.free.length e5, .slice D6 r.1.ents.length e6]) rfl t7 ?_
            go_simp
            refine wpAnyT_all (rs := [15]) (by kernel_rfl) (by simp) ?_
            intro i hi
            obtain rfl : i = 15 := by simpa using hi
            clear hi
            refine wpOp_step rfl (fun K hK => ?_)
            go_simp
            obtain ⟨u8, hu8⟩ : ∃ V, V = u7.alloc (.cells #[.int .i64 0, .int .i64 0, .int .i64 0] 168) := ⟨_, rfl⟩
            obtain ⟨Y, hN⟩ : ∃ X, X = u7.heap.size := ⟨_, rfl⟩
            have hbx : Below u7.heap.size u7 u8 := by rw [hu8]; exact (Below.refl _ _).alloc (Nat.le_refl _) _
            have t8 : Below wr.heap.size wr u8 := Below.trans t7 (hbx.mono (Below.size t7))
            have r8 : u8.heap[Y]? = some (.cells #[.int .i64 0, .int .i64 0, .int .i64 0] 168 (0, 0)) := by rw [hu8, hN]; exact heap_alloc_new _ _
            have hYb : wr.heap.size ≤ Y := by rw [hN]; exact Below.size t7
            have r8X := row_call hbx r7X
            have hXY : X ≠ Y := by have := (Array.getElem?_eq_some_iff.1 r7X).1; omega
            have d8 := Rep.val_keep (Q' := (fun b => (fun b => In Q w 3 b ∧ (Value.slice A8 sj.2.length c8).ownBlock ≠ some b) b ∧ b ≠ X ∧ b ≠ Y)) (w' := u8) (fun b hb hl => ⟨⟨hb.1, hb.2, fun e => by have := hl.lt; omega⟩, hbx.block b hl.lt⟩) d7
            rw [← hu8, ← hN]
            clear hu8 hN
            refine hK _ _ ⟨fun _ => t8, ?_⟩
            clear hK K
            go_simp
            exact KEY.out D4 e4 D5 e5 D6 e6 X Y u8 ⟨t8, r8X, r8, hXb, hYb, hXY, HRW.out, d8⟩
          · skip
            refine wpOp_step rfl (fun K hK => ?_)
            go_simp
            obtain ⟨u9, hu9⟩ : ∃ V, V = u6.alloc (.cells #[.int .i64 0, .int .i64 0, .int .i64 0] 168) := ⟨_, rfl⟩
            obtain ⟨Y, hN⟩ : ∃ X, X = u6.heap.size := ⟨_, rfl⟩
            have hbx : Below u6.heap.size u6 u9 := by rw [hu9]; exact (Below.refl _ _).alloc (Nat.le_refl _) _
            have t9 : Below wr.heap.size wr u9 := Below.trans t6 (hbx.mono (Below.size t6))
            have r9 : u9.heap[Y]? = some (.cells #[.int .i64 0, .int .i64 0, .int .i64 0] 168 (0, 0)) := by rw [hu9, hN]; exact heap_alloc_new _ _
            have hYb : wr.heap.size ≤ Y := by rw [hN]; exact Below.size t6
            have r9X := row_call hbx r6
            have hXY : X ≠ Y := by have := (Array.getElem?_eq_some_iff.1 r6).1; omega
            rw [← hu9, ← hN]
            clear hu9 hN
            refine hK _ _ ⟨fun _ => t9, ?_⟩
            clear hK K
            go_simp
            refine wpAnyT_all (rs := [10]) (by kernel_rfl) (by simp) ?_
            intro i hi
            obtain rfl : i = 10 := by simpa using hi
            clear hi
            refine wpOp_step rfl (fun K hK => ?_)
            go_simp
            have ac := Rep.val_keep (Q' := (fun b => (fun b => In Q w 3 b ∧ (Value.slice A8 sj.2.length c8).ownBlock ≠ some b) b ∧ b ≠ X ∧ b ≠ Y)) (w' := u9) (fun b hb hl => ⟨⟨HLO.out b hb, fun e => by have := hXb; have := hb.2; have := HZR.out; omega, fun e => by have := hYb; have := hb.2; have := HZR.out; omega⟩, (t9).block b hl.lt⟩) HVCR.out
            have as1 := Rep.val_keep (Q' := (fun b => (fun b => In Q w 3 b ∧ (Value.slice A8 sj.2.length c8).ownBlock ≠ some b) b ∧ b ≠ X ∧ b ≠ Y)) (w' := u9) (fun b hb hl => ⟨⟨hb, fun e => by have := hl.lt; have := hXb; omega, fun e => by have := hl.lt; have := hYb; omega⟩, (t9).block b hl.lt⟩) HV.out
            have aa := Rep.val_keep (Q' := (fun b => (fun b => In Q w 3 b ∧ (Value.slice A8 sj.2.length c8).ownBlock ≠ some b) b ∧ b ≠ X ∧ b ≠ Y)) (w' := u9) (fun b hb hl => ⟨⟨HLO.out b hb, fun e => by have := hXb; have := hb.2; have := HZR.out; omega, fun e => by have := hYb; have := hb.2; have := HZR.out; omega⟩, (t9).block b hl.lt⟩) HTK.out
            have ax := Rep.val_keep (Q' := (fun b => (fun b => In Q w 3 b ∧ (Value.slice A8 sj.2.length c8).ownBlock ≠ some b) b ∧ b ≠ X ∧ b ≠ Y)) (w' := u9) (fun b hb hl => ⟨⟨HLO.out b hb, fun e => by have := hXb; have := hb.2; have := HZR.out; omega, fun e => by have := hYb; have := hb.2; have := HZR.out; omega⟩, (t9).block b hl.lt⟩) HXV.out
            have ad := Rep.acc_val (Rep.acc_later HA.out t9)
            refine (rone15_calls ac as1 aa ad ax HOKJ.out (by have := HJN.out; have := HL.out; omega)).mono ?_
            rintro e u10 ⟨z, rfl, d10, hb⟩
            rw [HR.out] at d10 ⊢
            have t10 : Below wr.heap.size wr u10 := Below.trans t9 (hb.mono (Below.size t9))
            obtain ⟨D4, e4, D5, e5, D6, e6, rfl, _⟩ := rState_val d10
            replace d10 := Rep.val_mono (Q' := (fun b => (fun b => In Q w 3 b ∧ (Value.slice A8 sj.2.length c8).ownBlock ≠ some b) b ∧ b ≠ X ∧ b ≠ Y)) (fun b hb _ => hb.elim (fun h => h) (fun h => ⟨⟨.inr (by have := HZR.out; have := Below.size t9; omega), fun e => by have h1 := (Rep.acc_own HA.out b e).2; have := Below.size t9; omega⟩, fun e => by have := (Array.getElem?_eq_some_iff.1 r9X).1; omega, fun e => by have := (Array.getElem?_eq_some_iff.1 r9).1; omega⟩)) d10
            have r10X := row_call hb r9X
            have r10Y := row_call hb r9
            refine hK _ _ ⟨fun _ => t10, ?_⟩
            clear hb hK K ac as1 aa ad ax
            go_simp
            refine tkTV (i := 11) (v := .tuple #[.agg #[.slice D4 r.1.gens.length e4, .slice D5 r.1.free.length e5, .slice D6 r.1.ents.length e6], .agg #[.int .i64 r.2.err, .int .i64 r.2.id.index, .int .i64 r.2.id.gen]]) rfl t10 ?_
            go_simp
            refine tk0 (i := 13) (v := .agg #[.int .i64 r.2.err, .int .i64 r.2.id.index, .int .i64 r.2.id.gen]) rfl (Or.inl ⟨by rfl, fun w' _ => by go_simp <;> omega⟩) ?_
            go_simp
            refine tkTV (i := 12) (v := .agg #[.slice D4 r.1.gens.length e4, .slice D5 r.1.free.length e5, .slice D6 r.1.ents.length e6]) rfl t10 ?_
            go_simp
            exact KEY.out D4 e4 D5 e5 D6 e6 X Y u10 ⟨t10, r10X, r10Y, hXb, hYb, hXY, HRW.out, d10⟩
        · skip
          refine wpOp_step rfl (fun K hK => ?_)
          go_simp
          obtain ⟨u11, hu11⟩ : ∃ V, V = u0.alloc (.cells #[.int .i64 0, .int .i64 0, .int .i64 0] 168) := ⟨_, rfl⟩
          obtain ⟨Y, hN⟩ : ∃ X, X = u0.heap.size := ⟨_, rfl⟩
          have hbx : Below u0.heap.size u0 u11 := by rw [hu11]; exact (Below.refl _ _).alloc (Nat.le_refl _) _
          have t11 : Below wr.heap.size wr u11 := Below.trans t0 (hbx.mono (Below.size t0))
          have r11 : u11.heap[Y]? = some (.cells #[.int .i64 0, .int .i64 0, .int .i64 0] 168 (0, 0)) := by rw [hu11, hN]; exact heap_alloc_new _ _
          have hYb : wr.heap.size ≤ Y := by rw [hN]; exact Below.size t0
          rw [← hu11, ← hN]
          clear hu11 hN
          refine hK _ _ ⟨fun _ => t11, ?_⟩
          clear hK K
          go_simp
          refine wpAnyT_all (rs := [10, 14]) (by kernel_rfl) (by simp) ?_
          intro i hi
          have hi2 : i = 10 ∨ i = 14 := by simpa using hi
          clear hi
          rcases hi2 with rfl | rfl
          · skip
            refine wpOp_step rfl (fun K hK => ?_)
            go_simp
            have ac := Rep.val_keep (Q' := (fun b => (fun b => In Q w 3 b ∧ (Value.slice A8 sj.2.length c8).ownBlock ≠ some b) b ∧ b ≠ Y)) (w' := u11) (fun b hb hl => ⟨⟨HLO.out b hb, fun e => by have := hYb; have := hb.2; have := HZR.out; omega⟩, (t11).block b hl.lt⟩) HVCR.out
            have as1 := Rep.val_keep (Q' := (fun b => (fun b => In Q w 3 b ∧ (Value.slice A8 sj.2.length c8).ownBlock ≠ some b) b ∧ b ≠ Y)) (w' := u11) (fun b hb hl => ⟨⟨hb, fun e => by have := hl.lt; have := hYb; omega⟩, (t11).block b hl.lt⟩) HV.out
            have aa := Rep.val_keep (Q' := (fun b => (fun b => In Q w 3 b ∧ (Value.slice A8 sj.2.length c8).ownBlock ≠ some b) b ∧ b ≠ Y)) (w' := u11) (fun b hb hl => ⟨⟨HLO.out b hb, fun e => by have := hYb; have := hb.2; have := HZR.out; omega⟩, (t11).block b hl.lt⟩) HTK.out
            have ax := Rep.val_keep (Q' := (fun b => (fun b => In Q w 3 b ∧ (Value.slice A8 sj.2.length c8).ownBlock ≠ some b) b ∧ b ≠ Y)) (w' := u11) (fun b hb hl => ⟨⟨HLO.out b hb, fun e => by have := hYb; have := hb.2; have := HZR.out; omega⟩, (t11).block b hl.lt⟩) HXV.out
            have ad := Rep.acc_val (Rep.acc_later HA.out t11)
            refine (rone15_calls ac as1 aa ad ax HOKJ.out (by have := HJN.out; have := HL.out; omega)).mono ?_
            rintro e u12 ⟨z, rfl, d12, hb⟩
            rw [HR.out] at d12 ⊢
            have t12 : Below wr.heap.size wr u12 := Below.trans t11 (hb.mono (Below.size t11))
            obtain ⟨D4, e4, D5, e5, D6, e6, rfl, _⟩ := rState_val d12
            replace d12 := Rep.val_mono (Q' := (fun b => (fun b => In Q w 3 b ∧ (Value.slice A8 sj.2.length c8).ownBlock ≠ some b) b ∧ b ≠ Y)) (fun b hb _ => hb.elim (fun h => h) (fun h => ⟨⟨.inr (by have := HZR.out; have := Below.size t11; omega), fun e => by have h1 := (Rep.acc_own HA.out b e).2; have := Below.size t11; omega⟩, fun e => by have := (Array.getElem?_eq_some_iff.1 r11).1; omega⟩)) d12
            have r12Y := row_call hb r11
            refine hK _ _ ⟨fun _ => t12, ?_⟩
            clear hb hK K ac as1 aa ad ax
            go_simp
            refine tkTV (i := 11) (v := .tuple #[.agg #[.slice D4 r.1.gens.length e4, .slice D5 r.1.free.length e5, .slice D6 r.1.ents.length e6], .agg #[.int .i64 r.2.err, .int .i64 r.2.id.index, .int .i64 r.2.id.gen]]) rfl t12 ?_
            go_simp
            refine tk0 (i := 13) (v := .agg #[.int .i64 r.2.err, .int .i64 r.2.id.index, .int .i64 r.2.id.gen]) rfl (Or.inl ⟨by rfl, fun w' _ => by go_simp <;> omega⟩) ?_
            go_simp
            refine tkTV (i := 12) (v := .agg #[.slice D4 r.1.gens.length e4, .slice D5 r.1.free.length e5, .slice D6 r.1.ents.length e6]) rfl t12 ?_
            go_simp
            refine wpAnyT_all (rs := [14]) (by kernel_rfl) (by simp) ?_
            intro i hi
            obtain rfl : i = 14 := by simpa using hi
            clear hi
            refine wpOp_step rfl (fun K hK => ?_)
            go_simp
            obtain ⟨u13, hu13⟩ : ∃ V, V = u12.alloc (.cells #[.slice none 0 0, .slice none 0 0, .slice none 0 0] 75) := ⟨_, rfl⟩
            obtain ⟨X, hN⟩ : ∃ X, X = u12.heap.size := ⟨_, rfl⟩
            have hbx : Below u12.heap.size u12 u13 := by rw [hu13]; exact (Below.refl _ _).alloc (Nat.le_refl _) _
            have t13 : Below wr.heap.size wr u13 := Below.trans t12 (hbx.mono (Below.size t12))
            have r13 : u13.heap[X]? = some (.cells #[.slice none 0 0, .slice none 0 0, .slice none 0 0] 75 (0, 0)) := by rw [hu13, hN]; exact heap_alloc_new _ _
            have hXb : wr.heap.size ≤ X := by rw [hN]; exact Below.size t12
            have r13Y := row_call hbx r12Y
            have hXY : X ≠ Y := by have := (Array.getElem?_eq_some_iff.1 r12Y).1; omega
            have d13 := Rep.val_keep (Q' := (fun b => (fun b => In Q w 3 b ∧ (Value.slice A8 sj.2.length c8).ownBlock ≠ some b) b ∧ b ≠ X ∧ b ≠ Y)) (w' := u13) (fun b hb hl => ⟨⟨hb.1, fun e => by have := hl.lt; omega, hb.2⟩, hbx.block b hl.lt⟩) d12
            rw [← hu13, ← hN]
            clear hu13 hN
            refine hK _ _ ⟨fun _ => t13, ?_⟩
            clear hK K
            go_simp
            exact KEY.out D4 e4 D5 e5 D6 e6 X Y u13 ⟨t13, r13, r13Y, hXb, hYb, hXY, HRW.out, d13⟩
          · skip
            refine wpOp_step rfl (fun K hK => ?_)
            go_simp
            obtain ⟨u14, hu14⟩ : ∃ V, V = u11.alloc (.cells #[.slice none 0 0, .slice none 0 0, .slice none 0 0] 75) := ⟨_, rfl⟩
            obtain ⟨X, hN⟩ : ∃ X, X = u11.heap.size := ⟨_, rfl⟩
            have hbx : Below u11.heap.size u11 u14 := by rw [hu14]; exact (Below.refl _ _).alloc (Nat.le_refl _) _
            have t14 : Below wr.heap.size wr u14 := Below.trans t11 (hbx.mono (Below.size t11))
            have r14 : u14.heap[X]? = some (.cells #[.slice none 0 0, .slice none 0 0, .slice none 0 0] 75 (0, 0)) := by rw [hu14, hN]; exact heap_alloc_new _ _
            have hXb : wr.heap.size ≤ X := by rw [hN]; exact Below.size t11
            have r14Y := row_call hbx r11
            have hXY : X ≠ Y := by have := (Array.getElem?_eq_some_iff.1 r11).1; omega
            rw [← hu14, ← hN]
            clear hu14 hN
            refine hK _ _ ⟨fun _ => t14, ?_⟩
            clear hK K
            go_simp
            refine wpAnyT_all (rs := [10]) (by kernel_rfl) (by simp) ?_
            intro i hi
            obtain rfl : i = 10 := by simpa using hi
            clear hi
            refine wpOp_step rfl (fun K hK => ?_)
            go_simp
            have ac := Rep.val_keep (Q' := (fun b => (fun b => In Q w 3 b ∧ (Value.slice A8 sj.2.length c8).ownBlock ≠ some b) b ∧ b ≠ X ∧ b ≠ Y)) (w' := u14) (fun b hb hl => ⟨⟨HLO.out b hb, fun e => by have := hXb; have := hb.2; have := HZR.out; omega, fun e => by have := hYb; have := hb.2; have := HZR.out; omega⟩, (t14).block b hl.lt⟩) HVCR.out
            have as1 := Rep.val_keep (Q' := (fun b => (fun b => In Q w 3 b ∧ (Value.slice A8 sj.2.length c8).ownBlock ≠ some b) b ∧ b ≠ X ∧ b ≠ Y)) (w' := u14) (fun b hb hl => ⟨⟨hb, fun e => by have := hl.lt; have := hXb; omega, fun e => by have := hl.lt; have := hYb; omega⟩, (t14).block b hl.lt⟩) HV.out
            have aa := Rep.val_keep (Q' := (fun b => (fun b => In Q w 3 b ∧ (Value.slice A8 sj.2.length c8).ownBlock ≠ some b) b ∧ b ≠ X ∧ b ≠ Y)) (w' := u14) (fun b hb hl => ⟨⟨HLO.out b hb, fun e => by have := hXb; have := hb.2; have := HZR.out; omega, fun e => by have := hYb; have := hb.2; have := HZR.out; omega⟩, (t14).block b hl.lt⟩) HTK.out
            have ax := Rep.val_keep (Q' := (fun b => (fun b => In Q w 3 b ∧ (Value.slice A8 sj.2.length c8).ownBlock ≠ some b) b ∧ b ≠ X ∧ b ≠ Y)) (w' := u14) (fun b hb hl => ⟨⟨HLO.out b hb, fun e => by have := hXb; have := hb.2; have := HZR.out; omega, fun e => by have := hYb; have := hb.2; have := HZR.out; omega⟩, (t14).block b hl.lt⟩) HXV.out
            have ad := Rep.acc_val (Rep.acc_later HA.out t14)
            refine (rone15_calls ac as1 aa ad ax HOKJ.out (by have := HJN.out; have := HL.out; omega)).mono ?_
            rintro e u15 ⟨z, rfl, d15, hb⟩
            rw [HR.out] at d15 ⊢
            have t15 : Below wr.heap.size wr u15 := Below.trans t14 (hb.mono (Below.size t14))
            obtain ⟨D4, e4, D5, e5, D6, e6, rfl, _⟩ := rState_val d15
            replace d15 := Rep.val_mono (Q' := (fun b => (fun b => In Q w 3 b ∧ (Value.slice A8 sj.2.length c8).ownBlock ≠ some b) b ∧ b ≠ X ∧ b ≠ Y)) (fun b hb _ => hb.elim (fun h => h) (fun h => ⟨⟨.inr (by have := HZR.out; have := Below.size t14; omega), fun e => by have h1 := (Rep.acc_own HA.out b e).2; have := Below.size t14; omega⟩, fun e => by have := (Array.getElem?_eq_some_iff.1 r14).1; omega, fun e => by have := (Array.getElem?_eq_some_iff.1 r14Y).1; omega⟩)) d15
            have r15Y := row_call hb r14Y
            have r15X := row_call hb r14
            refine hK _ _ ⟨fun _ => t15, ?_⟩
            clear hb hK K ac as1 aa ad ax
            go_simp
            refine tkTV (i := 11) (v := .tuple #[.agg #[.slice D4 r.1.gens.length e4, .slice D5 r.1.free.length e5, .slice D6 r.1.ents.length e6], .agg #[.int .i64 r.2.err, .int .i64 r.2.id.index, .int .i64 r.2.id.gen]]) rfl t15 ?_
            go_simp
            refine tk0 (i := 13) (v := .agg #[.int .i64 r.2.err, .int .i64 r.2.id.index, .int .i64 r.2.id.gen]) rfl (Or.inl ⟨by rfl, fun w' _ => by go_simp <;> omega⟩) ?_
            go_simp
            refine tkTV (i := 12) (v := .agg #[.slice D4 r.1.gens.length e4, .slice D5 r.1.free.length e5, .slice D6 r.1.ents.length e6]) rfl t15 ?_
            go_simp
            exact KEY.out D4 e4 D5 e5 D6 e6 X Y u15 ⟨t15, r15X, r15Y, hXb, hYb, hXY, HRW.out, d15⟩
      · rintro D4 e4 D5 e5 D6 e6 X Y u9 hG
        have HG := Lib.hid hG
        have HNE := Lib.hid hG.ne
        have hne : ¬ X = Y := hG.ne
        have hne' : ¬ Y = X := fun e => hG.ne e.symm
        clear hG
        refine wpAnyT_last (i := 16) rfl (by kernel_rfl) rfl (fun K hK => ?_)
        have q0 := rw3 HG.out.rowX
        go_simp
        refine hK _ _ ?_
        clear hK K q0
        refine nm_anyT (fun x1 hx1 => ?_)
        have RX1 := Lib.hid (show x1.heap[X]? = some (.cells #[.slice D4 r.1.gens.length e4, .slice D5 r.1.free.length e5, .slice D6 r.1.ents.length e6] 75 (0, 0)) by rw [hx1]; exact heap_setRow (heap_setRow (heap_setRow HG.out.rowX)))
        have RY1 := Lib.hid (show x1.heap[Y]? = some (.cells #[.int .i64 0, .int .i64 0, .int .i64 0] 168 (0, 0)) by rw [hx1]; exact row_other (row_other (row_other HG.out.rowY hne') hne') hne')
        have HX1 := Lib.hid (show ∀ b, b ≠ X → x1.heap[b]? = u9.heap[b]? from fun b hb => by rw [hx1]; exact (Below.heap_setCell _ _ _ _ hb).trans ((Below.heap_setCell _ _ _ _ hb).trans (Below.heap_setCell _ _ _ _ hb)))
        have HB1 := Lib.hid (show Below wr.heap.size wr x1 by rw [hx1]; exact below_put (below_put (below_put HG.out.bel HG.out.bigX) HG.out.bigX) HG.out.bigX)
        clear hx1
        refine wpAnyT_last (i := 17) rfl (by kernel_rfl) rfl (fun K hK => ?_)
        have q0 := rw3 RY1.out
        go_simp
        refine hK _ _ ?_
        clear hK K q0
        refine nm_anyT (fun x2 hx2 => ?_)
        have RX2 := Lib.hid (show x2.heap[X]? = some (.cells #[.slice D4 r.1.gens.length e4, .slice D5 r.1.free.length e5, .slice D6 r.1.ents.length e6] 75 (0, 0)) by rw [hx2]; exact row_other (row_other (row_other RX1.out hne) hne) hne)
        have RY2 := Lib.hid (show x2.heap[Y]? = some (.cells #[.int .i64 r.2.err, .int .i64 r.2.id.index, .int .i64 r.2.id.gen] 168 (0, 0)) by rw [hx2]; exact heap_setRow (heap_setRow (heap_setRow RY1.out)))
        have HX2 := Lib.hid (show ∀ b, b ≠ X → b ≠ Y → x2.heap[b]? = u9.heap[b]? from fun b hb hc => by rw [hx2]; exact ((Below.heap_setCell _ _ _ _ hc).trans ((Below.heap_setCell _ _ _ _ hc).trans (Below.heap_setCell _ _ _ _ hc))).trans (HX1.out b hb))
        have HB2 := Lib.hid (show Below wr.heap.size wr x2 by rw [hx2]; exact below_put (below_put (below_put HB1.out HG.out.bigY) HG.out.bigY) HG.out.bigY)
        have HVZ := Lib.hid (show rState.val (fun b => (fun b => In Q w 3 b ∧ (Value.slice A8 sj.2.length c8).ownBlock ≠ some b) b ∧ b ≠ X ∧ b ≠ Y) x2 (.agg #[.slice D4 r.1.gens.length e4, .slice D5 r.1.free.length e5, .slice D6 r.1.ents.length e6]) r.1 from Rep.val_keep (fun b hb _ => ⟨hb, HX2.out b hb.2.1 hb.2.2⟩) HG.out.val)
        have HAX := Lib.hid (Rep.acc_later HA.out HB2.out)
        have HXW := Lib.hid (show w.heap.size + 3 ≤ X from Nat.le_trans HZR.out HG.out.bigX)
        have HYW := Lib.hid (show w.heap.size + 3 ≤ Y from Nat.le_trans HZR.out HG.out.bigY)
        clear hx2 hne hne'
        refine wpAnyT_done (by kernel_rfl) ?_ _
        have HS0 := Lib.hid (row_call HB2.out HR0.out)
        have HS1 := Lib.hid (row_call HB2.out HR1.out)
        have HS2 := Lib.hid (row_call HB2.out HR2.out)
        have q0_0 := rw5 HS0.out
        have q1_0 := rw3 HS1.out
        have q2_0 := rw3 HS2.out
        have qX_0 := cell_row RX2.out 0
        have qY_0 := cell_row RY2.out 0
        have qX_1 := cell_row RX2.out 1
        have qY_1 := cell_row RY2.out 1
        have qX_2 := cell_row RX2.out 2
        have qY_2 := cell_row RY2.out 2
        have dY : ¬ Y = w.heap.size + 1 := by have := HYW.out; omega
        have dY' : ¬ w.heap.size + 1 = Y := by have := HYW.out; omega
        go_wp2_with (with_reducible refine stopOne rfl ?_)
        refine Lib.hid ?_
        clear dY dY' q0_0 q1_0 q2_0 qX_0 qY_0 qX_1 qY_1 qX_2 qY_2
        refine nm_list (fun x3 hx3 => ?_)
        have SO := Lib.hid (show Only (Box w 3) x2 x3 by rw [hx3]; exact (((Only.refl _ _).put ⟨by omega, by omega⟩).put ⟨by omega, by omega⟩).put ⟨by omega, by omega⟩)
        have T0 := Lib.hid (show x3.heap[w.heap.size]? = some (.cells #[.int .i64 c.log, .int .i64 c.pages, .int .i64 c.entities, .int .i64 c.gens, .slice A c.comps.length cap] 49 (0, 0)) by rw [hx3]; exact row_other (row_other (row_other HS0.out (by omega)) (by omega)) (by omega))
        have T1 := Lib.hid (show x3.heap[w.heap.size + 1]? = some (.cells #[.slice D4 r.1.gens.length e4, .slice D5 r.1.free.length e5, .slice D6 r.1.ents.length e6] 75 (0, 0)) by rw [hx3]; exact heap_setRow (heap_setRow (heap_setRow HS1.out)))
        have T2 := Lib.hid (show x3.heap[w.heap.size + 1 + 1]? = some (.cells #[.slice none 0 0, .slice none 0 0, .slice none 0 0] 75 (0, 0)) by rw [hx3]; exact row_other (row_other (row_other HS2.out (by omega)) (by omega)) (by omega))
        have HV3 := Lib.hid (show rState.val (fun b => In Q w 3 b ∧ (Value.slice A8 sj.2.length c8).ownBlock ≠ some b) x3 (.agg #[.slice D4 r.1.gens.length e4, .slice D5 r.1.free.length e5, .slice D6 r.1.ents.length e6]) r.1 from Rep.val_keep (fun b hb hl => ⟨hb.1, SO.out.block b hl.lt hb.1.1.no⟩) HVZ.out)
        have HA3 := Lib.hid (show rResult.acc 168 W0.heap.size (fun _ => False) x3 (Value.slice A8 sj.2.length c8) sj.2 from Rep.acc_keep (fun b hb hl => SO.out.block b hl.lt (fun h => by rcases hb with hb | hb; (· exact hb); have h1 := (Rep.acc_own HA.out b hb).1; have := h.2; have := HZ.out; omega)) (fun _ h _ => h) HAX.out)
        have O3 := Lib.hid (show Only (Box w 3) W0 x3 from (HO.out.trans (Only.of_below HB2.out)).trans SO.out)
        have HLX := Lib.hid (show sj.2.length ≤ 10000 by have := HJN.out; have := HL.out; omega)
        have HRW := Lib.hid (show (Lit.int .i64 r.2.err).wf = true ∧ (Lit.int .i64 r.2.id.index).wf = true ∧ (Lit.int .i64 r.2.id.gen).wf = true from HG.out.wf)
        have HN := Lib.hid (show runS c s l (j + 1) = (r.1, sj.2 ++ [r.2]) by rw [runS_next HXJ.out, HSJ.out, HR.out])
        clear hx3
        refine wpList_snoc (e := 168) (base := W0.heap.size) (Q := fun _ => False) (r := rResult) rfl rfl _ _ 136 _ rfl rfl rfl (.agg #[.int .i64 0, .int .i64 0, .int .i64 0]) 3 24 Try.underlying136 infoRes rfl (by decide) rfl _ sj.2 HA3.out r.2 _ (by exact rfl) (rResult_agg HRW.out.1 HRW.out.2.1 HRW.out.2.2) (by exact rfl) (by exact rfl) (by have := HLX.out; unfold maxLen; omega) (by have := HLX.out; omega) (by have := O3.out.size; exact this) ?_
        intro s4 x4 hacc4 hgr4 hat4
        have hown : ∀ k, (Value.slice A8 sj.2.length c8).ownBlock = some k → W0.heap.size ≤ k ∧ k < x3.heap.size := Rep.acc_own HA3.out
        have HA4 := Lib.hid hacc4
        have O4 := Lib.hid (show Only (Box w 3) W0 x4 from ⟨hgr4.os.trans O3.out.os, hgr4.tape.trans O3.out.tape, hgr4.output.trans O3.out.output, Nat.le_trans O3.out.size hgr4.size, fun b hb hn => (hgr4.block b (Nat.lt_of_lt_of_le hb O3.out.size) (fun e => by have := (hown b e.symm).1; omega)).trans (O3.out.block b hb hn)⟩)
        have hkeep : ∀ b, b < W0.heap.size → x4.heap[b]? = x3.heap[b]? := fun b hb => hgr4.block b (Nat.lt_of_lt_of_le hb O3.out.size) (fun e => by have := (hown b e.symm).1; omega)
        have V0 := Lib.hid ((hkeep _ (by have := HZ.out; omega)).trans T0.out)
        have V1 := Lib.hid ((hkeep _ (by have := HZ.out; omega)).trans T1.out)
        have V2 := Lib.hid ((hkeep _ (by have := HZ.out; omega)).trans T2.out)
        have HV4 := Lib.hid (show rState.val (fun b => In Q w 3 b ∧ s4.ownBlock ≠ some b) x4 (.agg #[.slice D4 r.1.gens.length e4, .slice D5 r.1.free.length e5, .slice D6 r.1.ents.length e6]) r.1 from Rep.val_keep (fun b hb hl => ⟨⟨hb.1, fun e => by rcases hat4 with h | h; (· exact hb.2 (h ▸ e)); have h1 := Option.some.inj (h.symm.trans e); have := hl.lt; omega⟩, hgr4.block b hl.lt (fun e => hb.2 e.symm)⟩) HV3.out)
        clear hacc4 hgr4 hat4 hown hkeep
        go_wp2_with fail
        exact ⟨⟨j + 1, D4, e4, D5, e5, D6, e6, by go_num, by omega, O4, V0, by rw [HN.out]; exact V1, V2, by rw [HN.out]; exact HV4, by rw [HN.out]; exact HA4⟩, by simp [intOf]; omega⟩
    · obtain rfl : j = l.length := by omega
      have HE := Lib.hid (show (allS c s l).1 = sj.1 by unfold allS; rw [HSJ.out])
      have q0_0 := rw5 HR0.out
      have q1_0 := rw3 HR1.out
      have q2_0 := rw3 HR2.out
      go_wp2_with fail
      clear q0_0 q1_0 q2_0
      refine nm_post (fun wz hnm => ?_)
      have S101 := Lib.hid (show Only (Box w 3) wr wz from (by rw [hnm]; exact (((Only.refl (Box w 3) wr).put ⟨by omega, by omega⟩).put ⟨by omega, by omega⟩).put ⟨by omega, by omega⟩))
      have O101 := Lib.hid (HO.out.trans S101.out)
      have R0_101 := Lib.hid (row_nm hnm (row_other (row_other (row_other (HR0.out) (by omega)) (by omega)) (by omega)))
      have R1_101 := Lib.hid (row_nm hnm (row_other (row_other (row_other (HR1.out) (by omega)) (by omega)) (by omega)))
      have R2_101 := Lib.hid (show wz.heap[w.heap.size + 1 + 1]? = some (.cells #[.slice D1 sj.1.gens.length e1, .slice D2 sj.1.free.length e2, .slice D3 sj.1.ents.length e3] 75 (0, 0)) from (by rw [hnm]; exact heap_setRow (heap_setRow (heap_setRow (HR2.out)))))
      clear hnm
      have q2_0 := cl3 R2_101.out
      refine ⟨rfl, .tuple #[.agg #[.slice D1 sj.1.gens.length e1, .slice D2 sj.1.free.length e2, .slice D3 sj.1.ents.length e3], (Value.slice A8 sj.2.length c8)], by simp only [results, hfr]; go_simp, ?_⟩
      clear q2_0
      rw [HE.out]
      exact ⟨_, _, rfl, Rep.val_keep (fun b hb hl => ⟨hb.1.elim (fun h => .inl h.1) (fun h => .inr (by omega)), S101.out.block b hl.lt hb.1.no⟩) HV.out, Only.fin HB0.out O101.out⟩
end Go.Proofs.Yteljibjbndpncaa
