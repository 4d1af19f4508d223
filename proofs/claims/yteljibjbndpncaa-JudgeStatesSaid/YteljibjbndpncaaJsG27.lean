/- Texts on which the proofs stand: FAll, FModel. No condition is laid on any input. -/
import Derived.Test.YteljibjbndpncaaJsG25
import Derived.Test.YteljibjbndpncaaJsG26
namespace Go.Proofs.Yteljibjbndpncaa
open Go.RowKit

theorem one_own {c : DConf} {s : DState} {a : List DCmd} {d : List DResult} {x : DCmd} (hl : ¬ (x.loc = true ∧ x.kind ≠ 0)) : oneS c s a d x = doneS c s x x.id := by
  by_cases h : x.kind < 0 ∨ 3 < x.kind
  · rw [oneS_bad h, doneS_bad h]
  · rw [oneS_own h (fun e => hl ⟨e.1, by omega⟩), doneS_ok h]
theorem one_some {c : DConf} {s : DState} {a : List DCmd} {d : List DResult} {x : DCmd} {id : DID} (hl : x.loc = true ∧ x.kind ≠ 0) (hf : findS a d x.id.index = some id) : oneS c s a d x = doneS c s x id := by
  by_cases h : x.kind < 0 ∨ 3 < x.kind
  · rw [oneS_bad h, doneS_bad h]
  · rw [oneS_some h ⟨hl.1, by omega⟩ hf, doneS_ok h]
theorem one_bad {c : DConf} {s : DState} {a : List DCmd} {d : List DResult} {x : DCmd} {id : DID} (h : x.kind < 0 ∨ 3 < x.kind) : oneS c s a d x = doneS c s x id := by rw [oneS_bad h, doneS_bad h]
/-- What the machine reads while results are gathered. -/
def Mid7 (Q : Nat → Prop) (w : World) (u : Value) (b : Nat) : Prop := Lo Q w b ∨ (w.heap.size ≤ b ∧ u.ownBlock ≠ some b)
def AllDid (Q : Nat → Prop) (M : Nat) (w : World) (c : DConf) (r : DState × List DResult) (e : Ending) (W : World) : Prop :=
  ∃ u, e = .returned u ∧ rResult.list.val (fun b => w.heap.size ≤ b) W u r.2 ∧ Mach (fun b => Q b ∨ w.heap.size ≤ b) M W c r.1 ∧ Only (fun b => b = M) w W
theorem mid7_grown {Q : Nat → Prop} {M : Nat} {w V W X : World} {c : DConf} {s : DState} {u v : Value} {k : Nat} (hw : w.heap.size ≤ V.heap.size) (h : Mach (fun b => Mid7 Q w u b ∨ V.heap.size ≤ b) M W c s) (hM : M < w.heap.size) (hu : ∀ b, u.ownBlock = some b → w.heap.size ≤ b ∧ b < V.heap.size)
    (hg : W.grownBy X u.ownBlock) (hv : v.ownBlock = u.ownBlock ∨ v.ownBlock = some k) (hk : W.heap.size ≤ k) : Mach (Mid7 Q w v) M X c s :=
  h.keep (hg.block M h.lt (fun e => by have := (hu M e.symm).1; omega))
    (fun b hq hl => by
      have hne : u.ownBlock ≠ some b := fun e => by
        rcases hq with (hq | hq) | hq
        · have := hq.2; have := (hu b e).1; omega
        · exact hq.2 e
        · have := (hu b e).2; omega
      refine ⟨?_, hg.block b hl (fun e => hne e.symm)⟩
      rcases hq with (hq | hq) | hq
      · exact .inl hq
      · exact .inr ⟨hq.1, fun e => by rcases hv with hv | hv; (· exact hne (hv ▸ e)); rw [hv] at e; have := Option.some.inj e; omega⟩
      · exact .inr ⟨by omega, fun e => by rcases hv with hv | hv; (· exact hne (hv ▸ e)); rw [hv] at e; have := Option.some.inj e; omega⟩)
    (fun b hq => by
      intro e
      rcases hq with hq | hq
      · exact h.1 b (.inl (.inl hq)) e
      · have := hq.1; omega)

set_option maxRecDepth 100000 in
set_option maxHeartbeats 4000000 in
/-- flush.all -/
theorem fall_calls {Q Qx : Nat → Prop} {M : Nat} {w : World} {va : Value} {c : DConf} {s : DState} {l : List DCmd} (hm : Mach Q M w c s) (hok : StOk c s) (ha : rCmd.list.val Qx w va l) (hqx : ∀ b, Qx b → b ≠ M) (hl : l.length ≤ 10000) :
    Calls Try.prog 108 #[.iface 175 (.pointer (some ⟨M, 0, none⟩)), va] w (AllDid Q M w c (allS c s l)) := by
  have HM := Lib.hid hm
  have HML := Lib.hid hm.lt
  have HOK := Lib.hid hok
  have HL := Lib.hid hl
  have HQX := Lib.hid hqx
  obtain ⟨A, cap, rfl, m4, l4, _⟩ := Rep.val_list ha
  have HAA := Lib.hid ha
  unfold maxLen at l4
  clear hm hok ha hqx
  go_enter Try.func108, Try.ntmps108
  go_wp2_with fail
  go_loopw [5, 12] (fun u5 i wr => ∃ (j : Nat), i = .int .i64 j ∧ j ≤ l.length ∧ Hid (Only (fun b => b = M) w wr) ∧ Hid (Mach (Mid7 Q w u5) M wr c (runS c s l j).1) ∧ Hid (rResult.acc 168 w.heap.size (fun _ => False) wr u5 (runS c s l j).2)) (fun _ i _ => l.length - (intOf i).toNat)
  case atStart => exact ⟨0, rfl, Nat.zero_le _, Lib.hid (Only.refl _ _), Lib.hid (HM.out.keep rfl (fun b hq hl => ⟨.inl ⟨hq, hl⟩, rfl⟩) (fun b hq => hq.elim (fun h => HM.out.1 b h.1) (fun h => by have := HML.out; have := h.1; omega))), Lib.hid Rep.acc_nil⟩
  case round =>
    rename_i u5 _
    obtain ⟨j, rfl, hj, HO, HMJ, HA⟩ := hrel
    have HOKJ := Lib.hid (runS_ok HOK.out j (l := l))
    have HJN := Lib.hid (runS_len (c := c) (s := s) (l := l) j hj)
    obtain ⟨sj, hsj⟩ : ∃ sj, runS c s l j = sj := ⟨_, rfl⟩
    have HSJ := Lib.hid hsj
    rw [hsj] at HMJ HA HOKJ HJN
    clear hsj
    obtain ⟨A8, c8, rfl, h81, h82⟩ := Rep.acc_form HA.out
    unfold maxLen at h82
    by_cases hlt : (j : Int) < l.length
    · obtain ⟨x, hx⟩ : ∃ x, l[j]? = some x := ⟨_, List.getElem?_eq_getElem (by omega)⟩
      have HVR := Lib.hid (show rCmd.list.val Qx wr (.slice A l.length cap) l from Rep.val_keep (fun b hb hl => ⟨hb, HO.out.block b hl.lt (HQX.out b hb)⟩) HAA.out)
      obtain ⟨cb, co, Ad, cd, rfl, _, x0, x1, x2, x3, x4, x5, w0, w1, w2, w3, sd⟩ := rCmd_at (sl_of HVR.out).2.2 hx
      have HXJ := Lib.hid hx
      have HXV := Lib.hid (show rCmd.val Qx wr (.agg #[.int .i64 x.kind, .bool x.loc, .int .i64 x.id.index, .int .i64 x.id.gen, .int .i64 x.comp, .slice Ad x.data.length cd]) x from rCmd_agg w0 w1 w2 w3 sd)
      have HWI := Lib.hid w1
      have HRW := Lib.hid (oneS_wf (a := l.take j) (d := sj.2) (x := x) HOKJ.out)
      have HTK := Lib.hid (show rCmd.list.val Qx wr (.slice (some ⟨cb, co, none⟩) j cap) (l.take j) from Rep.list_val (by rw [List.length_take]; omega) (by omega) (by unfold maxLen; omega) ((sl_of HVR.out).2.2.take j))
      clear hx w0 w1 w2 w3 sd
      obtain ⟨r, hr⟩ : ∃ r, oneS c sj.1 (l.take j) sj.2 x = r := ⟨_, rfl⟩
      have HR := Lib.hid hr
      rw [hr] at HRW
      clear hr
      have HN := Lib.hid (show runS c s l (j + 1) = (r.1, sj.2 ++ [r.2]) by rw [runS_next HXJ.out, HSJ.out, HR.out])
      have HLX := Lib.hid (show sj.2.length ≤ 10000 by have := HJN.out; have := HL.out; omega)
      obtain ⟨v1, h1⟩ : ∃ W, wr.alloc (.cells #[.int .i64 x.kind, .bool x.loc, .int .i64 x.id.index, .int .i64 x.id.gen, .int .i64 x.comp, .slice Ad x.data.length cd] 116) = W := ⟨_, rfl⟩
      have RA1 := Lib.hid (show v1.heap[wr.heap.size]? = some (.cells #[.int .i64 x.kind, .bool x.loc, .int .i64 x.id.index, .int .i64 x.id.gen, .int .i64 x.comp, .slice Ad x.data.length cd] 116 (0, 0)) by rw [← h1]; exact alloc_at rfl)
      have B1 := Lib.hid (show Below wr.heap.size wr v1 by rw [← h1]; exact (Below.refl _ _).alloc (Nat.le_refl _) _)
      obtain ⟨v2, h2⟩ : ∃ W, v1.alloc (.cells #[.int .i64 x.id.index, .int .i64 x.id.gen] 114) = W := ⟨_, rfl⟩
      have RA2 := Lib.hid (show v2.heap[wr.heap.size]? = some (.cells #[.int .i64 x.kind, .bool x.loc, .int .i64 x.id.index, .int .i64 x.id.gen, .int .i64 x.comp, .slice Ad x.data.length cd] 116 (0, 0)) by rw [← h2]; exact alloc_old RA1.out)
      have RB2 := Lib.hid (show v2.heap[v1.heap.size]? = some (.cells #[.int .i64 x.id.index, .int .i64 x.id.gen] 114 (0, 0)) by rw [← h2]; exact alloc_at rfl)
      have B2 := Lib.hid (show Below wr.heap.size wr v2 from B1.out.trans (by rw [← h2]; exact ((Below.refl _ _).alloc (Nat.le_refl _) _).mono B1.out.size))
      have HSZ1 := Lib.hid (show v1.heap.size = wr.heap.size + 1 by rw [← h1]; simp)
      have hnp : ¬ v1.heap.size = wr.heap.size := by have := HSZ1.out; omega
      have hnp2 : ¬ wr.heap.size = v1.heap.size := by have := HSZ1.out; omega
      by_cases hloc : x.loc = true ∧ x.kind ≠ 0
      case neg =>
        have HD := Lib.hid (show r = doneS c sj.1 x x.id by rw [← HR.out]; exact one_own hloc)
        rcases hlc : x.loc with _ | _
        · skip
          rw [hlc] at HXV RA1 RA2 h1 x1
          clear hlc hloc
          have qa0 := rw6 RA1.out
          have qb0 := rw6 RA2.out
          have qc0 := rw2 RB2.out
          go_wp2_with fail
          try rw [h1]
          try rw [h2]
          clear h1 h2 hnp hnp2 x0 x1 x2 x3 x4 x5 qa0 qb0 qc0
          refine (fone_calls (id := x.id) (HMJ.out.later B2.out) HOKJ.out (Rep.val_keep (Q' := Qx) (w' := v2) (fun b hb hl => ⟨hb, B2.out.block b hl.lt⟩) HXV.out)).mono ?_
          rw [← HD.out]
          rintro e w6 ⟨rfl, hm6, ho6⟩
          have HM6 := Lib.hid hm6
          have HO6 := Lib.hid ho6
          clear hm6 ho6
          have HOWN := Lib.hid (show ∀ b, (Value.slice A8 sj.2.length c8).ownBlock = some b → w.heap.size ≤ b ∧ b < wr.heap.size from Rep.acc_own HA.out)
          have HA6 := Lib.hid (show rResult.acc 168 w.heap.size (fun _ => False) w6 (Value.slice A8 sj.2.length c8) sj.2 from Rep.acc_keep (fun b hb hl => HO6.out.block b hl.lt (fun e => by have e2 : b = M := e; have := (HOWN.out b (hb.elim False.elim (fun h => h))).1; have := HML.out; omega)) (fun _ h _ => h) (Rep.acc_later HA.out B2.out))
          have HSV := Lib.hid (show w.heap.size ≤ v2.heap.size from Nat.le_trans HO.out.size B2.out.size)
          have HSW := Lib.hid (show w.heap.size ≤ w6.heap.size from Nat.le_trans HSV.out HO6.out.size)
          go_wp2_with (with_reducible refine stopOne rfl ?_)
          refine Lib.hid ?_
          refine wpList_snoc (e := 168) (base := w.heap.size) (Q := fun _ => False) (r := rResult) rfl rfl _ _ 136 _ rfl rfl rfl (.agg #[.int .i64 0, .int .i64 0, .int .i64 0]) 3 24 Try.underlying136 infoRes rfl (by decide) rfl _ sj.2 HA6.out (r.2) _ (by exact rfl) (rResult_agg (x := r.2) HRW.out.1 HRW.out.2.1 HRW.out.2.2) (by exact rfl) (by exact rfl) (by have := HLX.out; unfold maxLen; omega) (by have := HLX.out; omega) HSW.out ?_
          intro s7 x7 hacc7 hgr7 hat7
          have HO7 := Lib.hid (show Only (fun b => b = M) w x7 from by
            have h : Only (fun b => b = M) w w6 := (HO.out.trans (Only.of_below B2.out)).trans HO6.out
            exact ⟨hgr7.os.trans h.os, hgr7.tape.trans h.tape, hgr7.output.trans h.output, Nat.le_trans h.size hgr7.size, fun b hb hf => (hgr7.block b (Nat.lt_of_lt_of_le hb h.size) (fun e => by have := (HOWN.out b e.symm).1; omega)).trans (h.block b hb hf)⟩)
          have HM7 := Lib.hid (show Mach (Mid7 Q w s7) M x7 c r.1 from mid7_grown (V := v2) HSV.out (HM6.out) HML.out (fun b e => ⟨(HOWN.out b e).1, Nat.lt_of_lt_of_le (HOWN.out b e).2 B2.out.size⟩) hgr7 hat7 (Nat.le_succ _))
          have HA7 := Lib.hid hacc7
          clear hacc7 hgr7 hat7
          go_wp2_with fail
          exact ⟨⟨j + 1, by go_num, by omega, HO7, by rw [HN.out]; exact HM7, by rw [HN.out]; exact HA7⟩, by simp [intOf]; omega⟩
        · skip
          have hk0 : (x.kind != 0) = false := by have h9 : x.kind = 0 := Decidable.byContradiction (fun h => hloc ⟨hlc, h⟩); simp [h9]
          rw [hlc] at HXV RA1 RA2 h1 x1
          clear hlc hloc
          have qa0 := rw6 RA1.out
          have qb0 := rw6 RA2.out
          have qc0 := rw2 RB2.out
          go_wp2_with fail
          try rw [h1]
          try rw [h2]
          clear h1 h2 hnp hnp2 x0 x1 x2 x3 x4 x5 qa0 qb0 qc0 hk0
          refine (fone_calls (id := x.id) (HMJ.out.later B2.out) HOKJ.out (Rep.val_keep (Q' := Qx) (w' := v2) (fun b hb hl => ⟨hb, B2.out.block b hl.lt⟩) HXV.out)).mono ?_
          rw [← HD.out]
          rintro e w6 ⟨rfl, hm6, ho6⟩
          have HM6 := Lib.hid hm6
          have HO6 := Lib.hid ho6
          clear hm6 ho6
          have HOWN := Lib.hid (show ∀ b, (Value.slice A8 sj.2.length c8).ownBlock = some b → w.heap.size ≤ b ∧ b < wr.heap.size from Rep.acc_own HA.out)
          have HA6 := Lib.hid (show rResult.acc 168 w.heap.size (fun _ => False) w6 (Value.slice A8 sj.2.length c8) sj.2 from Rep.acc_keep (fun b hb hl => HO6.out.block b hl.lt (fun e => by have e2 : b = M := e; have := (HOWN.out b (hb.elim False.elim (fun h => h))).1; have := HML.out; omega)) (fun _ h _ => h) (Rep.acc_later HA.out B2.out))
          have HSV := Lib.hid (show w.heap.size ≤ v2.heap.size from Nat.le_trans HO.out.size B2.out.size)
          have HSW := Lib.hid (show w.heap.size ≤ w6.heap.size from Nat.le_trans HSV.out HO6.out.size)
          go_wp2_with (with_reducible refine stopOne rfl ?_)
          refine Lib.hid ?_
          refine wpList_snoc (e := 168) (base := w.heap.size) (Q := fun _ => False) (r := rResult) rfl rfl _ _ 136 _ rfl rfl rfl (.agg #[.int .i64 0, .int .i64 0, .int .i64 0]) 3 24 Try.underlying136 infoRes rfl (by decide) rfl _ sj.2 HA6.out (r.2) _ (by exact rfl) (rResult_agg (x := r.2) HRW.out.1 HRW.out.2.1 HRW.out.2.2) (by exact rfl) (by exact rfl) (by have := HLX.out; unfold maxLen; omega) (by have := HLX.out; omega) HSW.out ?_
          intro s7 x7 hacc7 hgr7 hat7
          have HO7 := Lib.hid (show Only (fun b => b = M) w x7 from by
            have h : Only (fun b => b = M) w w6 := (HO.out.trans (Only.of_below B2.out)).trans HO6.out
            exact ⟨hgr7.os.trans h.os, hgr7.tape.trans h.tape, hgr7.output.trans h.output, Nat.le_trans h.size hgr7.size, fun b hb hf => (hgr7.block b (Nat.lt_of_lt_of_le hb h.size) (fun e => by have := (HOWN.out b e.symm).1; omega)).trans (h.block b hb hf)⟩)
          have HM7 := Lib.hid (show Mach (Mid7 Q w s7) M x7 c r.1 from mid7_grown (V := v2) HSV.out (HM6.out) HML.out (fun b e => ⟨(HOWN.out b e).1, Nat.lt_of_lt_of_le (HOWN.out b e).2 B2.out.size⟩) hgr7 hat7 (Nat.le_succ _))
          have HA7 := Lib.hid hacc7
          clear hacc7 hgr7 hat7
          go_wp2_with fail
          exact ⟨⟨j + 1, by go_num, by omega, HO7, by rw [HN.out]; exact HM7, by rw [HN.out]; exact HA7⟩, by simp [intOf]; omega⟩
      obtain ⟨hlc, hkz⟩ := hloc
      have hk0 : (x.kind != 0) = true := by simp [hkz]
      rw [hlc] at HXV RA1 RA2 h1 x1
      have HLC := Lib.hid hlc
      clear hlc
      have qa0 := rw6 RA1.out
      have qb0 := rw6 RA2.out
      have qc0 := rw2 RB2.out
      go_wp2_with fail
      try rw [h1]
      try rw [h2]
      clear h1 h2 hnp hnp2 x0 x1 x2 x3 x4 x5 qa0 qb0 qc0
      refine wp_region_tail (S := fun W => Below v2.heap.size v2 W) (T := [10, 11, 12]) (by kernel_rfl) ((Below.refl _ _).drew) (fun s0 => ?_)
      obtain ⟨u0, hu0⟩ : ∃ V, V = v2.drew := ⟨_, rfl⟩
      rw [← hu0] at s0 ⊢
      have t0 : Below v2.heap.size v2 u0 := s0
      clear hu0 s0
      have hjc : (j : Int) ≤ cap := by omega
      refine tkTV (i := 0) (v := .slice (some ⟨cb, co, none⟩) l.length cap) rfl t0 ?_
      go_simp
      refine tkTV (i := 1) (v := .int .i64 j) rfl t0 ?_
      go_simp
      refine tkTV (i := 2) (v := .slice (some ⟨cb, co, none⟩) j cap) rfl t0 ?_
      go_simp
      refine tkTV (i := 3) (v := .slice A8 sj.2.length c8) rfl t0 ?_
      go_simp
      refine tkTV (i := 4) (v := .pointer (some ⟨wr.heap.size, 2, none⟩)) rfl t0 ?_
      go_simp
      refine tkTV (i := 5) (v := .pointer (some ⟨wr.heap.size, 2, none⟩)) rfl t0 ?_
      go_simp
      refine tkT (i := 6) (v := .int .i64 x.id.index) rfl (Or.inl ⟨by rfl, fun w' h => by have e := row_call (h : Below v2.heap.size v2 w') RA2.out; have e0 := cell_row e 0; have e1 := cell_row e 1; have e2 := cell_row e 2; have e3 := cell_row e 3; have e4 := cell_row e 4; have e5 := cell_row e 5; go_simp⟩) t0 ?_
      go_simp
      clear hjc
      obtain ⟨d, hd⟩ : ∃ d, findS (l.take j) sj.2 x.id.index = d := ⟨_, rfl⟩
      refine wpAnyT_one (i := 7) rfl (by kernel_rfl) rfl (fun K hK => ?_)
      go_simp
      refine (ffind_calls (l := l.take j) (done := sj.2) (Rep.val_keep (Q' := Qx) (w' := u0) (fun b hb hl => ⟨hb, (t0.block b (Nat.lt_of_lt_of_le hl.lt B2.out.size)).trans (B2.out.block b hl.lt)⟩) HTK.out) (Rep.acc_val (Rep.acc_later (Rep.acc_later HA.out B2.out) t0)) (by have := HLX.out; omega) HWI.out).mono ?_
      rw [hd]
      rintro e u1 ⟨rfl, hb⟩
      have t1 : Below v2.heap.size v2 u1 := Below.trans t0 (hb.mono (Below.size t0))
      refine hK _ _ ⟨t1, ?_⟩
      clear hb hK K
      go_simp
      refine tkTV (i := 8) (v := .tuple #[.agg #[.int .i64 (d.getD noID).index, .int .i64 (d.getD noID).gen], .bool d.isSome]) rfl t1 ?_
      go_simp
      refine tk0 (i := 10) (v := .bool d.isSome) rfl (Or.inl ⟨by rfl, fun w' _ => by go_simp⟩) ?_
      go_simp
      refine tkTV (i := 9) (v := .agg #[.int .i64 (d.getD noID).index, .int .i64 (d.getD noID).gen]) rfl t1 ?_
      go_simp
      have eb := row_call t1 RB2.out
      have q0 := rw2 eb
      refine wpAnyT_last (i := 11) rfl (by kernel_rfl) rfl (fun K hK => ?_)
      go_simp
      refine hK _ _ ?_
      clear hK K q0
      refine nm_anyT (fun v3 hnm => ?_)
      have hle : wr.heap.size ≤ v1.heap.size := B1.out.size
      have RB3 := Lib.hid (show v3.heap[v1.heap.size]? = some (.cells #[.int .i64 (d.getD noID).index, .int .i64 (d.getD noID).gen] 114 (0, 0)) by rw [hnm]; exact heap_setRow (heap_setRow eb))
      have RA3 := Lib.hid (show v3.heap[wr.heap.size]? = some (.cells #[.int .i64 x.kind, .bool true, .int .i64 x.id.index, .int .i64 x.id.gen, .int .i64 x.comp, .slice Ad x.data.length cd] 116 (0, 0)) by rw [hnm]; exact row_other (row_other (row_call t1 RA2.out) (by have := HSZ1.out; omega)) (by have := HSZ1.out; omega))
      have B3 := Lib.hid (show Below wr.heap.size wr v3 by rw [hnm]; exact below_put (below_put (B2.out.trans (t1.mono B2.out.size)) hle) hle)
      clear hnm hle eb t0 t1
      refine tk0 (i := 12) (v := .bool d.isSome) rfl (Or.inl ⟨by rfl, fun w' _ => by go_simp⟩) ?_
      go_simp
      refine wpAnyT_done (by kernel_rfl) ?_ _
      rcases d with _ | id
      · skip
        dsimp only [Option.getD_none, Option.isSome_none] at RB3 ⊢
        by_cases hbad : x.kind < 0 ∨ 3 < x.kind
        · have HD := Lib.hid (show r = doneS c sj.1 x noID by rw [← HR.out]; exact one_bad hbad)
          rcases hbad with hbad | hbad
          · skip
            have hk1 : decide (0 ≤ x.kind) = false := decide_eq_false (by omega)
            have qa0 := rw6 RA3.out
            have qb0 := rw2 RB3.out
            go_wp2_with fail
            clear qa0 qb0
            refine (fone_calls (id := noID) (HMJ.out.later B3.out) HOKJ.out (Rep.val_keep (Q' := Qx) (w' := v3) (fun b hb hl => ⟨hb, B3.out.block b hl.lt⟩) HXV.out)).mono ?_
            rw [← HD.out]
            rintro e w6 ⟨rfl, hm6, ho6⟩
            have HM6 := Lib.hid hm6
            have HO6 := Lib.hid ho6
            clear hm6 ho6
            have HOWN := Lib.hid (show ∀ b, (Value.slice A8 sj.2.length c8).ownBlock = some b → w.heap.size ≤ b ∧ b < wr.heap.size from Rep.acc_own HA.out)
            have HA6 := Lib.hid (show rResult.acc 168 w.heap.size (fun _ => False) w6 (Value.slice A8 sj.2.length c8) sj.2 from Rep.acc_keep (fun b hb hl => HO6.out.block b hl.lt (fun e => by have e2 : b = M := e; have := (HOWN.out b (hb.elim False.elim (fun h => h))).1; have := HML.out; omega)) (fun _ h _ => h) (Rep.acc_later HA.out B3.out))
            have HSV := Lib.hid (show w.heap.size ≤ v3.heap.size from Nat.le_trans HO.out.size B3.out.size)
            have HSW := Lib.hid (show w.heap.size ≤ w6.heap.size from Nat.le_trans HSV.out HO6.out.size)
            go_wp2_with (with_reducible refine stopOne rfl ?_)
            refine Lib.hid ?_
            refine wpList_snoc (e := 168) (base := w.heap.size) (Q := fun _ => False) (r := rResult) rfl rfl _ _ 136 _ rfl rfl rfl (.agg #[.int .i64 0, .int .i64 0, .int .i64 0]) 3 24 Try.underlying136 infoRes rfl (by decide) rfl _ sj.2 HA6.out (r.2) _ (by exact rfl) (rResult_agg (x := r.2) HRW.out.1 HRW.out.2.1 HRW.out.2.2) (by exact rfl) (by exact rfl) (by have := HLX.out; unfold maxLen; omega) (by have := HLX.out; omega) HSW.out ?_
            intro s7 x7 hacc7 hgr7 hat7
            have HO7 := Lib.hid (show Only (fun b => b = M) w x7 from by
              have h : Only (fun b => b = M) w w6 := (HO.out.trans (Only.of_below B3.out)).trans HO6.out
              exact ⟨hgr7.os.trans h.os, hgr7.tape.trans h.tape, hgr7.output.trans h.output, Nat.le_trans h.size hgr7.size, fun b hb hf => (hgr7.block b (Nat.lt_of_lt_of_le hb h.size) (fun e => by have := (HOWN.out b e.symm).1; omega)).trans (h.block b hb hf)⟩)
            have HM7 := Lib.hid (show Mach (Mid7 Q w s7) M x7 c r.1 from mid7_grown (V := v3) HSV.out (HM6.out) HML.out (fun b e => ⟨(HOWN.out b e).1, Nat.lt_of_lt_of_le (HOWN.out b e).2 B3.out.size⟩) hgr7 hat7 (Nat.le_succ _))
            have HA7 := Lib.hid hacc7
            clear hacc7 hgr7 hat7
            go_wp2_with fail
            exact ⟨⟨j + 1, by go_num, by omega, HO7, by rw [HN.out]; exact HM7, by rw [HN.out]; exact HA7⟩, by simp [intOf]; omega⟩
          · skip
            have hk1 : decide (0 ≤ x.kind) = true := decide_eq_true (by omega)
            have hk2 : decide (x.kind ≤ 3) = false := decide_eq_false (by omega)
            have qa0 := rw6 RA3.out
            have qb0 := rw2 RB3.out
            go_wp2_with fail
            clear qa0 qb0
            refine (fone_calls (id := noID) (HMJ.out.later B3.out) HOKJ.out (Rep.val_keep (Q' := Qx) (w' := v3) (fun b hb hl => ⟨hb, B3.out.block b hl.lt⟩) HXV.out)).mono ?_
            rw [← HD.out]
            rintro e w6 ⟨rfl, hm6, ho6⟩
            have HM6 := Lib.hid hm6
            have HO6 := Lib.hid ho6
            clear hm6 ho6
            have HOWN := Lib.hid (show ∀ b, (Value.slice A8 sj.2.length c8).ownBlock = some b → w.heap.size ≤ b ∧ b < wr.heap.size from Rep.acc_own HA.out)
            have HA6 := Lib.hid (show rResult.acc 168 w.heap.size (fun _ => False) w6 (Value.slice A8 sj.2.length c8) sj.2 from Rep.acc_keep (fun b hb hl => HO6.out.block b hl.lt (fun e => by have e2 : b = M := e; have := (HOWN.out b (hb.elim False.elim (fun h => h))).1; have := HML.out; omega)) (fun _ h _ => h) (Rep.acc_later HA.out B3.out))
            have HSV := Lib.hid (show w.heap.size ≤ v3.heap.size from Nat.le_trans HO.out.size B3.out.size)
            have HSW := Lib.hid (show w.heap.size ≤ w6.heap.size from Nat.le_trans HSV.out HO6.out.size)
            go_wp2_with (with_reducible refine stopOne rfl ?_)
            refine Lib.hid ?_
            refine wpList_snoc (e := 168) (base := w.heap.size) (Q := fun _ => False) (r := rResult) rfl rfl _ _ 136 _ rfl rfl rfl (.agg #[.int .i64 0, .int .i64 0, .int .i64 0]) 3 24 Try.underlying136 infoRes rfl (by decide) rfl _ sj.2 HA6.out (r.2) _ (by exact rfl) (rResult_agg (x := r.2) HRW.out.1 HRW.out.2.1 HRW.out.2.2) (by exact rfl) (by exact rfl) (by have := HLX.out; unfold maxLen; omega) (by have := HLX.out; omega) HSW.out ?_
            intro s7 x7 hacc7 hgr7 hat7
            have HO7 := Lib.hid (show Only (fun b => b = M) w x7 from by
              have h : Only (fun b => b = M) w w6 := (HO.out.trans (Only.of_below B3.out)).trans HO6.out
              exact ⟨hgr7.os.trans h.os, hgr7.tape.trans h.tape, hgr7.output.trans h.output, Nat.le_trans h.size hgr7.size, fun b hb hf => (hgr7.block b (Nat.lt_of_lt_of_le hb h.size) (fun e => by have := (HOWN.out b e.symm).1; omega)).trans (h.block b hb hf)⟩)
            have HM7 := Lib.hid (show Mach (Mid7 Q w s7) M x7 c r.1 from mid7_grown (V := v3) HSV.out (HM6.out) HML.out (fun b e => ⟨(HOWN.out b e).1, Nat.lt_of_lt_of_le (HOWN.out b e).2 B3.out.size⟩) hgr7 hat7 (Nat.le_succ _))
            have HA7 := Lib.hid hacc7
            clear hacc7 hgr7 hat7
            go_wp2_with fail
            exact ⟨⟨j + 1, by go_num, by omega, HO7, by rw [HN.out]; exact HM7, by rw [HN.out]; exact HA7⟩, by simp [intOf]; omega⟩
        · skip
          have HRR := Lib.hid (show r = (sj.1, ⟨10, noID⟩) by rw [← HR.out]; exact oneS_none hbad ⟨HLC.out, by omega⟩ hd)
          have hk1 : decide (0 ≤ x.kind) = true := decide_eq_true (by omega)
          have hk2 : decide (x.kind ≤ 3) = true := decide_eq_true (by omega)
          have hk3 : 0 ≤ x.kind := by omega
          have hk4 : x.kind ≤ 3 := by omega
          have qa0 := rw6 RA3.out
          have qb0 := rw2 RB3.out
          have HOWN := Lib.hid (show ∀ b, (Value.slice A8 sj.2.length c8).ownBlock = some b → w.heap.size ≤ b ∧ b < wr.heap.size from Rep.acc_own HA.out)
          have HA6 := Lib.hid (Rep.acc_later HA.out B3.out)
          have HSV := Lib.hid (show w.heap.size ≤ v3.heap.size from Nat.le_trans HO.out.size B3.out.size)
          have HSW := Lib.hid HSV.out
          have HW10 := Lib.hid (show (Lit.int .i64 (10 : Int)).wf = true ∧ (Lit.int .i64 (0 : Int)).wf = true ∧ (Lit.int .i64 (0 : Int)).wf = true from by decide)
          go_wp2_with (with_reducible refine stopOne rfl ?_)
          refine Lib.hid ?_
          refine wpList_snoc (e := 168) (base := w.heap.size) (Q := fun _ => False) (r := rResult) rfl rfl _ _ 136 _ rfl rfl rfl (.agg #[.int .i64 0, .int .i64 0, .int .i64 0]) 3 24 Try.underlying136 infoRes rfl (by decide) rfl _ sj.2 HA6.out ((⟨10, noID⟩ : DResult)) _ (by exact rfl) (rResult_agg (x := (⟨10, noID⟩ : DResult)) HW10.out.1 HW10.out.2.1 HW10.out.2.2) (by exact rfl) (by exact rfl) (by have := HLX.out; unfold maxLen; omega) (by have := HLX.out; omega) HSW.out ?_
          intro s7 x7 hacc7 hgr7 hat7
          have HO7 := Lib.hid (show Only (fun b => b = M) w x7 from by
            have h : Only (fun b => b = M) w v3 := HO.out.trans (Only.of_below B3.out)
            exact ⟨hgr7.os.trans h.os, hgr7.tape.trans h.tape, hgr7.output.trans h.output, Nat.le_trans h.size hgr7.size, fun b hb hf => (hgr7.block b (Nat.lt_of_lt_of_le hb h.size) (fun e => by have := (HOWN.out b e.symm).1; omega)).trans (h.block b hb hf)⟩)
          have HM7 := Lib.hid (show Mach (Mid7 Q w s7) M x7 c r.1 from mid7_grown (V := v3) HSV.out ((show Mach (fun b => Mid7 Q w (.slice A8 sj.2.length c8) b ∨ v3.heap.size ≤ b) M v3 c r.1 by rw [HRR.out]; exact (HMJ.out.later B3.out).keep rfl (fun b hq _ => ⟨.inl hq, rfl⟩) (fun b hq => hq.elim (HMJ.out.1 b) (fun h => by have := HSV.out; have := HML.out; omega)))) HML.out (fun b e => ⟨(HOWN.out b e).1, Nat.lt_of_lt_of_le (HOWN.out b e).2 B3.out.size⟩) hgr7 hat7 (Nat.le_succ _))
          have HA7 := Lib.hid hacc7
          clear hacc7 hgr7 hat7
          go_wp2_with fail
          exact ⟨⟨j + 1, by go_num, by omega, HO7, by rw [HN.out]; exact HM7, by rw [HN.out, HRR.out]; exact HA7⟩, by simp [intOf]; omega⟩
      · skip
        dsimp only [Option.getD_some, Option.isSome_some] at RB3 ⊢
        have HD := Lib.hid (show r = doneS c sj.1 x id by rw [← HR.out]; exact one_some ⟨HLC.out, hkz⟩ hd)
        have qa0 := rw6 RA3.out
        have qb0 := rw2 RB3.out
        go_wp2_with fail
        clear qa0 qb0
        refine (fone_calls (id := id) (HMJ.out.later B3.out) HOKJ.out (Rep.val_keep (Q' := Qx) (w' := v3) (fun b hb hl => ⟨hb, B3.out.block b hl.lt⟩) HXV.out)).mono ?_
        rw [← HD.out]
        rintro e w6 ⟨rfl, hm6, ho6⟩
        have HM6 := Lib.hid hm6
        have HO6 := Lib.hid ho6
        clear hm6 ho6
        have HOWN := Lib.hid (show ∀ b, (Value.slice A8 sj.2.length c8).ownBlock = some b → w.heap.size ≤ b ∧ b < wr.heap.size from Rep.acc_own HA.out)
        have HA6 := Lib.hid (show rResult.acc 168 w.heap.size (fun _ => False) w6 (Value.slice A8 sj.2.length c8) sj.2 from Rep.acc_keep (fun b hb hl => HO6.out.block b hl.lt (fun e => by have e2 : b = M := e; have := (HOWN.out b (hb.elim False.elim (fun h => h))).1; have := HML.out; omega)) (fun _ h _ => h) (Rep.acc_later HA.out B3.out))
        have HSV := Lib.hid (show w.heap.size ≤ v3.heap.size from Nat.le_trans HO.out.size B3.out.size)
        have HSW := Lib.hid (show w.heap.size ≤ w6.heap.size from Nat.le_trans HSV.out HO6.out.size)
        go_wp2_with (with_reducible refine stopOne rfl ?_)
        refine Lib.hid ?_
        refine wpList_snoc (e := 168) (base := w.heap.size) (Q := fun _ => False) (r := rResult) rfl rfl _ _ 136 _ rfl rfl rfl (.agg #[.int .i64 0, .int .i64 0, .int .i64 0]) 3 24 Try.underlying136 infoRes rfl (by decide) rfl _ sj.2 HA6.out (r.2) _ (by exact rfl) (rResult_agg (x := r.2) HRW.out.1 HRW.out.2.1 HRW.out.2.2) (by exact rfl) (by exact rfl) (by have := HLX.out; unfold maxLen; omega) (by have := HLX.out; omega) HSW.out ?_
        intro s7 x7 hacc7 hgr7 hat7
        have HO7 := Lib.hid (show Only (fun b => b = M) w x7 from by
          have h : Only (fun b => b = M) w w6 := (HO.out.trans (Only.of_below B3.out)).trans HO6.out
          exact ⟨hgr7.os.trans h.os, hgr7.tape.trans h.tape, hgr7.output.trans h.output, Nat.le_trans h.size hgr7.size, fun b hb hf => (hgr7.block b (Nat.lt_of_lt_of_le hb h.size) (fun e => by have := (HOWN.out b e.symm).1; omega)).trans (h.block b hb hf)⟩)
        have HM7 := Lib.hid (show Mach (Mid7 Q w s7) M x7 c r.1 from mid7_grown (V := v3) HSV.out (HM6.out) HML.out (fun b e => ⟨(HOWN.out b e).1, Nat.lt_of_lt_of_le (HOWN.out b e).2 B3.out.size⟩) hgr7 hat7 (Nat.le_succ _))
        have HA7 := Lib.hid hacc7
        clear hacc7 hgr7 hat7
        go_wp2_with fail
        exact ⟨⟨j + 1, by go_num, by omega, HO7, by rw [HN.out]; exact HM7, by rw [HN.out]; exact HA7⟩, by simp [intOf]; omega⟩
    · obtain rfl : j = l.length := by omega
      have HE := Lib.hid (show allS c s l = sj from HSJ.out)
      go_wp2_with fail
      go_ret
      rw [HE.out]
      refine ⟨_, rfl, Rep.val_mono (fun b hb _ => hb.elim False.elim (fun e => (Rep.acc_own HA.out b e).1)) (Rep.acc_val HA.out), HMJ.out.keep rfl (fun b hq _ => ⟨hq.elim (fun h => .inl h.1) (fun h => .inr h.1), rfl⟩) (fun b hq => hq.elim (HM.out.1 b) (fun h => by have := HML.out; omega)), HO.out⟩
end Go.Proofs.Yteljibjbndpncaa
namespace Go.Proofs.Yteljibjbndpncaa
open Go.RowKit

/-- A state and results behind a frame. -/
def ModelDid (Q : Nat → Prop) (w : World) (r : DState × List DResult) (e : Ending) (W : World) : Prop :=
  ∃ z u, e = .returned (.tuple #[z, u]) ∧ rState.val (fun b => Q b ∨ w.heap.size ≤ b) W z r.1 ∧ rResult.list.val (fun b => w.heap.size ≤ b) W u r.2 ∧ Below w.heap.size w W

set_option maxRecDepth 100000 in
set_option maxHeartbeats 2000000 in
/-- flush.Model -/
theorem fmodel_calls {Q : Nat → Prop} {w : World} {vc v va : Value} {c : DConf} {s : DState} {l : List DCmd} (hc : rConf.val Q w vc c) (hs : rState.val Q w v s) (ha : rCmd.list.val Q w va l) (hok : StOk c s) (hl : l.length ≤ 10000) :
    Calls Try.prog 75 #[vc, v, va] w (ModelDid Q w (allS c s l)) := by
  have HC := Lib.hid hc
  have HS := Lib.hid hs
  have HA := Lib.hid ha
  have HOK := Lib.hid hok
  have HL := Lib.hid hl
  obtain ⟨A, cap, rfl, _⟩ := rConf_val hc
  obtain ⟨A1, c1, A2, c2, A3, c3, rfl, _⟩ := rState_val hs
  have hfr : Try.f75.results = #[.cell 6 75, .tmp 7] := rfl
  obtain ⟨r, hr⟩ : ∃ r, allS c s l = r := ⟨_, rfl⟩
  rw [hr]
  have HR := Lib.hid hr
  clear hc hs ha hok hl hr
  obtain ⟨W0, hW0⟩ : ∃ W, (((w.alloc (.cells #[.int .i64 c.log, .int .i64 c.pages, .int .i64 c.entities, .int .i64 c.gens, .slice A c.comps.length cap] 49)).alloc (.cells #[.slice A1 s.gens.length c1, .slice A2 s.free.length c2, .slice A3 s.ents.length c3] 75)).alloc (.cells #[.slice none 0 0, .slice none 0 0, .slice none 0 0] 75)) = W := ⟨_, rfl⟩
  have hz0 : W0.heap.size = w.heap.size + 3 := by rw [← hW0]; simp
  have hb0 : Below w.heap.size w W0 := by rw [← hW0]; exact (((Below.refl _ _).alloc (Nat.le_refl _) _).alloc (by first | (simp; done) | (simp; omega)) _).alloc (by first | (simp; done) | (simp; omega)) _
  have HZ := Lib.hid hz0
  have HB0 := Lib.hid hb0
  have R0_0 := Lib.hid (show W0.heap[w.heap.size]? = some (.cells #[.int .i64 c.log, .int .i64 c.pages, .int .i64 c.entities, .int .i64 c.gens, .slice A c.comps.length cap] 49 (0, 0)) by rw [← hW0]; exact alloc_old (alloc_old (alloc_at rfl)))
  have R1_0 := Lib.hid (show W0.heap[w.heap.size + 1]? = some (.cells #[.slice A1 s.gens.length c1, .slice A2 s.free.length c2, .slice A3 s.ents.length c3] 75 (0, 0)) by rw [← hW0]; exact alloc_old (alloc_at (by simp)))
  have R2_0 := Lib.hid (show W0.heap[w.heap.size + 1 + 1]? = some (.cells #[.slice none 0 0, .slice none 0 0, .slice none 0 0] 75 (0, 0)) by rw [← hW0]; exact alloc_at (by simp))
  have O0 := Lib.hid (Only.refl (Box w 3) W0)
  have HCV := Lib.hid (show rConf.val (Lo Q w) W0 (.agg #[.int .i64 c.log, .int .i64 c.pages, .int .i64 c.entities, .int .i64 c.gens, .slice A c.comps.length cap]) c from val_lo HC.out hb0)
  have HSV := Lib.hid (show rState.val (Lo Q w) W0 (.agg #[.slice A1 s.gens.length c1, .slice A2 s.free.length c2, .slice A3 s.ents.length c3]) s from val_lo HS.out hb0)
  have HAV := Lib.hid (show rCmd.list.val (Lo Q w) W0 va l from val_lo HA.out hb0)
  clear hz0 hb0
  have q0_0 := rw5 R0_0.out
  have q1_0 := rw3 R1_0.out
  have q2_0 := rw3 R2_0.out
  go_enter Try.func75, Try.ntmps75
  go_wp2_with fail
  try rw [hW0]
  clear hW0
  try go_wp2_with fail
  clear q0_0 q1_0 q2_0
  refine nm_calls (fun w1 hnm => ?_)
  have HF1 := Lib.hid (show w.heap.size + 3 ≤ W0.heap.size by have := O0.out.size; have := HZ.out; omega)
  have S1 := Lib.hid (show Only (Box w 3) W0 w1 from (by rw [hnm]; exact (Only.refl (Box w 3) W0).alloc _))
  have O1 := Lib.hid (O0.out.trans S1.out)
  have R0_1 := Lib.hid (row_nm hnm (alloc_old (R0_0.out)))
  have R1_1 := Lib.hid (row_nm hnm (alloc_old (R1_0.out)))
  have R2_1 := Lib.hid (row_nm hnm (alloc_old (R2_0.out)))
  have RW0_heap_size_1 := Lib.hid (show w1.heap[W0.heap.size]? = some (.cells #[.int .i64 c.log, .int .i64 c.pages, .int .i64 c.entities, .int .i64 c.gens, .slice A c.comps.length cap, .slice A1 s.gens.length c1, .slice A2 s.free.length c2, .slice A3 s.ents.length c3] 177 (0, 0)) from (by rw [hnm]; exact alloc_at rfl))
  have HB1 := Lib.hid (show Below W0.heap.size W0 w1 by rw [hnm]; exact (Below.refl _ _).alloc (Nat.le_refl _) _)
  clear hnm
  have HM1 := Lib.hid (show Mach (Lo Q w) W0.heap.size w1 c s from ⟨fun b hb e => by have := hb.2; have := HZ.out; omega, A, cap, A1, c1, A2, c2, A3, c3, RW0_heap_size_1.out, val_lo_later HCV.out HB1.out, val_lo_later HSV.out HB1.out⟩)
  refine (fall_calls HM1.out HOK.out (val_lo_later HAV.out HB1.out) (fun b hb e => by have := hb.2; have := HZ.out; omega) HL.out).mono ?_
  rw [HR.out]
  rintro e w2 ⟨u, rfl, hu, hm2, ho2⟩
  obtain ⟨_, B, capB, B1, e1, B2, e2, B3, e3, hrow, _, hsv⟩ := hm2
  have HRM := Lib.hid hrow
  have HSV2 := Lib.hid hsv
  have HU := Lib.hid hu
  have HO2 := Lib.hid ho2
  clear hrow hsv hu ho2
  have T0 := Lib.hid (row_only HO2.out R0_1.out (by have := HZ.out; first | omega | (dsimp only; omega)))
  have T1 := Lib.hid (row_only HO2.out R1_1.out (by have := HZ.out; first | omega | (dsimp only; omega)))
  have T2 := Lib.hid (row_only HO2.out R2_1.out (by have := HZ.out; first | omega | (dsimp only; omega)))
  have HR2 := Lib.hid (show w.heap.size + 1 + 1 < W0.heap.size by have := HZ.out; omega)
  have q0 := cl8 HRM.out
  have p0 := rw3 T2.out
  have d1 : ¬ W0.heap.size = w.heap.size + 1 + 1 := by have := HR2.out; omega
  have d2 : ¬ w.heap.size + 1 + 1 = W0.heap.size := by have := HR2.out; omega
  go_wp2_with fail
  clear d1 d2 q0 p0
  refine nm_post (fun w9 hnm => ?_)
  have HO9 := Lib.hid (show Only (fun b => b = w.heap.size + 1 + 1) w2 w9 by rw [hnm]; exact (((Only.refl (fun b => b = w.heap.size + 1 + 1) w2).put rfl).put rfl).put rfl)
  have R9 := Lib.hid (show w9.heap[w.heap.size + 1 + 1]? = some (.cells #[.slice B1 r.1.gens.length e1, .slice B2 r.1.free.length e2, .slice B3 r.1.ents.length e3] 75 (0, 0)) by rw [hnm]; exact heap_setRow (heap_setRow (heap_setRow T2.out)))
  clear hnm
  have q2_0 := cl3 R9.out
  refine ⟨rfl, .tuple #[.agg #[.slice B1 r.1.gens.length e1, .slice B2 r.1.free.length e2, .slice B3 r.1.ents.length e3], u], by simp only [results, hfr]; go_simp, ?_⟩
  clear q2_0
  refine ⟨_, u, rfl, Rep.val_keep (fun b hb hl => ⟨hb.elim (fun h => .inl h.1) (fun h => .inr (Nat.le_trans (Nat.le_trans HB0.out.size HB1.out.size) h)), HO9.out.block b hl.lt (fun e => ?_)⟩) HSV2.out, Rep.val_keep (fun b hb hl => ⟨Nat.le_trans (Nat.le_trans HB0.out.size HB1.out.size) hb, HO9.out.block b hl.lt (fun e => ?_)⟩) HU.out, ?_⟩
  · have e2 : b = w.heap.size + 1 + 1 := e
    have := HR2.out
    have := HB1.out.size
    rcases hb with hb | hb
    · have := hb.2; omega
    · omega
  · have e2 : b = w.heap.size + 1 + 1 := e
    have := HR2.out
    have := HB1.out.size
    have hb : w1.heap.size ≤ b := hb
    omega
  · exact (HB0.out.trans (HB1.out.mono HB0.out.size)).trans ((HO2.out.below (Nat.le_trans HB0.out.size HB1.out.size) (fun b e => by rw [e]; exact HB0.out.size)).trans (HO9.out.below (Nat.le_trans (Nat.le_trans HB0.out.size HB1.out.size) HO2.out.size) (fun b e => by rw [e]; omega)))
end Go.Proofs.Yteljibjbndpncaa
