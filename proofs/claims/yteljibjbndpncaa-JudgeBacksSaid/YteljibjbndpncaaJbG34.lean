/- Texts on which the proofs stand: JudgeBacks. No condition is laid on any input. -/
import Derived.Test.YteljibjbndpncaaJbG33
namespace Go.Proofs.Yteljibjbndpncaa
open Go.RowKit

set_option maxRecDepth 100000 in
set_option maxHeartbeats 4000000 in
/-- law33.JudgeBacks -/
theorem judgeBacks_calls {Q : Nat → Prop} {w : World} {vc vf vs : Value} {c : DConf} {frames : List (List DCmd)} {s : DState} {safe k : Int} (hc : rConf.val Q w vc c) (hf : rCmd.list.list.val Q w vf frames) (_ : (Lit.int .i64 safe).wf = true) (_ : (Lit.int .i64 k).wf = true) (hs : rState.val Q w vs s) :
    Calls Try.prog 5 #[vc, vf, .int .i64 safe, .int .i64 k, vs] w fun e w' => e = .returned (.bool true) ∧ Below w.heap.size w w' := by
  have HC := Lib.hid hc
  have HSV := Lib.hid hs
  obtain ⟨A, cap, rfl, _⟩ := rConf_val hc
  obtain ⟨A1, c1, A2, c2, A3, c3, rfl, _⟩ := rState_val hs
  obtain ⟨Af, cf, rfl, mf, lf, _⟩ := Rep.val_list hf
  have HFF := Lib.hid hf
  unfold maxLen at lf
  clear hc hf hs
  obtain ⟨W0, hW0⟩ : ∃ W, ((w.alloc (.cells #[.int .i64 c.log, .int .i64 c.pages, .int .i64 c.entities, .int .i64 c.gens, .slice A c.comps.length cap] 49)).alloc (.cells #[.slice A1 s.gens.length c1, .slice A2 s.free.length c2, .slice A3 s.ents.length c3] 75)) = W := ⟨_, rfl⟩
  have hz0 : W0.heap.size = w.heap.size + 2 := by rw [← hW0]; simp
  have hb0 : Below w.heap.size w W0 := by rw [← hW0]; exact ((Below.refl _ _).alloc (Nat.le_refl _) _).alloc (by first | (simp; done) | (simp; omega)) _
  have HZ := Lib.hid hz0
  have HB0 := Lib.hid hb0
  have R0_0 := Lib.hid (show W0.heap[w.heap.size]? = some (.cells #[.int .i64 c.log, .int .i64 c.pages, .int .i64 c.entities, .int .i64 c.gens, .slice A c.comps.length cap] 49 (0, 0)) by rw [← hW0]; exact alloc_old (alloc_at rfl))
  have R1_0 := Lib.hid (show W0.heap[w.heap.size + 1]? = some (.cells #[.slice A1 s.gens.length c1, .slice A2 s.free.length c2, .slice A3 s.ents.length c3] 75 (0, 0)) by rw [← hW0]; exact alloc_at (by simp))
  have O0 := Lib.hid (Only.refl (Box w 2) W0)
  have HVC := Lib.hid (show ∀ V, Below W0.heap.size W0 V → rConf.val (Lo Q w) V (.agg #[.int .i64 c.log, .int .i64 c.pages, .int .i64 c.entities, .int .i64 c.gens, .slice A c.comps.length cap]) c from fun V h => val_lo_later (val_lo HC.out hb0) h)
  have HVS := Lib.hid (show ∀ V, Below W0.heap.size W0 V → rState.val (Lo Q w) V (.agg #[.slice A1 s.gens.length c1, .slice A2 s.free.length c2, .slice A3 s.ents.length c3]) s from fun V h => val_lo_later (val_lo HSV.out hb0) h)
  have HVF := Lib.hid (show ∀ V, Below W0.heap.size W0 V → rCmd.list.list.val (Lo Q w) V (.slice Af frames.length cf) frames from fun V h => val_lo_later (val_lo HFF.out hb0) h)
  clear hz0 hb0
  obtain ⟨q0_0, z0_0, q0_1, z0_1, q0_2, z0_2, q0_3, z0_3, q0_4, z0_4⟩ := rw5 R0_0.out
  obtain ⟨q1_0, z1_0, q1_1, z1_1, q1_2, z1_2⟩ := rw3 R1_0.out
  go_enter Try.func5, Try.ntmps5
  go_wp2_with fail
  try rw [hW0]
  clear hW0
  try go_wp2_with fail
  clear q0_0 z0_0 q0_1 z0_1 q0_2 z0_2 q0_3 z0_3 q0_4 z0_4 q1_0 z1_0 q1_1 z1_1 q1_2 z1_2
  have HB00 := Lib.hid (Below.refl W0.heap.size W0)
  refine (much_calls (HVC.out _ HB00.out)).mono ?_
  rintro e w1 ⟨rfl, hb⟩
  have HBw1 := Lib.hid (HB00.out.trans (hb.mono HB00.out.size))
  have S1 := Lib.hid (show Only (Box w 2) W0 w1 from Only.of_below hb)
  have O1 := Lib.hid (O0.out.trans S1.out)
  have R0_1 := Lib.hid (row_call hb R0_0.out)
  have R1_1 := Lib.hid (row_call hb R1_0.out)
  clear hb
  cases muchConf c with
  | true =>
    obtain ⟨q0_0, q0_1, q0_2, q0_3, q0_4⟩ := cl5 R0_1.out
    obtain ⟨q1_0, q1_1, q1_2⟩ := cl3 R1_1.out
    go_wp2_with fail
    clear q0_0 q0_1 q0_2 q0_3 q0_4 q1_0 q1_1 q1_2
    refine (live33_calls _).mono ?_
    rintro e wl ⟨rfl, hbl⟩
    have HBL := Lib.hid (HB0.out.trans ((HBw1.out.trans (hbl.mono HBw1.out.size)).mono HB0.out.size))
    clear hbl
    go_wp2_with fail
    go_ret
    exact ⟨rfl, HBL.out⟩
  | false =>
    obtain ⟨q0_0, q0_1, q0_2, q0_3, q0_4⟩ := cl5 R0_1.out
    obtain ⟨q1_0, q1_1, q1_2⟩ := cl3 R1_1.out
    go_wp2_with fail
    clear q0_0 q0_1 q0_2 q0_3 q0_4 q1_0 q1_1 q1_2
    refine (right_calls (HVC.out _ HBw1.out)).mono ?_
    rintro e w2 ⟨rfl, hb⟩
    have HBw2 := Lib.hid (HBw1.out.trans (hb.mono HBw1.out.size))
    have S2 := Lib.hid (show Only (Box w 2) w1 w2 from Only.of_below hb)
    have O2 := Lib.hid (O1.out.trans S2.out)
    have R0_2 := Lib.hid (row_call hb R0_1.out)
    have R1_2 := Lib.hid (row_call hb R1_1.out)
    clear hb
    by_cases hr : confRight c = true
    case neg =>
      rw [Bool.eq_false_iff.2 hr]
      obtain ⟨q0_0, q0_1, q0_2, q0_3, q0_4⟩ := cl5 R0_2.out
      obtain ⟨q1_0, q1_1, q1_2⟩ := cl3 R1_2.out
      go_wp2_with fail
      clear q0_0 q0_1 q0_2 q0_3 q0_4 q1_0 q1_1 q1_2
      refine (live33_calls _).mono ?_
      rintro e wl ⟨rfl, hbl⟩
      have HBL := Lib.hid (HB0.out.trans ((HBw2.out.trans (hbl.mono HBw2.out.size)).mono HB0.out.size))
      clear hbl
      go_wp2_with fail
      go_ret
      exact ⟨rfl, HBL.out⟩
    have HR := Lib.hid hr
    rw [hr]
    clear hr
    obtain ⟨q0_0, q0_1, q0_2, q0_3, q0_4⟩ := cl5 R0_2.out
    obtain ⟨q1_0, q1_1, q1_2⟩ := cl3 R1_2.out
    go_wp2_with fail
    clear q0_0 q0_1 q0_2 q0_3 q0_4 q1_0 q1_1 q1_2
    refine (much33_calls (HVF.out _ HBw2.out)).mono ?_
    rintro e w2' ⟨m, rfl, hm, hw⟩
    obtain rfl := hw.symm
    cases m with
    | true =>
      obtain ⟨q0_0, q0_1, q0_2, q0_3, q0_4⟩ := cl5 R0_2.out
      obtain ⟨q1_0, q1_1, q1_2⟩ := cl3 R1_2.out
      go_wp2_with fail
      clear q0_0 q0_1 q0_2 q0_3 q0_4 q1_0 q1_1 q1_2
      refine (live33_calls _).mono ?_
      rintro e wl ⟨rfl, hbl⟩
      have HBL := Lib.hid (HB0.out.trans ((HBw2.out.trans (hbl.mono HBw2.out.size)).mono HB0.out.size))
      clear hbl
      go_wp2_with fail
      go_ret
      exact ⟨rfl, HBL.out⟩
    | false =>
      have HM := Lib.hid (hm rfl)
      clear hm
      obtain ⟨q0_0, q0_1, q0_2, q0_3, q0_4⟩ := cl5 R0_2.out
      obtain ⟨q1_0, q1_1, q1_2⟩ := cl3 R1_2.out
      go_wp2_with fail
      clear q0_0 q0_1 q0_2 q0_3 q0_4 q1_0 q1_1 q1_2
      refine (muchSt_calls (HVS.out _ HBw2.out)).mono ?_
      rintro e w3 ⟨m, rfl, _, hb⟩
      have HBw3 := Lib.hid (HBw2.out.trans (hb.mono HBw2.out.size))
      have S3 := Lib.hid (show Only (Box w 2) w2 w3 from Only.of_below hb)
      have O3 := Lib.hid (O2.out.trans S3.out)
      have R0_3 := Lib.hid (row_call hb R0_2.out)
      have R1_3 := Lib.hid (row_call hb R1_2.out)
      clear hb
      cases m with
      | true =>
        obtain ⟨q0_0, q0_1, q0_2, q0_3, q0_4⟩ := cl5 R0_3.out
        obtain ⟨q1_0, q1_1, q1_2⟩ := cl3 R1_3.out
        go_wp2_with fail
        clear q0_0 q0_1 q0_2 q0_3 q0_4 q1_0 q1_1 q1_2
        refine (live33_calls _).mono ?_
        rintro e wl ⟨rfl, hbl⟩
        have HBL := Lib.hid (HB0.out.trans ((HBw3.out.trans (hbl.mono HBw3.out.size)).mono HB0.out.size))
        clear hbl
        go_wp2_with fail
        go_ret
        exact ⟨rfl, HBL.out⟩
      | false =>
        have HL := Lib.hid (show ∀ l ∈ frames, l.length ≤ 10000 from fun l h => Nat.le_trans (HM.out.2 l h) (by omega))
        have HN := Lib.hid (show frames.length ≤ 9999 from Nat.le_trans HM.out.1 (by omega))
        by_cases hk : k < 0 ∨ (frames.length : Int) < k
        · rcases hk with hk | hk
          · skip
            obtain ⟨q0_0, q0_1, q0_2, q0_3, q0_4⟩ := cl5 R0_3.out
            obtain ⟨q1_0, q1_1, q1_2⟩ := cl3 R1_3.out
            go_wp2_with fail
            clear q0_0 q0_1 q0_2 q0_3 q0_4 q1_0 q1_1 q1_2
            have HNV := Lib.hid (show (0 : Int) ≤ (frames.length : Int) by omega)
            refine (rstate33_calls (k := (0 : Int)) (HVC.out _ HBw3.out) (HVF.out _ HBw3.out) HR.out HL.out HNV.out).mono ?_
            obtain ⟨t, ht⟩ : ∃ t, stateS c frames ((0 : Int)).toNat = t := ⟨_, rfl⟩
            rw [ht]
            clear ht
            rintro e w4 ⟨z, rfl, hz, hb⟩
            obtain ⟨D1, e1, D2, e2, D3, e3, rfl, _⟩ := rState_val hz
            have HBw4 := Lib.hid (HBw3.out.trans (hb.mono HBw3.out.size))
            have HZT := Lib.hid (Rep.val_any hz)
            have S4 := Lib.hid (show Only (Box w 2) w3 w4 from Only.of_below hb)
            have O4 := Lib.hid (O3.out.trans S4.out)
            have R0_4 := Lib.hid (row_call hb R0_3.out)
            have R1_4 := Lib.hid (row_call hb R1_3.out)
            clear hb hz
            have HF1 := Lib.hid (show w.heap.size + 2 ≤ w4.heap.size by have := O4.out.size; have := HZ.out; omega)
            obtain ⟨w5, hn1⟩ : ∃ W, (w4.alloc (.cells #[.slice D1 t.gens.length e1, .slice D2 t.free.length e2, .slice D3 t.ents.length e3] 75)) = W := ⟨_, rfl⟩
            have S5 := Lib.hid (show Only (Box w 2) w4 w5 from (by rw [← hn1]; exact (Only.refl (Box w 2) w4).alloc _))
            have O5 := Lib.hid (O4.out.trans S5.out)
            have R0_5 := Lib.hid (row_nm hn1.symm (alloc_old (R0_4.out)))
            have R1_5 := Lib.hid (row_nm hn1.symm (alloc_old (R1_4.out)))
            have Rw4_heap_size_5 := Lib.hid (show w5.heap[w4.heap.size]? = some (.cells #[.slice D1 t.gens.length e1, .slice D2 t.free.length e2, .slice D3 t.ents.length e3] 75 (0, 0)) from (by rw [← hn1]; exact alloc_at rfl))
            obtain ⟨y1_0_0, x1_0_0, y1_0_1, x1_0_1, y1_0_2, x1_0_2, y1_0_3, x1_0_3, y1_0_4, x1_0_4⟩ := rw5 R0_5.out
            obtain ⟨y1_1_0, x1_1_0, y1_1_1, x1_1_1, y1_1_2, x1_1_2⟩ := rw3 R1_5.out
            obtain ⟨y1_n0_0, x1_n0_0, y1_n0_1, x1_n0_1, y1_n0_2, x1_n0_2⟩ := rw3 Rw4_heap_size_5.out
            have HBS := Lib.hid (show Below w4.heap.size w4 w5 by rw [← hn1]; exact (Below.refl _ _).alloc (Nat.le_refl _) _)
            go_wp2_with fail
            try rw [hn1]
            clear hn1
            clear y1_0_0 x1_0_0 y1_0_1 x1_0_1 y1_0_2 x1_0_2 y1_0_3 x1_0_3 y1_0_4 x1_0_4 y1_1_0 x1_1_0 y1_1_1 x1_1_1 y1_1_2 x1_1_2 y1_n0_0 x1_n0_0 y1_n0_1 x1_n0_1 y1_n0_2 x1_n0_2
            have HB5 := Lib.hid (HBw4.out.trans (HBS.out.mono HBw4.out.size))
            have HVT := Lib.hid (show ∀ V, Below w5.heap.size w5 V → rState.val (fun b => b < w4.heap.size) V (.agg #[.slice D1 t.gens.length e1, .slice D2 t.free.length e2, .slice D3 t.ents.length e3]) t from fun V h => val_later (val_later HZT.out HBS.out) h)
            have UP := Lib.hid (show ∀ V, Below w5.heap.size w5 V → Below W0.heap.size W0 V from fun V h => HB5.out.trans (h.mono HB5.out.size))
            obtain ⟨b1, hb1⟩ : ∃ b, backS c frames safe k s = b := ⟨_, rfl⟩
            obtain ⟨b2, hb2⟩ : ∃ b, backS c frames safe k t = b := ⟨_, rfl⟩
            have HQ1 := Lib.hid hb1
            have HQ2 := Lib.hid hb2
            clear hb1 hb2
            refine wp_region_held_drew (S := fun W => Below w5.heap.size w5 W) (by kernel_rfl) ((Below.refl _ _).drew) (fun s0 => ?_)
            obtain ⟨v1, hv0⟩ : ∃ V, V = w5.drew := ⟨_, rfl⟩
            rw [← hv0] at s0 ⊢
            have t1 : Below w5.heap.size w5 v1 := s0
            clear hv0 s0
            refine tkH (i := 0) (v := .agg #[.int .i64 c.log, .int .i64 c.pages, .int .i64 c.entities, .int .i64 c.gens, .slice A c.comps.length cap]) rfl (Or.inl ⟨by rfl, fun w' h => by have e := row_call (h : Below w5.heap.size w5 w') R0_5.out; have e0 := cell_row e 0; have e1 := cell_row e 1; have e2 := cell_row e 2; have e3 := cell_row e 3; have e4 := cell_row e 4; go_simp⟩) t1 ?_
            go_simp
            refine tkHV (i := 1) (v := .slice Af frames.length cf) rfl t1 ?_
            go_simp
            refine tkHV (i := 2) (v := .int .i64 safe) rfl t1 ?_
            go_simp
            refine tkHV (i := 3) (v := .int .i64 k) rfl t1 ?_
            go_simp
            refine tkH (i := 4) (v := .agg #[.slice A1 s.gens.length c1, .slice A2 s.free.length c2, .slice A3 s.ents.length c3]) rfl (Or.inl ⟨by rfl, fun w' h => by have e := row_call (h : Below w5.heap.size w5 w') R1_5.out; have e0 := cell_row e 0; have e1 := cell_row e 1; have e2 := cell_row e 2; go_simp⟩) t1 ?_
            go_simp
            refine tkH (i := 7) (v := .agg #[.int .i64 c.log, .int .i64 c.pages, .int .i64 c.entities, .int .i64 c.gens, .slice A c.comps.length cap]) rfl (Or.inl ⟨by rfl, fun w' h => by have e := row_call (h : Below w5.heap.size w5 w') R0_5.out; have e0 := cell_row e 0; have e1 := cell_row e 1; have e2 := cell_row e 2; have e3 := cell_row e 3; have e4 := cell_row e 4; go_simp⟩) t1 ?_
            go_simp
            refine tkHV (i := 8) (v := .slice Af frames.length cf) rfl t1 ?_
            go_simp
            refine tkHV (i := 9) (v := .int .i64 safe) rfl t1 ?_
            go_simp
            refine tkHV (i := 10) (v := .int .i64 k) rfl t1 ?_
            go_simp
            refine tkH (i := 11) (v := .agg #[.slice A1 s.gens.length c1, .slice A2 s.free.length c2, .slice A3 s.ents.length c3]) rfl (Or.inl ⟨by rfl, fun w' h => by have e := row_call (h : Below w5.heap.size w5 w') R1_5.out; have e0 := cell_row e 0; have e1 := cell_row e 1; have e2 := cell_row e 2; go_simp⟩) t1 ?_
            go_simp
            refine wpAnyH_all (rs := [5]) (by kernel_rfl) (by simp) ?_
            intro i hi
            obtain rfl : i = 5 := by simpa using hi
            clear hi
            refine wpOp_step rfl (fun K hK => ?_)
            go_simp
            refine (jback_calls (Rep.val_any (HVC.out _ (UP.out _ t1))) (Rep.val_any (HVF.out _ (UP.out _ t1))) (Rep.val_any (HVS.out _ (UP.out _ t1))) (.inr HR.out) HL.out HN.out).mono ?_
            rintro e v2 ⟨rfl, hb⟩
            rw [HQ1.out]
            have t2 : Below w5.heap.size w5 v2 := Below.trans t1 (hb.mono (Below.size t1))
            refine hK _ _ ⟨t2, ?_⟩
            clear hb
            clear hK K
            refine wpAnyH_all (rs := [6]) (by kernel_rfl) (by simp) ?_
            intro i hi
            obtain rfl : i = 6 := by simpa using hi
            clear hi
            refine wpOp_step rfl (fun K hK => ?_)
            go_simp
            refine (code33 _ _).mono ?_
            rintro e v3 ⟨rfl, hw⟩
            have hb : Below v2.heap.size v2 v3 := by rw [hw]; exact Below.refl _ _
            clear hw
            have t3 : Below w5.heap.size w5 v3 := Below.trans t2 (hb.mono (Below.size t2))
            refine hK _ _ ⟨t3, ?_⟩
            clear hb
            clear hK K
            refine wpAnyH_all (rs := [12]) (by kernel_rfl) (by simp) ?_
            intro i hi
            obtain rfl : i = 12 := by simpa using hi
            clear hi
            refine wpOp_step rfl (fun K hK => ?_)
            go_simp
            refine (rback33_calls (Rep.val_any (HVC.out _ (UP.out _ t3))) (Rep.val_any (HVF.out _ (UP.out _ t3))) (Rep.val_any (HVS.out _ (UP.out _ t3))) HR.out HL.out (by have := HN.out; omega)).mono ?_
            rintro e v4 ⟨rfl, hb⟩
            rw [HQ1.out]
            have t4 : Below w5.heap.size w5 v4 := Below.trans t3 (hb.mono (Below.size t3))
            refine hK _ _ ⟨t4, ?_⟩
            clear hb
            clear hK K
            refine tkHV (i := 13) (v := .bool true) rfl t4 ?_
            go_simp
            refine tkHV (i := 14) (v := .bool true) rfl t4 ?_
            go_simp
            refine tkH (i := 15) (v := .agg #[.int .i64 c.log, .int .i64 c.pages, .int .i64 c.entities, .int .i64 c.gens, .slice A c.comps.length cap]) rfl (Or.inl ⟨by rfl, fun w' h => by have e := row_call (h : Below w5.heap.size w5 w') R0_5.out; have e0 := cell_row e 0; have e1 := cell_row e 1; have e2 := cell_row e 2; have e3 := cell_row e 3; have e4 := cell_row e 4; go_simp⟩) t4 ?_
            go_simp
            refine tkHV (i := 16) (v := .slice Af frames.length cf) rfl t4 ?_
            go_simp
            refine tkHV (i := 17) (v := .int .i64 safe) rfl t4 ?_
            go_simp
            refine tkHV (i := 18) (v := .int .i64 k) rfl t4 ?_
            go_simp
            refine tkH (i := 19) (v := .agg #[.slice D1 t.gens.length e1, .slice D2 t.free.length e2, .slice D3 t.ents.length e3]) rfl (Or.inl ⟨by rfl, fun w' h => by have e := row_call (h : Below w5.heap.size w5 w') Rw4_heap_size_5.out; have e0 := cell_row e 0; have e1 := cell_row e 1; have e2 := cell_row e 2; go_simp⟩) t4 ?_
            go_simp
            refine tkH (i := 22) (v := .agg #[.int .i64 c.log, .int .i64 c.pages, .int .i64 c.entities, .int .i64 c.gens, .slice A c.comps.length cap]) rfl (Or.inl ⟨by rfl, fun w' h => by have e := row_call (h : Below w5.heap.size w5 w') R0_5.out; have e0 := cell_row e 0; have e1 := cell_row e 1; have e2 := cell_row e 2; have e3 := cell_row e 3; have e4 := cell_row e 4; go_simp⟩) t4 ?_
            go_simp
            refine tkHV (i := 23) (v := .slice Af frames.length cf) rfl t4 ?_
            go_simp
            refine tkHV (i := 24) (v := .int .i64 safe) rfl t4 ?_
            go_simp
            refine tkHV (i := 25) (v := .int .i64 k) rfl t4 ?_
            go_simp
            refine tkH (i := 26) (v := .agg #[.slice D1 t.gens.length e1, .slice D2 t.free.length e2, .slice D3 t.ents.length e3]) rfl (Or.inl ⟨by rfl, fun w' h => by have e := row_call (h : Below w5.heap.size w5 w') Rw4_heap_size_5.out; have e0 := cell_row e 0; have e1 := cell_row e 1; have e2 := cell_row e 2; go_simp⟩) t4 ?_
            go_simp
            refine wpAnyH_all (rs := [20]) (by kernel_rfl) (by simp) ?_
            intro i hi
            obtain rfl : i = 20 := by simpa using hi
            clear hi
            refine wpOp_step rfl (fun K hK => ?_)
            go_simp
            refine (jback_calls (Rep.val_any (HVC.out _ (UP.out _ t4))) (Rep.val_any (HVF.out _ (UP.out _ t4))) (Rep.val_any (HVT.out _ t4)) (.inr HR.out) HL.out HN.out).mono ?_
            rintro e v5 ⟨rfl, hb⟩
            rw [HQ2.out]
            have t5 : Below w5.heap.size w5 v5 := Below.trans t4 (hb.mono (Below.size t4))
            refine hK _ _ ⟨t5, ?_⟩
            clear hb
            clear hK K
            refine wpAnyH_all (rs := [21]) (by kernel_rfl) (by simp) ?_
            intro i hi
            obtain rfl : i = 21 := by simpa using hi
            clear hi
            refine wpOp_step rfl (fun K hK => ?_)
            go_simp
            refine (code33 _ _).mono ?_
            rintro e v6 ⟨rfl, hw⟩
            have hb : Below v5.heap.size v5 v6 := by rw [hw]; exact Below.refl _ _
            clear hw
            have t6 : Below w5.heap.size w5 v6 := Below.trans t5 (hb.mono (Below.size t5))
            refine hK _ _ ⟨t6, ?_⟩
            clear hb
            clear hK K
            refine wpAnyH_all (rs := [27]) (by kernel_rfl) (by simp) ?_
            intro i hi
            obtain rfl : i = 27 := by simpa using hi
            clear hi
            refine wpOp_step rfl (fun K hK => ?_)
            go_simp
            refine (rback33_calls (Rep.val_any (HVC.out _ (UP.out _ t6))) (Rep.val_any (HVF.out _ (UP.out _ t6))) (Rep.val_any (HVT.out _ t6)) HR.out HL.out (by have := HN.out; omega)).mono ?_
            rintro e v7 ⟨rfl, hb⟩
            rw [HQ2.out]
            have t7 : Below w5.heap.size w5 v7 := Below.trans t6 (hb.mono (Below.size t6))
            refine hK _ _ ⟨t7, ?_⟩
            clear hb
            clear hK K
            refine tkHV (i := 28) (v := .bool true) rfl t7 ?_
            go_simp
            refine tkHV (i := 29) (v := .bool true) rfl t7 ?_
            go_simp
            refine tkHV (i := 30) (v := .bool true) rfl t7 ?_
            go_simp
            refine wpAnyH_all (rs := [31]) (by kernel_rfl) (by simp) ?_
            intro i hi
            obtain rfl : i = 31 := by simpa using hi
            clear hi
            refine wpOp_step rfl (fun K hK => ?_)
            go_simp
            refine (live33_calls _).mono ?_
            rintro e v8 ⟨rfl, hb⟩
            have t8 : Below w5.heap.size w5 v8 := Below.trans t7 (hb.mono (Below.size t7))
            refine hK _ _ ⟨t8, ?_⟩
            clear hb
            clear hK K
            refine tkHV (i := 32) (v := .bool true) rfl t8 ?_
            go_simp
            refine tkHV (i := 33) (v := .bool true) rfl t8 ?_
            go_simp
            refine wpAnyH_done (by kernel_rfl) ?_ _
            have S6 := Lib.hid (show Only (Box w 2) w5 v8 from Only.of_below t8)
            have O6 := Lib.hid (O5.out.trans S6.out)
            have R0_6 := Lib.hid (row_call t8 R0_5.out)
            have R1_6 := Lib.hid (row_call t8 R1_5.out)
            have Rw4_heap_size_6 := Lib.hid (row_call t8 Rw4_heap_size_5.out)
            obtain ⟨q0_0, q0_1, q0_2, q0_3, q0_4⟩ := cl5 R0_6.out
            try go_wp2_with fail
            clear q0_0 q0_1 q0_2 q0_3 q0_4
            go_ret
            exact ⟨rfl, Only.fin HB0.out O6.out⟩
          · skip
            have hk0 : ¬ k < 0 := by omega
            obtain ⟨q0_0, q0_1, q0_2, q0_3, q0_4⟩ := cl5 R0_3.out
            obtain ⟨q1_0, q1_1, q1_2⟩ := cl3 R1_3.out
            go_wp2_with fail
            clear q0_0 q0_1 q0_2 q0_3 q0_4 q1_0 q1_1 q1_2
            have HNV := Lib.hid (show (0 : Int) ≤ (frames.length : Int) by omega)
            refine (rstate33_calls (k := (0 : Int)) (HVC.out _ HBw3.out) (HVF.out _ HBw3.out) HR.out HL.out HNV.out).mono ?_
            obtain ⟨t, ht⟩ : ∃ t, stateS c frames ((0 : Int)).toNat = t := ⟨_, rfl⟩
            rw [ht]
            clear ht
            rintro e w4 ⟨z, rfl, hz, hb⟩
            obtain ⟨D1, e1, D2, e2, D3, e3, rfl, _⟩ := rState_val hz
            have HBw4 := Lib.hid (HBw3.out.trans (hb.mono HBw3.out.size))
            have HZT := Lib.hid (Rep.val_any hz)
            have S4 := Lib.hid (show Only (Box w 2) w3 w4 from Only.of_below hb)
            have O4 := Lib.hid (O3.out.trans S4.out)
            have R0_4 := Lib.hid (row_call hb R0_3.out)
            have R1_4 := Lib.hid (row_call hb R1_3.out)
            clear hb hz
            have HF1 := Lib.hid (show w.heap.size + 2 ≤ w4.heap.size by have := O4.out.size; have := HZ.out; omega)
            obtain ⟨w5, hn1⟩ : ∃ W, (w4.alloc (.cells #[.slice D1 t.gens.length e1, .slice D2 t.free.length e2, .slice D3 t.ents.length e3] 75)) = W := ⟨_, rfl⟩
            have S5 := Lib.hid (show Only (Box w 2) w4 w5 from (by rw [← hn1]; exact (Only.refl (Box w 2) w4).alloc _))
            have O5 := Lib.hid (O4.out.trans S5.out)
            have R0_5 := Lib.hid (row_nm hn1.symm (alloc_old (R0_4.out)))
            have R1_5 := Lib.hid (row_nm hn1.symm (alloc_old (R1_4.out)))
            have Rw4_heap_size_5 := Lib.hid (show w5.heap[w4.heap.size]? = some (.cells #[.slice D1 t.gens.length e1, .slice D2 t.free.length e2, .slice D3 t.ents.length e3] 75 (0, 0)) from (by rw [← hn1]; exact alloc_at rfl))
            obtain ⟨y1_0_0, x1_0_0, y1_0_1, x1_0_1, y1_0_2, x1_0_2, y1_0_3, x1_0_3, y1_0_4, x1_0_4⟩ := rw5 R0_5.out
            obtain ⟨y1_1_0, x1_1_0, y1_1_1, x1_1_1, y1_1_2, x1_1_2⟩ := rw3 R1_5.out
            obtain ⟨y1_n0_0, x1_n0_0, y1_n0_1, x1_n0_1, y1_n0_2, x1_n0_2⟩ := rw3 Rw4_heap_size_5.out
            have HBS := Lib.hid (show Below w4.heap.size w4 w5 by rw [← hn1]; exact (Below.refl _ _).alloc (Nat.le_refl _) _)
            go_wp2_with fail
            try rw [hn1]
            clear hn1
            clear y1_0_0 x1_0_0 y1_0_1 x1_0_1 y1_0_2 x1_0_2 y1_0_3 x1_0_3 y1_0_4 x1_0_4 y1_1_0 x1_1_0 y1_1_1 x1_1_1 y1_1_2 x1_1_2 y1_n0_0 x1_n0_0 y1_n0_1 x1_n0_1 y1_n0_2 x1_n0_2
            have HB5 := Lib.hid (HBw4.out.trans (HBS.out.mono HBw4.out.size))
            have HVT := Lib.hid (show ∀ V, Below w5.heap.size w5 V → rState.val (fun b => b < w4.heap.size) V (.agg #[.slice D1 t.gens.length e1, .slice D2 t.free.length e2, .slice D3 t.ents.length e3]) t from fun V h => val_later (val_later HZT.out HBS.out) h)
            have UP := Lib.hid (show ∀ V, Below w5.heap.size w5 V → Below W0.heap.size W0 V from fun V h => HB5.out.trans (h.mono HB5.out.size))
            obtain ⟨b1, hb1⟩ : ∃ b, backS c frames safe k s = b := ⟨_, rfl⟩
            obtain ⟨b2, hb2⟩ : ∃ b, backS c frames safe k t = b := ⟨_, rfl⟩
            have HQ1 := Lib.hid hb1
            have HQ2 := Lib.hid hb2
            clear hb1 hb2
            refine wp_region_held_drew (S := fun W => Below w5.heap.size w5 W) (by kernel_rfl) ((Below.refl _ _).drew) (fun s0 => ?_)
            obtain ⟨v1, hv0⟩ : ∃ V, V = w5.drew := ⟨_, rfl⟩
            rw [← hv0] at s0 ⊢
            have t1 : Below w5.heap.size w5 v1 := s0
            clear hv0 s0
            refine tkH (i := 0) (v := .agg #[.int .i64 c.log, .int .i64 c.pages, .int .i64 c.entities, .int .i64 c.gens, .slice A c.comps.length cap]) rfl (Or.inl ⟨by rfl, fun w' h => by have e := row_call (h : Below w5.heap.size w5 w') R0_5.out; have e0 := cell_row e 0; have e1 := cell_row e 1; have e2 := cell_row e 2; have e3 := cell_row e 3; have e4 := cell_row e 4; go_simp⟩) t1 ?_
            go_simp
            refine tkHV (i := 1) (v := .slice Af frames.length cf) rfl t1 ?_
            go_simp
            refine tkHV (i := 2) (v := .int .i64 safe) rfl t1 ?_
            go_simp
            refine tkHV (i := 3) (v := .int .i64 k) rfl t1 ?_
            go_simp
            refine tkH (i := 4) (v := .agg #[.slice A1 s.gens.length c1, .slice A2 s.free.length c2, .slice A3 s.ents.length c3]) rfl (Or.inl ⟨by rfl, fun w' h => by have e := row_call (h : Below w5.heap.size w5 w') R1_5.out; have e0 := cell_row e 0; have e1 := cell_row e 1; have e2 := cell_row e 2; go_simp⟩) t1 ?_
            go_simp
            refine tkH (i := 7) (v := .agg #[.int .i64 c.log, .int .i64 c.pages, .int .i64 c.entities, .int .i64 c.gens, .slice A c.comps.length cap]) rfl (Or.inl ⟨by rfl, fun w' h => by have e := row_call (h : Below w5.heap.size w5 w') R0_5.out; have e0 := cell_row e 0; have e1 := cell_row e 1; have e2 := cell_row e 2; have e3 := cell_row e 3; have e4 := cell_row e 4; go_simp⟩) t1 ?_
            go_simp
            refine tkHV (i := 8) (v := .slice Af frames.length cf) rfl t1 ?_
            go_simp
            refine tkHV (i := 9) (v := .int .i64 safe) rfl t1 ?_
            go_simp
            refine tkHV (i := 10) (v := .int .i64 k) rfl t1 ?_
            go_simp
            refine tkH (i := 11) (v := .agg #[.slice A1 s.gens.length c1, .slice A2 s.free.length c2, .slice A3 s.ents.length c3]) rfl (Or.inl ⟨by rfl, fun w' h => by have e := row_call (h : Below w5.heap.size w5 w') R1_5.out; have e0 := cell_row e 0; have e1 := cell_row e 1; have e2 := cell_row e 2; go_simp⟩) t1 ?_
            go_simp
            refine wpAnyH_all (rs := [5]) (by kernel_rfl) (by simp) ?_
            intro i hi
            obtain rfl : i = 5 := by simpa using hi
            clear hi
            refine wpOp_step rfl (fun K hK => ?_)
            go_simp
            refine (jback_calls (Rep.val_any (HVC.out _ (UP.out _ t1))) (Rep.val_any (HVF.out _ (UP.out _ t1))) (Rep.val_any (HVS.out _ (UP.out _ t1))) (.inr HR.out) HL.out HN.out).mono ?_
            rintro e v2 ⟨rfl, hb⟩
            rw [HQ1.out]
            have t2 : Below w5.heap.size w5 v2 := Below.trans t1 (hb.mono (Below.size t1))
            refine hK _ _ ⟨t2, ?_⟩
            clear hb
            clear hK K
            refine wpAnyH_all (rs := [6]) (by kernel_rfl) (by simp) ?_
            intro i hi
            obtain rfl : i = 6 := by simpa using hi
            clear hi
            refine wpOp_step rfl (fun K hK => ?_)
            go_simp
            refine (code33 _ _).mono ?_
            rintro e v3 ⟨rfl, hw⟩
            have hb : Below v2.heap.size v2 v3 := by rw [hw]; exact Below.refl _ _
            clear hw
            have t3 : Below w5.heap.size w5 v3 := Below.trans t2 (hb.mono (Below.size t2))
            refine hK _ _ ⟨t3, ?_⟩
            clear hb
            clear hK K
            refine wpAnyH_all (rs := [12]) (by kernel_rfl) (by simp) ?_
            intro i hi
            obtain rfl : i = 12 := by simpa using hi
            clear hi
            refine wpOp_step rfl (fun K hK => ?_)
            go_simp
            refine (rback33_calls (Rep.val_any (HVC.out _ (UP.out _ t3))) (Rep.val_any (HVF.out _ (UP.out _ t3))) (Rep.val_any (HVS.out _ (UP.out _ t3))) HR.out HL.out (by have := HN.out; omega)).mono ?_
            rintro e v4 ⟨rfl, hb⟩
            rw [HQ1.out]
            have t4 : Below w5.heap.size w5 v4 := Below.trans t3 (hb.mono (Below.size t3))
            refine hK _ _ ⟨t4, ?_⟩
            clear hb
            clear hK K
            refine tkHV (i := 13) (v := .bool true) rfl t4 ?_
            go_simp
            refine tkHV (i := 14) (v := .bool true) rfl t4 ?_
            go_simp
            refine tkH (i := 15) (v := .agg #[.int .i64 c.log, .int .i64 c.pages, .int .i64 c.entities, .int .i64 c.gens, .slice A c.comps.length cap]) rfl (Or.inl ⟨by rfl, fun w' h => by have e := row_call (h : Below w5.heap.size w5 w') R0_5.out; have e0 := cell_row e 0; have e1 := cell_row e 1; have e2 := cell_row e 2; have e3 := cell_row e 3; have e4 := cell_row e 4; go_simp⟩) t4 ?_
            go_simp
            refine tkHV (i := 16) (v := .slice Af frames.length cf) rfl t4 ?_
            go_simp
            refine tkHV (i := 17) (v := .int .i64 safe) rfl t4 ?_
            go_simp
            refine tkHV (i := 18) (v := .int .i64 k) rfl t4 ?_
            go_simp
            refine tkH (i := 19) (v := .agg #[.slice D1 t.gens.length e1, .slice D2 t.free.length e2, .slice D3 t.ents.length e3]) rfl (Or.inl ⟨by rfl, fun w' h => by have e := row_call (h : Below w5.heap.size w5 w') Rw4_heap_size_5.out; have e0 := cell_row e 0; have e1 := cell_row e 1; have e2 := cell_row e 2; go_simp⟩) t4 ?_
            go_simp
            refine tkH (i := 22) (v := .agg #[.int .i64 c.log, .int .i64 c.pages, .int .i64 c.entities, .int .i64 c.gens, .slice A c.comps.length cap]) rfl (Or.inl ⟨by rfl, fun w' h => by have e := row_call (h : Below w5.heap.size w5 w') R0_5.out; have e0 := cell_row e 0; have e1 := cell_row e 1; have e2 := cell_row e 2; have e3 := cell_row e 3; have e4 := cell_row e 4; go_simp⟩) t4 ?_
            go_simp
            refine tkHV (i := 23) (v := .slice Af frames.length cf) rfl t4 ?_
            go_simp
            refine tkHV (i := 24) (v := .int .i64 safe) rfl t4 ?_
            go_simp
            refine tkHV (i := 25) (v := .int .i64 k) rfl t4 ?_
            go_simp
            refine tkH (i := 26) (v := .agg #[.slice D1 t.gens.length e1, .slice D2 t.free.length e2, .slice D3 t.ents.length e3]) rfl (Or.inl ⟨by rfl, fun w' h => by have e := row_call (h : Below w5.heap.size w5 w') Rw4_heap_size_5.out; have e0 := cell_row e 0; have e1 := cell_row e 1; have e2 := cell_row e 2; go_simp⟩) t4 ?_
            go_simp
            refine wpAnyH_all (rs := [20]) (by kernel_rfl) (by simp) ?_
            intro i hi
            obtain rfl : i = 20 := by simpa using hi
            clear hi
            refine wpOp_step rfl (fun K hK => ?_)
            go_simp
            refine (jback_calls (Rep.val_any (HVC.out _ (UP.out _ t4))) (Rep.val_any (HVF.out _ (UP.out _ t4))) (Rep.val_any (HVT.out _ t4)) (.inr HR.out) HL.out HN.out).mono ?_
            rintro e v5 ⟨rfl, hb⟩
            rw [HQ2.out]
            have t5 : Below w5.heap.size w5 v5 := Below.trans t4 (hb.mono (Below.size t4))
            refine hK _ _ ⟨t5, ?_⟩
            clear hb
            clear hK K
            refine wpAnyH_all (rs := [21]) (by kernel_rfl) (by simp) ?_
            intro i hi
            obtain rfl : i = 21 := by simpa using hi
            clear hi
            refine wpOp_step rfl (fun K hK => ?_)
            go_simp
            refine (code33 _ _).mono ?_
            rintro e v6 ⟨rfl, hw⟩
            have hb : Below v5.heap.size v5 v6 := by rw [hw]; exact Below.refl _ _
            clear hw
            have t6 : Below w5.heap.size w5 v6 := Below.trans t5 (hb.mono (Below.size t5))
            refine hK _ _ ⟨t6, ?_⟩
            clear hb
            clear hK K
            refine wpAnyH_all (rs := [27]) (by kernel_rfl) (by simp) ?_
            intro i hi
            obtain rfl : i = 27 := by simpa using hi
            clear hi
            refine wpOp_step rfl (fun K hK => ?_)
            go_simp
            refine (rback33_calls (Rep.val_any (HVC.out _ (UP.out _ t6))) (Rep.val_any (HVF.out _ (UP.out _ t6))) (Rep.val_any (HVT.out _ t6)) HR.out HL.out (by have := HN.out; omega)).mono ?_
            rintro e v7 ⟨rfl, hb⟩
            rw [HQ2.out]
            have t7 : Below w5.heap.size w5 v7 := Below.trans t6 (hb.mono (Below.size t6))
            refine hK _ _ ⟨t7, ?_⟩
            clear hb
            clear hK K
            refine tkHV (i := 28) (v := .bool true) rfl t7 ?_
            go_simp
            refine tkHV (i := 29) (v := .bool true) rfl t7 ?_
            go_simp
            refine tkHV (i := 30) (v := .bool true) rfl t7 ?_
            go_simp
            refine wpAnyH_all (rs := [31]) (by kernel_rfl) (by simp) ?_
            intro i hi
            obtain rfl : i = 31 := by simpa using hi
            clear hi
            refine wpOp_step rfl (fun K hK => ?_)
            go_simp
            refine (live33_calls _).mono ?_
            rintro e v8 ⟨rfl, hb⟩
            have t8 : Below w5.heap.size w5 v8 := Below.trans t7 (hb.mono (Below.size t7))
            refine hK _ _ ⟨t8, ?_⟩
            clear hb
            clear hK K
            refine tkHV (i := 32) (v := .bool true) rfl t8 ?_
            go_simp
            refine tkHV (i := 33) (v := .bool true) rfl t8 ?_
            go_simp
            refine wpAnyH_done (by kernel_rfl) ?_ _
            have S6 := Lib.hid (show Only (Box w 2) w5 v8 from Only.of_below t8)
            have O6 := Lib.hid (O5.out.trans S6.out)
            have R0_6 := Lib.hid (row_call t8 R0_5.out)
            have R1_6 := Lib.hid (row_call t8 R1_5.out)
            have Rw4_heap_size_6 := Lib.hid (row_call t8 Rw4_heap_size_5.out)
            obtain ⟨q0_0, q0_1, q0_2, q0_3, q0_4⟩ := cl5 R0_6.out
            try go_wp2_with fail
            clear q0_0 q0_1 q0_2 q0_3 q0_4
            go_ret
            exact ⟨rfl, Only.fin HB0.out O6.out⟩
        · skip
          have hk0 : ¬ k < 0 := by omega
          have hk1 : ¬ (frames.length : Int) < k := by omega
          obtain ⟨q0_0, q0_1, q0_2, q0_3, q0_4⟩ := cl5 R0_3.out
          obtain ⟨q1_0, q1_1, q1_2⟩ := cl3 R1_3.out
          go_wp2_with fail
          clear q0_0 q0_1 q0_2 q0_3 q0_4 q1_0 q1_1 q1_2
          have HNV := Lib.hid (show k ≤ (frames.length : Int) by omega)
          refine (rstate33_calls (k := k) (HVC.out _ HBw3.out) (HVF.out _ HBw3.out) HR.out HL.out HNV.out).mono ?_
          obtain ⟨t, ht⟩ : ∃ t, stateS c frames (k).toNat = t := ⟨_, rfl⟩
          rw [ht]
          clear ht
          rintro e w4 ⟨z, rfl, hz, hb⟩
          obtain ⟨D1, e1, D2, e2, D3, e3, rfl, _⟩ := rState_val hz
          have HBw4 := Lib.hid (HBw3.out.trans (hb.mono HBw3.out.size))
          have HZT := Lib.hid (Rep.val_any hz)
          have S4 := Lib.hid (show Only (Box w 2) w3 w4 from Only.of_below hb)
          have O4 := Lib.hid (O3.out.trans S4.out)
          have R0_4 := Lib.hid (row_call hb R0_3.out)
          have R1_4 := Lib.hid (row_call hb R1_3.out)
          clear hb hz
          have HF1 := Lib.hid (show w.heap.size + 2 ≤ w4.heap.size by have := O4.out.size; have := HZ.out; omega)
          obtain ⟨w5, hn1⟩ : ∃ W, (w4.alloc (.cells #[.slice D1 t.gens.length e1, .slice D2 t.free.length e2, .slice D3 t.ents.length e3] 75)) = W := ⟨_, rfl⟩
          have S5 := Lib.hid (show Only (Box w 2) w4 w5 from (by rw [← hn1]; exact (Only.refl (Box w 2) w4).alloc _))
          have O5 := Lib.hid (O4.out.trans S5.out)
          have R0_5 := Lib.hid (row_nm hn1.symm (alloc_old (R0_4.out)))
          have R1_5 := Lib.hid (row_nm hn1.symm (alloc_old (R1_4.out)))
          have Rw4_heap_size_5 := Lib.hid (show w5.heap[w4.heap.size]? = some (.cells #[.slice D1 t.gens.length e1, .slice D2 t.free.length e2, .slice D3 t.ents.length e3] 75 (0, 0)) from (by rw [← hn1]; exact alloc_at rfl))
          obtain ⟨y1_0_0, x1_0_0, y1_0_1, x1_0_1, y1_0_2, x1_0_2, y1_0_3, x1_0_3, y1_0_4, x1_0_4⟩ := rw5 R0_5.out
          obtain ⟨y1_1_0, x1_1_0, y1_1_1, x1_1_1, y1_1_2, x1_1_2⟩ := rw3 R1_5.out
          obtain ⟨y1_n0_0, x1_n0_0, y1_n0_1, x1_n0_1, y1_n0_2, x1_n0_2⟩ := rw3 Rw4_heap_size_5.out
          have HBS := Lib.hid (show Below w4.heap.size w4 w5 by rw [← hn1]; exact (Below.refl _ _).alloc (Nat.le_refl _) _)
          go_wp2_with fail
          try rw [hn1]
          clear hn1
          clear y1_0_0 x1_0_0 y1_0_1 x1_0_1 y1_0_2 x1_0_2 y1_0_3 x1_0_3 y1_0_4 x1_0_4 y1_1_0 x1_1_0 y1_1_1 x1_1_1 y1_1_2 x1_1_2 y1_n0_0 x1_n0_0 y1_n0_1 x1_n0_1 y1_n0_2 x1_n0_2
          have HB5 := Lib.hid (HBw4.out.trans (HBS.out.mono HBw4.out.size))
          have HVT := Lib.hid (show ∀ V, Below w5.heap.size w5 V → rState.val (fun b => b < w4.heap.size) V (.agg #[.slice D1 t.gens.length e1, .slice D2 t.free.length e2, .slice D3 t.ents.length e3]) t from fun V h => val_later (val_later HZT.out HBS.out) h)
          have UP := Lib.hid (show ∀ V, Below w5.heap.size w5 V → Below W0.heap.size W0 V from fun V h => HB5.out.trans (h.mono HB5.out.size))
          obtain ⟨b1, hb1⟩ : ∃ b, backS c frames safe k s = b := ⟨_, rfl⟩
          obtain ⟨b2, hb2⟩ : ∃ b, backS c frames safe k t = b := ⟨_, rfl⟩
          have HQ1 := Lib.hid hb1
          have HQ2 := Lib.hid hb2
          clear hb1 hb2
          refine wp_region_held_drew (S := fun W => Below w5.heap.size w5 W) (by kernel_rfl) ((Below.refl _ _).drew) (fun s0 => ?_)
          obtain ⟨v1, hv0⟩ : ∃ V, V = w5.drew := ⟨_, rfl⟩
          rw [← hv0] at s0 ⊢
          have t1 : Below w5.heap.size w5 v1 := s0
          clear hv0 s0
          refine tkH (i := 0) (v := .agg #[.int .i64 c.log, .int .i64 c.pages, .int .i64 c.entities, .int .i64 c.gens, .slice A c.comps.length cap]) rfl (Or.inl ⟨by rfl, fun w' h => by have e := row_call (h : Below w5.heap.size w5 w') R0_5.out; have e0 := cell_row e 0; have e1 := cell_row e 1; have e2 := cell_row e 2; have e3 := cell_row e 3; have e4 := cell_row e 4; go_simp⟩) t1 ?_
          go_simp
          refine tkHV (i := 1) (v := .slice Af frames.length cf) rfl t1 ?_
          go_simp
          refine tkHV (i := 2) (v := .int .i64 safe) rfl t1 ?_
          go_simp
          refine tkHV (i := 3) (v := .int .i64 k) rfl t1 ?_
          go_simp
          refine tkH (i := 4) (v := .agg #[.slice A1 s.gens.length c1, .slice A2 s.free.length c2, .slice A3 s.ents.length c3]) rfl (Or.inl ⟨by rfl, fun w' h => by have e := row_call (h : Below w5.heap.size w5 w') R1_5.out; have e0 := cell_row e 0; have e1 := cell_row e 1; have e2 := cell_row e 2; go_simp⟩) t1 ?_
          go_simp
          refine tkH (i := 7) (v := .agg #[.int .i64 c.log, .int .i64 c.pages, .int .i64 c.entities, .int .i64 c.gens, .slice A c.comps.length cap]) rfl (Or.inl ⟨by rfl, fun w' h => by have e := row_call (h : Below w5.heap.size w5 w') R0_5.out; have e0 := cell_row e 0; have e1 := cell_row e 1; have e2 := cell_row e 2; have e3 := cell_row e 3; have e4 := cell_row e 4; go_simp⟩) t1 ?_
          go_simp
          refine tkHV (i := 8) (v := .slice Af frames.length cf) rfl t1 ?_
          go_simp
          refine tkHV (i := 9) (v := .int .i64 safe) rfl t1 ?_
          go_simp
          refine tkHV (i := 10) (v := .int .i64 k) rfl t1 ?_
          go_simp
          refine tkH (i := 11) (v := .agg #[.slice A1 s.gens.length c1, .slice A2 s.free.length c2, .slice A3 s.ents.length c3]) rfl (Or.inl ⟨by rfl, fun w' h => by have e := row_call (h : Below w5.heap.size w5 w') R1_5.out; have e0 := cell_row e 0; have e1 := cell_row e 1; have e2 := cell_row e 2; go_simp⟩) t1 ?_
          go_simp
          refine wpAnyH_all (rs := [5]) (by kernel_rfl) (by simp) ?_
          intro i hi
          obtain rfl : i = 5 := by simpa using hi
          clear hi
          refine wpOp_step rfl (fun K hK => ?_)
          go_simp
          refine (jback_calls (Rep.val_any (HVC.out _ (UP.out _ t1))) (Rep.val_any (HVF.out _ (UP.out _ t1))) (Rep.val_any (HVS.out _ (UP.out _ t1))) (.inr HR.out) HL.out HN.out).mono ?_
          rintro e v2 ⟨rfl, hb⟩
          rw [HQ1.out]
          have t2 : Below w5.heap.size w5 v2 := Below.trans t1 (hb.mono (Below.size t1))
          refine hK _ _ ⟨t2, ?_⟩
          clear hb
          clear hK K
          refine wpAnyH_all (rs := [6]) (by kernel_rfl) (by simp) ?_
          intro i hi
          obtain rfl : i = 6 := by simpa using hi
          clear hi
          refine wpOp_step rfl (fun K hK => ?_)
          go_simp
          refine (code33 _ _).mono ?_
          rintro e v3 ⟨rfl, hw⟩
          have hb : Below v2.heap.size v2 v3 := by rw [hw]; exact Below.refl _ _
          clear hw
          have t3 : Below w5.heap.size w5 v3 := Below.trans t2 (hb.mono (Below.size t2))
          refine hK _ _ ⟨t3, ?_⟩
          clear hb
          clear hK K
          refine wpAnyH_all (rs := [12]) (by kernel_rfl) (by simp) ?_
          intro i hi
          obtain rfl : i = 12 := by simpa using hi
          clear hi
          refine wpOp_step rfl (fun K hK => ?_)
          go_simp
          refine (rback33_calls (Rep.val_any (HVC.out _ (UP.out _ t3))) (Rep.val_any (HVF.out _ (UP.out _ t3))) (Rep.val_any (HVS.out _ (UP.out _ t3))) HR.out HL.out (by have := HN.out; omega)).mono ?_
          rintro e v4 ⟨rfl, hb⟩
          rw [HQ1.out]
          have t4 : Below w5.heap.size w5 v4 := Below.trans t3 (hb.mono (Below.size t3))
          refine hK _ _ ⟨t4, ?_⟩
          clear hb
          clear hK K
          refine tkHV (i := 13) (v := .bool true) rfl t4 ?_
          go_simp
          refine tkHV (i := 14) (v := .bool true) rfl t4 ?_
          go_simp
          refine tkH (i := 15) (v := .agg #[.int .i64 c.log, .int .i64 c.pages, .int .i64 c.entities, .int .i64 c.gens, .slice A c.comps.length cap]) rfl (Or.inl ⟨by rfl, fun w' h => by have e := row_call (h : Below w5.heap.size w5 w') R0_5.out; have e0 := cell_row e 0; have e1 := cell_row e 1; have e2 := cell_row e 2; have e3 := cell_row e 3; have e4 := cell_row e 4; go_simp⟩) t4 ?_
          go_simp
          refine tkHV (i := 16) (v := .slice Af frames.length cf) rfl t4 ?_
          go_simp
          refine tkHV (i := 17) (v := .int .i64 safe) rfl t4 ?_
          go_simp
          refine tkHV (i := 18) (v := .int .i64 k) rfl t4 ?_
          go_simp
          refine tkH (i := 19) (v := .agg #[.slice D1 t.gens.length e1, .slice D2 t.free.length e2, .slice D3 t.ents.length e3]) rfl (Or.inl ⟨by rfl, fun w' h => by have e := row_call (h : Below w5.heap.size w5 w') Rw4_heap_size_5.out; have e0 := cell_row e 0; have e1 := cell_row e 1; have e2 := cell_row e 2; go_simp⟩) t4 ?_
          go_simp
          refine tkH (i := 22) (v := .agg #[.int .i64 c.log, .int .i64 c.pages, .int .i64 c.entities, .int .i64 c.gens, .slice A c.comps.length cap]) rfl (Or.inl ⟨by rfl, fun w' h => by have e := row_call (h : Below w5.heap.size w5 w') R0_5.out; have e0 := cell_row e 0; have e1 := cell_row e 1; have e2 := cell_row e 2; have e3 := cell_row e 3; have e4 := cell_row e 4; go_simp⟩) t4 ?_
          go_simp
          refine tkHV (i := 23) (v := .slice Af frames.length cf) rfl t4 ?_
          go_simp
          refine tkHV (i := 24) (v := .int .i64 safe) rfl t4 ?_
          go_simp
          refine tkHV (i := 25) (v := .int .i64 k) rfl t4 ?_
          go_simp
          refine tkH (i := 26) (v := .agg #[.slice D1 t.gens.length e1, .slice D2 t.free.length e2, .slice D3 t.ents.length e3]) rfl (Or.inl ⟨by rfl, fun w' h => by have e := row_call (h : Below w5.heap.size w5 w') Rw4_heap_size_5.out; have e0 := cell_row e 0; have e1 := cell_row e 1; have e2 := cell_row e 2; go_simp⟩) t4 ?_
          go_simp
          refine wpAnyH_all (rs := [20]) (by kernel_rfl) (by simp) ?_
          intro i hi
          obtain rfl : i = 20 := by simpa using hi
          clear hi
          refine wpOp_step rfl (fun K hK => ?_)
          go_simp
          refine (jback_calls (Rep.val_any (HVC.out _ (UP.out _ t4))) (Rep.val_any (HVF.out _ (UP.out _ t4))) (Rep.val_any (HVT.out _ t4)) (.inr HR.out) HL.out HN.out).mono ?_
          rintro e v5 ⟨rfl, hb⟩
          rw [HQ2.out]
          have t5 : Below w5.heap.size w5 v5 := Below.trans t4 (hb.mono (Below.size t4))
          refine hK _ _ ⟨t5, ?_⟩
          clear hb
          clear hK K
          refine wpAnyH_all (rs := [21]) (by kernel_rfl) (by simp) ?_
          intro i hi
          obtain rfl : i = 21 := by simpa using hi
          clear hi
          refine wpOp_step rfl (fun K hK => ?_)
          go_simp
          refine (code33 _ _).mono ?_
          rintro e v6 ⟨rfl, hw⟩
          have hb : Below v5.heap.size v5 v6 := by rw [hw]; exact Below.refl _ _
          clear hw
          have t6 : Below w5.heap.size w5 v6 := Below.trans t5 (hb.mono (Below.size t5))
          refine hK _ _ ⟨t6, ?_⟩
          clear hb
          clear hK K
          refine wpAnyH_all (rs := [27]) (by kernel_rfl) (by simp) ?_
          intro i hi
          obtain rfl : i = 27 := by simpa using hi
          clear hi
          refine wpOp_step rfl (fun K hK => ?_)
          go_simp
          refine (rback33_calls (Rep.val_any (HVC.out _ (UP.out _ t6))) (Rep.val_any (HVF.out _ (UP.out _ t6))) (Rep.val_any (HVT.out _ t6)) HR.out HL.out (by have := HN.out; omega)).mono ?_
          rintro e v7 ⟨rfl, hb⟩
          rw [HQ2.out]
          have t7 : Below w5.heap.size w5 v7 := Below.trans t6 (hb.mono (Below.size t6))
          refine hK _ _ ⟨t7, ?_⟩
          clear hb
          clear hK K
          refine tkHV (i := 28) (v := .bool true) rfl t7 ?_
          go_simp
          refine tkHV (i := 29) (v := .bool true) rfl t7 ?_
          go_simp
          refine tkHV (i := 30) (v := .bool true) rfl t7 ?_
          go_simp
          refine wpAnyH_all (rs := [31]) (by kernel_rfl) (by simp) ?_
          intro i hi
          obtain rfl : i = 31 := by simpa using hi
          clear hi
          refine wpOp_step rfl (fun K hK => ?_)
          go_simp
          refine (live33_calls _).mono ?_
          rintro e v8 ⟨rfl, hb⟩
          have t8 : Below w5.heap.size w5 v8 := Below.trans t7 (hb.mono (Below.size t7))
          refine hK _ _ ⟨t8, ?_⟩
          clear hb
          clear hK K
          refine tkHV (i := 32) (v := .bool true) rfl t8 ?_
          go_simp
          refine tkHV (i := 33) (v := .bool true) rfl t8 ?_
          go_simp
          refine wpAnyH_done (by kernel_rfl) ?_ _
          have S6 := Lib.hid (show Only (Box w 2) w5 v8 from Only.of_below t8)
          have O6 := Lib.hid (O5.out.trans S6.out)
          have R0_6 := Lib.hid (row_call t8 R0_5.out)
          have R1_6 := Lib.hid (row_call t8 R1_5.out)
          have Rw4_heap_size_6 := Lib.hid (row_call t8 Rw4_heap_size_5.out)
          obtain ⟨q0_0, q0_1, q0_2, q0_3, q0_4⟩ := cl5 R0_6.out
          try go_wp2_with fail
          clear q0_0 q0_1 q0_2 q0_3 q0_4
          go_ret
          exact ⟨rfl, Only.fin HB0.out O6.out⟩
end Go.Proofs.Yteljibjbndpncaa
