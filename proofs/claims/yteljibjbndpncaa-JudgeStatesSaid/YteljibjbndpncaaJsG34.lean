/- Texts on which the proofs stand: JudgeStates. No condition is laid on any input. -/
import Derived.Test.YteljibjbndpncaaJsG31
import Derived.Test.YteljibjbndpncaaJsG33
namespace Go.Proofs.Yteljibjbndpncaa
open Go.RowKit

set_option maxRecDepth 100000 in
set_option maxHeartbeats 4000000 in
/-- law33.JudgeStates -/
theorem judgeStates_calls {Q : Nat → Prop} {w : World} {vc vf vs : Value} {c : DConf} {frames : List (List DCmd)} {s : DState} {k : Int} (hc : rConf.val Q w vc c) (hf : rCmd.list.list.val Q w vf frames) (hs : rState.val Q w vs s) (_ : (Lit.int .i64 k).wf = true) :
    Calls Try.prog 6 #[vc, vf, vs, .int .i64 k] w fun e w' => e = .returned (.bool true) ∧ Below w.heap.size w w' := by
  have HC := Lib.hid hc
  have HSV := Lib.hid hs
  obtain ⟨A, cap, rfl, _⟩ := rConf_val hc
  obtain ⟨A1, c1, A2, c2, A3, c3, rfl, _⟩ := rState_val hs
  obtain ⟨Af, cf, rfl, mf, lf, _⟩ := Rep.val_list hf
  have HFF := Lib.hid hf
  unfold maxLen at lf
  clear hc hf hs
  obtain ⟨W0, hW0⟩ : ∃ W, ((w.alloc (.cells #[.int .i64 c.log, .int .i64 c.pages, .int .i64 c.entities, .int .i64 c.gens, .slice A c.comps.length cap] 49)).alloc (.cells #[.slice A1 s.gens.length c1, .slice A2 s.free.length c2, .slice A3 s.ents.length c3] 75)) = W := ⟨_, rfl⟩
  have hz0 : W0.heap.size = w.heap.size + 2 := by rw [← hW0]; simp
  have hb0 : Below w.heap.size w W0 := by rw [← hW0]; exact ((Below.refl _ _).alloc (Nat.le_refl _) _).alloc (by first | (simp; done) | (simp; omega)) _
  have HZ := Lib.hid hz0
  have HB0 := Lib.hid hb0
  have R0_0 := Lib.hid (show W0.heap[w.heap.size]? = some (.cells #[.int .i64 c.log, .int .i64 c.pages, .int .i64 c.entities, .int .i64 c.gens, .slice A c.comps.length cap] 49 (0, 0)) by rw [← hW0]; exact alloc_old (alloc_at rfl))
  have R1_0 := Lib.hid (show W0.heap[w.heap.size + 1]? = some (.cells #[.slice A1 s.gens.length c1, .slice A2 s.free.length c2, .slice A3 s.ents.length c3] 75 (0, 0)) by rw [← hW0]; exact alloc_at (by simp))
  have O0 := Lib.hid (Only.refl (Box w 2) W0)
  have HVC := Lib.hid (show ∀ V, Below W0.heap.size W0 V → rConf.val (Lo Q w) V (.agg #[.int .i64 c.log, .int .i64 c.pages, .int .i64 c.entities, .int .i64 c.gens, .slice A c.comps.length cap]) c from fun V h => val_lo_later (val_lo HC.out hb0) h)
  have HVS := Lib.hid (show ∀ V, Below W0.heap.size W0 V → rState.val (Lo Q w) V (.agg #[.slice A1 s.gens.length c1, .slice A2 s.free.length c2, .slice A3 s.ents.length c3]) s from fun V h => val_lo_later (val_lo HSV.out hb0) h)
  have HVF := Lib.hid (show ∀ V, Below W0.heap.size W0 V → rCmd.list.list.val (Lo Q w) V (.slice Af frames.length cf) frames from fun V h => val_lo_later (val_lo HFF.out hb0) h)
  clear hz0 hb0
  have q0_0 := rw5 R0_0.out
  have q1_0 := rw3 R1_0.out
  go_enter Try.func6, Try.ntmps6
  go_wp2_with fail
  try rw [hW0]
  clear hW0
  try go_wp2_with fail
  clear q0_0 q1_0
  have HB00 := Lib.hid (Below.refl W0.heap.size W0)
  refine (much_calls (HVC.out _ HB00.out)).mono ?_
  rintro e w1 ⟨rfl, hb⟩
  have HBw1 := Lib.hid (HB00.out.trans (hb.mono HB00.out.size))
  have S1 := Lib.hid (show Only (Box w 2) W0 w1 from Only.of_below hb)
  have O1 := Lib.hid (O0.out.trans S1.out)
  have R0_1 := Lib.hid (row_call hb R0_0.out)
  have R1_1 := Lib.hid (row_call hb R1_0.out)
  clear hb
  cases muchConf c with
  | true =>
    have q0_0 := cl5 R0_1.out
    have q1_0 := cl3 R1_1.out
    go_wp2_with fail
    clear q0_0 q1_0
    refine (live33_calls _).mono ?_
    rintro e wl ⟨rfl, hbl⟩
    have HBL := Lib.hid (HB0.out.trans ((HBw1.out.trans (hbl.mono HBw1.out.size)).mono HB0.out.size))
    clear hbl
    go_wp2_with fail
    go_ret
    exact ⟨rfl, HBL.out⟩
  | false =>
    have q0_0 := cl5 R0_1.out
    have q1_0 := cl3 R1_1.out
    go_wp2_with fail
    clear q0_0 q1_0
    refine (right_calls (HVC.out _ HBw1.out)).mono ?_
    rintro e w2 ⟨rfl, hb⟩
    have HBw2 := Lib.hid (HBw1.out.trans (hb.mono HBw1.out.size))
    have S2 := Lib.hid (show Only (Box w 2) w1 w2 from Only.of_below hb)
    have O2 := Lib.hid (O1.out.trans S2.out)
    have R0_2 := Lib.hid (row_call hb R0_1.out)
    have R1_2 := Lib.hid (row_call hb R1_1.out)
    clear hb
    by_cases hr : confRight c = true
    case neg =>
      rw [Bool.eq_false_iff.2 hr]
      have q0_0 := cl5 R0_2.out
      have q1_0 := cl3 R1_2.out
      go_wp2_with fail
      clear q0_0 q1_0
      refine (live33_calls _).mono ?_
      rintro e wl ⟨rfl, hbl⟩
      have HBL := Lib.hid (HB0.out.trans ((HBw2.out.trans (hbl.mono HBw2.out.size)).mono HB0.out.size))
      clear hbl
      go_wp2_with fail
      go_ret
      exact ⟨rfl, HBL.out⟩
    have HR := Lib.hid hr
    rw [hr]
    clear hr
    have q0_0 := cl5 R0_2.out
    have q1_0 := cl3 R1_2.out
    go_wp2_with fail
    clear q0_0 q1_0
    refine (much33_calls (HVF.out _ HBw2.out)).mono ?_
    rintro e w2' ⟨m, rfl, hm, hw⟩
    obtain rfl := hw.symm
    cases m with
    | true =>
      have q0_0 := cl5 R0_2.out
      have q1_0 := cl3 R1_2.out
      go_wp2_with fail
      clear q0_0 q1_0
      refine (live33_calls _).mono ?_
      rintro e wl ⟨rfl, hbl⟩
      have HBL := Lib.hid (HB0.out.trans ((HBw2.out.trans (hbl.mono HBw2.out.size)).mono HB0.out.size))
      clear hbl
      go_wp2_with fail
      go_ret
      exact ⟨rfl, HBL.out⟩
    | false =>
      have HM := Lib.hid (hm rfl)
      clear hm
      have q0_0 := cl5 R0_2.out
      have q1_0 := cl3 R1_2.out
      go_wp2_with fail
      clear q0_0 q1_0
      refine (muchSt_calls (HVS.out _ HBw2.out)).mono ?_
      rintro e w3 ⟨m, rfl, _, hb⟩
      have HBw3 := Lib.hid (HBw2.out.trans (hb.mono HBw2.out.size))
      have S3 := Lib.hid (show Only (Box w 2) w2 w3 from Only.of_below hb)
      have O3 := Lib.hid (O2.out.trans S3.out)
      have R0_3 := Lib.hid (row_call hb R0_2.out)
      have R1_3 := Lib.hid (row_call hb R1_2.out)
      clear hb
      cases m with
      | true =>
        have q0_0 := cl5 R0_3.out
        have q1_0 := cl3 R1_3.out
        go_wp2_with fail
        clear q0_0 q1_0
        refine (live33_calls _).mono ?_
        rintro e wl ⟨rfl, hbl⟩
        have HBL := Lib.hid (HB0.out.trans ((HBw3.out.trans (hbl.mono HBw3.out.size)).mono HB0.out.size))
        clear hbl
        go_wp2_with fail
        go_ret
        exact ⟨rfl, HBL.out⟩
      | false =>
        have HL := Lib.hid (show ∀ l ∈ frames, l.length ≤ 10000 from fun l h => Nat.le_trans (HM.out.2 l h) (by omega))
        have HN := Lib.hid (show frames.length ≤ 9999 from Nat.le_trans HM.out.1 (by omega))
        have hn := HM.out.1
        have q0_0 := cl5 R0_3.out
        have q1_0 := cl3 R1_3.out
        go_wp2_with fail
        clear q0_0 q1_0
        refine (jstates_calls (HVC.out _ HBw3.out) (HVF.out _ HBw3.out) (.inr HR.out) HL.out (by omega)).mono ?_
        rintro e w4 ⟨zz, rfl, hz, hb⟩
        obtain ⟨A8, c8, rfl, m8, l8, _⟩ := Rep.val_list hz
        unfold maxLen at l8
        rw [statesTo_len] at hz m8 ⊢
        have HSL := Lib.hid (Rep.val_any hz)
        have HBw4 := Lib.hid (HBw3.out.trans (hb.mono HBw3.out.size))
        have S4 := Lib.hid (show Only (Box w 2) w3 w4 from Only.of_below hb)
        have O4 := Lib.hid (O3.out.trans S4.out)
        have R0_4 := Lib.hid (row_call hb R0_3.out)
        have R1_4 := Lib.hid (row_call hb R1_3.out)
        clear hb hz
        have iw0 : IntKind.i64.wrap ((frames.length : Int) + 1) = (frames.length : Int) + 1 := IntWalk.i64_in _ ⟨by omega, by omega⟩
        have q0_0 := cl5 R0_4.out
        have q1_0 := cl3 R1_4.out
        go_wp2_with fail
        clear q0_0 q1_0
        clear iw0
        go_loopw [10] (fun i wr => ∃ j : Nat, i = .int .i64 j ∧ j ≤ frames.length + 1 ∧ Hid (Below w4.heap.size w4 wr)) (fun i _ => frames.length + 1 - (intOf i).toNat)
        case atStart => exact ⟨0, rfl, Nat.zero_le _, Lib.hid (Below.refl _ _)⟩
        case round =>
          obtain ⟨j, rfl, hj, HBR⟩ := hrel
          have HBW := Lib.hid (HBw4.out.trans (HBR.out.mono HBw4.out.size))
          have S5 := Lib.hid (show Only (Box w 2) w4 wr from Only.of_below HBR.out)
          have O5 := Lib.hid (O4.out.trans S5.out)
          have R0_5 := Lib.hid (row_call HBR.out R0_4.out)
          have R1_5 := Lib.hid (row_call HBR.out R1_4.out)
          by_cases hlt : (j : Int) < (frames.length : Int) + 1
          · skip
            obtain ⟨t, ht⟩ : ∃ t, stateS c frames j = t := ⟨_, rfl⟩
            have HOKT := Lib.hid (show StOk c t by rw [← ht]; exact stateS_ok HR.out j)
            have HGK := Lib.hid (show (statesTo c frames (frames.length + 1))[j]? = some t by rw [statesTo_get (by omega), ht])
            have HST := Lib.hid (show stateS c frames (j : Int).toNat = t by rw [Int.toNat_natCast]; exact ht)
            clear ht
            obtain ⟨sb, so, D1, e1, D2, e2, D3, e3, rfl, _, k0, k1, k2, s1, s2, s3⟩ := rState_at (sl_of (val_later HSL.out HBR.out)).2.2 HGK.out
            have HKV := Lib.hid (rState_agg s1 s2 s3)
            have K0 := Lib.hid k0
            have K1 := Lib.hid k1
            have K2 := Lib.hid k2
            have iw : IntKind.i64.wrap ((j : Int) + 1) = (j : Int) + 1 := IntWalk.i64_in _ ⟨by omega, by omega⟩
            have hjc : (j : Int) ≤ (frames.length : Int) := by omega
            clear s1 s2 s3 k0 k1 k2
            have q0_0 := cl5 R0_5.out
            have q1_0 := cl3 R1_5.out
            go_wp2_with fail
            clear q0_0 q1_0
            refine wp_region_held_drew (S := fun W => Below wr.heap.size wr W) (by kernel_rfl) ((Below.refl _ _).drew) (fun s0 => ?_)
            obtain ⟨v1, hv0⟩ : ∃ V, V = wr.drew := ⟨_, rfl⟩
            rw [← hv0] at s0 ⊢
            have t1 : Below wr.heap.size wr v1 := s0
            clear hv0 s0
            refine tkHV (i := 0) (v := .slice (some ⟨sb, so, none⟩) (frames.length + 1) c8) rfl t1 ?_
            go_simp
            refine tkHV (i := 1) (v := .int .i64 j) rfl t1 ?_
            go_simp
            refine tkHV (i := 2) (v := .pointer (some ⟨sb, so + j * 3, none⟩)) rfl t1 ?_
            go_simp
            refine tkH (i := 3) (v := .agg #[.slice D1 t.gens.length e1, .slice D2 t.free.length e2, .slice D3 t.ents.length e3]) rfl (Or.inl ⟨by rfl, fun w' h => by have e0 := cell_call (h : Below wr.heap.size wr w') K0.out; have e1 := cell_call (h : Below wr.heap.size wr w') K1.out; have e2 := cell_call (h : Below wr.heap.size wr w') K2.out; go_simp⟩) t1 ?_
            go_simp
            refine tkH (i := 4) (v := .agg #[.int .i64 c.log, .int .i64 c.pages, .int .i64 c.entities, .int .i64 c.gens, .slice A c.comps.length cap]) rfl (Or.inl ⟨by rfl, fun w' h => by have e := row_call (h : Below wr.heap.size wr w') R0_5.out; have e0 := cell_row e 0; have e1 := cell_row e 1; have e2 := cell_row e 2; have e3 := cell_row e 3; have e4 := cell_row e 4; go_simp⟩) t1 ?_
            go_simp
            refine tkHV (i := 5) (v := .slice Af frames.length cf) rfl t1 ?_
            go_simp
            refine tkHV (i := 6) (v := .int .i64 j) rfl t1 ?_
            go_simp
            refine wpAnyH_all (rs := [7]) (by kernel_rfl) (by simp) ?_
            intro i hi
            obtain rfl : i = 7 := by simpa using hi
            clear hi
            refine wpOp_step rfl (fun K hK => ?_)
            go_simp
            refine (rstate33_calls (k := (j : Int)) (HVC.out _ (HBW.out.trans (Below.mono t1 HBW.out.size))) (HVF.out _ (HBW.out.trans (Below.mono t1 HBW.out.size))) HR.out HL.out hjc).mono ?_
            rw [HST.out]
            rintro e v2 ⟨zr, rfl, hzr, hb⟩
            obtain ⟨E1, g1, E2, g2, E3, g3, rfl, _⟩ := rState_val hzr
            have HZR := Lib.hid (Rep.val_any hzr)
            clear hzr
            have t2 : Below wr.heap.size wr v2 := Below.trans t1 (hb.mono (Below.size t1))
            refine hK _ _ ⟨t2, ?_⟩
            clear hb
            clear hK K
            refine wpAnyH_all (rs := [8]) (by kernel_rfl) (by simp) ?_
            intro i hi
            obtain rfl : i = 8 := by simpa using hi
            clear hi
            refine wpOp_step rfl (fun K hK => ?_)
            go_simp
            refine (rsame11_calls (val_later HKV.out t2) HZR.out).mono ?_
            rintro e v3 ⟨rfl, hb⟩
            rw [decide_eq_true (rfl : t = t)]
            have t3 : Below wr.heap.size wr v3 := Below.trans t2 (hb.mono (Below.size t2))
            refine hK _ _ ⟨t3, ?_⟩
            clear hb
            clear hK K
            refine tkHV (i := 9) (v := .bool false) rfl t3 ?_
            go_simp
            refine tkHV (i := 10) (v := .bool false) rfl t3 ?_
            go_simp
            refine tkH (i := 11) (v := .agg #[.int .i64 c.log, .int .i64 c.pages, .int .i64 c.entities, .int .i64 c.gens, .slice A c.comps.length cap]) rfl (Or.inl ⟨by rfl, fun w' h => by have e := row_call (h : Below wr.heap.size wr w') R0_5.out; have e0 := cell_row e 0; have e1 := cell_row e 1; have e2 := cell_row e 2; have e3 := cell_row e 3; have e4 := cell_row e 4; go_simp⟩) t3 ?_
            go_simp
            refine tkHV (i := 12) (v := .slice (some ⟨sb, so, none⟩) (frames.length + 1) c8) rfl t3 ?_
            go_simp
            refine tkHV (i := 13) (v := .int .i64 j) rfl t3 ?_
            go_simp
            refine tkHV (i := 14) (v := .pointer (some ⟨sb, so + j * 3, none⟩)) rfl t3 ?_
            go_simp
            refine tkH (i := 15) (v := .agg #[.slice D1 t.gens.length e1, .slice D2 t.free.length e2, .slice D3 t.ents.length e3]) rfl (Or.inl ⟨by rfl, fun w' h => by have e0 := cell_call (h : Below wr.heap.size wr w') K0.out; have e1 := cell_call (h : Below wr.heap.size wr w') K1.out; have e2 := cell_call (h : Below wr.heap.size wr w') K2.out; go_simp⟩) t3 ?_
            go_simp
            refine wpAnyH_all (rs := [16]) (by kernel_rfl) (by simp) ?_
            intro i hi
            obtain rfl : i = 16 := by simpa using hi
            clear hi
            refine wpOp_step rfl (fun K hK => ?_)
            go_simp
            refine (right12_calls (Rep.val_any (HVC.out _ (HBW.out.trans (Below.mono t3 HBW.out.size)))) (Rep.val_any (val_later HKV.out t3)) HOKT.out).mono ?_
            rintro e v4 ⟨rfl, hb⟩
            have t4 : Below wr.heap.size wr v4 := Below.trans t3 (hb.mono (Below.size t3))
            refine hK _ _ ⟨t4, ?_⟩
            clear hb
            clear hK K
            refine tkHV (i := 17) (v := .bool false) rfl t4 ?_
            go_simp
            refine tkHV (i := 18) (v := .bool false) rfl t4 ?_
            go_simp
            refine wpAnyH_done (by kernel_rfl) ?_ _
            have S6 := Lib.hid (show Only (Box w 2) wr v4 from Only.of_below t4)
            have O6 := Lib.hid (O5.out.trans S6.out)
            have R0_6 := Lib.hid (row_call t4 R0_5.out)
            have R1_6 := Lib.hid (row_call t4 R1_5.out)
            have hv := (show Below wr.heap.size wr v4 from t4)
            have HBV := Lib.hid (HBR.out.trans (hv.mono HBR.out.size))
            clear hv
            have q0_0 := cl5 R0_6.out
            have q1_0 := cl3 R1_6.out
            go_wp2_with fail
            exact ⟨⟨j + 1, by go_num, by omega, HBV⟩, by simp [intOf]; omega⟩
          · skip
            rename World => w5
            have hjn : j = frames.length + 1 := by omega
            subst hjn
            by_cases hk : 0 ≤ k ∧ k < (frames.length : Int) + 1
            · skip
              obtain ⟨kn, rfl⟩ : ∃ kn : Nat, k = (kn : Int) := ⟨k.toNat, by omega⟩
              have hk1 : (kn : Int) < (frames.length : Int) + 1 := hk.2
              clear hk
              obtain ⟨t, ht⟩ : ∃ t, stateS c frames kn = t := ⟨_, rfl⟩
              have HGK := Lib.hid (show (statesTo c frames (frames.length + 1))[kn]? = some t by rw [statesTo_get (by omega), ht])
              clear ht
              obtain ⟨sb, so, D1, e1, D2, e2, D3, e3, rfl, _, k0, k1, k2, s1, s2, s3⟩ := rState_at (sl_of (val_later HSL.out HBR.out)).2.2 HGK.out
              have HKV := Lib.hid (Rep.val_any (rState_agg s1 s2 s3))
              have K0 := Lib.hid k0
              have K1 := Lib.hid k1
              have K2 := Lib.hid k2
              clear s1 s2 s3 k0 k1 k2
              have q0_0 := cl5 R0_5.out
              have q1_0 := cl3 R1_5.out
              have k1 : (w5.alloc (.cells #[.slice A1 s.gens.length c1, .slice A2 s.free.length c2, .slice A3 s.ents.length c3] 75)).heap[w.heap.size]? = some (.cells #[.int .i64 c.log, .int .i64 c.pages, .int .i64 c.entities, .int .i64 c.gens, .slice A c.comps.length cap] 49 (0, 0)) := alloc_old (R0_5.out)
              have k1_0 := rw5 k1
              clear k1
              have k2 : (w5.alloc (.cells #[.slice A1 s.gens.length c1, .slice A2 s.free.length c2, .slice A3 s.ents.length c3] 75)).heap[w.heap.size + 1]? = some (.cells #[.slice A1 s.gens.length c1, .slice A2 s.free.length c2, .slice A3 s.ents.length c3] 75 (0, 0)) := alloc_old (R1_5.out)
              have k2_0 := rw3 k2
              clear k2
              have k3 : (w5.alloc (.cells #[.slice A1 s.gens.length c1, .slice A2 s.free.length c2, .slice A3 s.ents.length c3] 75)).heap[w5.heap.size]? = some (.cells #[.slice A1 s.gens.length c1, .slice A2 s.free.length c2, .slice A3 s.ents.length c3] 75 (0, 0)) := alloc_at rfl
              have k3_0 := rw3 k3
              clear k3
              have k0 := K0.out
              have k1 := K1.out
              have k2 := K2.out
              have kk0 := cell_call (show Below w5.heap.size w5 (w5.alloc (.cells #[.slice A1 s.gens.length c1, .slice A2 s.free.length c2, .slice A3 s.ents.length c3] 75)) from (Below.refl _ _).alloc (Nat.le_refl _) _) k0
              have kk1 := cell_call (show Below w5.heap.size w5 (w5.alloc (.cells #[.slice A1 s.gens.length c1, .slice A2 s.free.length c2, .slice A3 s.ents.length c3] 75)) from (Below.refl _ _).alloc (Nat.le_refl _) _) k1
              have kk2 := cell_call (show Below w5.heap.size w5 (w5.alloc (.cells #[.slice A1 s.gens.length c1, .slice A2 s.free.length c2, .slice A3 s.ents.length c3] 75)) from (Below.refl _ _).alloc (Nat.le_refl _) _) k2
              go_wp2_with fail
              clear q0_0 q1_0 k1_0 k2_0 k3_0 kk0 k0 kk1 k1 kk2 k2
              refine nm_region (fun w6 hnm => ?_)
              have HB6 := Lib.hid (show Below w5.heap.size w5 w6 by rw [hnm]; exact (Below.refl _ _).alloc (Nat.le_refl _) _)
              have R6 := Lib.hid (show w6.heap[w5.heap.size]? = some (.cells #[.slice D1 t.gens.length e1, .slice D2 t.free.length e2, .slice D3 t.ents.length e3] 75 (0, 0)) by rw [hnm]; exact alloc_at rfl)
              clear hnm
              have S6 := Lib.hid (show Only (Box w 2) w5 w6 from Only.of_below HB6.out)
              have O6 := Lib.hid (O5.out.trans S6.out)
              have R0_6 := Lib.hid (row_call HB6.out R0_5.out)
              have R1_6 := Lib.hid (row_call HB6.out R1_5.out)
              have HFX := Lib.hid (show w.heap.size + 2 ≤ w5.heap.size by have := HBW.out.size; have := HZ.out; omega)
              have HB7 := Lib.hid (HBW.out.trans (HB6.out.mono HBW.out.size))
              have HVT := Lib.hid (show ∀ V, Below w6.heap.size w6 V → rState.val (fun b => b < V.heap.size) V (.agg #[.slice D1 t.gens.length e1, .slice D2 t.free.length e2, .slice D3 t.ents.length e3]) t from fun V h => Rep.val_any ((fun (V : World) (h : Below w6.heap.size w6 V) => val_later (val_later HKV.out HB6.out) h) V h))
              obtain ⟨l1, hl1⟩ : ∃ l, findsS c frames s (frames.length + 1) = l := ⟨_, rfl⟩
              obtain ⟨l2, hl2⟩ : ∃ l, findsS c frames t (frames.length + 1) = l := ⟨_, rfl⟩
              have HQ1 := Lib.hid hl1
              have HQ2 := Lib.hid hl2
              clear hl1 hl2
              refine wp_region_held_drew (S := fun W => Below w6.heap.size w6 W) (by kernel_rfl) ((Below.refl _ _).drew) (fun s0 => ?_)
              obtain ⟨v1, hv0⟩ : ∃ V, V = w6.drew := ⟨_, rfl⟩
              rw [← hv0] at s0 ⊢
              have t1 : Below w6.heap.size w6 v1 := s0
              clear hv0 s0
              refine tkH (i := 0) (v := .agg #[.int .i64 c.log, .int .i64 c.pages, .int .i64 c.entities, .int .i64 c.gens, .slice A c.comps.length cap]) rfl (Or.inl ⟨by rfl, fun w' h => by have e := row_call (h : Below w6.heap.size w6 w') R0_6.out; have e0 := cell_row e 0; have e1 := cell_row e 1; have e2 := cell_row e 2; have e3 := cell_row e 3; have e4 := cell_row e 4; go_simp⟩) t1 ?_
              go_simp
              refine tkHV (i := 1) (v := .slice Af frames.length cf) rfl t1 ?_
              go_simp
              refine tkH (i := 2) (v := .agg #[.slice A1 s.gens.length c1, .slice A2 s.free.length c2, .slice A3 s.ents.length c3]) rfl (Or.inl ⟨by rfl, fun w' h => by have e := row_call (h : Below w6.heap.size w6 w') R1_6.out; have e0 := cell_row e 0; have e1 := cell_row e 1; have e2 := cell_row e 2; go_simp⟩) t1 ?_
              go_simp
              refine tkH (i := 4) (v := .agg #[.int .i64 c.log, .int .i64 c.pages, .int .i64 c.entities, .int .i64 c.gens, .slice A c.comps.length cap]) rfl (Or.inl ⟨by rfl, fun w' h => by have e := row_call (h : Below w6.heap.size w6 w') R0_6.out; have e0 := cell_row e 0; have e1 := cell_row e 1; have e2 := cell_row e 2; have e3 := cell_row e 3; have e4 := cell_row e 4; go_simp⟩) t1 ?_
              go_simp
              refine tkHV (i := 5) (v := .slice Af frames.length cf) rfl t1 ?_
              go_simp
              refine tkH (i := 6) (v := .agg #[.slice A1 s.gens.length c1, .slice A2 s.free.length c2, .slice A3 s.ents.length c3]) rfl (Or.inl ⟨by rfl, fun w' h => by have e := row_call (h : Below w6.heap.size w6 w') R1_6.out; have e0 := cell_row e 0; have e1 := cell_row e 1; have e2 := cell_row e 2; go_simp⟩) t1 ?_
              go_simp
              refine wpAnyH_all (rs := [3]) (by kernel_rfl) (by simp) ?_
              intro i hi
              obtain rfl : i = 3 := by simpa using hi
              clear hi
              refine wpOp_step rfl (fun K hK => ?_)
              go_simp
              refine (jfind_calls (Rep.val_any (HVC.out _ (HB7.out.trans (Below.mono t1 HB7.out.size)))) (Rep.val_any (HVF.out _ (HB7.out.trans (Below.mono t1 HB7.out.size)))) (Rep.val_any (HVS.out _ (HB7.out.trans (Below.mono t1 HB7.out.size)))) (.inr HR.out) HL.out (by have := HN.out; omega)).mono ?_
              rw [HQ1.out]
              rintro e v2 ⟨u3, rfl, hu, hb⟩
              obtain ⟨B1, d1, rfl, _, _, _⟩ := Rep.val_list hu
              have HU3 := Lib.hid (Rep.val_any hu)
              clear hu
              have t2 : Below w6.heap.size w6 v2 := Below.trans t1 (hb.mono (Below.size t1))
              refine hK _ _ ⟨t2, ?_⟩
              clear hb
              clear hK K
              refine wpAnyH_all (rs := [7]) (by kernel_rfl) (by simp) ?_
              intro i hi
              obtain rfl : i = 7 := by simpa using hi
              clear hi
              refine wpOp_step rfl (fun K hK => ?_)
              go_simp
              refine (rfind33_calls (Rep.val_any (HVC.out _ (HB7.out.trans (Below.mono t2 HB7.out.size)))) (Rep.val_any (HVF.out _ (HB7.out.trans (Below.mono t2 HB7.out.size)))) (Rep.val_any (HVS.out _ (HB7.out.trans (Below.mono t2 HB7.out.size)))) HR.out HL.out (by have := HN.out; omega)).mono ?_
              rw [HQ1.out]
              rintro e v3 ⟨u7, rfl, hu, hb⟩
              obtain ⟨B2, d2, rfl, _, _, _⟩ := Rep.val_list hu
              have HU7 := Lib.hid (Rep.val_any hu)
              clear hu
              have HV3 := Lib.hid (val_later HU3.out hb)
              have t3 : Below w6.heap.size w6 v3 := Below.trans t2 (hb.mono (Below.size t2))
              refine hK _ _ ⟨t3, ?_⟩
              clear hb
              clear hK K
              refine wpAnyH_all (rs := [8]) (by kernel_rfl) (by simp) ?_
              intro i hi
              obtain rfl : i = 8 := by simpa using hi
              clear hi
              refine wpOp_step rfl (fun K hK => ?_)
              go_simp
              refine (sameList HV3.out HU7.out).mono ?_
              rintro e v4 ⟨rfl, nq, hw⟩
              rw [decide_eq_true (rfl : l1 = l1)]
              have hb : Below v3.heap.size v3 v4 := by rw [hw]; exact below_drawn (Below.refl _ _)
              clear hw
              have t4 : Below w6.heap.size w6 v4 := Below.trans t3 (hb.mono (Below.size t3))
              refine hK _ _ ⟨t4, ?_⟩
              clear hb
              clear hK K
              refine tkHV (i := 9) (v := .bool true) rfl t4 ?_
              go_simp
              refine tkH (i := 10) (v := .agg #[.int .i64 c.log, .int .i64 c.pages, .int .i64 c.entities, .int .i64 c.gens, .slice A c.comps.length cap]) rfl (Or.inl ⟨by rfl, fun w' h => by have e := row_call (h : Below w6.heap.size w6 w') R0_6.out; have e0 := cell_row e 0; have e1 := cell_row e 1; have e2 := cell_row e 2; have e3 := cell_row e 3; have e4 := cell_row e 4; go_simp⟩) t4 ?_
              go_simp
              refine tkHV (i := 11) (v := .slice Af frames.length cf) rfl t4 ?_
              go_simp
              refine tkH (i := 12) (v := .agg #[.slice D1 t.gens.length e1, .slice D2 t.free.length e2, .slice D3 t.ents.length e3]) rfl (Or.inl ⟨by rfl, fun w' h => by have e := row_call (h : Below w6.heap.size w6 w') R6.out; have e0 := cell_row e 0; have e1 := cell_row e 1; have e2 := cell_row e 2; go_simp⟩) t4 ?_
              go_simp
              refine tkH (i := 14) (v := .agg #[.int .i64 c.log, .int .i64 c.pages, .int .i64 c.entities, .int .i64 c.gens, .slice A c.comps.length cap]) rfl (Or.inl ⟨by rfl, fun w' h => by have e := row_call (h : Below w6.heap.size w6 w') R0_6.out; have e0 := cell_row e 0; have e1 := cell_row e 1; have e2 := cell_row e 2; have e3 := cell_row e 3; have e4 := cell_row e 4; go_simp⟩) t4 ?_
              go_simp
              refine tkHV (i := 15) (v := .slice Af frames.length cf) rfl t4 ?_
              go_simp
              refine tkH (i := 16) (v := .agg #[.slice D1 t.gens.length e1, .slice D2 t.free.length e2, .slice D3 t.ents.length e3]) rfl (Or.inl ⟨by rfl, fun w' h => by have e := row_call (h : Below w6.heap.size w6 w') R6.out; have e0 := cell_row e 0; have e1 := cell_row e 1; have e2 := cell_row e 2; go_simp⟩) t4 ?_
              go_simp
              refine wpAnyH_all (rs := [13]) (by kernel_rfl) (by simp) ?_
              intro i hi
              obtain rfl : i = 13 := by simpa using hi
              clear hi
              refine wpOp_step rfl (fun K hK => ?_)
              go_simp
              refine (jfind_calls (Rep.val_any (HVC.out _ (HB7.out.trans (Below.mono t4 HB7.out.size)))) (Rep.val_any (HVF.out _ (HB7.out.trans (Below.mono t4 HB7.out.size)))) (HVT.out _ t4) (.inr HR.out) HL.out (by have := HN.out; omega)).mono ?_
              rw [HQ2.out]
              rintro e v5 ⟨u13, rfl, hu, hb⟩
              obtain ⟨B3, d3, rfl, _, _, _⟩ := Rep.val_list hu
              have HU13 := Lib.hid (Rep.val_any hu)
              clear hu
              have t5 : Below w6.heap.size w6 v5 := Below.trans t4 (hb.mono (Below.size t4))
              refine hK _ _ ⟨t5, ?_⟩
              clear hb
              clear hK K
              refine wpAnyH_all (rs := [17]) (by kernel_rfl) (by simp) ?_
              intro i hi
              obtain rfl : i = 17 := by simpa using hi
              clear hi
              refine wpOp_step rfl (fun K hK => ?_)
              go_simp
              refine (rfind33_calls (Rep.val_any (HVC.out _ (HB7.out.trans (Below.mono t5 HB7.out.size)))) (Rep.val_any (HVF.out _ (HB7.out.trans (Below.mono t5 HB7.out.size)))) (HVT.out _ t5) HR.out HL.out (by have := HN.out; omega)).mono ?_
              rw [HQ2.out]
              rintro e v6 ⟨u17, rfl, hu, hb⟩
              obtain ⟨B4, d4, rfl, _, _, _⟩ := Rep.val_list hu
              have HU17 := Lib.hid (Rep.val_any hu)
              clear hu
              have HV13 := Lib.hid (val_later HU13.out hb)
              have t6 : Below w6.heap.size w6 v6 := Below.trans t5 (hb.mono (Below.size t5))
              refine hK _ _ ⟨t6, ?_⟩
              clear hb
              clear hK K
              refine wpAnyH_all (rs := [18]) (by kernel_rfl) (by simp) ?_
              intro i hi
              obtain rfl : i = 18 := by simpa using hi
              clear hi
              refine wpOp_step rfl (fun K hK => ?_)
              go_simp
              refine (sameList HV13.out HU17.out).mono ?_
              rintro e v7 ⟨rfl, nq, hw⟩
              rw [decide_eq_true (rfl : l2 = l2)]
              have hb : Below v6.heap.size v6 v7 := by rw [hw]; exact below_drawn (Below.refl _ _)
              clear hw
              have t7 : Below w6.heap.size w6 v7 := Below.trans t6 (hb.mono (Below.size t6))
              refine hK _ _ ⟨t7, ?_⟩
              clear hb
              clear hK K
              refine tkHV (i := 19) (v := .bool true) rfl t7 ?_
              go_simp
              refine tkHV (i := 20) (v := .bool true) rfl t7 ?_
              go_simp
              refine wpAnyH_all (rs := [21]) (by kernel_rfl) (by simp) ?_
              intro i hi
              obtain rfl : i = 21 := by simpa using hi
              clear hi
              refine wpOp_step rfl (fun K hK => ?_)
              go_simp
              refine (live33_calls _).mono ?_
              rintro e v8 ⟨rfl, hb⟩
              have t8 : Below w6.heap.size w6 v8 := Below.trans t7 (hb.mono (Below.size t7))
              refine hK _ _ ⟨t8, ?_⟩
              clear hb
              clear hK K
              refine tkHV (i := 22) (v := .bool true) rfl t8 ?_
              go_simp
              refine tkHV (i := 23) (v := .bool true) rfl t8 ?_
              go_simp
              refine wpAnyH_done (by kernel_rfl) ?_ _
              have S7 := Lib.hid (show Only (Box w 2) w6 v8 from Only.of_below t8)
              have O7 := Lib.hid (O6.out.trans S7.out)
              have R0_7 := Lib.hid (row_call t8 R0_6.out)
              have R1_7 := Lib.hid (row_call t8 R1_6.out)
              have Rw5_heap_size_7 := Lib.hid (row_call t8 R6.out)
              have q0_0 := cl5 R0_7.out
              try go_wp2_with fail
              clear q0_0
              go_ret
              exact ⟨rfl, Only.fin HB0.out O7.out⟩
            · rcases Decidable.em (0 ≤ k) with h0 | h0
              · skip
                have hk1 : ¬ k < (frames.length : Int) + 1 := fun h => hk ⟨h0, h⟩
                clear hk
                have q0_0 := cl5 R0_5.out
                have q1_0 := cl3 R1_5.out
                have k1 : (w5.alloc (.cells #[.slice A1 s.gens.length c1, .slice A2 s.free.length c2, .slice A3 s.ents.length c3] 75)).heap[w.heap.size]? = some (.cells #[.int .i64 c.log, .int .i64 c.pages, .int .i64 c.entities, .int .i64 c.gens, .slice A c.comps.length cap] 49 (0, 0)) := alloc_old (R0_5.out)
                have k1_0 := rw5 k1
                clear k1
                have k2 : (w5.alloc (.cells #[.slice A1 s.gens.length c1, .slice A2 s.free.length c2, .slice A3 s.ents.length c3] 75)).heap[w.heap.size + 1]? = some (.cells #[.slice A1 s.gens.length c1, .slice A2 s.free.length c2, .slice A3 s.ents.length c3] 75 (0, 0)) := alloc_old (R1_5.out)
                have k2_0 := rw3 k2
                clear k2
                have k3 : (w5.alloc (.cells #[.slice A1 s.gens.length c1, .slice A2 s.free.length c2, .slice A3 s.ents.length c3] 75)).heap[w5.heap.size]? = some (.cells #[.slice A1 s.gens.length c1, .slice A2 s.free.length c2, .slice A3 s.ents.length c3] 75 (0, 0)) := alloc_at rfl
                have k3_0 := rw3 k3
                clear k3
                go_wp2_with fail
                clear q0_0 q1_0 k1_0 k2_0 k3_0
                refine nm_region (fun w6 hnm => ?_)
                have HB6 := Lib.hid (show Below w5.heap.size w5 w6 by rw [hnm]; exact (Below.refl _ _).alloc (Nat.le_refl _) _)
                have R6 := Lib.hid (show w6.heap[w5.heap.size]? = some (.cells #[.slice A1 s.gens.length c1, .slice A2 s.free.length c2, .slice A3 s.ents.length c3] 75 (0, 0)) by rw [hnm]; exact alloc_at rfl)
                clear hnm
                have S6 := Lib.hid (show Only (Box w 2) w5 w6 from Only.of_below HB6.out)
                have O6 := Lib.hid (O5.out.trans S6.out)
                have R0_6 := Lib.hid (row_call HB6.out R0_5.out)
                have R1_6 := Lib.hid (row_call HB6.out R1_5.out)
                have HFX := Lib.hid (show w.heap.size + 2 ≤ w5.heap.size by have := HBW.out.size; have := HZ.out; omega)
                have HB7 := Lib.hid (HBW.out.trans (HB6.out.mono HBW.out.size))
                have HVT := Lib.hid (show ∀ V, Below w6.heap.size w6 V → rState.val (fun b => b < V.heap.size) V (.agg #[.slice A1 s.gens.length c1, .slice A2 s.free.length c2, .slice A3 s.ents.length c3]) s from fun V h => Rep.val_any ((fun (V : World) (h : Below w6.heap.size w6 V) => HVS.out V (HB7.out.trans (h.mono HB7.out.size))) V h))
                obtain ⟨l1, hl1⟩ : ∃ l, findsS c frames s (frames.length + 1) = l := ⟨_, rfl⟩
                obtain ⟨l2, hl2⟩ : ∃ l, findsS c frames s (frames.length + 1) = l := ⟨_, rfl⟩
                have HQ1 := Lib.hid hl1
                have HQ2 := Lib.hid hl2
                clear hl1 hl2
                refine wp_region_held_drew (S := fun W => Below w6.heap.size w6 W) (by kernel_rfl) ((Below.refl _ _).drew) (fun s0 => ?_)
                obtain ⟨v1, hv0⟩ : ∃ V, V = w6.drew := ⟨_, rfl⟩
                rw [← hv0] at s0 ⊢
                have t1 : Below w6.heap.size w6 v1 := s0
                clear hv0 s0
                refine tkH (i := 0) (v := .agg #[.int .i64 c.log, .int .i64 c.pages, .int .i64 c.entities, .int .i64 c.gens, .slice A c.comps.length cap]) rfl (Or.inl ⟨by rfl, fun w' h => by have e := row_call (h : Below w6.heap.size w6 w') R0_6.out; have e0 := cell_row e 0; have e1 := cell_row e 1; have e2 := cell_row e 2; have e3 := cell_row e 3; have e4 := cell_row e 4; go_simp⟩) t1 ?_
                go_simp
                refine tkHV (i := 1) (v := .slice Af frames.length cf) rfl t1 ?_
                go_simp
                refine tkH (i := 2) (v := .agg #[.slice A1 s.gens.length c1, .slice A2 s.free.length c2, .slice A3 s.ents.length c3]) rfl (Or.inl ⟨by rfl, fun w' h => by have e := row_call (h : Below w6.heap.size w6 w') R1_6.out; have e0 := cell_row e 0; have e1 := cell_row e 1; have e2 := cell_row e 2; go_simp⟩) t1 ?_
                go_simp
                refine tkH (i := 4) (v := .agg #[.int .i64 c.log, .int .i64 c.pages, .int .i64 c.entities, .int .i64 c.gens, .slice A c.comps.length cap]) rfl (Or.inl ⟨by rfl, fun w' h => by have e := row_call (h : Below w6.heap.size w6 w') R0_6.out; have e0 := cell_row e 0; have e1 := cell_row e 1; have e2 := cell_row e 2; have e3 := cell_row e 3; have e4 := cell_row e 4; go_simp⟩) t1 ?_
                go_simp
                refine tkHV (i := 5) (v := .slice Af frames.length cf) rfl t1 ?_
                go_simp
                refine tkH (i := 6) (v := .agg #[.slice A1 s.gens.length c1, .slice A2 s.free.length c2, .slice A3 s.ents.length c3]) rfl (Or.inl ⟨by rfl, fun w' h => by have e := row_call (h : Below w6.heap.size w6 w') R1_6.out; have e0 := cell_row e 0; have e1 := cell_row e 1; have e2 := cell_row e 2; go_simp⟩) t1 ?_
                go_simp
                refine wpAnyH_all (rs := [3]) (by kernel_rfl) (by simp) ?_
                intro i hi
                obtain rfl : i = 3 := by simpa using hi
                clear hi
                refine wpOp_step rfl (fun K hK => ?_)
                go_simp
                refine (jfind_calls (Rep.val_any (HVC.out _ (HB7.out.trans (Below.mono t1 HB7.out.size)))) (Rep.val_any (HVF.out _ (HB7.out.trans (Below.mono t1 HB7.out.size)))) (Rep.val_any (HVS.out _ (HB7.out.trans (Below.mono t1 HB7.out.size)))) (.inr HR.out) HL.out (by have := HN.out; omega)).mono ?_
                rw [HQ1.out]
                rintro e v2 ⟨u3, rfl, hu, hb⟩
                obtain ⟨B1, d1, rfl, _, _, _⟩ := Rep.val_list hu
                have HU3 := Lib.hid (Rep.val_any hu)
                clear hu
                have t2 : Below w6.heap.size w6 v2 := Below.trans t1 (hb.mono (Below.size t1))
                refine hK _ _ ⟨t2, ?_⟩
                clear hb
                clear hK K
                refine wpAnyH_all (rs := [7]) (by kernel_rfl) (by simp) ?_
                intro i hi
                obtain rfl : i = 7 := by simpa using hi
                clear hi
                refine wpOp_step rfl (fun K hK => ?_)
                go_simp
                refine (rfind33_calls (Rep.val_any (HVC.out _ (HB7.out.trans (Below.mono t2 HB7.out.size)))) (Rep.val_any (HVF.out _ (HB7.out.trans (Below.mono t2 HB7.out.size)))) (Rep.val_any (HVS.out _ (HB7.out.trans (Below.mono t2 HB7.out.size)))) HR.out HL.out (by have := HN.out; omega)).mono ?_
                rw [HQ1.out]
                rintro e v3 ⟨u7, rfl, hu, hb⟩
                obtain ⟨B2, d2, rfl, _, _, _⟩ := Rep.val_list hu
                have HU7 := Lib.hid (Rep.val_any hu)
                clear hu
                have HV3 := Lib.hid (val_later HU3.out hb)
                have t3 : Below w6.heap.size w6 v3 := Below.trans t2 (hb.mono (Below.size t2))
                refine hK _ _ ⟨t3, ?_⟩
                clear hb
                clear hK K
                refine wpAnyH_all (rs := [8]) (by kernel_rfl) (by simp) ?_
                intro i hi
                obtain rfl : i = 8 := by simpa using hi
                clear hi
                refine wpOp_step rfl (fun K hK => ?_)
                go_simp
                refine (sameList HV3.out HU7.out).mono ?_
                rintro e v4 ⟨rfl, nq, hw⟩
                rw [decide_eq_true (rfl : l1 = l1)]
                have hb : Below v3.heap.size v3 v4 := by rw [hw]; exact below_drawn (Below.refl _ _)
                clear hw
                have t4 : Below w6.heap.size w6 v4 := Below.trans t3 (hb.mono (Below.size t3))
                refine hK _ _ ⟨t4, ?_⟩
                clear hb
                clear hK K
                refine tkHV (i := 9) (v := .bool true) rfl t4 ?_
                go_simp
                refine tkH (i := 10) (v := .agg #[.int .i64 c.log, .int .i64 c.pages, .int .i64 c.entities, .int .i64 c.gens, .slice A c.comps.length cap]) rfl (Or.inl ⟨by rfl, fun w' h => by have e := row_call (h : Below w6.heap.size w6 w') R0_6.out; have e0 := cell_row e 0; have e1 := cell_row e 1; have e2 := cell_row e 2; have e3 := cell_row e 3; have e4 := cell_row e 4; go_simp⟩) t4 ?_
                go_simp
                refine tkHV (i := 11) (v := .slice Af frames.length cf) rfl t4 ?_
                go_simp
                refine tkH (i := 12) (v := .agg #[.slice A1 s.gens.length c1, .slice A2 s.free.length c2, .slice A3 s.ents.length c3]) rfl (Or.inl ⟨by rfl, fun w' h => by have e := row_call (h : Below w6.heap.size w6 w') R6.out; have e0 := cell_row e 0; have e1 := cell_row e 1; have e2 := cell_row e 2; go_simp⟩) t4 ?_
                go_simp
                refine tkH (i := 14) (v := .agg #[.int .i64 c.log, .int .i64 c.pages, .int .i64 c.entities, .int .i64 c.gens, .slice A c.comps.length cap]) rfl (Or.inl ⟨by rfl, fun w' h => by have e := row_call (h : Below w6.heap.size w6 w') R0_6.out; have e0 := cell_row e 0; have e1 := cell_row e 1; have e2 := cell_row e 2; have e3 := cell_row e 3; have e4 := cell_row e 4; go_simp⟩) t4 ?_
                go_simp
                refine tkHV (i := 15) (v := .slice Af frames.length cf) rfl t4 ?_
                go_simp
                refine tkH (i := 16) (v := .agg #[.slice A1 s.gens.length c1, .slice A2 s.free.length c2, .slice A3 s.ents.length c3]) rfl (Or.inl ⟨by rfl, fun w' h => by have e := row_call (h : Below w6.heap.size w6 w') R6.out; have e0 := cell_row e 0; have e1 := cell_row e 1; have e2 := cell_row e 2; go_simp⟩) t4 ?_
                go_simp
                refine wpAnyH_all (rs := [13]) (by kernel_rfl) (by simp) ?_
                intro i hi
                obtain rfl : i = 13 := by simpa using hi
                clear hi
                refine wpOp_step rfl (fun K hK => ?_)
                go_simp
                refine (jfind_calls (Rep.val_any (HVC.out _ (HB7.out.trans (Below.mono t4 HB7.out.size)))) (Rep.val_any (HVF.out _ (HB7.out.trans (Below.mono t4 HB7.out.size)))) (HVT.out _ t4) (.inr HR.out) HL.out (by have := HN.out; omega)).mono ?_
                rw [HQ2.out]
                rintro e v5 ⟨u13, rfl, hu, hb⟩
                obtain ⟨B3, d3, rfl, _, _, _⟩ := Rep.val_list hu
                have HU13 := Lib.hid (Rep.val_any hu)
                clear hu
                have t5 : Below w6.heap.size w6 v5 := Below.trans t4 (hb.mono (Below.size t4))
                refine hK _ _ ⟨t5, ?_⟩
                clear hb
                clear hK K
                refine wpAnyH_all (rs := [17]) (by kernel_rfl) (by simp) ?_
                intro i hi
                obtain rfl : i = 17 := by simpa using hi
                clear hi
                refine wpOp_step rfl (fun K hK => ?_)
                go_simp
                refine (rfind33_calls (Rep.val_any (HVC.out _ (HB7.out.trans (Below.mono t5 HB7.out.size)))) (Rep.val_any (HVF.out _ (HB7.out.trans (Below.mono t5 HB7.out.size)))) (HVT.out _ t5) HR.out HL.out (by have := HN.out; omega)).mono ?_
                rw [HQ2.out]
                rintro e v6 ⟨u17, rfl, hu, hb⟩
                obtain ⟨B4, d4, rfl, _, _, _⟩ := Rep.val_list hu
                have HU17 := Lib.hid (Rep.val_any hu)
                clear hu
                have HV13 := Lib.hid (val_later HU13.out hb)
                have t6 : Below w6.heap.size w6 v6 := Below.trans t5 (hb.mono (Below.size t5))
                refine hK _ _ ⟨t6, ?_⟩
                clear hb
                clear hK K
                refine wpAnyH_all (rs := [18]) (by kernel_rfl) (by simp) ?_
                intro i hi
                obtain rfl : i = 18 := by simpa using hi
                clear hi
                refine wpOp_step rfl (fun K hK => ?_)
                go_simp
                refine (sameList HV13.out HU17.out).mono ?_
                rintro e v7 ⟨rfl, nq, hw⟩
                rw [decide_eq_true (rfl : l2 = l2)]
                have hb : Below v6.heap.size v6 v7 := by rw [hw]; exact below_drawn (Below.refl _ _)
                clear hw
                have t7 : Below w6.heap.size w6 v7 := Below.trans t6 (hb.mono (Below.size t6))
                refine hK _ _ ⟨t7, ?_⟩
                clear hb
                clear hK K
                refine tkHV (i := 19) (v := .bool true) rfl t7 ?_
                go_simp
                refine tkHV (i := 20) (v := .bool true) rfl t7 ?_
                go_simp
                refine wpAnyH_all (rs := [21]) (by kernel_rfl) (by simp) ?_
                intro i hi
                obtain rfl : i = 21 := by simpa using hi
                clear hi
                refine wpOp_step rfl (fun K hK => ?_)
                go_simp
                refine (live33_calls _).mono ?_
                rintro e v8 ⟨rfl, hb⟩
                have t8 : Below w6.heap.size w6 v8 := Below.trans t7 (hb.mono (Below.size t7))
                refine hK _ _ ⟨t8, ?_⟩
                clear hb
                clear hK K
                refine tkHV (i := 22) (v := .bool true) rfl t8 ?_
                go_simp
                refine tkHV (i := 23) (v := .bool true) rfl t8 ?_
                go_simp
                refine wpAnyH_done (by kernel_rfl) ?_ _
                have S7 := Lib.hid (show Only (Box w 2) w6 v8 from Only.of_below t8)
                have O7 := Lib.hid (O6.out.trans S7.out)
                have R0_7 := Lib.hid (row_call t8 R0_6.out)
                have R1_7 := Lib.hid (row_call t8 R1_6.out)
                have Rw5_heap_size_7 := Lib.hid (row_call t8 R6.out)
                have q0_0 := cl5 R0_7.out
                try go_wp2_with fail
                clear q0_0
                go_ret
                exact ⟨rfl, Only.fin HB0.out O7.out⟩
              · skip
                clear hk
                have q0_0 := cl5 R0_5.out
                have q1_0 := cl3 R1_5.out
                have k1 : (w5.alloc (.cells #[.slice A1 s.gens.length c1, .slice A2 s.free.length c2, .slice A3 s.ents.length c3] 75)).heap[w.heap.size]? = some (.cells #[.int .i64 c.log, .int .i64 c.pages, .int .i64 c.entities, .int .i64 c.gens, .slice A c.comps.length cap] 49 (0, 0)) := alloc_old (R0_5.out)
                have k1_0 := rw5 k1
                clear k1
                have k2 : (w5.alloc (.cells #[.slice A1 s.gens.length c1, .slice A2 s.free.length c2, .slice A3 s.ents.length c3] 75)).heap[w.heap.size + 1]? = some (.cells #[.slice A1 s.gens.length c1, .slice A2 s.free.length c2, .slice A3 s.ents.length c3] 75 (0, 0)) := alloc_old (R1_5.out)
                have k2_0 := rw3 k2
                clear k2
                have k3 : (w5.alloc (.cells #[.slice A1 s.gens.length c1, .slice A2 s.free.length c2, .slice A3 s.ents.length c3] 75)).heap[w5.heap.size]? = some (.cells #[.slice A1 s.gens.length c1, .slice A2 s.free.length c2, .slice A3 s.ents.length c3] 75 (0, 0)) := alloc_at rfl
                have k3_0 := rw3 k3
                clear k3
                go_wp2_with fail
                clear q0_0 q1_0 k1_0 k2_0 k3_0
                refine nm_region (fun w6 hnm => ?_)
                have HB6 := Lib.hid (show Below w5.heap.size w5 w6 by rw [hnm]; exact (Below.refl _ _).alloc (Nat.le_refl _) _)
                have R6 := Lib.hid (show w6.heap[w5.heap.size]? = some (.cells #[.slice A1 s.gens.length c1, .slice A2 s.free.length c2, .slice A3 s.ents.length c3] 75 (0, 0)) by rw [hnm]; exact alloc_at rfl)
                clear hnm
                have S6 := Lib.hid (show Only (Box w 2) w5 w6 from Only.of_below HB6.out)
                have O6 := Lib.hid (O5.out.trans S6.out)
                have R0_6 := Lib.hid (row_call HB6.out R0_5.out)
                have R1_6 := Lib.hid (row_call HB6.out R1_5.out)
                have HFX := Lib.hid (show w.heap.size + 2 ≤ w5.heap.size by have := HBW.out.size; have := HZ.out; omega)
                have HB7 := Lib.hid (HBW.out.trans (HB6.out.mono HBW.out.size))
                have HVT := Lib.hid (show ∀ V, Below w6.heap.size w6 V → rState.val (fun b => b < V.heap.size) V (.agg #[.slice A1 s.gens.length c1, .slice A2 s.free.length c2, .slice A3 s.ents.length c3]) s from fun V h => Rep.val_any ((fun (V : World) (h : Below w6.heap.size w6 V) => HVS.out V (HB7.out.trans (h.mono HB7.out.size))) V h))
                obtain ⟨l1, hl1⟩ : ∃ l, findsS c frames s (frames.length + 1) = l := ⟨_, rfl⟩
                obtain ⟨l2, hl2⟩ : ∃ l, findsS c frames s (frames.length + 1) = l := ⟨_, rfl⟩
                have HQ1 := Lib.hid hl1
                have HQ2 := Lib.hid hl2
                clear hl1 hl2
                refine wp_region_held_drew (S := fun W => Below w6.heap.size w6 W) (by kernel_rfl) ((Below.refl _ _).drew) (fun s0 => ?_)
                obtain ⟨v1, hv0⟩ : ∃ V, V = w6.drew := ⟨_, rfl⟩
                rw [← hv0] at s0 ⊢
                have t1 : Below w6.heap.size w6 v1 := s0
                clear hv0 s0
                refine tkH (i := 0) (v := .agg #[.int .i64 c.log, .int .i64 c.pages, .int .i64 c.entities, .int .i64 c.gens, .slice A c.comps.length cap]) rfl (Or.inl ⟨by rfl, fun w' h => by have e := row_call (h : Below w6.heap.size w6 w') R0_6.out; have e0 := cell_row e 0; have e1 := cell_row e 1; have e2 := cell_row e 2; have e3 := cell_row e 3; have e4 := cell_row e 4; go_simp⟩) t1 ?_
                go_simp
                refine tkHV (i := 1) (v := .slice Af frames.length cf) rfl t1 ?_
                go_simp
                refine tkH (i := 2) (v := .agg #[.slice A1 s.gens.length c1, .slice A2 s.free.length c2, .slice A3 s.ents.length c3]) rfl (Or.inl ⟨by rfl, fun w' h => by have e := row_call (h : Below w6.heap.size w6 w') R1_6.out; have e0 := cell_row e 0; have e1 := cell_row e 1; have e2 := cell_row e 2; go_simp⟩) t1 ?_
                go_simp
                refine tkH (i := 4) (v := .agg #[.int .i64 c.log, .int .i64 c.pages, .int .i64 c.entities, .int .i64 c.gens, .slice A c.comps.length cap]) rfl (Or.inl ⟨by rfl, fun w' h => by have e := row_call (h : Below w6.heap.size w6 w') R0_6.out; have e0 := cell_row e 0; have e1 := cell_row e 1; have e2 := cell_row e 2; have e3 := cell_row e 3; have e4 := cell_row e 4; go_simp⟩) t1 ?_
                go_simp
                refine tkHV (i := 5) (v := .slice Af frames.length cf) rfl t1 ?_
                go_simp
                refine tkH (i := 6) (v := .agg #[.slice A1 s.gens.length c1, .slice A2 s.free.length c2, .slice A3 s.ents.length c3]) rfl (Or.inl ⟨by rfl, fun w' h => by have e := row_call (h : Below w6.heap.size w6 w') R1_6.out; have e0 := cell_row e 0; have e1 := cell_row e 1; have e2 := cell_row e 2; go_simp⟩) t1 ?_
                go_simp
                refine wpAnyH_all (rs := [3]) (by kernel_rfl) (by simp) ?_
                intro i hi
                obtain rfl : i = 3 := by simpa using hi
                clear hi
                refine wpOp_step rfl (fun K hK => ?_)
                go_simp
                refine (jfind_calls (Rep.val_any (HVC.out _ (HB7.out.trans (Below.mono t1 HB7.out.size)))) (Rep.val_any (HVF.out _ (HB7.out.trans (Below.mono t1 HB7.out.size)))) (Rep.val_any (HVS.out _ (HB7.out.trans (Below.mono t1 HB7.out.size)))) (.inr HR.out) HL.out (by have := HN.out; omega)).mono ?_
                rw [HQ1.out]
                rintro e v2 ⟨u3, rfl, hu, hb⟩
                obtain ⟨B1, d1, rfl, _, _, _⟩ := Rep.val_list hu
                have HU3 := Lib.hid (Rep.val_any hu)
                clear hu
                have t2 : Below w6.heap.size w6 v2 := Below.trans t1 (hb.mono (Below.size t1))
                refine hK _ _ ⟨t2, ?_⟩
                clear hb
                clear hK K
                refine wpAnyH_all (rs := [7]) (by kernel_rfl) (by simp) ?_
                intro i hi
                obtain rfl : i = 7 := by simpa using hi
                clear hi
                refine wpOp_step rfl (fun K hK => ?_)
                go_simp
                refine (rfind33_calls (Rep.val_any (HVC.out _ (HB7.out.trans (Below.mono t2 HB7.out.size)))) (Rep.val_any (HVF.out _ (HB7.out.trans (Below.mono t2 HB7.out.size)))) (Rep.val_any (HVS.out _ (HB7.out.trans (Below.mono t2 HB7.out.size)))) HR.out HL.out (by have := HN.out; omega)).mono ?_
                rw [HQ1.out]
                rintro e v3 ⟨u7, rfl, hu, hb⟩
                obtain ⟨B2, d2, rfl, _, _, _⟩ := Rep.val_list hu
                have HU7 := Lib.hid (Rep.val_any hu)
                clear hu
                have HV3 := Lib.hid (val_later HU3.out hb)
                have t3 : Below w6.heap.size w6 v3 := Below.trans t2 (hb.mono (Below.size t2))
                refine hK _ _ ⟨t3, ?_⟩
                clear hb
                clear hK K
                refine wpAnyH_all (rs := [8]) (by kernel_rfl) (by simp) ?_
                intro i hi
                obtain rfl : i = 8 := by simpa using hi
                clear hi
                refine wpOp_step rfl (fun K hK => ?_)
                go_simp
                refine (sameList HV3.out HU7.out).mono ?_
                rintro e v4 ⟨rfl, nq, hw⟩
                rw [decide_eq_true (rfl : l1 = l1)]
                have hb : Below v3.heap.size v3 v4 := by rw [hw]; exact below_drawn (Below.refl _ _)
                clear hw
                have t4 : Below w6.heap.size w6 v4 := Below.trans t3 (hb.mono (Below.size t3))
                refine hK _ _ ⟨t4, ?_⟩
                clear hb
                clear hK K
                refine tkHV (i := 9) (v := .bool true) rfl t4 ?_
                go_simp
                refine tkH (i := 10) (v := .agg #[.int .i64 c.log, .int .i64 c.pages, .int .i64 c.entities, .int .i64 c.gens, .slice A c.comps.length cap]) rfl (Or.inl ⟨by rfl, fun w' h => by have e := row_call (h : Below w6.heap.size w6 w') R0_6.out; have e0 := cell_row e 0; have e1 := cell_row e 1; have e2 := cell_row e 2; have e3 := cell_row e 3; have e4 := cell_row e 4; go_simp⟩) t4 ?_
                go_simp
                refine tkHV (i := 11) (v := .slice Af frames.length cf) rfl t4 ?_
                go_simp
                refine tkH (i := 12) (v := .agg #[.slice A1 s.gens.length c1, .slice A2 s.free.length c2, .slice A3 s.ents.length c3]) rfl (Or.inl ⟨by rfl, fun w' h => by have e := row_call (h : Below w6.heap.size w6 w') R6.out; have e0 := cell_row e 0; have e1 := cell_row e 1; have e2 := cell_row e 2; go_simp⟩) t4 ?_
                go_simp
                refine tkH (i := 14) (v := .agg #[.int .i64 c.log, .int .i64 c.pages, .int .i64 c.entities, .int .i64 c.gens, .slice A c.comps.length cap]) rfl (Or.inl ⟨by rfl, fun w' h => by have e := row_call (h : Below w6.heap.size w6 w') R0_6.out; have e0 := cell_row e 0; have e1 := cell_row e 1; have e2 := cell_row e 2; have e3 := cell_row e 3; have e4 := cell_row e 4; go_simp⟩) t4 ?_
                go_simp
                refine tkHV (i := 15) (v := .slice Af frames.length cf) rfl t4 ?_
                go_simp
                refine tkH (i := 16) (v := .agg #[.slice A1 s.gens.length c1, .slice A2 s.free.length c2, .slice A3 s.ents.length c3]) rfl (Or.inl ⟨by rfl, fun w' h => by have e := row_call (h : Below w6.heap.size w6 w') R6.out; have e0 := cell_row e 0; have e1 := cell_row e 1; have e2 := cell_row e 2; go_simp⟩) t4 ?_
                go_simp
                refine wpAnyH_all (rs := [13]) (by kernel_rfl) (by simp) ?_
                intro i hi
                obtain rfl : i = 13 := by simpa using hi
                clear hi
                refine wpOp_step rfl (fun K hK => ?_)
                go_simp
                refine (jfind_calls (Rep.val_any (HVC.out _ (HB7.out.trans (Below.mono t4 HB7.out.size)))) (Rep.val_any (HVF.out _ (HB7.out.trans (Below.mono t4 HB7.out.size)))) (HVT.out _ t4) (.inr HR.out) HL.out (by have := HN.out; omega)).mono ?_
                rw [HQ2.out]
                rintro e v5 ⟨u13, rfl, hu, hb⟩
                obtain ⟨B3, d3, rfl, _, _, _⟩ := Rep.val_list hu
                have HU13 := Lib.hid (Rep.val_any hu)
                clear hu
                have t5 : Below w6.heap.size w6 v5 := Below.trans t4 (hb.mono (Below.size t4))
                refine hK _ _ ⟨t5, ?_⟩
                clear hb
                clear hK K
                refine wpAnyH_all (rs := [17]) (by kernel_rfl) (by simp) ?_
                intro i hi
                obtain rfl : i = 17 := by simpa using hi
                clear hi
                refine wpOp_step rfl (fun K hK => ?_)
                go_simp
                refine (rfind33_calls (Rep.val_any (HVC.out _ (HB7.out.trans (Below.mono t5 HB7.out.size)))) (Rep.val_any (HVF.out _ (HB7.out.trans (Below.mono t5 HB7.out.size)))) (HVT.out _ t5) HR.out HL.out (by have := HN.out; omega)).mono ?_
                rw [HQ2.out]
                rintro e v6 ⟨u17, rfl, hu, hb⟩
                obtain ⟨B4, d4, rfl, _, _, _⟩ := Rep.val_list hu
                have HU17 := Lib.hid (Rep.val_any hu)
                clear hu
                have HV13 := Lib.hid (val_later HU13.out hb)
                have t6 : Below w6.heap.size w6 v6 := Below.trans t5 (hb.mono (Below.size t5))
                refine hK _ _ ⟨t6, ?_⟩
                clear hb
                clear hK K
                refine wpAnyH_all (rs := [18]) (by kernel_rfl) (by simp) ?_
                intro i hi
                obtain rfl : i = 18 := by simpa using hi
                clear hi
                refine wpOp_step rfl (fun K hK => ?_)
                go_simp
                refine (sameList HV13.out HU17.out).mono ?_
                rintro e v7 ⟨rfl, nq, hw⟩
                rw [decide_eq_true (rfl : l2 = l2)]
                have hb : Below v6.heap.size v6 v7 := by rw [hw]; exact below_drawn (Below.refl _ _)
                clear hw
                have t7 : Below w6.heap.size w6 v7 := Below.trans t6 (hb.mono (Below.size t6))
                refine hK _ _ ⟨t7, ?_⟩
                clear hb
                clear hK K
                refine tkHV (i := 19) (v := .bool true) rfl t7 ?_
                go_simp
                refine tkHV (i := 20) (v := .bool true) rfl t7 ?_
                go_simp
                refine wpAnyH_all (rs := [21]) (by kernel_rfl) (by simp) ?_
                intro i hi
                obtain rfl : i = 21 := by simpa using hi
                clear hi
                refine wpOp_step rfl (fun K hK => ?_)
                go_simp
                refine (live33_calls _).mono ?_
                rintro e v8 ⟨rfl, hb⟩
                have t8 : Below w6.heap.size w6 v8 := Below.trans t7 (hb.mono (Below.size t7))
                refine hK _ _ ⟨t8, ?_⟩
                clear hb
                clear hK K
                refine tkHV (i := 22) (v := .bool true) rfl t8 ?_
                go_simp
                refine tkHV (i := 23) (v := .bool true) rfl t8 ?_
                go_simp
                refine wpAnyH_done (by kernel_rfl) ?_ _
                have S7 := Lib.hid (show Only (Box w 2) w6 v8 from Only.of_below t8)
                have O7 := Lib.hid (O6.out.trans S7.out)
                have R0_7 := Lib.hid (row_call t8 R0_6.out)
                have R1_7 := Lib.hid (row_call t8 R1_6.out)
                have Rw5_heap_size_7 := Lib.hid (row_call t8 R6.out)
                have q0_0 := cl5 R0_7.out
                try go_wp2_with fail
                clear q0_0
                go_ret
                exact ⟨rfl, Only.fin HB0.out O7.out⟩
end Go.Proofs.Yteljibjbndpncaa
