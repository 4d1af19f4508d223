/- Texts on which the proofs stand: Rise. No condition is laid on any input. -/
import Derived.Test.YtghbfbohnoebiaaGreatSnG23
import Derived.Test.YtghbfbohnoebiaaGreatSnG32
namespace Go.Proofs.YtghbfbohnoebiaaGreat
open Go.RowKit

theorem sig_range {n : Int} (h : (Lit.int .u64 n).wf = true) : 0 ≤ n ∧ n < 18446744073709551616 := by
  simp [Lit.wf, IntKind.min, IntKind.max, IntKind.signed, IntKind.bits] at h
  omega

set_option maxRecDepth 100000 in
set_option maxHeartbeats 4000000 in
/-- store.rise -/
theorem rise_calls {Q : Nat → Prop} {w : World} {v : Value} {l : List DStream} (hx : rStream.list.val Q w v l) :
    Calls Tryz.prog 46 #[v] w fun e w' => e = .returned (.bool (riseB l)) ∧ Below w.heap.size w w' := by
  obtain ⟨A, c, rfl, hc1, hc2, hA⟩ := Rep.val_list hx
  unfold maxLen at hc2
  have HA := Lib.hid hA
  clear hx hA
  obtain ⟨W0, hW0⟩ : ∃ W, w = W := ⟨_, rfl⟩
  have hz0 : W0.heap.size = w.heap.size + 0 := by rw [← hW0]; simp
  have hb0 : Below w.heap.size w W0 := by rw [← hW0]; exact Below.refl _ _
  have HZ := Lib.hid hz0
  have HB0 := Lib.hid hb0
  have O0 := Lib.hid (Only.refl (Box w 0) W0)
  have HVA := Lib.hid (show ∀ V, Below W0.heap.size W0 V → rStream.At (fun b => b < w.heap.size) V A l from fun V hv => Rep.At.keep (fun b hq hl => ⟨hl.lt, (hv.block b (by have := hl.lt; omega)).trans (hb0.block b hl.lt)⟩) HA.out)
  clear hz0 hb0
  go_enter Tryz.func46, Tryz.ntmps46
  go_wp2_with fail
  try rw [hW0]
  clear hW0
  go_loopw [7] (fun i wr => ∃ j : Nat, i = .int .i64 j ∧ j ≤ l.length ∧ Hid (∀ k, k < j → riseAt l k = true) ∧ Hid (Below W0.heap.size W0 wr)) (fun i _ => l.length - (intOf i).toNat)
  case atStart => exact ⟨0, rfl, Nat.zero_le _, Lib.hid (fun k hk => absurd hk (Nat.not_lt_zero _)), Lib.hid (Below.refl _ _)⟩
  case round =>
    obtain ⟨j, rfl, hj, HFZ, HBR⟩ := hrel
    have S1 := Lib.hid (show Only (Box w 0) W0 wr from Only.of_below HBR.out)
    have O1 := Lib.hid (O0.out.trans S1.out)
    by_cases hlt : (j : Int) < l.length
    · obtain ⟨x, hxx⟩ : ∃ x, l[j]? = some x := ⟨_, List.getElem?_eq_getElem (by omega)⟩
      obtain ⟨b, off, Ad, cd, rfl, _, d0, d1, d2, d3, wf0, wf1, wf2, sd⟩ := rStream_at (HVA.out _ HBR.out) hxx
      have HXX := Lib.hid hxx
      have HSG := Lib.hid (sig_range wf1)
      have HVQ := Lib.hid (show ∀ V, Below W0.heap.size W0 V → ∀ y (k : Nat), l[k]? = some y → World.cell? V ⟨b, off + k * 4, none⟩ = some (.int .i64 y.key.kind) ∧ World.cell? V ⟨b, off + k * 4 + 1, none⟩ = some (.int .u64 y.key.sig) ∧ World.cell? V ⟨b, off + k * 4 + 2, none⟩ = some (.int .i64 y.key.comp) from fun V hv y k hy => by
        obtain ⟨b2, off2, _, _, he2, _, e0, e1, e2, _⟩ := rStream_at (HVA.out V hv) hy
        obtain ⟨rfl, rfl⟩ : b = b2 ∧ off = off2 := by injection he2 with h; injection h with h1 h2; exact ⟨h1, h2⟩
        exact ⟨e0, e1, e2⟩)
      clear hxx sd wf0 wf1 wf2
      have k1 : (wr.alloc (.cells #[.int .i64 x.key.kind, .int .u64 x.key.sig, .int .i64 x.key.comp, .slice Ad x.data.length cd] 84)).heap[wr.heap.size]? = some (.cells #[.int .i64 x.key.kind, .int .u64 x.key.sig, .int .i64 x.key.comp, .slice Ad x.data.length cd] 84 (0, 0)) := alloc_at rfl
      obtain ⟨k1_0, l1_0, k1_1, l1_1, k1_2, l1_2, k1_3, l1_3⟩ := rw4 k1
      clear k1
      go_wp2_with fail
      clear k1_0 l1_0 k1_1 l1_1 k1_2 l1_2 k1_3 l1_3
      refine nm_region (fun w2 hnm => ?_)
      have HF1 := Lib.hid (show w.heap.size + 0 ≤ wr.heap.size by have := O1.out.size; have := HZ.out; omega)
      have S2 := Lib.hid (show Only (Box w 0) wr w2 from (by rw [hnm]; exact (Only.refl (Box w 0) wr).alloc _))
      have O2 := Lib.hid (O1.out.trans S2.out)
      have Rwr_heap_size_2 := Lib.hid (show w2.heap[wr.heap.size]? = some (.cells #[.int .i64 x.key.kind, .int .u64 x.key.sig, .int .i64 x.key.comp, .slice Ad x.data.length cd] 84 (0, 0)) from (by rw [hnm]; exact alloc_at rfl))
      have HB2 := Lib.hid (show Below W0.heap.size W0 w2 by rw [hnm]; exact HBR.out.trans (((Below.refl _ _).alloc (Nat.le_refl _) _).mono HBR.out.size))
      clear hnm
      clear d0 d1 d2 d3
      cases hkr : keyRight x.key with
      | false =>
        have HKR := Lib.hid hkr
        have HE := Lib.hid (show riseB l = false from rise_stop (k := j) (by omega) (by unfold riseAt; rw [HXX.out]; simp only [hkr, Bool.false_and]))
        clear hkr
        refine wp_region_held_drew (S := fun W => Below w2.heap.size w2 W) (by kernel_rfl) ((Below.refl _ _).drew) (fun s0 => ?_)
        obtain ⟨v1, hv0⟩ : ∃ V, V = w2.drew := ⟨_, rfl⟩
        rw [← hv0] at s0 ⊢
        have t1 : Below w2.heap.size w2 v1 := s0
        clear hv0 s0
        refine tkHV (i := 0) (v := .pointer (some ⟨wr.heap.size, 0, none⟩)) rfl t1 ?_
        go_simp
        refine tkH (i := 1) (v := .agg #[.int .i64 x.key.kind, .int .u64 x.key.sig, .int .i64 x.key.comp]) rfl (Or.inl ⟨by rfl, fun w' h => by have e := row_call (h : Below w2.heap.size w2 w') Rwr_heap_size_2.out; have e0 := cell_row e 0; have e1 := cell_row e 1; have e2 := cell_row e 2; have e3 := cell_row e 3; go_simp⟩) t1 ?_
        go_simp
        refine wpAnyH_all (rs := [2]) (by kernel_rfl) (by simp) ?_
        intro i hi
        obtain rfl : i = 2 := by simpa using hi
        clear hi
        refine wpOp_step rfl (fun K hK => ?_)
        go_simp
        refine (fright_calls (k := x.key) HSG.out _).mono ?_
        rintro e9 v2 ⟨rfl, hb⟩
        rw [HKR.out]
        have t2 : Below w2.heap.size w2 v2 := Below.trans t1 (hb.mono (Below.size t1))
        refine hK _ _ ⟨t2, ?_⟩
        clear hb
        clear hK K
        refine tkHV (i := 3) (v := .bool true) rfl t2 ?_
        go_simp
        refine tkHV (i := 4) (v := .bool true) rfl t2 ?_
        go_simp
        refine tkH (i := 5) (v := undef) rfl (Or.inr ⟨by rfl, rfl⟩) t2 ?_
        go_simp
        refine tkH (i := 6) (v := undef) rfl (Or.inr ⟨by rfl, rfl⟩) t2 ?_
        go_simp
        refine tkH (i := 7) (v := undef) rfl (Or.inr ⟨by rfl, rfl⟩) t2 ?_
        go_simp
        refine tkH (i := 8) (v := undef) rfl (Or.inr ⟨by rfl, rfl⟩) t2 ?_
        go_simp
        refine tkH (i := 9) (v := undef) rfl (Or.inr ⟨by rfl, rfl⟩) t2 ?_
        go_simp
        refine tkH (i := 10) (v := undef) rfl (Or.inr ⟨by rfl, rfl⟩) t2 ?_
        go_simp
        refine tkH (i := 11) (v := undef) rfl (Or.inr ⟨by rfl, rfl⟩) t2 ?_
        go_simp
        refine tkH (i := 12) (v := undef) rfl (Or.inr ⟨by rfl, rfl⟩) t2 ?_
        go_simp
        refine tkH (i := 13) (v := undef) rfl (Or.inr ⟨by rfl, rfl⟩) t2 ?_
        go_simp
        refine tkH (i := 14) (v := undef) rfl (Or.inr ⟨by rfl, rfl⟩) t2 ?_
        go_simp
        refine tkH (i := 15) (v := undef) rfl (Or.inr ⟨by rfl, rfl⟩) t2 ?_
        go_simp
        refine tkH (i := 16) (v := undef) rfl (Or.inr ⟨by rfl, rfl⟩) t2 ?_
        go_simp
        refine tkH (i := 17) (v := undef) rfl (Or.inr ⟨by rfl, rfl⟩) t2 ?_
        go_simp
        refine tkH (i := 18) (v := undef) rfl (Or.inr ⟨by rfl, rfl⟩) t2 ?_
        go_simp
        refine tkHV (i := 19) (v := .bool true) rfl t2 ?_
        go_simp
        refine wpAnyH_done (by kernel_rfl) ?_ _
        have S3 := Lib.hid (show Only (Box w 0) w2 v2 from Only.of_below t2)
        have O3 := Lib.hid (O2.out.trans S3.out)
        have Rwr_heap_size_3 := Lib.hid (row_call t2 Rwr_heap_size_2.out)
        obtain ⟨qn0_0, zn0_0, qn0_1, zn0_1, qn0_2, zn0_2, qn0_3, zn0_3⟩ := rw4 Rwr_heap_size_3.out
        go_wp2_with fail
        clear qn0_0 zn0_0 qn0_1 zn0_1 qn0_2 zn0_2 qn0_3 zn0_3
        go_ret
        exact ⟨by rw [HE.out]; try rfl, (Only.fin HB0.out O0.out).trans ((HB2.out.trans ((show Below w2.heap.size w2 v2 from t2).mono HB2.out.size)).mono (Only.fin HB0.out O0.out).size)⟩
      | true =>
        have HKR := Lib.hid hkr
        clear hkr
        rcases j with _ | m
        · skip
          have HRA := Lib.hid (show riseAt l 0 = true by rw [rise_first HXX.out, HKR.out])
          refine wp_region_held_drew (S := fun W => Below w2.heap.size w2 W) (by kernel_rfl) ((Below.refl _ _).drew) (fun s0 => ?_)
          obtain ⟨v1, hv0⟩ : ∃ V, V = w2.drew := ⟨_, rfl⟩
          rw [← hv0] at s0 ⊢
          have t1 : Below w2.heap.size w2 v1 := s0
          clear hv0 s0
          refine tkHV (i := 0) (v := .pointer (some ⟨wr.heap.size, 0, none⟩)) rfl t1 ?_
          go_simp
          refine tkH (i := 1) (v := .agg #[.int .i64 x.key.kind, .int .u64 x.key.sig, .int .i64 x.key.comp]) rfl (Or.inl ⟨by rfl, fun w' h => by have e := row_call (h : Below w2.heap.size w2 w') Rwr_heap_size_2.out; have e0 := cell_row e 0; have e1 := cell_row e 1; have e2 := cell_row e 2; have e3 := cell_row e 3; go_simp⟩) t1 ?_
          go_simp
          refine wpAnyH_all (rs := [2]) (by kernel_rfl) (by simp) ?_
          intro i hi
          obtain rfl : i = 2 := by simpa using hi
          clear hi
          refine wpOp_step rfl (fun K hK => ?_)
          go_simp
          refine (fright_calls (k := x.key) HSG.out _).mono ?_
          rintro e9 v2 ⟨rfl, hb⟩
          rw [HKR.out]
          have t2 : Below w2.heap.size w2 v2 := Below.trans t1 (hb.mono (Below.size t1))
          refine hK _ _ ⟨t2, ?_⟩
          clear hb
          clear hK K
          refine tkHV (i := 3) (v := .bool false) rfl t2 ?_
          go_simp
          refine tkHV (i := 4) (v := .bool false) rfl t2 ?_
          go_simp
          refine tkHV (i := 5) (v := .int .i64 0) rfl t2 ?_
          go_simp
          refine tkHV (i := 6) (v := .bool false) rfl t2 ?_
          go_simp
          refine tkHV (i := 7) (v := .bool false) rfl t2 ?_
          go_simp
          refine tkH (i := 8) (v := undef) rfl (Or.inr ⟨by rfl, rfl⟩) t2 ?_
          go_simp
          refine tkH (i := 9) (v := undef) rfl (Or.inr ⟨by rfl, rfl⟩) t2 ?_
          go_simp
          refine tkH (i := 10) (v := undef) rfl (Or.inr ⟨by rfl, rfl⟩) t2 ?_
          go_simp
          refine tkH (i := 11) (v := undef) rfl (Or.inr ⟨by rfl, rfl⟩) t2 ?_
          go_simp
          refine tkH (i := 12) (v := undef) rfl (Or.inr ⟨by rfl, rfl⟩) t2 ?_
          go_simp
          refine tkH (i := 13) (v := undef) rfl (Or.inr ⟨by rfl, rfl⟩) t2 ?_
          go_simp
          refine tkH (i := 14) (v := undef) rfl (Or.inr ⟨by rfl, rfl⟩) t2 ?_
          go_simp
          refine tkH (i := 15) (v := undef) rfl (Or.inr ⟨by rfl, rfl⟩) t2 ?_
          go_simp
          refine tkH (i := 16) (v := undef) rfl (Or.inr ⟨by rfl, rfl⟩) t2 ?_
          go_simp
          refine tkH (i := 17) (v := undef) rfl (Or.inr ⟨by rfl, rfl⟩) t2 ?_
          go_simp
          refine tkHV (i := 18) (v := .bool false) rfl t2 ?_
          go_simp
          refine tkHV (i := 19) (v := .bool false) rfl t2 ?_
          go_simp
          refine wpAnyH_done (by kernel_rfl) ?_ _
          have S3 := Lib.hid (show Only (Box w 0) w2 v2 from Only.of_below t2)
          have O3 := Lib.hid (O2.out.trans S3.out)
          have Rwr_heap_size_3 := Lib.hid (row_call t2 Rwr_heap_size_2.out)
          have HBV := Lib.hid (show Below W0.heap.size W0 v2 from HB2.out.trans ((show Below w2.heap.size w2 v2 from t2).mono HB2.out.size))
          have iw : IntKind.i64.wrap ((0 : Int) + 1) = (0 : Int) + 1 := IntWalk.i64_in _ ⟨by omega, by omega⟩
          have HF2 := Lib.hid (show ∀ k, k < 0 + 1 → riseAt l k = true from fun k hk => by
            rcases Nat.lt_or_ge k (0) with h | h
            · exact HFZ.out k h
            · obtain rfl : k = 0 := by omega
              exact HRA.out)
          obtain ⟨qn0_0, zn0_0, qn0_1, zn0_1, qn0_2, zn0_2, qn0_3, zn0_3⟩ := rw4 Rwr_heap_size_3.out
          go_wp2_with fail
          clear qn0_0 zn0_0 qn0_1 zn0_1 qn0_2 zn0_2 qn0_3 zn0_3
          exact ⟨⟨0 + 1, by go_num, by omega, HF2, HBV⟩, by simp [intOf]; omega⟩
        · skip
          obtain ⟨y, hy⟩ : ∃ y, l[m]? = some y := ⟨_, List.getElem?_eq_getElem (by omega)⟩
          have HYY := Lib.hid hy
          have HRN := Lib.hid (rise_next hy HXX.out)
          have iw3 : IntKind.i64.wrap ((m : Int) + 1 - 1) = (m : Int) := by rw [show (m : Int) + 1 - 1 = (m : Int) by omega]; exact IntWalk.i64_in _ ⟨by omega, by omega⟩
          have iw4 : IntKind.i64.wrap (m : Int) = (m : Int) := IntWalk.i64_in _ ⟨by omega, by omega⟩
          have hmp1 : (m : Int) + 1 < l.length := by omega
          have hmp2 : (m : Int) < l.length := by omega
          have hmne : (0 : Int) < (m : Int) + 1 := by omega
          obtain ⟨od, hod⟩ : ∃ od, keyOrder y.key x.key = od := ⟨_, rfl⟩
          have HOR := Lib.hid hod
          rw [HKR.out, hod] at HRN
          clear hy hod
          by_cases hyx : od < 0
          · skip
            have HRA := Lib.hid (show riseAt l (m + 1) = true by rw [HRN.out, decide_eq_true hyx]; rfl)
            refine wp_region_held_drew (S := fun W => Below w2.heap.size w2 W) (by kernel_rfl) ((Below.refl _ _).drew) (fun s0 => ?_)
            obtain ⟨v1, hv0⟩ : ∃ V, V = w2.drew := ⟨_, rfl⟩
            rw [← hv0] at s0 ⊢
            have t1 : Below w2.heap.size w2 v1 := s0
            clear hv0 s0
            refine tkHV (i := 0) (v := .pointer (some ⟨wr.heap.size, 0, none⟩)) rfl t1 ?_
            go_simp
            refine tkH (i := 1) (v := .agg #[.int .i64 x.key.kind, .int .u64 x.key.sig, .int .i64 x.key.comp]) rfl (Or.inl ⟨by rfl, fun w' h => by have e := row_call (h : Below w2.heap.size w2 w') Rwr_heap_size_2.out; have e0 := cell_row e 0; have e1 := cell_row e 1; have e2 := cell_row e 2; have e3 := cell_row e 3; go_simp⟩) t1 ?_
            go_simp
            refine wpAnyH_all (rs := [2]) (by kernel_rfl) (by simp) ?_
            intro i hi
            obtain rfl : i = 2 := by simpa using hi
            clear hi
            refine wpOp_step rfl (fun K hK => ?_)
            go_simp
            refine (fright_calls (k := x.key) HSG.out _).mono ?_
            rintro e9 v2 ⟨rfl, hb⟩
            rw [HKR.out]
            have t2 : Below w2.heap.size w2 v2 := Below.trans t1 (hb.mono (Below.size t1))
            refine hK _ _ ⟨t2, ?_⟩
            clear hb
            clear hK K
            refine tkHV (i := 3) (v := .bool false) rfl t2 ?_
            go_simp
            refine tkHV (i := 4) (v := .bool false) rfl t2 ?_
            go_simp
            refine tkHV (i := 5) (v := .int .i64 (m + 1)) rfl t2 ?_
            go_simp
            refine tkHV (i := 6) (v := .bool true) rfl t2 ?_
            go_simp
            refine tkHV (i := 7) (v := .bool true) rfl t2 ?_
            go_simp
            refine tkHV (i := 8) (v := .slice (some ⟨b, off, none⟩) l.length c) rfl t2 ?_
            go_simp
            refine tkHV (i := 9) (v := .int .i64 (m + 1)) rfl t2 ?_
            go_simp
            refine tkHV (i := 10) (v := .int .i64 m) rfl t2 ?_
            go_simp
            refine tkHV (i := 11) (v := .pointer (some ⟨b, off + m * 4, none⟩)) rfl t2 ?_
            go_simp
            refine tkHV (i := 12) (v := .pointer (some ⟨b, off + m * 4, none⟩)) rfl t2 ?_
            go_simp
            refine tkH (i := 13) (v := .agg #[.int .i64 y.key.kind, .int .u64 y.key.sig, .int .i64 y.key.comp]) rfl (Or.inl ⟨by rfl, fun w' h => by have e := HVQ.out w' (HB2.out.trans ((h : Below w2.heap.size w2 w').mono HB2.out.size)) _ _ HYY.out; have e0 := e.1; have e1 := e.2.1; have e2 := e.2.2; go_simp⟩) t2 ?_
            go_simp
            refine tkHV (i := 14) (v := .pointer (some ⟨wr.heap.size, 0, none⟩)) rfl t2 ?_
            go_simp
            refine tkH (i := 15) (v := .agg #[.int .i64 x.key.kind, .int .u64 x.key.sig, .int .i64 x.key.comp]) rfl (Or.inl ⟨by rfl, fun w' h => by have e := row_call (h : Below w2.heap.size w2 w') Rwr_heap_size_2.out; have e0 := cell_row e 0; have e1 := cell_row e 1; have e2 := cell_row e 2; have e3 := cell_row e 3; go_simp⟩) t2 ?_
            go_simp
            refine wpAnyH_all (rs := [16]) (by kernel_rfl) (by simp) ?_
            intro i hi
            obtain rfl : i = 16 := by simpa using hi
            clear hi
            refine wpOp_step rfl (fun K hK => ?_)
            go_simp
            refine (order_calls y.key x.key _).mono ?_
            rintro e9 v3 ⟨rfl, hb⟩
            rw [HOR.out]
            have t3 : Below w2.heap.size w2 v3 := Below.trans t2 (hb.mono (Below.size t2))
            refine hK _ _ ⟨t3, ?_⟩
            clear hb
            clear hK K
            refine tkHV (i := 17) (v := .bool false) rfl t3 ?_
            go_simp
            refine tkHV (i := 18) (v := .bool false) rfl t3 ?_
            go_simp
            refine tkHV (i := 19) (v := .bool false) rfl t3 ?_
            go_simp
            refine wpAnyH_done (by kernel_rfl) ?_ _
            have S3 := Lib.hid (show Only (Box w 0) w2 v3 from Only.of_below t3)
            have O3 := Lib.hid (O2.out.trans S3.out)
            have Rwr_heap_size_3 := Lib.hid (row_call t3 Rwr_heap_size_2.out)
            have HBV := Lib.hid (show Below W0.heap.size W0 v3 from HB2.out.trans ((show Below w2.heap.size w2 v3 from t3).mono HB2.out.size))
            have iw : IntKind.i64.wrap (((m : Int) + 1) + 1) = ((m : Int) + 1) + 1 := IntWalk.i64_in _ ⟨by omega, by omega⟩
            have HF2 := Lib.hid (show ∀ k, k < (m + 1) + 1 → riseAt l k = true from fun k hk => by
              rcases Nat.lt_or_ge k ((m + 1)) with h | h
              · exact HFZ.out k h
              · obtain rfl : k = (m + 1) := by omega
                exact HRA.out)
            obtain ⟨qn0_0, zn0_0, qn0_1, zn0_1, qn0_2, zn0_2, qn0_3, zn0_3⟩ := rw4 Rwr_heap_size_3.out
            go_wp2_with fail
            clear qn0_0 zn0_0 qn0_1 zn0_1 qn0_2 zn0_2 qn0_3 zn0_3
            exact ⟨⟨(m + 1) + 1, by go_num, by omega, HF2, HBV⟩, by simp [intOf]; omega⟩
          · skip
            have HE := Lib.hid (show riseB l = false from rise_stop (k := m + 1) (by omega) (by rw [HRN.out, decide_eq_false hyx]; rfl))
            refine wp_region_held_drew (S := fun W => Below w2.heap.size w2 W) (by kernel_rfl) ((Below.refl _ _).drew) (fun s0 => ?_)
            obtain ⟨v1, hv0⟩ : ∃ V, V = w2.drew := ⟨_, rfl⟩
            rw [← hv0] at s0 ⊢
            have t1 : Below w2.heap.size w2 v1 := s0
            clear hv0 s0
            refine tkHV (i := 0) (v := .pointer (some ⟨wr.heap.size, 0, none⟩)) rfl t1 ?_
            go_simp
            refine tkH (i := 1) (v := .agg #[.int .i64 x.key.kind, .int .u64 x.key.sig, .int .i64 x.key.comp]) rfl (Or.inl ⟨by rfl, fun w' h => by have e := row_call (h : Below w2.heap.size w2 w') Rwr_heap_size_2.out; have e0 := cell_row e 0; have e1 := cell_row e 1; have e2 := cell_row e 2; have e3 := cell_row e 3; go_simp⟩) t1 ?_
            go_simp
            refine wpAnyH_all (rs := [2]) (by kernel_rfl) (by simp) ?_
            intro i hi
            obtain rfl : i = 2 := by simpa using hi
            clear hi
            refine wpOp_step rfl (fun K hK => ?_)
            go_simp
            refine (fright_calls (k := x.key) HSG.out _).mono ?_
            rintro e9 v2 ⟨rfl, hb⟩
            rw [HKR.out]
            have t2 : Below w2.heap.size w2 v2 := Below.trans t1 (hb.mono (Below.size t1))
            refine hK _ _ ⟨t2, ?_⟩
            clear hb
            clear hK K
            refine tkHV (i := 3) (v := .bool false) rfl t2 ?_
            go_simp
            refine tkHV (i := 4) (v := .bool false) rfl t2 ?_
            go_simp
            refine tkHV (i := 5) (v := .int .i64 (m + 1)) rfl t2 ?_
            go_simp
            refine tkHV (i := 6) (v := .bool true) rfl t2 ?_
            go_simp
            refine tkHV (i := 7) (v := .bool true) rfl t2 ?_
            go_simp
            refine tkHV (i := 8) (v := .slice (some ⟨b, off, none⟩) l.length c) rfl t2 ?_
            go_simp
            refine tkHV (i := 9) (v := .int .i64 (m + 1)) rfl t2 ?_
            go_simp
            refine tkHV (i := 10) (v := .int .i64 m) rfl t2 ?_
            go_simp
            refine tkHV (i := 11) (v := .pointer (some ⟨b, off + m * 4, none⟩)) rfl t2 ?_
            go_simp
            refine tkHV (i := 12) (v := .pointer (some ⟨b, off + m * 4, none⟩)) rfl t2 ?_
            go_simp
            refine tkH (i := 13) (v := .agg #[.int .i64 y.key.kind, .int .u64 y.key.sig, .int .i64 y.key.comp]) rfl (Or.inl ⟨by rfl, fun w' h => by have e := HVQ.out w' (HB2.out.trans ((h : Below w2.heap.size w2 w').mono HB2.out.size)) _ _ HYY.out; have e0 := e.1; have e1 := e.2.1; have e2 := e.2.2; go_simp⟩) t2 ?_
            go_simp
            refine tkHV (i := 14) (v := .pointer (some ⟨wr.heap.size, 0, none⟩)) rfl t2 ?_
            go_simp
            refine tkH (i := 15) (v := .agg #[.int .i64 x.key.kind, .int .u64 x.key.sig, .int .i64 x.key.comp]) rfl (Or.inl ⟨by rfl, fun w' h => by have e := row_call (h : Below w2.heap.size w2 w') Rwr_heap_size_2.out; have e0 := cell_row e 0; have e1 := cell_row e 1; have e2 := cell_row e 2; have e3 := cell_row e 3; go_simp⟩) t2 ?_
            go_simp
            refine wpAnyH_all (rs := [16]) (by kernel_rfl) (by simp) ?_
            intro i hi
            obtain rfl : i = 16 := by simpa using hi
            clear hi
            refine wpOp_step rfl (fun K hK => ?_)
            go_simp
            refine (order_calls y.key x.key _).mono ?_
            rintro e9 v3 ⟨rfl, hb⟩
            rw [HOR.out]
            have t3 : Below w2.heap.size w2 v3 := Below.trans t2 (hb.mono (Below.size t2))
            refine hK _ _ ⟨t3, ?_⟩
            clear hb
            clear hK K
            refine tkHV (i := 17) (v := .bool true) rfl t3 ?_
            go_simp
            refine tkHV (i := 18) (v := .bool true) rfl t3 ?_
            go_simp
            refine tkHV (i := 19) (v := .bool true) rfl t3 ?_
            go_simp
            refine wpAnyH_done (by kernel_rfl) ?_ _
            have S3 := Lib.hid (show Only (Box w 0) w2 v3 from Only.of_below t3)
            have O3 := Lib.hid (O2.out.trans S3.out)
            have Rwr_heap_size_3 := Lib.hid (row_call t3 Rwr_heap_size_2.out)
            obtain ⟨qn0_0, zn0_0, qn0_1, zn0_1, qn0_2, zn0_2, qn0_3, zn0_3⟩ := rw4 Rwr_heap_size_3.out
            go_wp2_with fail
            clear qn0_0 zn0_0 qn0_1 zn0_1 qn0_2 zn0_2 qn0_3 zn0_3
            go_ret
            exact ⟨by rw [HE.out]; try rfl, (Only.fin HB0.out O0.out).trans ((HB2.out.trans ((show Below w2.heap.size w2 v3 from t3).mono HB2.out.size)).mono (Only.fin HB0.out O0.out).size)⟩
    · obtain rfl : j = l.length := by omega
      have HE := Lib.hid (rise_all HFZ.out)
      go_wp2_with fail
      go_ret
      exact ⟨by rw [HE.out]; try rfl, (Only.fin HB0.out O0.out).trans (HBR.out.mono (Only.fin HB0.out O0.out).size)⟩
end Go.Proofs.YtghbfbohnoebiaaGreat
