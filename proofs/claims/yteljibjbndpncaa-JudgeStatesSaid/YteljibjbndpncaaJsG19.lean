/- Texts on which the proofs stand: MSet. No condition is laid on any input. -/
import Derived.Test.YteljibjbndpncaaJsG18
namespace Go.Proofs.Yteljibjbndpncaa
open Go.RowKit

/-- All but the i-th entity's parts stay. -/
structure KeptBut (cl : Nat → Option Nat) (i : Nat) (W V : World) : Prop where
  size : W.heap.size ≤ V.heap.size
  block : ∀ b, b < W.heap.size → cl b ≠ some i → V.heap[b]? = W.heap[b]?

set_option maxRecDepth 100000 in
set_option maxHeartbeats 8000000 in
/-- model.Set -/
theorem mset_calls {Q : Nat → Prop} {w : World} {vc v vd : Value} {c : DConf} {s : DState} {id : DID} {k : Int} {data : List UInt8} (hc : rConf.val Q w vc c) (hx : rState.val Q w v s) (hd : Rep.byte.list.val Q w vd data) (hok : StOk c s) :
    Calls Try.prog 182 #[vc, v, .agg #[.int .i64 id.index, .int .i64 id.gen], .int .i64 k, vd] w (MStepped w (setS c s id k data)) := by
  have HC := Lib.hid hc
  have HX := Lib.hid hx
  have HD := Lib.hid hd
  have HOK := Lib.hid hok
  have HSM := Lib.hid hok.small
  obtain ⟨A, cap, rfl, _⟩ := rConf_val hc
  obtain ⟨A1, c1, A2, c2, A3, c3, rfl, _⟩ := rState_val hx
  obtain ⟨Ad, cd, rfl, _, _, _⟩ := Rep.val_list hd
  have hfr : Try.f182.results = #[.cell 10 75, .tmp 11] := rfl
  clear hc hx hd hok
  obtain ⟨W0, hW0⟩ : ∃ W, ((((w.alloc (.cells #[.int .i64 c.log, .int .i64 c.pages, .int .i64 c.entities, .int .i64 c.gens, .slice A c.comps.length cap] 49)).alloc (.cells #[.slice A1 s.gens.length c1, .slice A2 s.free.length c2, .slice A3 s.ents.length c3] 75)).alloc (.cells #[.int .i64 id.index, .int .i64 id.gen] 114)).alloc (.cells #[.slice none 0 0, .slice none 0 0, .slice none 0 0] 75)) = W := ⟨_, rfl⟩
  have hz0 : W0.heap.size = w.heap.size + 4 := by rw [← hW0]; simp
  have hb0 : Below w.heap.size w W0 := by rw [← hW0]; exact ((((Below.refl _ _).alloc (Nat.le_refl _) _).alloc (by first | (simp; done) | (simp; omega)) _).alloc (by first | (simp; done) | (simp; omega)) _).alloc (by first | (simp; done) | (simp; omega)) _
  have HZ := Lib.hid hz0
  have HB0 := Lib.hid hb0
  have R0_0 := Lib.hid (show W0.heap[w.heap.size]? = some (.cells #[.int .i64 c.log, .int .i64 c.pages, .int .i64 c.entities, .int .i64 c.gens, .slice A c.comps.length cap] 49 (0, 0)) by rw [← hW0]; exact alloc_old (alloc_old (alloc_old (alloc_at rfl))))
  have R1_0 := Lib.hid (show W0.heap[w.heap.size + 1]? = some (.cells #[.slice A1 s.gens.length c1, .slice A2 s.free.length c2, .slice A3 s.ents.length c3] 75 (0, 0)) by rw [← hW0]; exact alloc_old (alloc_old (alloc_at (by simp))))
  have R2_0 := Lib.hid (show W0.heap[w.heap.size + 1 + 1]? = some (.cells #[.int .i64 id.index, .int .i64 id.gen] 114 (0, 0)) by rw [← hW0]; exact alloc_old (alloc_at (by simp)))
  have R3_0 := Lib.hid (show W0.heap[w.heap.size + 1 + 1 + 1]? = some (.cells #[.slice none 0 0, .slice none 0 0, .slice none 0 0] 75 (0, 0)) by rw [← hW0]; exact alloc_at (by simp))
  have O0 := Lib.hid (Only.refl (Box w 4) W0)
  have Vc_0 := Lib.hid (show rConf.val (In Q w 4) W0 (.agg #[.int .i64 c.log, .int .i64 c.pages, .int .i64 c.entities, .int .i64 c.gens, .slice A c.comps.length cap]) c from val_in HC.out hb0)
  have Vs_0 := Lib.hid (show rState.val (In Q w 4) W0 (.agg #[.slice A1 s.gens.length c1, .slice A2 s.free.length c2, .slice A3 s.ents.length c3]) s from val_in HX.out hb0)
  have HDLO := Lib.hid (show Rep.byte.list.val (Lo Q w) W0 (.slice Ad data.length cd) data from val_lo HD.out hb0)
  rcases hp : placeOf s.ents id with _ | i
  case none =>
    have HE := Lib.hid (show setS c s id k data = (s, 5) by unfold setS; rw [hp])
    have HN := Lib.hid (show namedS c s id k = (0, 0, 5) by unfold namedS; rw [hp])
    clear hp
    clear hz0 hb0
    have q0_0 := rw5 R0_0.out
    have q1_0 := rw3 R1_0.out
    have q2_0 := rw2 R2_0.out
    have q3_0 := rw3 R3_0.out
    go_enter Try.func182, Try.ntmps182
    go_wp2_with fail
    try rw [hW0]
    clear hW0
    try go_wp2_with fail
    clear q0_0 q1_0 q2_0 q3_0
    refine (mclone_calls Vs_0.out HOK.out.tiny).mono ?_
    rintro e w1 ⟨A4, c4, A5, c5, A6, c6, z, cl, raws, rfl, hb, hown, hzl⟩
    have S1 := Lib.hid (show Only (Box w 4) W0 w1 from Only.of_below hb)
    have O1 := Lib.hid (O0.out.trans S1.out)
    have R0_1 := Lib.hid (row_call hb R0_0.out)
    have R1_1 := Lib.hid (row_call hb R1_0.out)
    have R2_1 := Lib.hid (row_call hb R2_0.out)
    have R3_1 := Lib.hid (row_call hb R3_0.out)
    have Vc_1 := Lib.hid (val_only Vc_0.out S1.out)
    have Vs_1 := Lib.hid (val_only Vs_0.out S1.out)
    have HM1 := Lib.hid hown
    have HZL := Lib.hid hzl
    clear hb hown hzl
    have q0_0 := rw5 R0_1.out
    have q1_0 := rw3 R1_1.out
    have q2_0 := rw2 R2_1.out
    have q3_0 := rw3 R3_1.out
    go_wp2_with fail
    clear q0_0 q1_0 q2_0 q3_0
    refine nm_calls (fun w2 hnm => ?_)
    have S2 := Lib.hid (show Only (Box w 4) w1 w2 from (by rw [hnm]; exact (((Only.refl (Box w 4) w1).put ⟨by omega, by omega⟩).put ⟨by omega, by omega⟩).put ⟨by omega, by omega⟩))
    have O2 := Lib.hid (O1.out.trans S2.out)
    have R0_2 := Lib.hid (row_nm hnm (row_other (row_other (row_other (R0_1.out) (by omega)) (by omega)) (by omega)))
    have R1_2 := Lib.hid (show w2.heap[w.heap.size + 1]? = some (.cells #[.slice A4 s.gens.length c4, .slice A5 s.free.length c5, .slice A6 s.ents.length c6] 75 (0, 0)) from (by rw [hnm]; exact heap_setRow (heap_setRow (heap_setRow (R1_1.out)))))
    have R2_2 := Lib.hid (row_nm hnm (row_other (row_other (row_other (R2_1.out) (by omega)) (by omega)) (by omega)))
    have R3_2 := Lib.hid (row_nm hnm (row_other (row_other (row_other (R3_1.out) (by omega)) (by omega)) (by omega)))
    have Vc_2 := Lib.hid (val_only Vc_1.out S2.out)
    have Vs_2 := Lib.hid (val_only Vs_1.out S2.out)
    clear hnm
    have HM2 := Lib.hid (HM1.out.keep (fun b hb hl => S2.out.block b hl (by unfold Box; have := HZ.out; omega)))
    have HZ2 := Lib.hid (Nat.le_trans HZL.out S2.out.size)
    refine (mnamed_calls (k := k) (id := id) Vc_2.out (Rep.val_mono (fun b hb _ => .inr (by have := HZ.out; omega)) HM2.out.mid.loose.val) HOK.out.up).mono ?_
    rintro e w3 ⟨rfl, hb⟩
    rw [HN.out]
    dsimp only
    have S3 := Lib.hid (show Only (Box w 4) w2 w3 from Only.of_below hb)
    have O3 := Lib.hid (O2.out.trans S3.out)
    have R0_3 := Lib.hid (row_call hb R0_2.out)
    have R1_3 := Lib.hid (row_call hb R1_2.out)
    have R2_3 := Lib.hid (row_call hb R2_2.out)
    have R3_3 := Lib.hid (row_call hb R3_2.out)
    have Vc_3 := Lib.hid (val_only Vc_2.out S3.out)
    have Vs_3 := Lib.hid (val_only Vs_2.out S3.out)
    clear hb
    have HM3 := Lib.hid (HM2.out.keep (fun b hb hl => S3.out.block b hl (by unfold Box; have := HZ.out; omega)))
    have HZ3 := Lib.hid (Nat.le_trans HZ2.out S3.out.size)
    have q0_0 := rw5 R0_3.out
    have q1_0 := rw3 R1_3.out
    have q2_0 := rw2 R2_3.out
    have q3_0 := rw3 R3_3.out
    go_wp2_with fail
    clear q0_0 q1_0 q2_0 q3_0
    refine nm_post (fun w8 hnm => ?_)
    have S4 := Lib.hid (show Only (Box w 4) w3 w8 from (by rw [hnm]; exact (((Only.refl (Box w 4) w3).put ⟨by omega, by omega⟩).put ⟨by omega, by omega⟩).put ⟨by omega, by omega⟩))
    have O4 := Lib.hid (O3.out.trans S4.out)
    have R0_4 := Lib.hid (row_nm hnm (row_other (row_other (row_other (R0_3.out) (by omega)) (by omega)) (by omega)))
    have R1_4 := Lib.hid (row_nm hnm (row_other (row_other (row_other (R1_3.out) (by omega)) (by omega)) (by omega)))
    have R2_4 := Lib.hid (row_nm hnm (row_other (row_other (row_other (R2_3.out) (by omega)) (by omega)) (by omega)))
    have R3_4 := Lib.hid (show w8.heap[w.heap.size + 1 + 1 + 1]? = some (.cells #[.slice A4 s.gens.length c4, .slice A5 s.free.length c5, .slice A6 s.ents.length c6] 75 (0, 0)) from (by rw [hnm]; exact heap_setRow (heap_setRow (heap_setRow (R3_3.out)))))
    have Vc_4 := Lib.hid (val_only Vc_3.out S4.out)
    have Vs_4 := Lib.hid (val_only Vs_3.out S4.out)
    clear hnm
    have HM4 := Lib.hid (HM3.out.keep (fun b hb hl => S4.out.block b hl (by unfold Box; have := HZ.out; omega)))
    have HZ4 := Lib.hid (Nat.le_trans HZ3.out S4.out.size)
    have q3_0 := cl3 R3_4.out
    refine ⟨rfl, .tuple #[.agg #[.slice A4 s.gens.length c4, .slice A5 s.free.length c5, .slice A6 s.ents.length c6], .int .i64 5], by simp only [results, hfr]; go_simp, ?_⟩
    clear q3_0
    rw [HE.out]
    exact ⟨_, rfl, (Rep.val_mono (fun b hb _ => by have := HZ.out; omega) HM4.out.mid.loose.val), Only.fin HB0.out O4.out⟩
  rcases hs : compSize c k with _ | n
  case none =>
    have HE := Lib.hid (show setS c s id k data = (s, 6) by unfold setS; rw [hp]; dsimp only; rw [hs])
    have HN := Lib.hid (show namedS c s id k = (0, 0, 6) by unfold namedS; rw [hp]; dsimp only; rw [hs])
    clear hp hs
    clear hz0 hb0
    have q0_0 := rw5 R0_0.out
    have q1_0 := rw3 R1_0.out
    have q2_0 := rw2 R2_0.out
    have q3_0 := rw3 R3_0.out
    go_enter Try.func182, Try.ntmps182
    go_wp2_with fail
    try rw [hW0]
    clear hW0
    try go_wp2_with fail
    clear q0_0 q1_0 q2_0 q3_0
    refine (mclone_calls Vs_0.out HOK.out.tiny).mono ?_
    rintro e w1 ⟨A4, c4, A5, c5, A6, c6, z, cl, raws, rfl, hb, hown, hzl⟩
    have S1 := Lib.hid (show Only (Box w 4) W0 w1 from Only.of_below hb)
    have O1 := Lib.hid (O0.out.trans S1.out)
    have R0_1 := Lib.hid (row_call hb R0_0.out)
    have R1_1 := Lib.hid (row_call hb R1_0.out)
    have R2_1 := Lib.hid (row_call hb R2_0.out)
    have R3_1 := Lib.hid (row_call hb R3_0.out)
    have Vc_1 := Lib.hid (val_only Vc_0.out S1.out)
    have Vs_1 := Lib.hid (val_only Vs_0.out S1.out)
    have HM1 := Lib.hid hown
    have HZL := Lib.hid hzl
    clear hb hown hzl
    have q0_0 := rw5 R0_1.out
    have q1_0 := rw3 R1_1.out
    have q2_0 := rw2 R2_1.out
    have q3_0 := rw3 R3_1.out
    go_wp2_with fail
    clear q0_0 q1_0 q2_0 q3_0
    refine nm_calls (fun w2 hnm => ?_)
    have S2 := Lib.hid (show Only (Box w 4) w1 w2 from (by rw [hnm]; exact (((Only.refl (Box w 4) w1).put ⟨by omega, by omega⟩).put ⟨by omega, by omega⟩).put ⟨by omega, by omega⟩))
    have O2 := Lib.hid (O1.out.trans S2.out)
    have R0_2 := Lib.hid (row_nm hnm (row_other (row_other (row_other (R0_1.out) (by omega)) (by omega)) (by omega)))
    have R1_2 := Lib.hid (show w2.heap[w.heap.size + 1]? = some (.cells #[.slice A4 s.gens.length c4, .slice A5 s.free.length c5, .slice A6 s.ents.length c6] 75 (0, 0)) from (by rw [hnm]; exact heap_setRow (heap_setRow (heap_setRow (R1_1.out)))))
    have R2_2 := Lib.hid (row_nm hnm (row_other (row_other (row_other (R2_1.out) (by omega)) (by omega)) (by omega)))
    have R3_2 := Lib.hid (row_nm hnm (row_other (row_other (row_other (R3_1.out) (by omega)) (by omega)) (by omega)))
    have Vc_2 := Lib.hid (val_only Vc_1.out S2.out)
    have Vs_2 := Lib.hid (val_only Vs_1.out S2.out)
    clear hnm
    have HM2 := Lib.hid (HM1.out.keep (fun b hb hl => S2.out.block b hl (by unfold Box; have := HZ.out; omega)))
    have HZ2 := Lib.hid (Nat.le_trans HZL.out S2.out.size)
    refine (mnamed_calls (k := k) (id := id) Vc_2.out (Rep.val_mono (fun b hb _ => .inr (by have := HZ.out; omega)) HM2.out.mid.loose.val) HOK.out.up).mono ?_
    rintro e w3 ⟨rfl, hb⟩
    rw [HN.out]
    dsimp only
    have S3 := Lib.hid (show Only (Box w 4) w2 w3 from Only.of_below hb)
    have O3 := Lib.hid (O2.out.trans S3.out)
    have R0_3 := Lib.hid (row_call hb R0_2.out)
    have R1_3 := Lib.hid (row_call hb R1_2.out)
    have R2_3 := Lib.hid (row_call hb R2_2.out)
    have R3_3 := Lib.hid (row_call hb R3_2.out)
    have Vc_3 := Lib.hid (val_only Vc_2.out S3.out)
    have Vs_3 := Lib.hid (val_only Vs_2.out S3.out)
    clear hb
    have HM3 := Lib.hid (HM2.out.keep (fun b hb hl => S3.out.block b hl (by unfold Box; have := HZ.out; omega)))
    have HZ3 := Lib.hid (Nat.le_trans HZ2.out S3.out.size)
    have q0_0 := rw5 R0_3.out
    have q1_0 := rw3 R1_3.out
    have q2_0 := rw2 R2_3.out
    have q3_0 := rw3 R3_3.out
    go_wp2_with fail
    clear q0_0 q1_0 q2_0 q3_0
    refine nm_post (fun w8 hnm => ?_)
    have S4 := Lib.hid (show Only (Box w 4) w3 w8 from (by rw [hnm]; exact (((Only.refl (Box w 4) w3).put ⟨by omega, by omega⟩).put ⟨by omega, by omega⟩).put ⟨by omega, by omega⟩))
    have O4 := Lib.hid (O3.out.trans S4.out)
    have R0_4 := Lib.hid (row_nm hnm (row_other (row_other (row_other (R0_3.out) (by omega)) (by omega)) (by omega)))
    have R1_4 := Lib.hid (row_nm hnm (row_other (row_other (row_other (R1_3.out) (by omega)) (by omega)) (by omega)))
    have R2_4 := Lib.hid (row_nm hnm (row_other (row_other (row_other (R2_3.out) (by omega)) (by omega)) (by omega)))
    have R3_4 := Lib.hid (show w8.heap[w.heap.size + 1 + 1 + 1]? = some (.cells #[.slice A4 s.gens.length c4, .slice A5 s.free.length c5, .slice A6 s.ents.length c6] 75 (0, 0)) from (by rw [hnm]; exact heap_setRow (heap_setRow (heap_setRow (R3_3.out)))))
    have Vc_4 := Lib.hid (val_only Vc_3.out S4.out)
    have Vs_4 := Lib.hid (val_only Vs_3.out S4.out)
    clear hnm
    have HM4 := Lib.hid (HM3.out.keep (fun b hb hl => S4.out.block b hl (by unfold Box; have := HZ.out; omega)))
    have HZ4 := Lib.hid (Nat.le_trans HZ3.out S4.out.size)
    have q3_0 := cl3 R3_4.out
    refine ⟨rfl, .tuple #[.agg #[.slice A4 s.gens.length c4, .slice A5 s.free.length c5, .slice A6 s.ents.length c6], .int .i64 6], by simp only [results, hfr]; go_simp, ?_⟩
    clear q3_0
    rw [HE.out]
    exact ⟨_, rfl, (Rep.val_mono (fun b hb _ => by have := HZ.out; omega) HM4.out.mid.loose.val), Only.fin HB0.out O4.out⟩
  by_cases hn : (data.length : Int) = n
  case neg =>
    have HE := Lib.hid (show setS c s id k data = (s, 7) by unfold setS; rw [hp]; dsimp only; rw [hs]; exact if_neg hn)
    have HN := Lib.hid (show namedS c s id k = ((i : Int), n, 0) by unfold namedS; rw [hp]; dsimp only; rw [hs])
    have g1 : ((data.length : Int) == n) = false := by simp [hn]
    clear hp hs
    clear hz0 hb0
    have q0_0 := rw5 R0_0.out
    have q1_0 := rw3 R1_0.out
    have q2_0 := rw2 R2_0.out
    have q3_0 := rw3 R3_0.out
    go_enter Try.func182, Try.ntmps182
    go_wp2_with fail
    try rw [hW0]
    clear hW0
    try go_wp2_with fail
    clear q0_0 q1_0 q2_0 q3_0
    refine (mclone_calls Vs_0.out HOK.out.tiny).mono ?_
    rintro e w1 ⟨A4, c4, A5, c5, A6, c6, z, cl, raws, rfl, hb, hown, hzl⟩
    have S1 := Lib.hid (show Only (Box w 4) W0 w1 from Only.of_below hb)
    have O1 := Lib.hid (O0.out.trans S1.out)
    have R0_1 := Lib.hid (row_call hb R0_0.out)
    have R1_1 := Lib.hid (row_call hb R1_0.out)
    have R2_1 := Lib.hid (row_call hb R2_0.out)
    have R3_1 := Lib.hid (row_call hb R3_0.out)
    have Vc_1 := Lib.hid (val_only Vc_0.out S1.out)
    have Vs_1 := Lib.hid (val_only Vs_0.out S1.out)
    have HM1 := Lib.hid hown
    have HZL := Lib.hid hzl
    clear hb hown hzl
    have q0_0 := rw5 R0_1.out
    have q1_0 := rw3 R1_1.out
    have q2_0 := rw2 R2_1.out
    have q3_0 := rw3 R3_1.out
    go_wp2_with fail
    clear q0_0 q1_0 q2_0 q3_0
    refine nm_calls (fun w2 hnm => ?_)
    have S2 := Lib.hid (show Only (Box w 4) w1 w2 from (by rw [hnm]; exact (((Only.refl (Box w 4) w1).put ⟨by omega, by omega⟩).put ⟨by omega, by omega⟩).put ⟨by omega, by omega⟩))
    have O2 := Lib.hid (O1.out.trans S2.out)
    have R0_2 := Lib.hid (row_nm hnm (row_other (row_other (row_other (R0_1.out) (by omega)) (by omega)) (by omega)))
    have R1_2 := Lib.hid (show w2.heap[w.heap.size + 1]? = some (.cells #[.slice A4 s.gens.length c4, .slice A5 s.free.length c5, .slice A6 s.ents.length c6] 75 (0, 0)) from (by rw [hnm]; exact heap_setRow (heap_setRow (heap_setRow (R1_1.out)))))
    have R2_2 := Lib.hid (row_nm hnm (row_other (row_other (row_other (R2_1.out) (by omega)) (by omega)) (by omega)))
    have R3_2 := Lib.hid (row_nm hnm (row_other (row_other (row_other (R3_1.out) (by omega)) (by omega)) (by omega)))
    have Vc_2 := Lib.hid (val_only Vc_1.out S2.out)
    have Vs_2 := Lib.hid (val_only Vs_1.out S2.out)
    clear hnm
    have HM2 := Lib.hid (HM1.out.keep (fun b hb hl => S2.out.block b hl (by unfold Box; have := HZ.out; omega)))
    have HZ2 := Lib.hid (Nat.le_trans HZL.out S2.out.size)
    refine (mnamed_calls (k := k) (id := id) Vc_2.out (Rep.val_mono (fun b hb _ => .inr (by have := HZ.out; omega)) HM2.out.mid.loose.val) HOK.out.up).mono ?_
    rintro e w3 ⟨rfl, hb⟩
    rw [HN.out]
    dsimp only
    have S3 := Lib.hid (show Only (Box w 4) w2 w3 from Only.of_below hb)
    have O3 := Lib.hid (O2.out.trans S3.out)
    have R0_3 := Lib.hid (row_call hb R0_2.out)
    have R1_3 := Lib.hid (row_call hb R1_2.out)
    have R2_3 := Lib.hid (row_call hb R2_2.out)
    have R3_3 := Lib.hid (row_call hb R3_2.out)
    have Vc_3 := Lib.hid (val_only Vc_2.out S3.out)
    have Vs_3 := Lib.hid (val_only Vs_2.out S3.out)
    clear hb
    have HM3 := Lib.hid (HM2.out.keep (fun b hb hl => S3.out.block b hl (by unfold Box; have := HZ.out; omega)))
    have HZ3 := Lib.hid (Nat.le_trans HZ2.out S3.out.size)
    have q0_0 := rw5 R0_3.out
    have q1_0 := rw3 R1_3.out
    have q2_0 := rw2 R2_3.out
    have q3_0 := rw3 R3_3.out
    go_wp2_with fail
    clear q0_0 q1_0 q2_0 q3_0
    refine nm_post (fun w8 hnm => ?_)
    have S4 := Lib.hid (show Only (Box w 4) w3 w8 from (by rw [hnm]; exact (((Only.refl (Box w 4) w3).put ⟨by omega, by omega⟩).put ⟨by omega, by omega⟩).put ⟨by omega, by omega⟩))
    have O4 := Lib.hid (O3.out.trans S4.out)
    have R0_4 := Lib.hid (row_nm hnm (row_other (row_other (row_other (R0_3.out) (by omega)) (by omega)) (by omega)))
    have R1_4 := Lib.hid (row_nm hnm (row_other (row_other (row_other (R1_3.out) (by omega)) (by omega)) (by omega)))
    have R2_4 := Lib.hid (row_nm hnm (row_other (row_other (row_other (R2_3.out) (by omega)) (by omega)) (by omega)))
    have R3_4 := Lib.hid (show w8.heap[w.heap.size + 1 + 1 + 1]? = some (.cells #[.slice A4 s.gens.length c4, .slice A5 s.free.length c5, .slice A6 s.ents.length c6] 75 (0, 0)) from (by rw [hnm]; exact heap_setRow (heap_setRow (heap_setRow (R3_3.out)))))
    have Vc_4 := Lib.hid (val_only Vc_3.out S4.out)
    have Vs_4 := Lib.hid (val_only Vs_3.out S4.out)
    clear hnm
    have HM4 := Lib.hid (HM3.out.keep (fun b hb hl => S4.out.block b hl (by unfold Box; have := HZ.out; omega)))
    have HZ4 := Lib.hid (Nat.le_trans HZ3.out S4.out.size)
    have q3_0 := cl3 R3_4.out
    refine ⟨rfl, .tuple #[.agg #[.slice A4 s.gens.length c4, .slice A5 s.free.length c5, .slice A6 s.ents.length c6], .int .i64 7], by simp only [results, hfr]; go_simp, ?_⟩
    clear q3_0
    rw [HE.out]
    exact ⟨_, rfl, (Rep.val_mono (fun b hb _ => by have := HZ.out; omega) HM4.out.mid.loose.val), Only.fin HB0.out O4.out⟩
  subst hn
  have HN := Lib.hid (show namedS c s id k = ((i : Int), (data.length : Int), 0) by unfold namedS; rw [hp]; dsimp only; rw [hs])
  have HDL := Lib.hid (compSize_small HOK.out.conf hs).2
  have HWK := Lib.hid (show (Lit.int .i64 k).wf = true from by have h1 := compSize_lt hs; have := (right_facts HOK.out.conf).1; exact wf_i64 (by omega) (by omega))
  obtain ⟨x, hx, hid⟩ := placeOf_some hp
  have HXI := Lib.hid hx
  have HPU := Lib.hid (HOK.out.parts x (List.mem_of_getElem? hx)).up
  have HPK := Lib.hid (show x.parts.length ≤ 1000000 by have := (HOK.out.parts x (List.mem_of_getElem? hx)).len; have := (right_facts HOK.out.conf).1; omega)
  have hil : (i : Int) < s.ents.length := by have := (List.getElem?_eq_some_iff.1 hx).1; omega
  obtain ⟨ps, hps⟩ : ∃ ps, putPart x.parts k data = ps := ⟨_, rfl⟩
  have HE := Lib.hid (show setS c s id k data = (⟨s.gens, s.free, s.ents.set i ⟨x.id, ps⟩⟩, 0) by unfold setS; rw [hp]; dsimp only; rw [hs]; dsimp only; rw [if_pos rfl, modify_set hx, hps])
  clear hp hs hx hid
  rcases hpt : partOf x.parts k with _ | j
  case some =>
    have HPT := Lib.hid (part_some HPU.out hpt)
    have HSET := Lib.hid ((put_has (b := data) HPU.out hpt).symm.trans hps)
    obtain ⟨⟨k2, yd⟩, hjx, hk2⟩ := partOf_some hpt
    dsimp only at hk2
    have hk3 := hk2.symm
    clear hk2
    subst hk3
    have HLJ := Lib.hid hjx
    have hjl : (j : Int) < x.parts.length := by have := (List.getElem?_eq_some_iff.1 hjx).1; omega
    clear hpt hps hjx
    clear hz0 hb0
    have q0_0 := rw5 R0_0.out
    have q1_0 := rw3 R1_0.out
    have q2_0 := rw2 R2_0.out
    have q3_0 := rw3 R3_0.out
    go_enter Try.func182, Try.ntmps182
    go_wp2_with fail
    try rw [hW0]
    clear hW0
    try go_wp2_with fail
    clear q0_0 q1_0 q2_0 q3_0
    refine (mclone_calls Vs_0.out HOK.out.tiny).mono ?_
    rintro e w1 ⟨A4, c4, A5, c5, A6, c6, z, cl, raws, rfl, hb, hown, hzl⟩
    have S1 := Lib.hid (show Only (Box w 4) W0 w1 from Only.of_below hb)
    have O1 := Lib.hid (O0.out.trans S1.out)
    have R0_1 := Lib.hid (row_call hb R0_0.out)
    have R1_1 := Lib.hid (row_call hb R1_0.out)
    have R2_1 := Lib.hid (row_call hb R2_0.out)
    have R3_1 := Lib.hid (row_call hb R3_0.out)
    have Vc_1 := Lib.hid (val_only Vc_0.out S1.out)
    have Vs_1 := Lib.hid (val_only Vs_0.out S1.out)
    have HM1 := Lib.hid hown
    have HZL := Lib.hid hzl
    clear hb hown hzl
    have q0_0 := rw5 R0_1.out
    have q1_0 := rw3 R1_1.out
    have q2_0 := rw2 R2_1.out
    have q3_0 := rw3 R3_1.out
    go_wp2_with fail
    clear q0_0 q1_0 q2_0 q3_0
    refine nm_calls (fun w2 hnm => ?_)
    have S2 := Lib.hid (show Only (Box w 4) w1 w2 from (by rw [hnm]; exact (((Only.refl (Box w 4) w1).put ⟨by omega, by omega⟩).put ⟨by omega, by omega⟩).put ⟨by omega, by omega⟩))
    have O2 := Lib.hid (O1.out.trans S2.out)
    have R0_2 := Lib.hid (row_nm hnm (row_other (row_other (row_other (R0_1.out) (by omega)) (by omega)) (by omega)))
    have R1_2 := Lib.hid (show w2.heap[w.heap.size + 1]? = some (.cells #[.slice A4 s.gens.length c4, .slice A5 s.free.length c5, .slice A6 s.ents.length c6] 75 (0, 0)) from (by rw [hnm]; exact heap_setRow (heap_setRow (heap_setRow (R1_1.out)))))
    have R2_2 := Lib.hid (row_nm hnm (row_other (row_other (row_other (R2_1.out) (by omega)) (by omega)) (by omega)))
    have R3_2 := Lib.hid (row_nm hnm (row_other (row_other (row_other (R3_1.out) (by omega)) (by omega)) (by omega)))
    have Vc_2 := Lib.hid (val_only Vc_1.out S2.out)
    have Vs_2 := Lib.hid (val_only Vs_1.out S2.out)
    clear hnm
    have HM2 := Lib.hid (HM1.out.keep (fun b hb hl => S2.out.block b hl (by unfold Box; have := HZ.out; omega)))
    have HZ2 := Lib.hid (Nat.le_trans HZL.out S2.out.size)
    refine (mnamed_calls (k := k) (id := id) Vc_2.out (Rep.val_mono (fun b hb _ => .inr (by have := HZ.out; omega)) HM2.out.mid.loose.val) HOK.out.up).mono ?_
    rintro e w3 ⟨rfl, hb⟩
    rw [HN.out]
    dsimp only
    have S3 := Lib.hid (show Only (Box w 4) w2 w3 from Only.of_below hb)
    have O3 := Lib.hid (O2.out.trans S3.out)
    have R0_3 := Lib.hid (row_call hb R0_2.out)
    have R1_3 := Lib.hid (row_call hb R1_2.out)
    have R2_3 := Lib.hid (row_call hb R2_2.out)
    have R3_3 := Lib.hid (row_call hb R3_2.out)
    have Vc_3 := Lib.hid (val_only Vc_2.out S3.out)
    have Vs_3 := Lib.hid (val_only Vs_2.out S3.out)
    clear hb
    have HM3 := Lib.hid (HM2.out.keep (fun b hb hl => S3.out.block b hl (by unfold Box; have := HZ.out; omega)))
    have HZ3 := Lib.hid (Nat.le_trans HZ2.out S3.out.size)
    obtain ⟨gb, Ap, cp, hA, hgb, hgc, hgv, hgf, hpo⟩ := own_part HM3.out HXI.out
    subst hA
    have HGB := Lib.hid hgb
    have HGC := Lib.hid hgc
    have HPO3 := Lib.hid hpo
    have HK3 := Lib.hid hgv
    have HF3 := Lib.hid hgf
    clear hgb hgc hgf hpo
    have q0_0 := rw5 R0_3.out
    have q1_0 := rw3 R1_3.out
    have q2_0 := rw2 R2_3.out
    have q3_0 := rw3 R3_3.out
    go_wp2_with fail
    clear hgv
    clear q0_0 q1_0 q2_0 q3_0
    refine (mpart_calls (k := k) HPO3.out.val).mono ?_
    rintro e w4 ⟨rfl, hb⟩
    rw [HPT.out.1, HPT.out.2]
    have HK4 := Lib.hid (cell_call hb HK3.out)
    have HF4 := Lib.hid (show ∀ j, w4.frozen? ⟨gb, j, none⟩ = false from fun j => frozen_same (hb.block gb (cell_bound HK3.out)) (HF3.out j))
    have HPO4 := Lib.hid (HPO3.out.keep (W' := w4) (fun _ _ h => h) (fun b hb2 _ => hb.block b hb2))
    have S4 := Lib.hid (show Only (Box w 4) w3 w4 from Only.of_below hb)
    have O4 := Lib.hid (O3.out.trans S4.out)
    have R0_4 := Lib.hid (row_call hb R0_3.out)
    have R1_4 := Lib.hid (row_call hb R1_3.out)
    have R2_4 := Lib.hid (row_call hb R2_3.out)
    have R3_4 := Lib.hid (row_call hb R3_3.out)
    have Vc_4 := Lib.hid (val_only Vc_3.out S4.out)
    have Vs_4 := Lib.hid (val_only Vs_3.out S4.out)
    clear hb
    have HM4 := Lib.hid (HM3.out.keep (fun b hb hl => S4.out.block b hl (by unfold Box; have := HZ.out; omega)))
    have HZ4 := Lib.hid (Nat.le_trans HZ3.out S4.out.size)
    have HA4 := Lib.hid HPO4.out.acc
    have HKP := Lib.hid (show KeptBut cl i w4 w4 from ⟨Nat.le_refl _, fun _ _ _ => rfl⟩)
    have HOWN := Lib.hid (show ∀ b, (Value.slice Ap x.parts.length cp).ownBlock = some b → cl b = some i ∨ w4.heap.size ≤ b from fun b e => .inl (HPO4.out.own b e))
    have q0_0 := rw5 R0_4.out
    have q1_0 := rw3 R1_4.out
    have q2_0 := rw2 R2_4.out
    have q3_0 := rw3 R3_4.out
    go_wp2_with fail
    clear q0_0 q1_0 q2_0 q3_0
    have HDC := Lib.hid (show Rep.byte.list.val (Lo Q w) w4 (.slice Ad data.length cd) data from Rep.val_keep (fun b hb hl => ⟨hb, O4.out.block b (by have := hb.2; have := HZ.out; omega) (fun h => by have := hb.2; have := h.1; omega)⟩) HDLO.out)
    refine (bytesClone HDC.out (by have := HDL.out; omega)).mono ?_
    rintro e wA ⟨vd, rfl, hvd, hb⟩
    obtain ⟨Bd, dd, rfl, _, _, _⟩ := Rep.val_list hvd
    have hacc2 : rPart.acc 135 z (fun b => cl b = some i ∨ w4.heap.size ≤ b) wA (.slice Ap x.parts.length cp) x.parts := Rep.acc_keep (fun _ _ _ => rfl) (fun _ h _ => .inl h) (Rep.acc_later HA4.out hb)
    obtain ⟨pb, _, es, he, hlow, hlt, _, _, hrd, hcell, hfz⟩ := acc_get hacc2 HLJ.out
    have hA : Ap = some ⟨pb, 0, none⟩ := by injection he
    subst hA
    obtain ⟨Ay, cy, rfl, _, _⟩ := rPart_open hrd
    have hpi : cl pb = some i ∨ w4.heap.size ≤ pb := HOWN.out pb rfl
    have hpg : pb ≠ gb := fun e => by
      have := cell_bound HK4.out
      rcases hpi with h | h
      · rw [e, HGC.out] at h; cases h
      · omega
    have hpw : W0.heap.size ≤ pb := Nat.le_trans HM4.out.low hlow
    have hsl := sl_of hvd
    have HCA := Lib.hid (show wA.cell? ⟨pb, j * 2 + 1, none⟩ = _ from hcell 1 _ rfl)
    have HFA := Lib.hid (show ∀ j, wA.frozen? ⟨pb, j, none⟩ = false from hfz)
    have HPI := Lib.hid hpi
    have HPG := Lib.hid hpg
    have HPW := Lib.hid (show ∀ b, b = pb → W0.heap.size ≤ b from fun b e => by rw [e]; exact hpw)
    have hcs : w4.heap.size ≤ wA.heap.size := hb.size
    have h4c : w4.heap.size ≤ w4.heap.size := HKP.out.size
    have hplt : pb < w4.heap.size := (Rep.acc_own HA4.out pb rfl).2
    obtain ⟨wB, hB⟩ : ∃ W, wA.setCell ⟨pb, j * 2 + 1, none⟩ (.slice Bd data.length dd) = W := ⟨_, rfl⟩
    have hacc3 := acc_cell (o := 1) (u := .slice Bd data.length dd) (x' := ⟨k, data⟩) hacc2 rfl HLJ.out (by decide) (fun es he => by
      obtain ⟨A8, c8, rfl, _, _⟩ := rPart_open he
      exact rPart_mk (x := ⟨k, data⟩) HWK.out (Rep.Sl.keep (fun b hb _ => ⟨⟨.inr (Nat.le_trans h4c hb), fun e => by have e2 : pb = b := Option.some.inj e; omega⟩, rfl⟩) hsl))
    rw [HSET.out] at hacc3
    have hacc4 : rPart.acc 135 z (fun b => cl b = some i ∨ w4.heap.size ≤ b) wB (.slice (some ⟨pb, 0, none⟩) x.parts.length cp) ps := by rw [← hB]; exact hacc3
    have HPV := Lib.hid (show rPart.list.val (fun b => cl b = some i ∨ w4.heap.size ≤ b) wB (.slice (some ⟨pb, 0, none⟩) x.parts.length cp) ps from Rep.val_mono (fun b hb _ => hb.elim (fun h => h) (fun e => HOWN.out b e)) (Rep.acc_val hacc4))
    have HKB := Lib.hid (show ∀ b, b < w4.heap.size → cl b ≠ some i → wB.heap[b]? = w4.heap[b]? from fun b hl hc => by
      have hne : b ≠ pb := fun e => by
        rcases hpi with h | h
        · rw [← e] at h; exact hc h
        · omega
      rw [← hB]
      exact (Below.heap_setCell _ _ _ _ hne).trans ((hb.block b (by omega)).trans (HKP.out.block b hl hc)))
    have HOB := Lib.hid (show Only (fun b => b = pb) wA wB by rw [← hB]; exact (Only.refl (fun b => b = pb) wA).put rfl)
    have S5 := Lib.hid (show Only (Box w 4) w4 wA from Only.of_below hb)
    have O5 := Lib.hid (O4.out.trans S5.out)
    have R0_5 := Lib.hid (row_call hb R0_4.out)
    have R1_5 := Lib.hid (row_call hb R1_4.out)
    have R2_5 := Lib.hid (row_call hb R2_4.out)
    have R3_5 := Lib.hid (row_call hb R3_4.out)
    have Vc_5 := Lib.hid (val_only Vc_4.out S5.out)
    have Vs_5 := Lib.hid (val_only Vs_4.out S5.out)
    clear hb hvd hacc2 hrd hcell hfz hpi hpg hpw hsl hcs h4c hplt hacc3 hacc4
    have qA0_0 := rw5 R0_5.out
    have qA1_0 := rw3 R1_5.out
    have qA2_0 := rw2 R2_5.out
    have qA3_0 := rw3 R3_5.out
    have cA := HCA.out
    have fA := HFA.out (j * 2 + 1)
    have O6 := Lib.hid (only_over O5.out HOB.out HPW.out)
    have R0_6 := Lib.hid (row_only HOB.out R0_5.out (fun e => by have := HPW.out _ e; have := HZ.out; omega))
    have R1_6 := Lib.hid (row_only HOB.out R1_5.out (fun e => by have := HPW.out _ e; have := HZ.out; omega))
    have R2_6 := Lib.hid (row_only HOB.out R2_5.out (fun e => by have := HPW.out _ e; have := HZ.out; omega))
    have R3_6 := Lib.hid (row_only HOB.out R3_5.out (fun e => by have := HPW.out _ e; have := HZ.out; omega))
    have qB0_0 := rw5 R0_6.out
    have qB1_0 := rw3 R1_6.out
    have qB2_0 := rw2 R2_6.out
    have qB3_0 := rw3 R3_6.out
    have HKG := Lib.hid (show wB.heap[gb]? = w4.heap[gb]? from HKB.out gb (cell_bound HK4.out) (by rw [HGC.out]; simp))
    have cB := cell_same HKG.out HK4.out
    have fB := frozen_same HKG.out (HF4.out (i * 3 + 2))
    obtain ⟨wC, hC⟩ : ∃ W, wB.setCell ⟨gb, i * 3 + 2, none⟩ (.slice (some ⟨pb, 0, none⟩) x.parts.length cp) = W := ⟨_, rfl⟩
    have HLC := Lib.hid (show StLoose W0.heap.size wC ⟨s.gens, s.free, s.ents.set i ⟨x.id, ps⟩⟩ (.slice A4 s.gens.length c4) (.slice A5 s.free.length c5) (.slice (some ⟨gb, 0, none⟩) s.ents.length c6) z by rw [← hC]; exact HM4.out.set HXI.out rfl HKB.out HPV.out)
    have HOC := Lib.hid (show Only (fun b => b = gb) wB wC by rw [← hC]; exact (Only.refl (fun b => b = gb) wB).put rfl)
    have HGW := Lib.hid (show ∀ b, b = gb → W0.heap.size ≤ b from fun b e => by rw [e]; exact HGB.out)
    have O7 := Lib.hid (only_over O6.out HOC.out HGW.out)
    have R0_7 := Lib.hid (row_only HOC.out R0_6.out (fun e => by have := HGW.out _ e; have := HZ.out; omega))
    have R1_7 := Lib.hid (row_only HOC.out R1_6.out (fun e => by have := HGW.out _ e; have := HZ.out; omega))
    have R2_7 := Lib.hid (row_only HOC.out R2_6.out (fun e => by have := HGW.out _ e; have := HZ.out; omega))
    have R3_7 := Lib.hid (row_only HOC.out R3_6.out (fun e => by have := HGW.out _ e; have := HZ.out; omega))
    have qC0_0 := rw5 R0_7.out
    have qC1_0 := rw3 R1_7.out
    have qC2_0 := rw2 R2_7.out
    have qC3_0 := rw3 R3_7.out
    go_wp2_with fail
    try rw [hB]
    try rw [hC]
    clear hB hC qA0_0 qA1_0 qA2_0 qA3_0 cA fA qB0_0 qB1_0 qB2_0 qB3_0 cB fB qC0_0 qC1_0 qC2_0 qC3_0
    refine nm_post (fun w9 hnm => ?_)
    have S8 := Lib.hid (show Only (Box w 4) wC w9 from (by rw [hnm]; exact (((Only.refl (Box w 4) wC).put ⟨by omega, by omega⟩).put ⟨by omega, by omega⟩).put ⟨by omega, by omega⟩))
    have O8 := Lib.hid (O7.out.trans S8.out)
    have R0_8 := Lib.hid (row_nm hnm (row_other (row_other (row_other (R0_7.out) (by omega)) (by omega)) (by omega)))
    have R1_8 := Lib.hid (row_nm hnm (row_other (row_other (row_other (R1_7.out) (by omega)) (by omega)) (by omega)))
    have R2_8 := Lib.hid (row_nm hnm (row_other (row_other (row_other (R2_7.out) (by omega)) (by omega)) (by omega)))
    have R3_8 := Lib.hid (show w9.heap[w.heap.size + 1 + 1 + 1]? = some (.cells #[.slice A4 s.gens.length c4, .slice A5 s.free.length c5, .slice (some ⟨gb, 0, none⟩) s.ents.length c6] 75 (0, 0)) from (by rw [hnm]; exact heap_setRow (heap_setRow (heap_setRow (R3_7.out)))))
    clear hnm
    have HL9 := Lib.hid (HLC.out.keep (fun b hb hl => S8.out.block b hl (by unfold Box; have := HZ.out; omega)))
    have q3_0 := cl3 R3_8.out
    refine ⟨rfl, .tuple #[.agg #[.slice A4 s.gens.length c4, .slice A5 s.free.length c5, .slice (some ⟨gb, 0, none⟩) s.ents.length c6], .int .i64 0], by simp only [results, hfr]; go_simp, ?_⟩
    clear q3_0
    rw [HE.out]
    exact ⟨_, rfl, (Rep.val_mono (fun b hb _ => by have := HZ.out; omega) HL9.out.val), Only.fin HB0.out O8.out⟩
  case none =>
    have HPT := Lib.hid (part_none hpt)
    obtain ⟨p, hpp⟩ : ∃ p, (x.parts.takeWhile (belowP k)).length = p := ⟨_, rfl⟩
    have HPP := Lib.hid hpp
    have hple : p ≤ x.parts.length := by rw [← hpp]; exact takeWhile_le (f := belowP k) x.parts
    obtain ⟨ls, hls⟩ : ∃ ls, x.parts.take p ++ (⟨k, []⟩ : DPart) :: x.parts.drop p = ls := ⟨_, rfl⟩
    have hpl : (x.parts.take p).length = p := by rw [List.length_take]; omega
    have HLJ := Lib.hid (show ls[p]? = some ⟨k, []⟩ by rw [← hls, List.getElem?_append_right (by omega), hpl, Nat.sub_self]; rfl)
    have HSET := Lib.hid (show ls.set p ⟨k, data⟩ = ps by rw [← hls, ← hps, put_new hpt, hpp, List.set_append_right _ _ (by omega), hpl, Nat.sub_self]; rfl)
    have HLS := Lib.hid hls
    have HPLE := Lib.hid hple
    have hjl : (p : Int) < (ls.length : Int) := by rw [← hls, List.length_append, List.length_cons, hpl]; omega
    clear hpt hpp hps hls hple hpl
    clear hz0 hb0
    have q0_0 := rw5 R0_0.out
    have q1_0 := rw3 R1_0.out
    have q2_0 := rw2 R2_0.out
    have q3_0 := rw3 R3_0.out
    go_enter Try.func182, Try.ntmps182
    go_wp2_with fail
    try rw [hW0]
    clear hW0
    try go_wp2_with fail
    clear q0_0 q1_0 q2_0 q3_0
    refine (mclone_calls Vs_0.out HOK.out.tiny).mono ?_
    rintro e w1 ⟨A4, c4, A5, c5, A6, c6, z, cl, raws, rfl, hb, hown, hzl⟩
    have S1 := Lib.hid (show Only (Box w 4) W0 w1 from Only.of_below hb)
    have O1 := Lib.hid (O0.out.trans S1.out)
    have R0_1 := Lib.hid (row_call hb R0_0.out)
    have R1_1 := Lib.hid (row_call hb R1_0.out)
    have R2_1 := Lib.hid (row_call hb R2_0.out)
    have R3_1 := Lib.hid (row_call hb R3_0.out)
    have Vc_1 := Lib.hid (val_only Vc_0.out S1.out)
    have Vs_1 := Lib.hid (val_only Vs_0.out S1.out)
    have HM1 := Lib.hid hown
    have HZL := Lib.hid hzl
    clear hb hown hzl
    have q0_0 := rw5 R0_1.out
    have q1_0 := rw3 R1_1.out
    have q2_0 := rw2 R2_1.out
    have q3_0 := rw3 R3_1.out
    go_wp2_with fail
    clear q0_0 q1_0 q2_0 q3_0
    refine nm_calls (fun w2 hnm => ?_)
    have S2 := Lib.hid (show Only (Box w 4) w1 w2 from (by rw [hnm]; exact (((Only.refl (Box w 4) w1).put ⟨by omega, by omega⟩).put ⟨by omega, by omega⟩).put ⟨by omega, by omega⟩))
    have O2 := Lib.hid (O1.out.trans S2.out)
    have R0_2 := Lib.hid (row_nm hnm (row_other (row_other (row_other (R0_1.out) (by omega)) (by omega)) (by omega)))
    have R1_2 := Lib.hid (show w2.heap[w.heap.size + 1]? = some (.cells #[.slice A4 s.gens.length c4, .slice A5 s.free.length c5, .slice A6 s.ents.length c6] 75 (0, 0)) from (by rw [hnm]; exact heap_setRow (heap_setRow (heap_setRow (R1_1.out)))))
    have R2_2 := Lib.hid (row_nm hnm (row_other (row_other (row_other (R2_1.out) (by omega)) (by omega)) (by omega)))
    have R3_2 := Lib.hid (row_nm hnm (row_other (row_other (row_other (R3_1.out) (by omega)) (by omega)) (by omega)))
    have Vc_2 := Lib.hid (val_only Vc_1.out S2.out)
    have Vs_2 := Lib.hid (val_only Vs_1.out S2.out)
    clear hnm
    have HM2 := Lib.hid (HM1.out.keep (fun b hb hl => S2.out.block b hl (by unfold Box; have := HZ.out; omega)))
    have HZ2 := Lib.hid (Nat.le_trans HZL.out S2.out.size)
    refine (mnamed_calls (k := k) (id := id) Vc_2.out (Rep.val_mono (fun b hb _ => .inr (by have := HZ.out; omega)) HM2.out.mid.loose.val) HOK.out.up).mono ?_
    rintro e w3 ⟨rfl, hb⟩
    rw [HN.out]
    dsimp only
    have S3 := Lib.hid (show Only (Box w 4) w2 w3 from Only.of_below hb)
    have O3 := Lib.hid (O2.out.trans S3.out)
    have R0_3 := Lib.hid (row_call hb R0_2.out)
    have R1_3 := Lib.hid (row_call hb R1_2.out)
    have R2_3 := Lib.hid (row_call hb R2_2.out)
    have R3_3 := Lib.hid (row_call hb R3_2.out)
    have Vc_3 := Lib.hid (val_only Vc_2.out S3.out)
    have Vs_3 := Lib.hid (val_only Vs_2.out S3.out)
    clear hb
    have HM3 := Lib.hid (HM2.out.keep (fun b hb hl => S3.out.block b hl (by unfold Box; have := HZ.out; omega)))
    have HZ3 := Lib.hid (Nat.le_trans HZ2.out S3.out.size)
    obtain ⟨gb, Ap, cp, hA, hgb, hgc, hgv, hgf, hpo⟩ := own_part HM3.out HXI.out
    subst hA
    have HGB := Lib.hid hgb
    have HGC := Lib.hid hgc
    have HPO3 := Lib.hid hpo
    have HK3 := Lib.hid hgv
    have HF3 := Lib.hid hgf
    clear hgb hgc hgf hpo
    have q0_0 := rw5 R0_3.out
    have q1_0 := rw3 R1_3.out
    have q2_0 := rw2 R2_3.out
    have q3_0 := rw3 R3_3.out
    go_wp2_with fail
    clear hgv
    clear q0_0 q1_0 q2_0 q3_0
    refine (mpart_calls (k := k) HPO3.out.val).mono ?_
    rintro e w4 ⟨rfl, hb⟩
    rw [HPP.out, HPT.out]
    have HK4 := Lib.hid (cell_call hb HK3.out)
    have HF4 := Lib.hid (show ∀ j, w4.frozen? ⟨gb, j, none⟩ = false from fun j => frozen_same (hb.block gb (cell_bound HK3.out)) (HF3.out j))
    have HPO4 := Lib.hid (HPO3.out.keep (W' := w4) (fun _ _ h => h) (fun b hb2 _ => hb.block b hb2))
    have S4 := Lib.hid (show Only (Box w 4) w3 w4 from Only.of_below hb)
    have O4 := Lib.hid (O3.out.trans S4.out)
    have R0_4 := Lib.hid (row_call hb R0_3.out)
    have R1_4 := Lib.hid (row_call hb R1_3.out)
    have R2_4 := Lib.hid (row_call hb R2_3.out)
    have R3_4 := Lib.hid (row_call hb R3_3.out)
    have Vc_4 := Lib.hid (val_only Vc_3.out S4.out)
    have Vs_4 := Lib.hid (val_only Vs_3.out S4.out)
    clear hb
    have HM4 := Lib.hid (HM3.out.keep (fun b hb hl => S4.out.block b hl (by unfold Box; have := HZ.out; omega)))
    have HZ4 := Lib.hid (Nat.le_trans HZ3.out S4.out.size)
    have q0_0 := rw5 R0_4.out
    have q1_0 := rw3 R1_4.out
    have q2_0 := rw2 R2_4.out
    have q3_0 := rw3 R3_4.out
    go_wp2_with fail
    have HNE := Lib.hid (show (.slice Ap x.parts.length cp : Value).ownBlock ≠ some w4.heap.size from fun e => by have := (HPO4.out.low _ e).2; omega)
    clear q0_0 q1_0 q2_0 q3_0
    refine nm_calls (fun w5 hnm => ?_)
    have HF2 := Lib.hid (show w.heap.size + 4 ≤ w4.heap.size by have := O4.out.size; have := HZ.out; omega)
    have S5 := Lib.hid (show Only (Box w 4) w4 w5 from (by rw [hnm]; exact (Only.refl (Box w 4) w4).alloc _))
    have O5 := Lib.hid (O4.out.trans S5.out)
    have R0_5 := Lib.hid (row_nm hnm (alloc_old (R0_4.out)))
    have R1_5 := Lib.hid (row_nm hnm (alloc_old (R1_4.out)))
    have R2_5 := Lib.hid (row_nm hnm (alloc_old (R2_4.out)))
    have R3_5 := Lib.hid (row_nm hnm (alloc_old (R3_4.out)))
    have Rw4_heap_size_5 := Lib.hid (show w5.heap[w4.heap.size]? = some (.cells #[.int .i64 k, .slice none 0 0] 135 (0, 0)) from (by rw [hnm]; exact alloc_at rfl))
    have Vc_5 := Lib.hid (val_only Vc_4.out S5.out)
    have Vs_5 := Lib.hid (val_only Vs_4.out S5.out)
    have HB5 := Lib.hid (show Below w4.heap.size w4 w5 by rw [hnm]; exact (Below.refl _ _).alloc (Nat.le_refl _) _)
    clear hnm
    have HM5 := Lib.hid (HM4.out.keep (fun b hb hl => S5.out.block b hl (by unfold Box; have := HZ.out; omega)))
    have HZ5 := Lib.hid (Nat.le_trans HZ4.out S5.out.size)
    have HPO5 := Lib.hid (HPO4.out.keep (W' := w5) (fun _ _ h => h) (fun b hl _ => HB5.out.block b hl))
    refine (insPart_calls (x := ⟨k, []⟩) HPO5.out.acc HPLE.out Rw4_heap_size_5.out HNE.out (fun Q w => rPart_mk (x := ⟨k, []⟩) HWK.out ⟨Nat.le_refl _, by simp [maxLen], [], rfl, fun h => absurd h (by simp)⟩) HPK.out HZ5.out).mono ?_
    rintro e w6 ⟨v', rfl, hwb, hacc, ho⟩
    rw [HLS.out] at hacc
    obtain ⟨A7, c7, rfl, _, _⟩ := Rep.acc_form hacc
    have HA6 := Lib.hid hacc
    have HO6 := Lib.hid ho
    have HKP := Lib.hid (show KeptBut cl i w4 w6 from ⟨Nat.le_trans HB5.out.size ho.size, fun b hl hc => (ho.block b (Nat.lt_of_lt_of_le hl HB5.out.size) (fun e => hc (HPO5.out.own b e))).trans (HB5.out.block b hl)⟩)
    have HOWN := Lib.hid (show ∀ b, (Value.slice A7 ls.length c7).ownBlock = some b → cl b = some i ∨ w4.heap.size ≤ b from fun b e => by
      rcases hwb with h | h
      · exact .inl (HPO5.out.own b (h ▸ e))
      · rw [h] at e; exact .inr (by have := HB5.out.size; have := Option.some.inj e; omega))
    have HVP := Lib.hid (show ∀ b, (.slice Ap x.parts.length cp : Value).ownBlock = some b → W0.heap.size ≤ b from fun b e => Nat.le_trans HM4.out.low (HPO4.out.low b e).1)
    clear hwb hacc ho
    have O6 := Lib.hid (only_over O5.out HO6.out HVP.out)
    have R0_6 := Lib.hid (row_only HO6.out R0_5.out (fun e => by have := HVP.out _ e; have := HZ.out; omega))
    have R1_6 := Lib.hid (row_only HO6.out R1_5.out (fun e => by have := HVP.out _ e; have := HZ.out; omega))
    have R2_6 := Lib.hid (row_only HO6.out R2_5.out (fun e => by have := HVP.out _ e; have := HZ.out; omega))
    have R3_6 := Lib.hid (row_only HO6.out R3_5.out (fun e => by have := HVP.out _ e; have := HZ.out; omega))
    have q0_0 := rw5 R0_6.out
    have q1_0 := rw3 R1_6.out
    have q2_0 := rw2 R2_6.out
    have q3_0 := rw3 R3_6.out
    go_wp2_with fail
    clear q0_0 q1_0 q2_0 q3_0
    have HDC := Lib.hid (show Rep.byte.list.val (Lo Q w) w6 (.slice Ad data.length cd) data from Rep.val_keep (fun b hb hl => ⟨hb, O6.out.block b (by have := hb.2; have := HZ.out; omega) (fun h => by have := hb.2; have := h.1; omega)⟩) HDLO.out)
    refine (bytesClone HDC.out (by have := HDL.out; omega)).mono ?_
    rintro e wA ⟨vd, rfl, hvd, hb⟩
    obtain ⟨Bd, dd, rfl, _, _, _⟩ := Rep.val_list hvd
    have hacc2 : rPart.acc 135 z (fun b => cl b = some i ∨ w4.heap.size ≤ b) wA (.slice A7 ls.length c7) ls := Rep.acc_keep (fun _ _ _ => rfl) (fun _ h _ => .inl h) (Rep.acc_later HA6.out hb)
    obtain ⟨pb, _, es, he, hlow, hlt, _, _, hrd, hcell, hfz⟩ := acc_get hacc2 HLJ.out
    have hA : A7 = some ⟨pb, 0, none⟩ := by injection he
    subst hA
    obtain ⟨Ay, cy, rfl, _, _⟩ := rPart_open hrd
    have hpi : cl pb = some i ∨ w4.heap.size ≤ pb := HOWN.out pb rfl
    have hpg : pb ≠ gb := fun e => by
      have := cell_bound HK4.out
      rcases hpi with h | h
      · rw [e, HGC.out] at h; cases h
      · omega
    have hpw : W0.heap.size ≤ pb := Nat.le_trans HM4.out.low hlow
    have hsl := sl_of hvd
    have HCA := Lib.hid (show wA.cell? ⟨pb, p * 2 + 1, none⟩ = _ from hcell 1 _ rfl)
    have HFA := Lib.hid (show ∀ j, wA.frozen? ⟨pb, j, none⟩ = false from hfz)
    have HPI := Lib.hid hpi
    have HPG := Lib.hid hpg
    have HPW := Lib.hid (show ∀ b, b = pb → W0.heap.size ≤ b from fun b e => by rw [e]; exact hpw)
    have hcs : w6.heap.size ≤ wA.heap.size := hb.size
    have h4c : w4.heap.size ≤ w6.heap.size := HKP.out.size
    have hplt : pb < w6.heap.size := (Rep.acc_own HA6.out pb rfl).2
    obtain ⟨wB, hB⟩ : ∃ W, wA.setCell ⟨pb, p * 2 + 1, none⟩ (.slice Bd data.length dd) = W := ⟨_, rfl⟩
    have hacc3 := acc_cell (o := 1) (u := .slice Bd data.length dd) (x' := ⟨k, data⟩) hacc2 rfl HLJ.out (by decide) (fun es he => by
      obtain ⟨A8, c8, rfl, _, _⟩ := rPart_open he
      exact rPart_mk (x := ⟨k, data⟩) HWK.out (Rep.Sl.keep (fun b hb _ => ⟨⟨.inr (Nat.le_trans h4c hb), fun e => by have e2 : pb = b := Option.some.inj e; omega⟩, rfl⟩) hsl))
    rw [HSET.out] at hacc3
    have hacc4 : rPart.acc 135 z (fun b => cl b = some i ∨ w4.heap.size ≤ b) wB (.slice (some ⟨pb, 0, none⟩) ls.length c7) ps := by rw [← hB]; exact hacc3
    have HPV := Lib.hid (show rPart.list.val (fun b => cl b = some i ∨ w4.heap.size ≤ b) wB (.slice (some ⟨pb, 0, none⟩) ls.length c7) ps from Rep.val_mono (fun b hb _ => hb.elim (fun h => h) (fun e => HOWN.out b e)) (Rep.acc_val hacc4))
    have HKB := Lib.hid (show ∀ b, b < w4.heap.size → cl b ≠ some i → wB.heap[b]? = w4.heap[b]? from fun b hl hc => by
      have hne : b ≠ pb := fun e => by
        rcases hpi with h | h
        · rw [← e] at h; exact hc h
        · omega
      rw [← hB]
      exact (Below.heap_setCell _ _ _ _ hne).trans ((hb.block b (by omega)).trans (HKP.out.block b hl hc)))
    have HOB := Lib.hid (show Only (fun b => b = pb) wA wB by rw [← hB]; exact (Only.refl (fun b => b = pb) wA).put rfl)
    have S7 := Lib.hid (show Only (Box w 4) w6 wA from Only.of_below hb)
    have O7 := Lib.hid (O6.out.trans S7.out)
    have R0_7 := Lib.hid (row_call hb R0_6.out)
    have R1_7 := Lib.hid (row_call hb R1_6.out)
    have R2_7 := Lib.hid (row_call hb R2_6.out)
    have R3_7 := Lib.hid (row_call hb R3_6.out)
    clear hb hvd hacc2 hrd hcell hfz hpi hpg hpw hsl hcs h4c hplt hacc3 hacc4
    have qA0_0 := rw5 R0_7.out
    have qA1_0 := rw3 R1_7.out
    have qA2_0 := rw2 R2_7.out
    have qA3_0 := rw3 R3_7.out
    have cA := HCA.out
    have fA := HFA.out (p * 2 + 1)
    have O8 := Lib.hid (only_over O7.out HOB.out HPW.out)
    have R0_8 := Lib.hid (row_only HOB.out R0_7.out (fun e => by have := HPW.out _ e; have := HZ.out; omega))
    have R1_8 := Lib.hid (row_only HOB.out R1_7.out (fun e => by have := HPW.out _ e; have := HZ.out; omega))
    have R2_8 := Lib.hid (row_only HOB.out R2_7.out (fun e => by have := HPW.out _ e; have := HZ.out; omega))
    have R3_8 := Lib.hid (row_only HOB.out R3_7.out (fun e => by have := HPW.out _ e; have := HZ.out; omega))
    have qB0_0 := rw5 R0_8.out
    have qB1_0 := rw3 R1_8.out
    have qB2_0 := rw2 R2_8.out
    have qB3_0 := rw3 R3_8.out
    have HKG := Lib.hid (show wB.heap[gb]? = w4.heap[gb]? from HKB.out gb (cell_bound HK4.out) (by rw [HGC.out]; simp))
    have cB := cell_same HKG.out HK4.out
    have fB := frozen_same HKG.out (HF4.out (i * 3 + 2))
    obtain ⟨wC, hC⟩ : ∃ W, wB.setCell ⟨gb, i * 3 + 2, none⟩ (.slice (some ⟨pb, 0, none⟩) ls.length c7) = W := ⟨_, rfl⟩
    have HLC := Lib.hid (show StLoose W0.heap.size wC ⟨s.gens, s.free, s.ents.set i ⟨x.id, ps⟩⟩ (.slice A4 s.gens.length c4) (.slice A5 s.free.length c5) (.slice (some ⟨gb, 0, none⟩) s.ents.length c6) z by rw [← hC]; exact HM4.out.set HXI.out rfl HKB.out HPV.out)
    have HOC := Lib.hid (show Only (fun b => b = gb) wB wC by rw [← hC]; exact (Only.refl (fun b => b = gb) wB).put rfl)
    have HGW := Lib.hid (show ∀ b, b = gb → W0.heap.size ≤ b from fun b e => by rw [e]; exact HGB.out)
    have O9 := Lib.hid (only_over O8.out HOC.out HGW.out)
    have R0_9 := Lib.hid (row_only HOC.out R0_8.out (fun e => by have := HGW.out _ e; have := HZ.out; omega))
    have R1_9 := Lib.hid (row_only HOC.out R1_8.out (fun e => by have := HGW.out _ e; have := HZ.out; omega))
    have R2_9 := Lib.hid (row_only HOC.out R2_8.out (fun e => by have := HGW.out _ e; have := HZ.out; omega))
    have R3_9 := Lib.hid (row_only HOC.out R3_8.out (fun e => by have := HGW.out _ e; have := HZ.out; omega))
    have qC0_0 := rw5 R0_9.out
    have qC1_0 := rw3 R1_9.out
    have qC2_0 := rw2 R2_9.out
    have qC3_0 := rw3 R3_9.out
    go_wp2_with fail
    try rw [hB]
    try rw [hC]
    clear hB hC qA0_0 qA1_0 qA2_0 qA3_0 cA fA qB0_0 qB1_0 qB2_0 qB3_0 cB fB qC0_0 qC1_0 qC2_0 qC3_0
    refine nm_post (fun w9 hnm => ?_)
    have S10 := Lib.hid (show Only (Box w 4) wC w9 from (by rw [hnm]; exact (((Only.refl (Box w 4) wC).put ⟨by omega, by omega⟩).put ⟨by omega, by omega⟩).put ⟨by omega, by omega⟩))
    have O10 := Lib.hid (O9.out.trans S10.out)
    have R0_10 := Lib.hid (row_nm hnm (row_other (row_other (row_other (R0_9.out) (by omega)) (by omega)) (by omega)))
    have R1_10 := Lib.hid (row_nm hnm (row_other (row_other (row_other (R1_9.out) (by omega)) (by omega)) (by omega)))
    have R2_10 := Lib.hid (row_nm hnm (row_other (row_other (row_other (R2_9.out) (by omega)) (by omega)) (by omega)))
    have R3_10 := Lib.hid (show w9.heap[w.heap.size + 1 + 1 + 1]? = some (.cells #[.slice A4 s.gens.length c4, .slice A5 s.free.length c5, .slice (some ⟨gb, 0, none⟩) s.ents.length c6] 75 (0, 0)) from (by rw [hnm]; exact heap_setRow (heap_setRow (heap_setRow (R3_9.out)))))
    clear hnm
    have HL9 := Lib.hid (HLC.out.keep (fun b hb hl => S10.out.block b hl (by unfold Box; have := HZ.out; omega)))
    have q3_0 := cl3 R3_10.out
    refine ⟨rfl, .tuple #[.agg #[.slice A4 s.gens.length c4, .slice A5 s.free.length c5, .slice (some ⟨gb, 0, none⟩) s.ents.length c6], .int .i64 0], by simp only [results, hfr]; go_simp, ?_⟩
    clear q3_0
    rw [HE.out]
    exact ⟨_, rfl, (Rep.val_mono (fun b hb _ => by have := HZ.out; omega) HL9.out.val), Only.fin HB0.out O10.out⟩
end Go.Proofs.Yteljibjbndpncaa
