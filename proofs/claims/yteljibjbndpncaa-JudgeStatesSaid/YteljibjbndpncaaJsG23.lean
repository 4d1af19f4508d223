/- Texts on which the proofs stand: RGo11, FindMath, RFind15. No condition is laid on any input. -/
import Derived.Test.YteljibjbndpncaaJsG21
import Derived.Test.YteljibjbndpncaaJsG22
namespace Go.Proofs.Yteljibjbndpncaa
open Go.RowKit

def Go11Post (Q : Nat → Prop) (w : World) (r : DState × DResult) (e : Ending) (w' : World) : Prop :=
  ∃ z, e = .returned (.tuple #[z, .agg #[.int .i64 r.2.id.index, .int .i64 r.2.id.gen], .slice none 0 0, .int .i64 r.2.err]) ∧ rState.val (fun b => Q b ∨ w.heap.size ≤ b) w' z r.1 ∧ Below w.heap.size w w'

set_option maxRecDepth 100000 in
set_option maxHeartbeats 4000000 in
/-- r11.Go -/
theorem rgo11_calls {Q : Nat → Prop} {w : World} {vc v vd : Value} {c : DConf} {s : DState} {kind : Int} {id : DID} {k : Int} {data : List UInt8} (hc : rConf.val Q w vc c) (hx : rState.val Q w v s) (hd : Rep.byte.list.val Q w vd data) (hkw : (Lit.int .i64 k).wf = true) (hok : StOk c s) (hk : 0 ≤ kind ∧ kind ≤ 3) :
    Calls Try.prog 125 #[vc, v, .agg #[.int .i64 kind, .int .i64 id.index, .int .i64 id.gen, .int .i64 k, vd]] w (Go11Post Q w (goS c s kind id k data)) := by
  have HC := Lib.hid hc
  have HX := Lib.hid hx
  have HOK := Lib.hid hok
  obtain ⟨A, cap, rfl, _⟩ := rConf_val hc
  obtain ⟨A1, c1, A2, c2, A3, c3, rfl, _⟩ := rState_val hx
  obtain ⟨A5, c5, rfl, _, _, _⟩ := Rep.val_list hd
  have HD := Lib.hid hd
  have HKW := Lib.hid hkw
  have hfr : Try.f125.results = #[.cell 6 75, .cell 7 114, .tmp 8, .tmp 9] := rfl
  clear hc hx hd hkw hok
  obtain ⟨W0, hW0⟩ : ∃ W, (((((w.alloc (.cells #[.int .i64 c.log, .int .i64 c.pages, .int .i64 c.entities, .int .i64 c.gens, .slice A c.comps.length cap] 49)).alloc (.cells #[.slice A1 s.gens.length c1, .slice A2 s.free.length c2, .slice A3 s.ents.length c3] 75)).alloc (.cells #[.int .i64 kind, .int .i64 id.index, .int .i64 id.gen, .int .i64 k, .slice A5 data.length c5] 204)).alloc (.cells #[.slice none 0 0, .slice none 0 0, .slice none 0 0] 75)).alloc (.cells #[.int .i64 0, .int .i64 0] 114)) = W := ⟨_, rfl⟩
  have hz0 : W0.heap.size = w.heap.size + 5 := by rw [← hW0]; simp
  have hb0 : Below w.heap.size w W0 := by rw [← hW0]; exact (((((Below.refl _ _).alloc (Nat.le_refl _) _).alloc (by first | (simp; done) | (simp; omega)) _).alloc (by first | (simp; done) | (simp; omega)) _).alloc (by first | (simp; done) | (simp; omega)) _).alloc (by first | (simp; done) | (simp; omega)) _
  have HZ := Lib.hid hz0
  have HB0 := Lib.hid hb0
  have R0_0 := Lib.hid (show W0.heap[w.heap.size]? = some (.cells #[.int .i64 c.log, .int .i64 c.pages, .int .i64 c.entities, .int .i64 c.gens, .slice A c.comps.length cap] 49 (0, 0)) by rw [← hW0]; exact alloc_old (alloc_old (alloc_old (alloc_old (alloc_at rfl)))))
  have R1_0 := Lib.hid (show W0.heap[w.heap.size + 1]? = some (.cells #[.slice A1 s.gens.length c1, .slice A2 s.free.length c2, .slice A3 s.ents.length c3] 75 (0, 0)) by rw [← hW0]; exact alloc_old (alloc_old (alloc_old (alloc_at (by simp)))))
  have R2_0 := Lib.hid (show W0.heap[w.heap.size + 1 + 1]? = some (.cells #[.int .i64 kind, .int .i64 id.index, .int .i64 id.gen, .int .i64 k, .slice A5 data.length c5] 204 (0, 0)) by rw [← hW0]; exact alloc_old (alloc_old (alloc_at (by simp))))
  have R3_0 := Lib.hid (show W0.heap[w.heap.size + 1 + 1 + 1]? = some (.cells #[.slice none 0 0, .slice none 0 0, .slice none 0 0] 75 (0, 0)) by rw [← hW0]; exact alloc_old (alloc_at (by simp)))
  have R4_0 := Lib.hid (show W0.heap[w.heap.size + 1 + 1 + 1 + 1]? = some (.cells #[.int .i64 0, .int .i64 0] 114 (0, 0)) by rw [← hW0]; exact alloc_at (by simp))
  have O0 := Lib.hid (Only.refl (Box w 5) W0)
  have Vc_0 := Lib.hid (show rConf.val (In Q w 5) W0 (.agg #[.int .i64 c.log, .int .i64 c.pages, .int .i64 c.entities, .int .i64 c.gens, .slice A c.comps.length cap]) c from val_in HC.out hb0)
  have Vs_0 := Lib.hid (show rState.val (In Q w 5) W0 (.agg #[.slice A1 s.gens.length c1, .slice A2 s.free.length c2, .slice A3 s.ents.length c3]) s from val_in HX.out hb0)
  have Vd_0 := Lib.hid (show Rep.byte.list.val (In Q w 5) W0 (.slice A5 data.length c5) data from val_in HD.out hb0)
  have hcase : kind = 1 ∨ kind = 2 ∨ kind = 3 ∨ kind = 0 := by omega
  clear hk
  rcases hcase with hk | hk | hk | hk
  · skip
    have HE := Lib.hid (show goS c s kind id k data = ((despawnS c s id).1, ⟨(despawnS c s id).2, noID⟩) by rw [hk]; rfl)
    have hq1 : (kind == 1) = true := by simp [hk]
    have hq2 : (kind == 2) = false := by simp [hk]
    have hq3 : (kind == 3) = false := by simp [hk]
    have hq4 : (kind == 4) = false := by simp [hk]
    clear hk
    clear hz0 hb0
    have q0_0 := rw5 R0_0.out
    have q1_0 := rw3 R1_0.out
    have q2_0 := rw5 R2_0.out
    have q3_0 := rw3 R3_0.out
    have q4_0 := rw2 R4_0.out
    go_enter Try.func125, Try.ntmps125
    go_wp2_with fail
    try rw [hW0]
    clear hW0
    try go_wp2_with fail
    obtain ⟨r, hr⟩ : ∃ r, (despawnS c s id) = r := ⟨_, rfl⟩
    rw [hr] at HE
    have HR := Lib.hid hr
    clear hr
    clear q0_0 q1_0 q2_0 q3_0 q4_0
    refine (rdespawn_calls (id := id) Vc_0.out Vs_0.out HOK.out).mono ?_
    rintro e w1 ⟨z, rfl, hz, hb⟩
    rw [HR.out] at hz ⊢
    obtain ⟨D1, e1, D2, e2, D3, e3, rfl, _⟩ := rState_val hz
    have S1 := Lib.hid (show Only (Box w 5) W0 w1 from Only.of_below hb)
    have O1 := Lib.hid (O0.out.trans S1.out)
    have R0_1 := Lib.hid (row_call hb R0_0.out)
    have R1_1 := Lib.hid (row_call hb R1_0.out)
    have R2_1 := Lib.hid (row_call hb R2_0.out)
    have R3_1 := Lib.hid (row_call hb R3_0.out)
    have R4_1 := Lib.hid (row_call hb R4_0.out)
    have Vc_1 := Lib.hid (val_only Vc_0.out S1.out)
    have Vs_1 := Lib.hid (val_only Vs_0.out S1.out)
    have Vd_1 := Lib.hid (val_only Vd_0.out S1.out)
    have Vz_1 := Lib.hid (val_new (w := w) (n := 5) hz (by have := O0.out.size; have := HZ.out; omega))
    clear hb hz
    have HF1 := Lib.hid (show w.heap.size + 5 ≤ w1.heap.size by have := O1.out.size; have := HZ.out; omega)
    obtain ⟨w2, hn1⟩ : ∃ W, (w1.alloc (.cells #[.slice D1 r.1.gens.length e1, .slice D2 r.1.free.length e2, .slice D3 r.1.ents.length e3] 75)) = W := ⟨_, rfl⟩
    have S2 := Lib.hid (show Only (Box w 5) w1 w2 from (by rw [← hn1]; exact (Only.refl (Box w 5) w1).alloc _))
    have O2 := Lib.hid (O1.out.trans S2.out)
    have R0_2 := Lib.hid (row_nm hn1.symm (alloc_old (R0_1.out)))
    have R1_2 := Lib.hid (row_nm hn1.symm (alloc_old (R1_1.out)))
    have R2_2 := Lib.hid (row_nm hn1.symm (alloc_old (R2_1.out)))
    have R3_2 := Lib.hid (row_nm hn1.symm (alloc_old (R3_1.out)))
    have R4_2 := Lib.hid (row_nm hn1.symm (alloc_old (R4_1.out)))
    have Rw1_heap_size_2 := Lib.hid (show w2.heap[w1.heap.size]? = some (.cells #[.slice D1 r.1.gens.length e1, .slice D2 r.1.free.length e2, .slice D3 r.1.ents.length e3] 75 (0, 0)) from (by rw [← hn1]; exact alloc_at rfl))
    have Vc_2 := Lib.hid (val_only Vc_1.out S2.out)
    have Vs_2 := Lib.hid (val_only Vs_1.out S2.out)
    have Vd_2 := Lib.hid (val_only Vd_1.out S2.out)
    have Vz_2 := Lib.hid (val_only Vz_1.out S2.out)
    have y0_0 := rw5 R0_2.out
    have y1_0 := rw3 R1_2.out
    have y2_0 := rw5 R2_2.out
    have y3_0 := rw3 R3_2.out
    have y4_0 := rw2 R4_2.out
    have yn0_0 := rw3 Rw1_heap_size_2.out
    go_wp2_with fail
    try rw [hn1]
    clear hn1
    clear y0_0 y1_0 y2_0 y3_0 y4_0 yn0_0
    refine nm_post (fun w3 hnm => ?_)
    have S3 := Lib.hid (show Only (Box w 5) w2 w3 from (by rw [hnm]; exact (((((Only.refl (Box w 5) w2).put ⟨by omega, by omega⟩).put ⟨by omega, by omega⟩).put ⟨by omega, by omega⟩).put ⟨by omega, by omega⟩).put ⟨by omega, by omega⟩))
    have O3 := Lib.hid (O2.out.trans S3.out)
    have R0_3 := Lib.hid (row_nm hnm (row_other (row_other (row_other (row_other (row_other (R0_2.out) (by omega)) (by omega)) (by omega)) (by omega)) (by omega)))
    have R1_3 := Lib.hid (row_nm hnm (row_other (row_other (row_other (row_other (row_other (R1_2.out) (by omega)) (by omega)) (by omega)) (by omega)) (by omega)))
    have R2_3 := Lib.hid (row_nm hnm (row_other (row_other (row_other (row_other (row_other (R2_2.out) (by omega)) (by omega)) (by omega)) (by omega)) (by omega)))
    have R3_3 := Lib.hid (show w3.heap[w.heap.size + 1 + 1 + 1]? = some (.cells #[.slice D1 r.1.gens.length e1, .slice D2 r.1.free.length e2, .slice D3 r.1.ents.length e3] 75 (0, 0)) from (by rw [hnm]; exact row_other (row_other (heap_setRow (heap_setRow (heap_setRow (R3_2.out)))) (by omega)) (by omega)))
    have R4_3 := Lib.hid (show w3.heap[w.heap.size + 1 + 1 + 1 + 1]? = some (.cells #[.int .i64 0, .int .i64 0] 114 (0, 0)) from (by rw [hnm]; exact heap_setRow (heap_setRow (row_other (row_other (row_other (R4_2.out) (by omega)) (by omega)) (by omega)))))
    have Rw1_heap_size_3 := Lib.hid (row_nm hnm (row_other (row_other (row_other (row_other (row_other (Rw1_heap_size_2.out) (by have := HF1.out; omega)) (by have := HF1.out; omega)) (by have := HF1.out; omega)) (by have := HF1.out; omega)) (by have := HF1.out; omega)))
    have Vc_3 := Lib.hid (val_only Vc_2.out S3.out)
    have Vs_3 := Lib.hid (val_only Vs_2.out S3.out)
    have Vd_3 := Lib.hid (val_only Vd_2.out S3.out)
    have Vz_3 := Lib.hid (val_only Vz_2.out S3.out)
    clear hnm
    have q3_0 := cl3 R3_3.out
    have q4_0 := cl2 R4_3.out
    refine ⟨rfl, .tuple #[.agg #[.slice D1 r.1.gens.length e1, .slice D2 r.1.free.length e2, .slice D3 r.1.ents.length e3], .agg #[.int .i64 0, .int .i64 0], .slice none 0 0, .int .i64 r.2], by simp only [results, hfr]; go_simp, ?_⟩
    clear q3_0 q4_0
    rw [HE.out]
    exact ⟨_, rfl, val_out Vz_3.out, Only.fin HB0.out O3.out⟩
  · skip
    have HE := Lib.hid (show goS c s kind id k data = ((setS c s id k data).1, ⟨(setS c s id k data).2, noID⟩) by rw [hk]; rfl)
    have hq1 : (kind == 1) = false := by simp [hk]
    have hq2 : (kind == 2) = true := by simp [hk]
    have hq3 : (kind == 3) = false := by simp [hk]
    have hq4 : (kind == 4) = false := by simp [hk]
    clear hk
    clear hz0 hb0
    have q0_0 := rw5 R0_0.out
    have q1_0 := rw3 R1_0.out
    have q2_0 := rw5 R2_0.out
    have q3_0 := rw3 R3_0.out
    have q4_0 := rw2 R4_0.out
    go_enter Try.func125, Try.ntmps125
    go_wp2_with fail
    try rw [hW0]
    clear hW0
    try go_wp2_with fail
    obtain ⟨r, hr⟩ : ∃ r, (setS c s id k data) = r := ⟨_, rfl⟩
    rw [hr] at HE
    have HR := Lib.hid hr
    clear hr
    clear q0_0 q1_0 q2_0 q3_0 q4_0
    refine (rset_calls (id := id) Vc_0.out Vs_0.out Vd_0.out HKW.out HOK.out).mono ?_
    rintro e w1 ⟨z, rfl, hz, hb⟩
    rw [HR.out] at hz ⊢
    obtain ⟨D1, e1, D2, e2, D3, e3, rfl, _⟩ := rState_val hz
    have S1 := Lib.hid (show Only (Box w 5) W0 w1 from Only.of_below hb)
    have O1 := Lib.hid (O0.out.trans S1.out)
    have R0_1 := Lib.hid (row_call hb R0_0.out)
    have R1_1 := Lib.hid (row_call hb R1_0.out)
    have R2_1 := Lib.hid (row_call hb R2_0.out)
    have R3_1 := Lib.hid (row_call hb R3_0.out)
    have R4_1 := Lib.hid (row_call hb R4_0.out)
    have Vc_1 := Lib.hid (val_only Vc_0.out S1.out)
    have Vs_1 := Lib.hid (val_only Vs_0.out S1.out)
    have Vd_1 := Lib.hid (val_only Vd_0.out S1.out)
    have Vz_1 := Lib.hid (val_new (w := w) (n := 5) hz (by have := O0.out.size; have := HZ.out; omega))
    clear hb hz
    have HF1 := Lib.hid (show w.heap.size + 5 ≤ w1.heap.size by have := O1.out.size; have := HZ.out; omega)
    obtain ⟨w2, hn1⟩ : ∃ W, (w1.alloc (.cells #[.slice D1 r.1.gens.length e1, .slice D2 r.1.free.length e2, .slice D3 r.1.ents.length e3] 75)) = W := ⟨_, rfl⟩
    have S2 := Lib.hid (show Only (Box w 5) w1 w2 from (by rw [← hn1]; exact (Only.refl (Box w 5) w1).alloc _))
    have O2 := Lib.hid (O1.out.trans S2.out)
    have R0_2 := Lib.hid (row_nm hn1.symm (alloc_old (R0_1.out)))
    have R1_2 := Lib.hid (row_nm hn1.symm (alloc_old (R1_1.out)))
    have R2_2 := Lib.hid (row_nm hn1.symm (alloc_old (R2_1.out)))
    have R3_2 := Lib.hid (row_nm hn1.symm (alloc_old (R3_1.out)))
    have R4_2 := Lib.hid (row_nm hn1.symm (alloc_old (R4_1.out)))
    have Rw1_heap_size_2 := Lib.hid (show w2.heap[w1.heap.size]? = some (.cells #[.slice D1 r.1.gens.length e1, .slice D2 r.1.free.length e2, .slice D3 r.1.ents.length e3] 75 (0, 0)) from (by rw [← hn1]; exact alloc_at rfl))
    have Vc_2 := Lib.hid (val_only Vc_1.out S2.out)
    have Vs_2 := Lib.hid (val_only Vs_1.out S2.out)
    have Vd_2 := Lib.hid (val_only Vd_1.out S2.out)
    have Vz_2 := Lib.hid (val_only Vz_1.out S2.out)
    have y0_0 := rw5 R0_2.out
    have y1_0 := rw3 R1_2.out
    have y2_0 := rw5 R2_2.out
    have y3_0 := rw3 R3_2.out
    have y4_0 := rw2 R4_2.out
    have yn0_0 := rw3 Rw1_heap_size_2.out
    go_wp2_with fail
    try rw [hn1]
    clear hn1
    clear y0_0 y1_0 y2_0 y3_0 y4_0 yn0_0
    refine nm_post (fun w3 hnm => ?_)
    have S3 := Lib.hid (show Only (Box w 5) w2 w3 from (by rw [hnm]; exact (((((Only.refl (Box w 5) w2).put ⟨by omega, by omega⟩).put ⟨by omega, by omega⟩).put ⟨by omega, by omega⟩).put ⟨by omega, by omega⟩).put ⟨by omega, by omega⟩))
    have O3 := Lib.hid (O2.out.trans S3.out)
    have R0_3 := Lib.hid (row_nm hnm (row_other (row_other (row_other (row_other (row_other (R0_2.out) (by omega)) (by omega)) (by omega)) (by omega)) (by omega)))
    have R1_3 := Lib.hid (row_nm hnm (row_other (row_other (row_other (row_other (row_other (R1_2.out) (by omega)) (by omega)) (by omega)) (by omega)) (by omega)))
    have R2_3 := Lib.hid (row_nm hnm (row_other (row_other (row_other (row_other (row_other (R2_2.out) (by omega)) (by omega)) (by omega)) (by omega)) (by omega)))
    have R3_3 := Lib.hid (show w3.heap[w.heap.size + 1 + 1 + 1]? = some (.cells #[.slice D1 r.1.gens.length e1, .slice D2 r.1.free.length e2, .slice D3 r.1.ents.length e3] 75 (0, 0)) from (by rw [hnm]; exact row_other (row_other (heap_setRow (heap_setRow (heap_setRow (R3_2.out)))) (by omega)) (by omega)))
    have R4_3 := Lib.hid (show w3.heap[w.heap.size + 1 + 1 + 1 + 1]? = some (.cells #[.int .i64 0, .int .i64 0] 114 (0, 0)) from (by rw [hnm]; exact heap_setRow (heap_setRow (row_other (row_other (row_other (R4_2.out) (by omega)) (by omega)) (by omega)))))
    have Rw1_heap_size_3 := Lib.hid (row_nm hnm (row_other (row_other (row_other (row_other (row_other (Rw1_heap_size_2.out) (by have := HF1.out; omega)) (by have := HF1.out; omega)) (by have := HF1.out; omega)) (by have := HF1.out; omega)) (by have := HF1.out; omega)))
    have Vc_3 := Lib.hid (val_only Vc_2.out S3.out)
    have Vs_3 := Lib.hid (val_only Vs_2.out S3.out)
    have Vd_3 := Lib.hid (val_only Vd_2.out S3.out)
    have Vz_3 := Lib.hid (val_only Vz_2.out S3.out)
    clear hnm
    have q3_0 := cl3 R3_3.out
    have q4_0 := cl2 R4_3.out
    refine ⟨rfl, .tuple #[.agg #[.slice D1 r.1.gens.length e1, .slice D2 r.1.free.length e2, .slice D3 r.1.ents.length e3], .agg #[.int .i64 0, .int .i64 0], .slice none 0 0, .int .i64 r.2], by simp only [results, hfr]; go_simp, ?_⟩
    clear q3_0 q4_0
    rw [HE.out]
    exact ⟨_, rfl, val_out Vz_3.out, Only.fin HB0.out O3.out⟩
  · skip
    have HE := Lib.hid (show goS c s kind id k data = ((removeS c s id k).1, ⟨(removeS c s id k).2, noID⟩) by rw [hk]; rfl)
    have hq1 : (kind == 1) = false := by simp [hk]
    have hq2 : (kind == 2) = false := by simp [hk]
    have hq3 : (kind == 3) = true := by simp [hk]
    have hq4 : (kind == 4) = false := by simp [hk]
    clear hk
    clear hz0 hb0
    have q0_0 := rw5 R0_0.out
    have q1_0 := rw3 R1_0.out
    have q2_0 := rw5 R2_0.out
    have q3_0 := rw3 R3_0.out
    have q4_0 := rw2 R4_0.out
    go_enter Try.func125, Try.ntmps125
    go_wp2_with fail
    try rw [hW0]
    clear hW0
    try go_wp2_with fail
    obtain ⟨r, hr⟩ : ∃ r, (removeS c s id k) = r := ⟨_, rfl⟩
    rw [hr] at HE
    have HR := Lib.hid hr
    clear hr
    clear q0_0 q1_0 q2_0 q3_0 q4_0
    refine (rremove_calls (id := id) (k := k) Vc_0.out Vs_0.out HOK.out).mono ?_
    rintro e w1 ⟨z, rfl, hz, hb⟩
    rw [HR.out] at hz ⊢
    obtain ⟨D1, e1, D2, e2, D3, e3, rfl, _⟩ := rState_val hz
    have S1 := Lib.hid (show Only (Box w 5) W0 w1 from Only.of_below hb)
    have O1 := Lib.hid (O0.out.trans S1.out)
    have R0_1 := Lib.hid (row_call hb R0_0.out)
    have R1_1 := Lib.hid (row_call hb R1_0.out)
    have R2_1 := Lib.hid (row_call hb R2_0.out)
    have R3_1 := Lib.hid (row_call hb R3_0.out)
    have R4_1 := Lib.hid (row_call hb R4_0.out)
    have Vc_1 := Lib.hid (val_only Vc_0.out S1.out)
    have Vs_1 := Lib.hid (val_only Vs_0.out S1.out)
    have Vd_1 := Lib.hid (val_only Vd_0.out S1.out)
    have Vz_1 := Lib.hid (val_new (w := w) (n := 5) hz (by have := O0.out.size; have := HZ.out; omega))
    clear hb hz
    have HF1 := Lib.hid (show w.heap.size + 5 ≤ w1.heap.size by have := O1.out.size; have := HZ.out; omega)
    obtain ⟨w2, hn1⟩ : ∃ W, (w1.alloc (.cells #[.slice D1 r.1.gens.length e1, .slice D2 r.1.free.length e2, .slice D3 r.1.ents.length e3] 75)) = W := ⟨_, rfl⟩
    have S2 := Lib.hid (show Only (Box w 5) w1 w2 from (by rw [← hn1]; exact (Only.refl (Box w 5) w1).alloc _))
    have O2 := Lib.hid (O1.out.trans S2.out)
    have R0_2 := Lib.hid (row_nm hn1.symm (alloc_old (R0_1.out)))
    have R1_2 := Lib.hid (row_nm hn1.symm (alloc_old (R1_1.out)))
    have R2_2 := Lib.hid (row_nm hn1.symm (alloc_old (R2_1.out)))
    have R3_2 := Lib.hid (row_nm hn1.symm (alloc_old (R3_1.out)))
    have R4_2 := Lib.hid (row_nm hn1.symm (alloc_old (R4_1.out)))
    have Rw1_heap_size_2 := Lib.hid (show w2.heap[w1.heap.size]? = some (.cells #[.slice D1 r.1.gens.length e1, .slice D2 r.1.free.length e2, .slice D3 r.1.ents.length e3] 75 (0, 0)) from (by rw [← hn1]; exact alloc_at rfl))
    have Vc_2 := Lib.hid (val_only Vc_1.out S2.out)
    have Vs_2 := Lib.hid (val_only Vs_1.out S2.out)
    have Vd_2 := Lib.hid (val_only Vd_1.out S2.out)
    have Vz_2 := Lib.hid (val_only Vz_1.out S2.out)
    have y0_0 := rw5 R0_2.out
    have y1_0 := rw3 R1_2.out
    have y2_0 := rw5 R2_2.out
    have y3_0 := rw3 R3_2.out
    have y4_0 := rw2 R4_2.out
    have yn0_0 := rw3 Rw1_heap_size_2.out
    go_wp2_with fail
    try rw [hn1]
    clear hn1
    clear y0_0 y1_0 y2_0 y3_0 y4_0 yn0_0
    refine nm_post (fun w3 hnm => ?_)
    have S3 := Lib.hid (show Only (Box w 5) w2 w3 from (by rw [hnm]; exact (((((Only.refl (Box w 5) w2).put ⟨by omega, by omega⟩).put ⟨by omega, by omega⟩).put ⟨by omega, by omega⟩).put ⟨by omega, by omega⟩).put ⟨by omega, by omega⟩))
    have O3 := Lib.hid (O2.out.trans S3.out)
    have R0_3 := Lib.hid (row_nm hnm (row_other (row_other (row_other (row_other (row_other (R0_2.out) (by omega)) (by omega)) (by omega)) (by omega)) (by omega)))
    have R1_3 := Lib.hid (row_nm hnm (row_other (row_other (row_other (row_other (row_other (R1_2.out) (by omega)) (by omega)) (by omega)) (by omega)) (by omega)))
    have R2_3 := Lib.hid (row_nm hnm (row_other (row_other (row_other (row_other (row_other (R2_2.out) (by omega)) (by omega)) (by omega)) (by omega)) (by omega)))
    have R3_3 := Lib.hid (show w3.heap[w.heap.size + 1 + 1 + 1]? = some (.cells #[.slice D1 r.1.gens.length e1, .slice D2 r.1.free.length e2, .slice D3 r.1.ents.length e3] 75 (0, 0)) from (by rw [hnm]; exact row_other (row_other (heap_setRow (heap_setRow (heap_setRow (R3_2.out)))) (by omega)) (by omega)))
    have R4_3 := Lib.hid (show w3.heap[w.heap.size + 1 + 1 + 1 + 1]? = some (.cells #[.int .i64 0, .int .i64 0] 114 (0, 0)) from (by rw [hnm]; exact heap_setRow (heap_setRow (row_other (row_other (row_other (R4_2.out) (by omega)) (by omega)) (by omega)))))
    have Rw1_heap_size_3 := Lib.hid (row_nm hnm (row_other (row_other (row_other (row_other (row_other (Rw1_heap_size_2.out) (by have := HF1.out; omega)) (by have := HF1.out; omega)) (by have := HF1.out; omega)) (by have := HF1.out; omega)) (by have := HF1.out; omega)))
    have Vc_3 := Lib.hid (val_only Vc_2.out S3.out)
    have Vs_3 := Lib.hid (val_only Vs_2.out S3.out)
    have Vd_3 := Lib.hid (val_only Vd_2.out S3.out)
    have Vz_3 := Lib.hid (val_only Vz_2.out S3.out)
    clear hnm
    have q3_0 := cl3 R3_3.out
    have q4_0 := cl2 R4_3.out
    refine ⟨rfl, .tuple #[.agg #[.slice D1 r.1.gens.length e1, .slice D2 r.1.free.length e2, .slice D3 r.1.ents.length e3], .agg #[.int .i64 0, .int .i64 0], .slice none 0 0, .int .i64 r.2], by simp only [results, hfr]; go_simp, ?_⟩
    clear q3_0 q4_0
    rw [HE.out]
    exact ⟨_, rfl, val_out Vz_3.out, Only.fin HB0.out O3.out⟩
  · skip
    have HE := Lib.hid (show goS c s kind id k data = ((spawnS c s).1, ⟨(spawnS c s).2.2, (spawnS c s).2.1⟩) by rw [hk]; rfl)
    have hq1 : (kind == 1) = false := by simp [hk]
    have hq2 : (kind == 2) = false := by simp [hk]
    have hq3 : (kind == 3) = false := by simp [hk]
    have hq4 : (kind == 4) = false := by simp [hk]
    clear hk
    clear hz0 hb0
    have q0_0 := rw5 R0_0.out
    have q1_0 := rw3 R1_0.out
    have q2_0 := rw5 R2_0.out
    have q3_0 := rw3 R3_0.out
    have q4_0 := rw2 R4_0.out
    go_enter Try.func125, Try.ntmps125
    go_wp2_with fail
    try rw [hW0]
    clear hW0
    try go_wp2_with fail
    obtain ⟨r, hr⟩ : ∃ r, (spawnS c s) = r := ⟨_, rfl⟩
    rw [hr] at HE
    have HR := Lib.hid hr
    clear hr
    clear q0_0 q1_0 q2_0 q3_0 q4_0
    refine (rspawn_calls Vc_0.out Vs_0.out HOK.out).mono ?_
    rintro e w1 ⟨z, rfl, hz, hb⟩
    rw [HR.out] at hz ⊢
    obtain ⟨D1, e1, D2, e2, D3, e3, rfl, _⟩ := rState_val hz
    have S1 := Lib.hid (show Only (Box w 5) W0 w1 from Only.of_below hb)
    have O1 := Lib.hid (O0.out.trans S1.out)
    have R0_1 := Lib.hid (row_call hb R0_0.out)
    have R1_1 := Lib.hid (row_call hb R1_0.out)
    have R2_1 := Lib.hid (row_call hb R2_0.out)
    have R3_1 := Lib.hid (row_call hb R3_0.out)
    have R4_1 := Lib.hid (row_call hb R4_0.out)
    have Vc_1 := Lib.hid (val_only Vc_0.out S1.out)
    have Vs_1 := Lib.hid (val_only Vs_0.out S1.out)
    have Vd_1 := Lib.hid (val_only Vd_0.out S1.out)
    have Vz_1 := Lib.hid (val_new (w := w) (n := 5) hz (by have := O0.out.size; have := HZ.out; omega))
    clear hb hz
    have HF1 := Lib.hid (show w.heap.size + 5 ≤ w1.heap.size by have := O1.out.size; have := HZ.out; omega)
    obtain ⟨w2, hn1⟩ : ∃ W, ((w1.alloc (.cells #[.slice D1 r.1.gens.length e1, .slice D2 r.1.free.length e2, .slice D3 r.1.ents.length e3] 75)).alloc (.cells #[.int .i64 r.2.1.index, .int .i64 r.2.1.gen] 114)) = W := ⟨_, rfl⟩
    have S2 := Lib.hid (show Only (Box w 5) w1 w2 from (by rw [← hn1]; exact ((Only.refl (Box w 5) w1).alloc _).alloc _))
    have O2 := Lib.hid (O1.out.trans S2.out)
    have R0_2 := Lib.hid (row_nm hn1.symm (alloc_old (alloc_old (R0_1.out))))
    have R1_2 := Lib.hid (row_nm hn1.symm (alloc_old (alloc_old (R1_1.out))))
    have R2_2 := Lib.hid (row_nm hn1.symm (alloc_old (alloc_old (R2_1.out))))
    have R3_2 := Lib.hid (row_nm hn1.symm (alloc_old (alloc_old (R3_1.out))))
    have R4_2 := Lib.hid (row_nm hn1.symm (alloc_old (alloc_old (R4_1.out))))
    have Rw1_heap_size_2 := Lib.hid (show w2.heap[w1.heap.size]? = some (.cells #[.slice D1 r.1.gens.length e1, .slice D2 r.1.free.length e2, .slice D3 r.1.ents.length e3] 75 (0, 0)) from (by rw [← hn1]; exact alloc_old (alloc_at rfl)))
    have Rw1_heap_size_1_2 := Lib.hid (show w2.heap[w1.heap.size + 1]? = some (.cells #[.int .i64 r.2.1.index, .int .i64 r.2.1.gen] 114 (0, 0)) from (by rw [← hn1]; exact alloc_at (by simp)))
    have Vc_2 := Lib.hid (val_only Vc_1.out S2.out)
    have Vs_2 := Lib.hid (val_only Vs_1.out S2.out)
    have Vd_2 := Lib.hid (val_only Vd_1.out S2.out)
    have Vz_2 := Lib.hid (val_only Vz_1.out S2.out)
    have y0_0 := rw5 R0_2.out
    have y1_0 := rw3 R1_2.out
    have y2_0 := rw5 R2_2.out
    have y3_0 := rw3 R3_2.out
    have y4_0 := rw2 R4_2.out
    have yn0_0 := rw3 Rw1_heap_size_2.out
    have yn1_0 := rw2 Rw1_heap_size_1_2.out
    go_wp2_with fail
    try rw [hn1]
    clear hn1
    clear y0_0 y1_0 y2_0 y3_0 y4_0 yn0_0 yn1_0
    refine wp_region_held_drew (S := fun W => Only (fun b => b = w.heap.size + 1 + 1 + 1 ∨ b = w.heap.size + 1 + 1 + 1 + 1) w2 W) (by kernel_rfl) ((Only.refl _ _).drw) (fun s0 => ?_)
    obtain ⟨v1, hv0⟩ : ∃ V, V = w2.drew := ⟨_, rfl⟩
    rw [← hv0] at s0 ⊢
    have t1 : Only (fun b => b = w.heap.size + 1 + 1 + 1 ∨ b = w.heap.size + 1 + 1 + 1 + 1) w2 v1 := s0
    have rb3_1 : v1.heap[w.heap.size + 1 + 1 + 1]? = some (.cells #[.slice none 0 0, .slice none 0 0, .slice none 0 0] 75 (0, 0)) := by rw [hv0]; exact R3_2.out
    have rb4_1 : v1.heap[w.heap.size + 1 + 1 + 1 + 1]? = some (.cells #[.int .i64 0, .int .i64 0] 114 (0, 0)) := by rw [hv0]; exact R4_2.out
    clear hv0 s0
    refine tkH (i := 0) (v := .agg #[.slice D1 r.1.gens.length e1, .slice D2 r.1.free.length e2, .slice D3 r.1.ents.length e3]) rfl (Or.inl ⟨by rfl, fun w' h => by have e := row_only (h : Only (fun b => b = w.heap.size + 1 + 1 + 1 ∨ b = w.heap.size + 1 + 1 + 1 + 1) w2 w') Rw1_heap_size_2.out (by have := HF1.out; have := HF1.out; first | omega | (dsimp only; omega)); have e0 := cell_row e 0; have e1 := cell_row e 1; have e2 := cell_row e 2; go_simp⟩) t1 ?_
    go_simp
    refine tkH (i := 1) (v := .agg #[.int .i64 r.2.1.index, .int .i64 r.2.1.gen]) rfl (Or.inl ⟨by rfl, fun w' h => by have e := row_only (h : Only (fun b => b = w.heap.size + 1 + 1 + 1 ∨ b = w.heap.size + 1 + 1 + 1 + 1) w2 w') Rw1_heap_size_1_2.out (by have := HF1.out; have := HF1.out; first | omega | (dsimp only; omega)); have e0 := cell_row e 0; have e1 := cell_row e 1; go_simp⟩) t1 ?_
    go_simp
    refine tkHV (i := 2) (v := .int .i64 r.2.2) rfl t1 ?_
    go_simp
    refine wpAnyH_all (rs := [3]) (by kernel_rfl) (by simp) ?_
    intro i hi
    obtain rfl : i = 3 := by simpa using hi
    clear hi
    refine wpOp_step rfl (fun K hK => ?_)
    go_simp
    have eb := rb3_1
    have q0 := rw3 eb
    go_simp
    refine hK _ _ ⟨(((t1).put (.inl rfl)).put (.inl rfl)).put (.inl rfl), ?_⟩
    clear hK K q0
    refine nm_any (fun v2 hnm => ?_)
    have t2 : Only (fun b => b = w.heap.size + 1 + 1 + 1 ∨ b = w.heap.size + 1 + 1 + 1 + 1) w2 v2 := by rw [hnm]; exact (((t1).put (.inl rfl)).put (.inl rfl)).put (.inl rfl)
    have rb3_2 : v2.heap[w.heap.size + 1 + 1 + 1]? = some (.cells #[.slice D1 r.1.gens.length e1, .slice D2 r.1.free.length e2, .slice D3 r.1.ents.length e3] 75 (0, 0)) := by rw [hnm]; exact heap_setRow (heap_setRow (heap_setRow (rb3_1)))
    have rb4_2 : v2.heap[w.heap.size + 1 + 1 + 1 + 1]? = some (.cells #[.int .i64 0, .int .i64 0] 114 (0, 0)) := by rw [hnm]; exact row_other (row_other (row_other (rb4_1) (by omega)) (by omega)) (by omega)
    clear hnm eb
    refine wpAnyH_all (rs := [4]) (by kernel_rfl) (by simp) ?_
    intro i hi
    obtain rfl : i = 4 := by simpa using hi
    clear hi
    refine wpOp_step rfl (fun K hK => ?_)
    go_simp
    have eb := rb4_2
    have q0 := rw2 eb
    go_simp
    refine hK _ _ ⟨((t2).put (.inr (rfl))).put (.inr (rfl)), ?_⟩
    clear hK K q0
    refine nm_any (fun v3 hnm => ?_)
    have t3 : Only (fun b => b = w.heap.size + 1 + 1 + 1 ∨ b = w.heap.size + 1 + 1 + 1 + 1) w2 v3 := by rw [hnm]; exact ((t2).put (.inr (rfl))).put (.inr (rfl))
    have rb3_3 : v3.heap[w.heap.size + 1 + 1 + 1]? = some (.cells #[.slice D1 r.1.gens.length e1, .slice D2 r.1.free.length e2, .slice D3 r.1.ents.length e3] 75 (0, 0)) := by rw [hnm]; exact row_other (row_other (rb3_2) (by omega)) (by omega)
    have rb4_3 : v3.heap[w.heap.size + 1 + 1 + 1 + 1]? = some (.cells #[.int .i64 r.2.1.index, .int .i64 r.2.1.gen] 114 (0, 0)) := by rw [hnm]; exact heap_setRow (heap_setRow (rb4_2))
    clear hnm eb
    refine tkHV (i := 5) (v := .slice none 0 0) rfl t3 ?_
    go_simp
    refine tkHV (i := 6) (v := .int .i64 r.2.2) rfl t3 ?_
    go_simp
    refine wpAnyH_done (by kernel_rfl) ?_ _
    have S3 := Lib.hid (show Only (Box w 5) w2 v3 from (t3).wid (fun b hb => by first | (unfold Box; omega) | (dsimp only at hb; unfold Box; omega)))
    have O3 := Lib.hid (O2.out.trans S3.out)
    have R0_3 := Lib.hid (row_only t3 R0_2.out (by first | omega | (dsimp only; omega)))
    have R1_3 := Lib.hid (row_only t3 R1_2.out (by first | omega | (dsimp only; omega)))
    have R2_3 := Lib.hid (row_only t3 R2_2.out (by first | omega | (dsimp only; omega)))
    have R3_3 := Lib.hid (show v3.heap[w.heap.size + 1 + 1 + 1]? = some (.cells #[.slice D1 r.1.gens.length e1, .slice D2 r.1.free.length e2, .slice D3 r.1.ents.length e3] 75 (0, 0)) from rb3_3)
    have R4_3 := Lib.hid (show v3.heap[w.heap.size + 1 + 1 + 1 + 1]? = some (.cells #[.int .i64 r.2.1.index, .int .i64 r.2.1.gen] 114 (0, 0)) from rb4_3)
    have Rw1_heap_size_3 := Lib.hid (row_only t3 Rw1_heap_size_2.out (by have := HF1.out; have := HF1.out; first | omega | (dsimp only; omega)))
    have Rw1_heap_size_1_3 := Lib.hid (row_only t3 Rw1_heap_size_1_2.out (by have := HF1.out; have := HF1.out; first | omega | (dsimp only; omega)))
    have Vc_3 := Lib.hid (val_only Vc_2.out S3.out)
    have Vs_3 := Lib.hid (val_only Vs_2.out S3.out)
    have Vd_3 := Lib.hid (val_only Vd_2.out S3.out)
    have Vz_3 := Lib.hid (val_only Vz_2.out S3.out)
    clear rb3_3 rb4_3
    have q3_0 := cl3 R3_3.out
    have q4_0 := cl2 R4_3.out
    try go_wp2_with fail
    refine ⟨rfl, .tuple #[.agg #[.slice D1 r.1.gens.length e1, .slice D2 r.1.free.length e2, .slice D3 r.1.ents.length e3], .agg #[.int .i64 r.2.1.index, .int .i64 r.2.1.gen], .slice none 0 0, .int .i64 r.2.2], by simp only [results, hfr]; go_simp, ?_⟩
    clear q3_0 q4_0
    rw [HE.out]
    exact ⟨_, rfl, val_out Vz_3.out, Only.fin HB0.out O3.out⟩
end Go.Proofs.Yteljibjbndpncaa
namespace Go.Proofs.Yteljibjbndpncaa

theorem spawns_next {l : List DCmd} {done : List DResult} {i : Nat} {x : DCmd} {r : DResult} (hx : l[i]? = some x) (hr : done[i]? = some r) :
    spawnsOf (l.take (i + 1)) (done.take (i + 1)) = spawnsOf (l.take i) (done.take i) ++ if x.kind = 0 then [r] else [] := by
  have h1 := (List.getElem?_eq_some_iff.1 hx).1
  have h2 := (List.getElem?_eq_some_iff.1 hr).1
  unfold spawnsOf
  rw [List.take_add_one, List.take_add_one, hx, hr, Option.toList_some, Option.toList_some, List.zip_append (by rw [List.length_take, List.length_take]; omega), List.filter_append, List.map_append]
  by_cases h : x.kind = 0 <;> simp [h]
theorem zip_short {α β : Type} : ∀ {l : List α} {d : List β} {i : Nat}, l.length ≤ i ∨ d.length ≤ i → (l.take i).zip (d.take i) = l.zip d
  | [], _, _, _ => by simp
  | _ :: _, [], _, _ => by simp
  | x :: l, y :: d, 0, h => by simp at h
  | x :: l, y :: d, i + 1, h => by
    rw [List.take_succ_cons, List.take_succ_cons, List.zip_cons_cons, List.zip_cons_cons, zip_short (by simpa using h)]
theorem spawns_end {l : List DCmd} {done : List DResult} {i : Nat} (h : l.length ≤ i ∨ done.length ≤ i) : spawnsOf (l.take i) (done.take i) = spawnsOf l done := by
  unfold spawnsOf; rw [zip_short h]
theorem spawns_len {l : List DCmd} {done : List DResult} : (spawnsOf l done).length ≤ done.length := by
  unfold spawnsOf
  have h1 := List.length_filter_le (fun x : DCmd × DResult => decide (x.1.kind = 0)) (l.zip done)
  rw [List.length_zip] at h1
  rw [List.length_map]; omega
theorem findS_neg {l : List DCmd} {done : List DResult} {k : Int} (h : k < 0) : findS l done k = none := by unfold findS; rw [if_neg (by omega)]
theorem findS_high {l : List DCmd} {done : List DResult} {k : Int} (h : ((spawnsOf l done).length : Int) ≤ k) : findS l done k = none := by
  unfold findS
  rw [if_pos (by omega), List.getElem?_eq_none (by omega)]
theorem findS_at {l : List DCmd} {done : List DResult} {k : Nat} {r : DResult} (h : (spawnsOf l done)[k]? = some r) : findS l done k = if r.err = 0 then some r.id else none := by
  unfold findS
  rw [if_pos (by omega), Int.toNat_natCast, h]
end Go.Proofs.Yteljibjbndpncaa
namespace Go.Proofs.Yteljibjbndpncaa
open Go.RowKit

theorem infoRes : (Try.prog.info? 168).map (fun i => (i.zero, i.size, i.bytes)) = some (some (.agg #[.int .i64 0, .int .i64 0, .int .i64 0]), 3, 24) := by kernel_rfl
def FoundPost (w : World) (r : Option DID) (e : Ending) (w' : World) : Prop :=
  e = .returned (.tuple #[.agg #[.int .i64 (r.getD noID).index, .int .i64 (r.getD noID).gen], .bool r.isSome]) ∧ Below w.heap.size w w'

set_option maxRecDepth 100000 in
set_option maxHeartbeats 4000000 in
/-- r15.Find -/
theorem rfind15_calls {Q Q' : Nat → Prop} {w : World} {u v : Value} {l : List DCmd} {done : List DResult} {k : Int} (hx : rCmd.list.val Q w u l) (hy : rResult.list.val Q' w v done) (hl : done.length ≤ 100000) :
    Calls Try.prog 124 #[u, v, .int .i64 k] w (FoundPost w (findS l done k)) := by
  obtain ⟨A, c, rfl, hc1, hc2, hA⟩ := Rep.val_list hx
  obtain ⟨B, d, rfl, hd1, hd2, hB⟩ := Rep.val_list hy
  unfold maxLen at hc2 hd2
  have HA := Lib.hid hA
  have HB := Lib.hid hB
  have HL := Lib.hid hl
  have hfr : Try.f124.results = #[.cell 6 114, .tmp 7] := rfl
  clear hx hy hA hB
  obtain ⟨W0, hW0⟩ : ∃ W, (w.alloc (.cells #[.int .i64 0, .int .i64 0] 114)) = W := ⟨_, rfl⟩
  have hz0 : W0.heap.size = w.heap.size + 1 := by rw [← hW0]; simp
  have hb0 : Below w.heap.size w W0 := by rw [← hW0]; exact (Below.refl _ _).alloc (Nat.le_refl _) _
  have HZ := Lib.hid hz0
  have HB0 := Lib.hid hb0
  have R0_0 := Lib.hid (show W0.heap[w.heap.size]? = some (.cells #[.int .i64 0, .int .i64 0] 114 (0, 0)) by rw [← hW0]; exact alloc_at rfl)
  have O0 := Lib.hid (Only.refl (Box w 1) W0)
  have HAT := Lib.hid (show ∀ V, Below W0.heap.size W0 V → rCmd.At Q V A l from fun V h => Rep.At.keep (w := w) (fun b hb hl => ⟨hb, (hb0.trans (h.mono hb0.size)).block b hl.lt⟩) HA.out)
  have HBT := Lib.hid (show ∀ V, Below W0.heap.size W0 V → rResult.At Q' V B done from fun V h => Rep.At.keep (w := w) (fun b hb hl => ⟨hb, (hb0.trans (h.mono hb0.size)).block b hl.lt⟩) HB.out)
  clear hz0 hb0
  have q0_0 := rw2 R0_0.out
  go_enter Try.func124, Try.ntmps124
  go_wp2_with fail
  try rw [hW0]
  clear hW0
  try go_wp2_with fail
  clear q0_0
  go_loopw [8, 9] (fun u8 i wr => ∃ j : Nat, i = .int .i64 j ∧ j ≤ l.length ∧ j ≤ done.length ∧ Hid (rResult.acc 168 W0.heap.size (fun _ => False) wr u8 (spawnsOf (l.take j) (done.take j))) ∧ Hid (Below W0.heap.size W0 wr)) (fun _ i _ => l.length - (intOf i).toNat)
  case atStart => exact ⟨0, rfl, Nat.zero_le _, Nat.zero_le _, Lib.hid (by simp [spawnsOf]; exact Rep.acc_nil), Lib.hid (Below.refl _ _)⟩
  case round =>
    obtain ⟨j, rfl, hj1, hj2, HACC, HBR⟩ := hrel
    by_cases hlt : (j : Int) < l.length
    · by_cases hlt2 : (j : Int) < done.length
      · obtain ⟨x, hx⟩ : ∃ x, l[j]? = some x := ⟨_, List.getElem?_eq_getElem (by omega)⟩
        obtain ⟨r, hr⟩ : ∃ r, done[j]? = some r := ⟨_, List.getElem?_eq_getElem (by omega)⟩
        obtain ⟨cb, co, Ad, cd, rfl, _, x0, _⟩ := rCmd_at (HAT.out wr HBR.out) hx
        obtain ⟨rb, ro, rfl, _, y0, y1, y2, wf0, wf1, wf2⟩ := rResult_at (HBT.out wr HBR.out) hr
        have HN := Lib.hid (spawns_next hx hr)
        have HLX := Lib.hid (show (spawnsOf (l.take j) (done.take j)).length ≤ done.length from Nat.le_trans spawns_len (by rw [List.length_take]; omega))
        have W0' := Lib.hid (show (Lit.int .i64 r.err).wf = true ∧ (Lit.int .i64 r.id.index).wf = true ∧ (Lit.int .i64 r.id.gen).wf = true from ⟨wf0, wf1, wf2⟩)
        clear hx hr wf0 wf1 wf2
        by_cases hk : x.kind = 0
        · skip
          have hk0 : (x.kind == 0) = true := by simp [hk]
          rw [if_pos hk] at HN
          clear hk
          go_wp2_with (with_reducible refine stopOne rfl ?_)
          refine Lib.hid ?_
          clear x0 y0 y1 y2
          refine wpList_snoc (e := 168) (base := W0.heap.size) (Q := fun _ => False) (r := rResult) rfl rfl _ _ 136 _ rfl rfl rfl (.agg #[.int .i64 0, .int .i64 0, .int .i64 0]) 3 24 Try.underlying136 infoRes rfl (by decide) rfl _ (spawnsOf (l.take j) (done.take j)) HACC.out r _ (by exact rfl) (rResult_agg W0'.out.1 W0'.out.2.1 W0'.out.2.2) (by exact rfl) (by exact rfl) (by have := HLX.out; have := HL.out; unfold maxLen; omega) (by have := HLX.out; have := HL.out; omega) HBR.out.size ?_
          intro s1 w1 hacc1 hgr1 hat1
          have HA1 := Lib.hid hacc1
          have HB1 := Lib.hid (Rep.acc_below HACC.out HBR.out hgr1 HBR.out.size)
          clear hacc1 hgr1 hat1
          go_wp2_with fail
          exact ⟨⟨j + 1, by go_num, by omega, by omega, Lib.hid (by rw [HN.out]; exact HA1.out), HB1⟩, by simp [intOf]; omega⟩
        · skip
          have hk0 : (x.kind == 0) = false := by simp [hk]
          rw [if_neg hk, List.append_nil] at HN
          clear hk
          go_wp2_with fail
          exact ⟨⟨j + 1, by go_num, by omega, by omega, Lib.hid (by rw [HN.out]; exact HACC.out), HBR⟩, by simp [intOf]; omega⟩
      · skip
        have HSP := Lib.hid (spawns_end (l := l) (done := done) (i := j) (.inr (by omega)))
        rw [HSP.out] at HACC
        have hsl := spawns_len (l := l) (done := done)
        obtain ⟨q, hq⟩ : ∃ q, spawnsOf l done = q := ⟨_, rfl⟩
        rw [hq] at HACC hsl
        have HQ := Lib.hid hq
        clear hq HSP
        obtain ⟨A8, c8, rfl, h81, h82⟩ := Rep.acc_form HACC.out
        unfold maxLen at h82
        have S1 := Lib.hid (show Only (Box w 1) W0 wr from Only.of_below HBR.out)
        have O1 := Lib.hid (O0.out.trans S1.out)
        have R0_1 := Lib.hid (row_call HBR.out R0_0.out)
        by_cases h0 : k < 0
        · have HE := Lib.hid (findS_neg (l := l) (done := done) h0)
          have q0_0 := rw2 R0_1.out
          go_wp2_with fail
          clear q0_0
          refine nm_post (fun wz hnm => ?_)
          have S2 := Lib.hid (show Only (Box w 1) wr wz from (by rw [hnm]; exact ((Only.refl (Box w 1) wr).put ⟨by omega, by omega⟩).put ⟨by omega, by omega⟩))
          have O2 := Lib.hid (O1.out.trans S2.out)
          have R0_2 := Lib.hid (show wz.heap[w.heap.size]? = some (.cells #[.int .i64 0, .int .i64 0] 114 (0, 0)) from (by rw [hnm]; exact heap_setRow (heap_setRow (R0_1.out))))
          clear hnm
          have q0_0 := cl2 R0_2.out
          refine ⟨rfl, .tuple #[.agg #[.int .i64 0, .int .i64 0], .bool false], by simp only [results, hfr]; go_simp, ?_⟩
          clear q0_0
          exact ⟨by rw [HE.out]; rfl, Only.fin HB0.out O2.out⟩
        by_cases h1 : (q.length : Int) ≤ k
        · have HE := Lib.hid (findS_high (l := l) (done := done) (by rw [HQ.out]; exact h1))
          have q0_0 := rw2 R0_1.out
          go_wp2_with fail
          clear q0_0
          refine nm_post (fun wz hnm => ?_)
          have S2 := Lib.hid (show Only (Box w 1) wr wz from (by rw [hnm]; exact ((Only.refl (Box w 1) wr).put ⟨by omega, by omega⟩).put ⟨by omega, by omega⟩))
          have O2 := Lib.hid (O1.out.trans S2.out)
          have R0_2 := Lib.hid (show wz.heap[w.heap.size]? = some (.cells #[.int .i64 0, .int .i64 0] 114 (0, 0)) from (by rw [hnm]; exact heap_setRow (heap_setRow (R0_1.out))))
          clear hnm
          have q0_0 := cl2 R0_2.out
          refine ⟨rfl, .tuple #[.agg #[.int .i64 0, .int .i64 0], .bool false], by simp only [results, hfr]; go_simp, ?_⟩
          clear q0_0
          exact ⟨by rw [HE.out]; rfl, Only.fin HB0.out O2.out⟩
        obtain ⟨m, rfl⟩ : ∃ m : Nat, k = (m : Int) := ⟨k.toNat, by omega⟩
        obtain ⟨r, hr⟩ : ∃ r, q[m]? = some r := ⟨_, List.getElem?_eq_getElem (by omega)⟩
        have HF := Lib.hid (findS_at (l := l) (done := done) (k := m) (r := r) (by rw [HQ.out]; exact hr))
        obtain ⟨g8, cap8, es8, he8, hg8, _, _, _, hrd8, hce8, _⟩ := acc_get HACC.out hr
        cases he8
        obtain ⟨rfl, _⟩ := rResult_open hrd8
        have k0 := hce8 0 _ rfl
        have k1 := hce8 1 _ rfl
        have k2 := hce8 2 _ rfl
        rw [rResult_size] at k0 k1 k2
        rw [Nat.add_zero] at k0
        have hmq : (m : Int) < q.length := by omega
        clear hr hg8 hrd8 hce8
        by_cases he : r.err = 0
        · have HE := Lib.hid (HF.out.trans (if_pos he))
          have he0 : (r.err == 0) = true := by simp [he]
          have he1 : (r.err != 0) = false := by simp [he]
          clear he
          have q0_0 := rw2 R0_1.out
          go_wp2_with fail
          clear k0 k1 k2
          clear q0_0
          refine nm_post (fun wz hnm => ?_)
          have S2 := Lib.hid (show Only (Box w 1) wr wz from (by rw [hnm]; exact ((Only.refl (Box w 1) wr).put ⟨by omega, by omega⟩).put ⟨by omega, by omega⟩))
          have O2 := Lib.hid (O1.out.trans S2.out)
          have R0_2 := Lib.hid (show wz.heap[w.heap.size]? = some (.cells #[.int .i64 r.id.index, .int .i64 r.id.gen] 114 (0, 0)) from (by rw [hnm]; exact heap_setRow (heap_setRow (R0_1.out))))
          clear hnm
          have q0_0 := cl2 R0_2.out
          refine ⟨rfl, .tuple #[.agg #[.int .i64 r.id.index, .int .i64 r.id.gen], .bool true], by simp only [results, hfr]; go_simp, ?_⟩
          clear q0_0
          exact ⟨by rw [HE.out]; rfl, Only.fin HB0.out O2.out⟩
        · have HE := Lib.hid (HF.out.trans (if_neg he))
          have he0 : (r.err == 0) = false := by simp [he]
          have he1 : (r.err != 0) = true := by simp [he]
          clear he
          have q0_0 := rw2 R0_1.out
          go_wp2_with fail
          clear k0 k1 k2
          clear q0_0
          refine nm_post (fun wz hnm => ?_)
          have S2 := Lib.hid (show Only (Box w 1) wr wz from (by rw [hnm]; exact ((Only.refl (Box w 1) wr).put ⟨by omega, by omega⟩).put ⟨by omega, by omega⟩))
          have O2 := Lib.hid (O1.out.trans S2.out)
          have R0_2 := Lib.hid (show wz.heap[w.heap.size]? = some (.cells #[.int .i64 0, .int .i64 0] 114 (0, 0)) from (by rw [hnm]; exact heap_setRow (heap_setRow (R0_1.out))))
          clear hnm
          have q0_0 := cl2 R0_2.out
          refine ⟨rfl, .tuple #[.agg #[.int .i64 0, .int .i64 0], .bool false], by simp only [results, hfr]; go_simp, ?_⟩
          clear q0_0
          exact ⟨by rw [HE.out]; rfl, Only.fin HB0.out O2.out⟩
    · skip
      have HSP := Lib.hid (spawns_end (l := l) (done := done) (i := j) (.inl (by omega)))
      rw [HSP.out] at HACC
      have hsl := spawns_len (l := l) (done := done)
      obtain ⟨q, hq⟩ : ∃ q, spawnsOf l done = q := ⟨_, rfl⟩
      rw [hq] at HACC hsl
      have HQ := Lib.hid hq
      clear hq HSP
      obtain ⟨A8, c8, rfl, h81, h82⟩ := Rep.acc_form HACC.out
      unfold maxLen at h82
      have S1 := Lib.hid (show Only (Box w 1) W0 wr from Only.of_below HBR.out)
      have O1 := Lib.hid (O0.out.trans S1.out)
      have R0_1 := Lib.hid (row_call HBR.out R0_0.out)
      by_cases h0 : k < 0
      · have HE := Lib.hid (findS_neg (l := l) (done := done) h0)
        have q0_0 := rw2 R0_1.out
        go_wp2_with fail
        clear q0_0
        refine nm_post (fun wz hnm => ?_)
        have S2 := Lib.hid (show Only (Box w 1) wr wz from (by rw [hnm]; exact ((Only.refl (Box w 1) wr).put ⟨by omega, by omega⟩).put ⟨by omega, by omega⟩))
        have O2 := Lib.hid (O1.out.trans S2.out)
        have R0_2 := Lib.hid (show wz.heap[w.heap.size]? = some (.cells #[.int .i64 0, .int .i64 0] 114 (0, 0)) from (by rw [hnm]; exact heap_setRow (heap_setRow (R0_1.out))))
        clear hnm
        have q0_0 := cl2 R0_2.out
        refine ⟨rfl, .tuple #[.agg #[.int .i64 0, .int .i64 0], .bool false], by simp only [results, hfr]; go_simp, ?_⟩
        clear q0_0
        exact ⟨by rw [HE.out]; rfl, Only.fin HB0.out O2.out⟩
      by_cases h1 : (q.length : Int) ≤ k
      · have HE := Lib.hid (findS_high (l := l) (done := done) (by rw [HQ.out]; exact h1))
        have q0_0 := rw2 R0_1.out
        go_wp2_with fail
        clear q0_0
        refine nm_post (fun wz hnm => ?_)
        have S2 := Lib.hid (show Only (Box w 1) wr wz from (by rw [hnm]; exact ((Only.refl (Box w 1) wr).put ⟨by omega, by omega⟩).put ⟨by omega, by omega⟩))
        have O2 := Lib.hid (O1.out.trans S2.out)
        have R0_2 := Lib.hid (show wz.heap[w.heap.size]? = some (.cells #[.int .i64 0, .int .i64 0] 114 (0, 0)) from (by rw [hnm]; exact heap_setRow (heap_setRow (R0_1.out))))
        clear hnm
        have q0_0 := cl2 R0_2.out
        refine ⟨rfl, .tuple #[.agg #[.int .i64 0, .int .i64 0], .bool false], by simp only [results, hfr]; go_simp, ?_⟩
        clear q0_0
        exact ⟨by rw [HE.out]; rfl, Only.fin HB0.out O2.out⟩
      obtain ⟨m, rfl⟩ : ∃ m : Nat, k = (m : Int) := ⟨k.toNat, by omega⟩
      obtain ⟨r, hr⟩ : ∃ r, q[m]? = some r := ⟨_, List.getElem?_eq_getElem (by omega)⟩
      have HF := Lib.hid (findS_at (l := l) (done := done) (k := m) (r := r) (by rw [HQ.out]; exact hr))
      obtain ⟨g8, cap8, es8, he8, hg8, _, _, _, hrd8, hce8, _⟩ := acc_get HACC.out hr
      cases he8
      obtain ⟨rfl, _⟩ := rResult_open hrd8
      have k0 := hce8 0 _ rfl
      have k1 := hce8 1 _ rfl
      have k2 := hce8 2 _ rfl
      rw [rResult_size] at k0 k1 k2
      rw [Nat.add_zero] at k0
      have hmq : (m : Int) < q.length := by omega
      clear hr hg8 hrd8 hce8
      by_cases he : r.err = 0
      · have HE := Lib.hid (HF.out.trans (if_pos he))
        have he0 : (r.err == 0) = true := by simp [he]
        have he1 : (r.err != 0) = false := by simp [he]
        clear he
        have q0_0 := rw2 R0_1.out
        go_wp2_with fail
        clear k0 k1 k2
        clear q0_0
        refine nm_post (fun wz hnm => ?_)
        have S2 := Lib.hid (show Only (Box w 1) wr wz from (by rw [hnm]; exact ((Only.refl (Box w 1) wr).put ⟨by omega, by omega⟩).put ⟨by omega, by omega⟩))
        have O2 := Lib.hid (O1.out.trans S2.out)
        have R0_2 := Lib.hid (show wz.heap[w.heap.size]? = some (.cells #[.int .i64 r.id.index, .int .i64 r.id.gen] 114 (0, 0)) from (by rw [hnm]; exact heap_setRow (heap_setRow (R0_1.out))))
        clear hnm
        have q0_0 := cl2 R0_2.out
        refine ⟨rfl, .tuple #[.agg #[.int .i64 r.id.index, .int .i64 r.id.gen], .bool true], by simp only [results, hfr]; go_simp, ?_⟩
        clear q0_0
        exact ⟨by rw [HE.out]; rfl, Only.fin HB0.out O2.out⟩
      · have HE := Lib.hid (HF.out.trans (if_neg he))
        have he0 : (r.err == 0) = false := by simp [he]
        have he1 : (r.err != 0) = true := by simp [he]
        clear he
        have q0_0 := rw2 R0_1.out
        go_wp2_with fail
        clear k0 k1 k2
        clear q0_0
        refine nm_post (fun wz hnm => ?_)
        have S2 := Lib.hid (show Only (Box w 1) wr wz from (by rw [hnm]; exact ((Only.refl (Box w 1) wr).put ⟨by omega, by omega⟩).put ⟨by omega, by omega⟩))
        have O2 := Lib.hid (O1.out.trans S2.out)
        have R0_2 := Lib.hid (show wz.heap[w.heap.size]? = some (.cells #[.int .i64 0, .int .i64 0] 114 (0, 0)) from (by rw [hnm]; exact heap_setRow (heap_setRow (R0_1.out))))
        clear hnm
        have q0_0 := cl2 R0_2.out
        refine ⟨rfl, .tuple #[.agg #[.int .i64 0, .int .i64 0], .bool false], by simp only [results, hfr]; go_simp, ?_⟩
        clear q0_0
        exact ⟨by rw [HE.out]; rfl, Only.fin HB0.out O2.out⟩
end Go.Proofs.Yteljibjbndpncaa
