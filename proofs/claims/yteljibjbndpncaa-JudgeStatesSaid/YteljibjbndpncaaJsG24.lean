/- Texts on which the proofs stand: ROne15. No condition is laid on any input. -/
import Derived.Test.YteljibjbndpncaaJsG23
namespace Go.Proofs.Yteljibjbndpncaa
open Go.RowKit

theorem oneS_bad {c : DConf} {s : DState} {a : List DCmd} {d : List DResult} {x : DCmd} (h : x.kind < 0 ∨ 3 < x.kind) : oneS c s a d x = (s, ⟨1, noID⟩) := by unfold oneS; rw [if_pos h]
theorem oneS_own {c : DConf} {s : DState} {a : List DCmd} {d : List DResult} {x : DCmd} (h : ¬ (x.kind < 0 ∨ 3 < x.kind)) (hl : ¬ (x.loc = true ∧ 0 < x.kind)) : oneS c s a d x = goS c s x.kind x.id x.comp x.data := by unfold oneS; rw [if_neg h, if_neg hl]
theorem oneS_none {c : DConf} {s : DState} {a : List DCmd} {d : List DResult} {x : DCmd} (h : ¬ (x.kind < 0 ∨ 3 < x.kind)) (hl : x.loc = true ∧ 0 < x.kind) (hf : findS a d x.id.index = none) : oneS c s a d x = (s, ⟨10, noID⟩) := by unfold oneS; rw [if_neg h, if_pos hl, hf]
theorem oneS_some {c : DConf} {s : DState} {a : List DCmd} {d : List DResult} {x : DCmd} {id : DID} (h : ¬ (x.kind < 0 ∨ 3 < x.kind)) (hl : x.loc = true ∧ 0 < x.kind) (hf : findS a d x.id.index = some id) : oneS c s a d x = goS c s x.kind id x.comp x.data := by unfold oneS; rw [if_neg h, if_pos hl, hf]
def One15Post (Q : Nat → Prop) (w : World) (r : DState × DResult) (e : Ending) (w' : World) : Prop :=
  ∃ z, e = .returned (.tuple #[z, .agg #[.int .i64 r.2.err, .int .i64 r.2.id.index, .int .i64 r.2.id.gen]]) ∧ rState.val (fun b => Q b ∨ w.heap.size ≤ b) w' z r.1 ∧ Below w.heap.size w w'

set_option maxRecDepth 100000 in
set_option maxHeartbeats 4000000 in
/-- r15.one -/
theorem rone15_calls {Q Qd : Nat → Prop} {w : World} {vc v va vd vx : Value} {c : DConf} {s : DState} {a : List DCmd} {d : List DResult} {x : DCmd} (hc : rConf.val Q w vc c) (hs : rState.val Q w v s) (ha : rCmd.list.val Q w va a) (hd : rResult.list.val Qd w vd d) (hx : rCmd.val Q w vx x) (hok : StOk c s) (hl : d.length ≤ 100000) :
    Calls Try.prog 102 #[vc, v, va, vd, vx] w (One15Post Q w (oneS c s a d x)) := by
  have HC := Lib.hid hc
  have HX := Lib.hid hs
  have HOK := Lib.hid hok
  have HL := Lib.hid hl
  have HAA := Lib.hid ha
  have HDD := Lib.hid hd
  obtain ⟨A, cap, rfl, _⟩ := rConf_val hc
  obtain ⟨A1, c1, A2, c2, A3, c3, rfl, _⟩ := rState_val hs
  obtain ⟨A5, c5, rfl, _, _, _, hw3, h5⟩ := rCmd_val hx
  have HKW := Lib.hid hw3
  have H5 := Lib.hid h5
  have hfr : Try.f102.results = #[.cell 10 75, .cell 11 168] := rfl
  clear hc hs ha hd hx hok hw3 h5
  obtain ⟨W0, hW0⟩ : ∃ W, (((((w.alloc (.cells #[.int .i64 c.log, .int .i64 c.pages, .int .i64 c.entities, .int .i64 c.gens, .slice A c.comps.length cap] 49)).alloc (.cells #[.slice A1 s.gens.length c1, .slice A2 s.free.length c2, .slice A3 s.ents.length c3] 75)).alloc (.cells #[.int .i64 x.kind, .bool x.loc, .int .i64 x.id.index, .int .i64 x.id.gen, .int .i64 x.comp, .slice A5 x.data.length c5] 116)).alloc (.cells #[.slice none 0 0, .slice none 0 0, .slice none 0 0] 75)).alloc (.cells #[.int .i64 0, .int .i64 0, .int .i64 0] 168)) = W := ⟨_, rfl⟩
  have hz0 : W0.heap.size = w.heap.size + 5 := by rw [← hW0]; simp
  have hb0 : Below w.heap.size w W0 := by rw [← hW0]; exact (((((Below.refl _ _).alloc (Nat.le_refl _) _).alloc (by first | (simp; done) | (simp; omega)) _).alloc (by first | (simp; done) | (simp; omega)) _).alloc (by first | (simp; done) | (simp; omega)) _).alloc (by first | (simp; done) | (simp; omega)) _
  have HZ := Lib.hid hz0
  have HB0 := Lib.hid hb0
  have R0_0 := Lib.hid (show W0.heap[w.heap.size]? = some (.cells #[.int .i64 c.log, .int .i64 c.pages, .int .i64 c.entities, .int .i64 c.gens, .slice A c.comps.length cap] 49 (0, 0)) by rw [← hW0]; exact alloc_old (alloc_old (alloc_old (alloc_old (alloc_at rfl)))))
  have R1_0 := Lib.hid (show W0.heap[w.heap.size + 1]? = some (.cells #[.slice A1 s.gens.length c1, .slice A2 s.free.length c2, .slice A3 s.ents.length c3] 75 (0, 0)) by rw [← hW0]; exact alloc_old (alloc_old (alloc_old (alloc_at (by simp)))))
  have R2_0 := Lib.hid (show W0.heap[w.heap.size + 1 + 1]? = some (.cells #[.int .i64 x.kind, .bool x.loc, .int .i64 x.id.index, .int .i64 x.id.gen, .int .i64 x.comp, .slice A5 x.data.length c5] 116 (0, 0)) by rw [← hW0]; exact alloc_old (alloc_old (alloc_at (by simp))))
  have R3_0 := Lib.hid (show W0.heap[w.heap.size + 1 + 1 + 1]? = some (.cells #[.slice none 0 0, .slice none 0 0, .slice none 0 0] 75 (0, 0)) by rw [← hW0]; exact alloc_old (alloc_at (by simp)))
  have R4_0 := Lib.hid (show W0.heap[w.heap.size + 1 + 1 + 1 + 1]? = some (.cells #[.int .i64 0, .int .i64 0, .int .i64 0] 168 (0, 0)) by rw [← hW0]; exact alloc_at (by simp))
  have O0 := Lib.hid (Only.refl (Box w 6) W0)
  have Vc_0 := Lib.hid (show rConf.val (In Q w 6) W0 (.agg #[.int .i64 c.log, .int .i64 c.pages, .int .i64 c.entities, .int .i64 c.gens, .slice A c.comps.length cap]) c from val_in HC.out hb0)
  have Vs_0 := Lib.hid (show rState.val (In Q w 6) W0 (.agg #[.slice A1 s.gens.length c1, .slice A2 s.free.length c2, .slice A3 s.ents.length c3]) s from val_in HX.out hb0)
  have Va_0 := Lib.hid (show rCmd.list.val (In Q w 6) W0 (va) a from val_in HAA.out hb0)
  have Vd_0 := Lib.hid (show rResult.list.val (In Qd w 6) W0 (vd) d from val_in HDD.out hb0)
  have Vb_0 := Lib.hid (show Rep.byte.list.val (In Q w 6) W0 (.slice A5 x.data.length c5) x.data from val_in H5.out.val hb0)
  by_cases hk : x.kind < 0 ∨ 3 < x.kind
  case pos =>
    have HE := Lib.hid (oneS_bad (c := c) (s := s) (a := a) (d := d) hk)
    rcases hk with hk | hk
    · skip
      clear hz0 hb0
      have q0_0 := rw5 R0_0.out
      have q1_0 := rw3 R1_0.out
      have q2_0 := rw6 R2_0.out
      have q3_0 := rw3 R3_0.out
      have q4_0 := rw3 R4_0.out
      go_enter Try.func102, Try.ntmps102
      go_wp2_with fail
      try rw [hW0]
      clear hW0
      try go_wp2_with fail
      clear q0_0 q1_0 q2_0 q3_0 q4_0
      refine nm_post (fun w1 hnm => ?_)
      have S1 := Lib.hid (show Only (Box w 6) W0 w1 from (by rw [hnm]; exact ((((((Only.refl (Box w 6) W0).put ⟨by omega, by omega⟩).put ⟨by omega, by omega⟩).put ⟨by omega, by omega⟩).put ⟨by omega, by omega⟩).put ⟨by omega, by omega⟩).put ⟨by omega, by omega⟩))
      have O1 := Lib.hid (O0.out.trans S1.out)
      have R0_1 := Lib.hid (row_nm hnm (row_other (row_other (row_other (row_other (row_other (row_other (R0_0.out) (by omega)) (by omega)) (by omega)) (by omega)) (by omega)) (by omega)))
      have R1_1 := Lib.hid (row_nm hnm (row_other (row_other (row_other (row_other (row_other (row_other (R1_0.out) (by omega)) (by omega)) (by omega)) (by omega)) (by omega)) (by omega)))
      have R2_1 := Lib.hid (row_nm hnm (row_other (row_other (row_other (row_other (row_other (row_other (R2_0.out) (by omega)) (by omega)) (by omega)) (by omega)) (by omega)) (by omega)))
      have R3_1 := Lib.hid (show w1.heap[w.heap.size + 1 + 1 + 1]? = some (.cells #[.slice A1 s.gens.length c1, .slice A2 s.free.length c2, .slice A3 s.ents.length c3] 75 (0, 0)) from (by rw [hnm]; exact row_other (row_other (row_other (heap_setRow (heap_setRow (heap_setRow (R3_0.out)))) (by omega)) (by omega)) (by omega)))
      have R4_1 := Lib.hid (show w1.heap[w.heap.size + 1 + 1 + 1 + 1]? = some (.cells #[.int .i64 1, .int .i64 0, .int .i64 0] 168 (0, 0)) from (by rw [hnm]; exact heap_setRow (heap_setRow (heap_setRow (row_other (row_other (row_other (R4_0.out) (by omega)) (by omega)) (by omega))))))
      have Vc_1 := Lib.hid (val_only Vc_0.out S1.out)
      have Vs_1 := Lib.hid (val_only Vs_0.out S1.out)
      have Va_1 := Lib.hid (val_only Va_0.out S1.out)
      have Vd_1 := Lib.hid (val_only Vd_0.out S1.out)
      have Vb_1 := Lib.hid (val_only Vb_0.out S1.out)
      clear hnm
      have q3_0 := cl3 R3_1.out
      have q4_0 := cl3 R4_1.out
      refine ⟨rfl, .tuple #[.agg #[.slice A1 s.gens.length c1, .slice A2 s.free.length c2, .slice A3 s.ents.length c3], .agg #[.int .i64 1, .int .i64 0, .int .i64 0]], by simp only [results, hfr]; go_simp, ?_⟩
      clear q3_0 q4_0
      rw [HE.out]
      exact ⟨_, rfl, val_out Vs_1.out, Only.fin HB0.out O1.out⟩
    · skip
      have hk0 : ¬ x.kind < 0 := by omega
      clear hz0 hb0
      have q0_0 := rw5 R0_0.out
      have q1_0 := rw3 R1_0.out
      have q2_0 := rw6 R2_0.out
      have q3_0 := rw3 R3_0.out
      have q4_0 := rw3 R4_0.out
      go_enter Try.func102, Try.ntmps102
      go_wp2_with fail
      try rw [hW0]
      clear hW0
      try go_wp2_with fail
      clear q0_0 q1_0 q2_0 q3_0 q4_0
      refine nm_post (fun w1 hnm => ?_)
      have S1 := Lib.hid (show Only (Box w 6) W0 w1 from (by rw [hnm]; exact ((((((Only.refl (Box w 6) W0).put ⟨by omega, by omega⟩).put ⟨by omega, by omega⟩).put ⟨by omega, by omega⟩).put ⟨by omega, by omega⟩).put ⟨by omega, by omega⟩).put ⟨by omega, by omega⟩))
      have O1 := Lib.hid (O0.out.trans S1.out)
      have R0_1 := Lib.hid (row_nm hnm (row_other (row_other (row_other (row_other (row_other (row_other (R0_0.out) (by omega)) (by omega)) (by omega)) (by omega)) (by omega)) (by omega)))
      have R1_1 := Lib.hid (row_nm hnm (row_other (row_other (row_other (row_other (row_other (row_other (R1_0.out) (by omega)) (by omega)) (by omega)) (by omega)) (by omega)) (by omega)))
      have R2_1 := Lib.hid (row_nm hnm (row_other (row_other (row_other (row_other (row_other (row_other (R2_0.out) (by omega)) (by omega)) (by omega)) (by omega)) (by omega)) (by omega)))
      have R3_1 := Lib.hid (show w1.heap[w.heap.size + 1 + 1 + 1]? = some (.cells #[.slice A1 s.gens.length c1, .slice A2 s.free.length c2, .slice A3 s.ents.length c3] 75 (0, 0)) from (by rw [hnm]; exact row_other (row_other (row_other (heap_setRow (heap_setRow (heap_setRow (R3_0.out)))) (by omega)) (by omega)) (by omega)))
      have R4_1 := Lib.hid (show w1.heap[w.heap.size + 1 + 1 + 1 + 1]? = some (.cells #[.int .i64 1, .int .i64 0, .int .i64 0] 168 (0, 0)) from (by rw [hnm]; exact heap_setRow (heap_setRow (heap_setRow (row_other (row_other (row_other (R4_0.out) (by omega)) (by omega)) (by omega))))))
      have Vc_1 := Lib.hid (val_only Vc_0.out S1.out)
      have Vs_1 := Lib.hid (val_only Vs_0.out S1.out)
      have Va_1 := Lib.hid (val_only Va_0.out S1.out)
      have Vd_1 := Lib.hid (val_only Vd_0.out S1.out)
      have Vb_1 := Lib.hid (val_only Vb_0.out S1.out)
      clear hnm
      have q3_0 := cl3 R3_1.out
      have q4_0 := cl3 R4_1.out
      refine ⟨rfl, .tuple #[.agg #[.slice A1 s.gens.length c1, .slice A2 s.free.length c2, .slice A3 s.ents.length c3], .agg #[.int .i64 1, .int .i64 0, .int .i64 0]], by simp only [results, hfr]; go_simp, ?_⟩
      clear q3_0 q4_0
      rw [HE.out]
      exact ⟨_, rfl, val_out Vs_1.out, Only.fin HB0.out O1.out⟩
  have HKD := Lib.hid hk
  have hk0 : ¬ x.kind < 0 := by omega
  have hk3 : ¬ 3 < x.kind := by omega
  have hin : 0 ≤ x.kind ∧ x.kind ≤ 3 := by omega
  have HIN := Lib.hid hin
  clear hk hin
  by_cases hl : x.loc = true ∧ 0 < x.kind
  case neg =>
    have HE := Lib.hid (oneS_own (c := c) (s := s) (a := a) (d := d) HKD.out hl)
    clear HKD
    rcases hloc : x.loc with _ | _
    · skip
      clear hl
      have HLOC := Lib.hid hloc
      have R2_L := Lib.hid (show W0.heap[w.heap.size + 1 + 1]? = some (.cells #[.int .i64 x.kind, .bool false, .int .i64 x.id.index, .int .i64 x.id.gen, .int .i64 x.comp, .slice A5 x.data.length c5] 116 (0, 0)) by rw [← hloc]; exact R2_0.out)
      rw [hloc] at hW0
      clear hloc
      have k1 : (W0.alloc (.cells #[.int .i64 x.id.index, .int .i64 x.id.gen] 114)).heap[w.heap.size]? = some (.cells #[.int .i64 c.log, .int .i64 c.pages, .int .i64 c.entities, .int .i64 c.gens, .slice A c.comps.length cap] 49 (0, 0)) := alloc_old (R0_0.out)
      have k1_0 := rw5 k1
      clear k1
      have k2 : (W0.alloc (.cells #[.int .i64 x.id.index, .int .i64 x.id.gen] 114)).heap[w.heap.size + 1]? = some (.cells #[.slice A1 s.gens.length c1, .slice A2 s.free.length c2, .slice A3 s.ents.length c3] 75 (0, 0)) := alloc_old (R1_0.out)
      have k2_0 := rw3 k2
      clear k2
      have k3 : (W0.alloc (.cells #[.int .i64 x.id.index, .int .i64 x.id.gen] 114)).heap[w.heap.size + 1 + 1]? = some (.cells #[.int .i64 x.kind, .bool false, .int .i64 x.id.index, .int .i64 x.id.gen, .int .i64 x.comp, .slice A5 x.data.length c5] 116 (0, 0)) := alloc_old (R2_L.out)
      have k3_0 := rw6 k3
      clear k3
      have k4 : (W0.alloc (.cells #[.int .i64 x.id.index, .int .i64 x.id.gen] 114)).heap[w.heap.size + 1 + 1 + 1]? = some (.cells #[.slice none 0 0, .slice none 0 0, .slice none 0 0] 75 (0, 0)) := alloc_old (R3_0.out)
      have k4_0 := rw3 k4
      clear k4
      have k5 : (W0.alloc (.cells #[.int .i64 x.id.index, .int .i64 x.id.gen] 114)).heap[w.heap.size + 1 + 1 + 1 + 1]? = some (.cells #[.int .i64 0, .int .i64 0, .int .i64 0] 168 (0, 0)) := alloc_old (R4_0.out)
      have k5_0 := rw3 k5
      clear k5
      have k6 : (W0.alloc (.cells #[.int .i64 x.id.index, .int .i64 x.id.gen] 114)).heap[W0.heap.size]? = some (.cells #[.int .i64 x.id.index, .int .i64 x.id.gen] 114 (0, 0)) := alloc_at rfl
      have k6_0 := rw2 k6
      clear k6
      clear hz0 hb0
      have q0_0 := rw5 R0_0.out
      have q1_0 := rw3 R1_0.out
      have q2_0 := rw6 R2_L.out
      have q3_0 := rw3 R3_0.out
      have q4_0 := rw3 R4_0.out
      go_enter Try.func102, Try.ntmps102
      go_wp2_with fail
      try rw [hW0]
      clear hW0
      try go_wp2_with fail
      clear k1_0 k2_0 k3_0 k4_0 k5_0 k6_0 q0_0 q1_0 q2_0 q3_0 q4_0
      refine nm_calls (fun w1 hnm => ?_)
      have HF1 := Lib.hid (show w.heap.size + 5 ≤ W0.heap.size by have := O0.out.size; have := HZ.out; omega)
      have S1 := Lib.hid (show Only (Box w 6) W0 w1 from (by rw [hnm]; exact (Only.refl (Box w 6) W0).alloc _))
      have O1 := Lib.hid (O0.out.trans S1.out)
      have R0_1 := Lib.hid (row_nm hnm (alloc_old (R0_0.out)))
      have R1_1 := Lib.hid (row_nm hnm (alloc_old (R1_0.out)))
      have R2_1 := Lib.hid (row_nm hnm (alloc_old (R2_L.out)))
      have R3_1 := Lib.hid (row_nm hnm (alloc_old (R3_0.out)))
      have R4_1 := Lib.hid (row_nm hnm (alloc_old (R4_0.out)))
      have RW0_heap_size_1 := Lib.hid (show w1.heap[W0.heap.size]? = some (.cells #[.int .i64 x.id.index, .int .i64 x.id.gen] 114 (0, 0)) from (by rw [hnm]; exact alloc_at rfl))
      have Vc_1 := Lib.hid (val_only Vc_0.out S1.out)
      have Vs_1 := Lib.hid (val_only Vs_0.out S1.out)
      have Va_1 := Lib.hid (val_only Va_0.out S1.out)
      have Vd_1 := Lib.hid (val_only Vd_0.out S1.out)
      have Vb_1 := Lib.hid (val_only Vb_0.out S1.out)
      have HN1 := Lib.hid (show w1.heap.size = W0.heap.size + 1 by rw [hnm]; simp)
      clear hnm
      have HZ6 := Lib.hid (show w.heap.size + 6 ≤ w1.heap.size by rw [show w1.heap.size = W0.heap.size + 1 from HN1.out]; have := HZ.out; omega)
      obtain ⟨r, hr⟩ : ∃ r, goS c s x.kind x.id x.comp x.data = r := ⟨_, rfl⟩
      have HR := Lib.hid hr
      rw [hr] at HE
      clear hr
      refine (rgo11_calls (id := x.id) Vc_1.out Vs_1.out Vb_1.out HKW.out HOK.out HIN.out).mono ?_
      rintro e w5 ⟨z, rfl, hz, hb⟩
      rw [HR.out] at hz ⊢
      obtain ⟨D1, e1, D2, e2, D3, e3, rfl, _⟩ := rState_val hz
      have S2 := Lib.hid (show Only (Box w 6) w1 w5 from Only.of_below hb)
      have O2 := Lib.hid (O1.out.trans S2.out)
      have R0_2 := Lib.hid (row_call hb R0_1.out)
      have R1_2 := Lib.hid (row_call hb R1_1.out)
      have R2_2 := Lib.hid (row_call hb R2_1.out)
      have R3_2 := Lib.hid (row_call hb R3_1.out)
      have R4_2 := Lib.hid (row_call hb R4_1.out)
      have RW0_heap_size_2 := Lib.hid (row_call hb RW0_heap_size_1.out)
      have Vc_2 := Lib.hid (val_only Vc_1.out S2.out)
      have Vs_2 := Lib.hid (val_only Vs_1.out S2.out)
      have Va_2 := Lib.hid (val_only Va_1.out S2.out)
      have Vd_2 := Lib.hid (val_only Vd_1.out S2.out)
      have Vb_2 := Lib.hid (val_only Vb_1.out S2.out)
      have Vz_2 := Lib.hid (val_new (w := w) (n := 6) hz (by have := HZ6.out; omega))
      clear hb hz
      have HF2 := Lib.hid (show w.heap.size + 5 ≤ w5.heap.size by have := O2.out.size; have := HZ.out; omega)
      obtain ⟨w6, hn2⟩ : ∃ W, ((w5.alloc (.cells #[.slice D1 r.1.gens.length e1, .slice D2 r.1.free.length e2, .slice D3 r.1.ents.length e3] 75)).alloc (.cells #[.int .i64 r.2.id.index, .int .i64 r.2.id.gen] 114)) = W := ⟨_, rfl⟩
      have S3 := Lib.hid (show Only (Box w 6) w5 w6 from (by rw [← hn2]; exact ((Only.refl (Box w 6) w5).alloc _).alloc _))
      have O3 := Lib.hid (O2.out.trans S3.out)
      have R0_3 := Lib.hid (row_nm hn2.symm (alloc_old (alloc_old (R0_2.out))))
      have R1_3 := Lib.hid (row_nm hn2.symm (alloc_old (alloc_old (R1_2.out))))
      have R2_3 := Lib.hid (row_nm hn2.symm (alloc_old (alloc_old (R2_2.out))))
      have R3_3 := Lib.hid (row_nm hn2.symm (alloc_old (alloc_old (R3_2.out))))
      have R4_3 := Lib.hid (row_nm hn2.symm (alloc_old (alloc_old (R4_2.out))))
      have RW0_heap_size_3 := Lib.hid (row_nm hn2.symm (alloc_old (alloc_old (RW0_heap_size_2.out))))
      have Rw5_heap_size_3 := Lib.hid (show w6.heap[w5.heap.size]? = some (.cells #[.slice D1 r.1.gens.length e1, .slice D2 r.1.free.length e2, .slice D3 r.1.ents.length e3] 75 (0, 0)) from (by rw [← hn2]; exact alloc_old (alloc_at rfl)))
      have Rw5_heap_size_1_3 := Lib.hid (show w6.heap[w5.heap.size + 1]? = some (.cells #[.int .i64 r.2.id.index, .int .i64 r.2.id.gen] 114 (0, 0)) from (by rw [← hn2]; exact alloc_at (by simp)))
      have Vc_3 := Lib.hid (val_only Vc_2.out S3.out)
      have Vs_3 := Lib.hid (val_only Vs_2.out S3.out)
      have Va_3 := Lib.hid (val_only Va_2.out S3.out)
      have Vd_3 := Lib.hid (val_only Vd_2.out S3.out)
      have Vb_3 := Lib.hid (val_only Vb_2.out S3.out)
      have Vz_3 := Lib.hid (val_only Vz_2.out S3.out)
      have y0_0 := rw5 R0_3.out
      have y1_0 := rw3 R1_3.out
      have y2_0 := rw6 R2_3.out
      have y3_0 := rw3 R3_3.out
      have y4_0 := rw3 R4_3.out
      have yn0_0 := rw2 RW0_heap_size_3.out
      have yn1_0 := rw3 Rw5_heap_size_3.out
      have yn2_0 := rw2 Rw5_heap_size_1_3.out
      go_wp2_with fail
      try rw [hn2]
      clear hn2
      clear y0_0 y1_0 y2_0 y3_0 y4_0 yn0_0 yn1_0 yn2_0
      refine wp_region_held_drew (S := fun W => Only (fun b => b = w.heap.size + 1 + 1 + 1 ∨ b = w.heap.size + 1 + 1 + 1 + 1) w6 W) (by kernel_rfl) ((Only.refl _ _).drw) (fun s0 => ?_)
      obtain ⟨v1, hv0⟩ : ∃ V, V = w6.drew := ⟨_, rfl⟩
      rw [← hv0] at s0 ⊢
      have t1 : Only (fun b => b = w.heap.size + 1 + 1 + 1 ∨ b = w.heap.size + 1 + 1 + 1 + 1) w6 v1 := s0
      have rb3_1 : v1.heap[w.heap.size + 1 + 1 + 1]? = some (.cells #[.slice none 0 0, .slice none 0 0, .slice none 0 0] 75 (0, 0)) := by rw [hv0]; exact R3_3.out
      have rb4_1 : v1.heap[w.heap.size + 1 + 1 + 1 + 1]? = some (.cells #[.int .i64 0, .int .i64 0, .int .i64 0] 168 (0, 0)) := by rw [hv0]; exact R4_3.out
      clear hv0 s0
      refine tkH (i := 0) (v := .agg #[.slice D1 r.1.gens.length e1, .slice D2 r.1.free.length e2, .slice D3 r.1.ents.length e3]) rfl (Or.inl ⟨by rfl, fun w' h => by have e := row_only (h : Only (fun b => b = w.heap.size + 1 + 1 + 1 ∨ b = w.heap.size + 1 + 1 + 1 + 1) w6 w') Rw5_heap_size_3.out (by have := HF1.out; have := HF2.out; have := HF2.out; first | omega | (dsimp only; omega)); have e0 := cell_row e 0; have e1 := cell_row e 1; have e2 := cell_row e 2; go_simp⟩) t1 ?_
      go_simp
      refine tkHV (i := 1) (v := .int .i64 r.2.err) rfl t1 ?_
      go_simp
      refine tkH (i := 2) (v := .agg #[.int .i64 r.2.id.index, .int .i64 r.2.id.gen]) rfl (Or.inl ⟨by rfl, fun w' h => by have e := row_only (h : Only (fun b => b = w.heap.size + 1 + 1 + 1 ∨ b = w.heap.size + 1 + 1 + 1 + 1) w6 w') Rw5_heap_size_1_3.out (by have := HF1.out; have := HF2.out; have := HF2.out; first | omega | (dsimp only; omega)); have e0 := cell_row e 0; have e1 := cell_row e 1; go_simp⟩) t1 ?_
      go_simp
      refine tkHV (i := 3) (v := .agg #[.int .i64 r.2.err, .int .i64 r.2.id.index, .int .i64 r.2.id.gen]) rfl t1 ?_
      go_simp
      refine wpAnyH_all (rs := [4]) (by kernel_rfl) (by simp) ?_
      intro i hi
      obtain rfl : i = 4 := by simpa using hi
      clear hi
      refine wpOp_step rfl (fun K hK => ?_)
      go_simp
      have eb := rb3_1
      have q0 := rw3 eb
      go_simp
      refine hK _ _ ⟨(((t1).put (.inl rfl)).put (.inl rfl)).put (.inl rfl), ?_⟩
      clear hK K q0
      refine nm_any (fun v2 hnm => ?_)
      have t2 : Only (fun b => b = w.heap.size + 1 + 1 + 1 ∨ b = w.heap.size + 1 + 1 + 1 + 1) w6 v2 := by rw [hnm]; exact (((t1).put (.inl rfl)).put (.inl rfl)).put (.inl rfl)
      have rb3_2 : v2.heap[w.heap.size + 1 + 1 + 1]? = some (.cells #[.slice D1 r.1.gens.length e1, .slice D2 r.1.free.length e2, .slice D3 r.1.ents.length e3] 75 (0, 0)) := by rw [hnm]; exact heap_setRow (heap_setRow (heap_setRow (rb3_1)))
      have rb4_2 : v2.heap[w.heap.size + 1 + 1 + 1 + 1]? = some (.cells #[.int .i64 0, .int .i64 0, .int .i64 0] 168 (0, 0)) := by rw [hnm]; exact row_other (row_other (row_other (rb4_1) (by omega)) (by omega)) (by omega)
      clear hnm eb
      refine wpAnyH_all (rs := [5]) (by kernel_rfl) (by simp) ?_
      intro i hi
      obtain rfl : i = 5 := by simpa using hi
      clear hi
      refine wpOp_step rfl (fun K hK => ?_)
      go_simp
      have eb := rb4_2
      have q0 := rw3 eb
      go_simp
      refine hK _ _ ⟨(((t2).put (.inr (rfl))).put (.inr (rfl))).put (.inr (rfl)), ?_⟩
      clear hK K q0
      refine nm_any (fun v3 hnm => ?_)
      have t3 : Only (fun b => b = w.heap.size + 1 + 1 + 1 ∨ b = w.heap.size + 1 + 1 + 1 + 1) w6 v3 := by rw [hnm]; exact (((t2).put (.inr (rfl))).put (.inr (rfl))).put (.inr (rfl))
      have rb3_3 : v3.heap[w.heap.size + 1 + 1 + 1]? = some (.cells #[.slice D1 r.1.gens.length e1, .slice D2 r.1.free.length e2, .slice D3 r.1.ents.length e3] 75 (0, 0)) := by rw [hnm]; exact row_other (row_other (row_other (rb3_2) (by omega)) (by omega)) (by omega)
      have rb4_3 : v3.heap[w.heap.size + 1 + 1 + 1 + 1]? = some (.cells #[.int .i64 r.2.err, .int .i64 r.2.id.index, .int .i64 r.2.id.gen] 168 (0, 0)) := by rw [hnm]; exact heap_setRow (heap_setRow (heap_setRow (rb4_2)))
      clear hnm eb
      refine wpAnyH_done (by kernel_rfl) ?_ _
      have S4 := Lib.hid (show Only (Box w 6) w6 v3 from (t3).wid (fun b hb => by first | (unfold Box; omega) | (dsimp only at hb; unfold Box; omega)))
      have O4 := Lib.hid (O3.out.trans S4.out)
      have R0_4 := Lib.hid (row_only t3 R0_3.out (by first | omega | (dsimp only; omega)))
      have R1_4 := Lib.hid (row_only t3 R1_3.out (by first | omega | (dsimp only; omega)))
      have R2_4 := Lib.hid (row_only t3 R2_3.out (by first | omega | (dsimp only; omega)))
      have R3_4 := Lib.hid (show v3.heap[w.heap.size + 1 + 1 + 1]? = some (.cells #[.slice D1 r.1.gens.length e1, .slice D2 r.1.free.length e2, .slice D3 r.1.ents.length e3] 75 (0, 0)) from rb3_3)
      have R4_4 := Lib.hid (show v3.heap[w.heap.size + 1 + 1 + 1 + 1]? = some (.cells #[.int .i64 r.2.err, .int .i64 r.2.id.index, .int .i64 r.2.id.gen] 168 (0, 0)) from rb4_3)
      have RW0_heap_size_4 := Lib.hid (row_only t3 RW0_heap_size_3.out (by have := HF1.out; have := HF2.out; have := HF2.out; first | omega | (dsimp only; omega)))
      have Rw5_heap_size_4 := Lib.hid (row_only t3 Rw5_heap_size_3.out (by have := HF1.out; have := HF2.out; have := HF2.out; first | omega | (dsimp only; omega)))
      have Rw5_heap_size_1_4 := Lib.hid (row_only t3 Rw5_heap_size_1_3.out (by have := HF1.out; have := HF2.out; have := HF2.out; first | omega | (dsimp only; omega)))
      have Vc_4 := Lib.hid (val_only Vc_3.out S4.out)
      have Vs_4 := Lib.hid (val_only Vs_3.out S4.out)
      have Va_4 := Lib.hid (val_only Va_3.out S4.out)
      have Vd_4 := Lib.hid (val_only Vd_3.out S4.out)
      have Vb_4 := Lib.hid (val_only Vb_3.out S4.out)
      have Vz_4 := Lib.hid (val_only Vz_3.out S4.out)
      clear rb3_3 rb4_3
      have q3_0 := cl3 R3_4.out
      have q4_0 := cl3 R4_4.out
      try go_wp2_with fail
      refine ⟨rfl, .tuple #[.agg #[.slice D1 r.1.gens.length e1, .slice D2 r.1.free.length e2, .slice D3 r.1.ents.length e3], .agg #[.int .i64 r.2.err, .int .i64 r.2.id.index, .int .i64 r.2.id.gen]], by simp only [results, hfr]; go_simp, ?_⟩
      clear q3_0 q4_0
      rw [HE.out]
      exact ⟨_, rfl, val_out Vz_4.out, Only.fin HB0.out O4.out⟩
    · skip
      have hkz : ¬ 0 < x.kind := fun h => hl ⟨hloc, h⟩
      clear hl
      have HLOC := Lib.hid hloc
      have R2_L := Lib.hid (show W0.heap[w.heap.size + 1 + 1]? = some (.cells #[.int .i64 x.kind, .bool true, .int .i64 x.id.index, .int .i64 x.id.gen, .int .i64 x.comp, .slice A5 x.data.length c5] 116 (0, 0)) by rw [← hloc]; exact R2_0.out)
      rw [hloc] at hW0
      clear hloc
      have k1 : (W0.alloc (.cells #[.int .i64 x.id.index, .int .i64 x.id.gen] 114)).heap[w.heap.size]? = some (.cells #[.int .i64 c.log, .int .i64 c.pages, .int .i64 c.entities, .int .i64 c.gens, .slice A c.comps.length cap] 49 (0, 0)) := alloc_old (R0_0.out)
      have k1_0 := rw5 k1
      clear k1
      have k2 : (W0.alloc (.cells #[.int .i64 x.id.index, .int .i64 x.id.gen] 114)).heap[w.heap.size + 1]? = some (.cells #[.slice A1 s.gens.length c1, .slice A2 s.free.length c2, .slice A3 s.ents.length c3] 75 (0, 0)) := alloc_old (R1_0.out)
      have k2_0 := rw3 k2
      clear k2
      have k3 : (W0.alloc (.cells #[.int .i64 x.id.index, .int .i64 x.id.gen] 114)).heap[w.heap.size + 1 + 1]? = some (.cells #[.int .i64 x.kind, .bool true, .int .i64 x.id.index, .int .i64 x.id.gen, .int .i64 x.comp, .slice A5 x.data.length c5] 116 (0, 0)) := alloc_old (R2_L.out)
      have k3_0 := rw6 k3
      clear k3
      have k4 : (W0.alloc (.cells #[.int .i64 x.id.index, .int .i64 x.id.gen] 114)).heap[w.heap.size + 1 + 1 + 1]? = some (.cells #[.slice none 0 0, .slice none 0 0, .slice none 0 0] 75 (0, 0)) := alloc_old (R3_0.out)
      have k4_0 := rw3 k4
      clear k4
      have k5 : (W0.alloc (.cells #[.int .i64 x.id.index, .int .i64 x.id.gen] 114)).heap[w.heap.size + 1 + 1 + 1 + 1]? = some (.cells #[.int .i64 0, .int .i64 0, .int .i64 0] 168 (0, 0)) := alloc_old (R4_0.out)
      have k5_0 := rw3 k5
      clear k5
      have k6 : (W0.alloc (.cells #[.int .i64 x.id.index, .int .i64 x.id.gen] 114)).heap[W0.heap.size]? = some (.cells #[.int .i64 x.id.index, .int .i64 x.id.gen] 114 (0, 0)) := alloc_at rfl
      have k6_0 := rw2 k6
      clear k6
      clear hz0 hb0
      have q0_0 := rw5 R0_0.out
      have q1_0 := rw3 R1_0.out
      have q2_0 := rw6 R2_L.out
      have q3_0 := rw3 R3_0.out
      have q4_0 := rw3 R4_0.out
      go_enter Try.func102, Try.ntmps102
      go_wp2_with fail
      try rw [hW0]
      clear hW0
      try go_wp2_with fail
      clear k1_0 k2_0 k3_0 k4_0 k5_0 k6_0 q0_0 q1_0 q2_0 q3_0 q4_0
      refine nm_calls (fun w1 hnm => ?_)
      have HF1 := Lib.hid (show w.heap.size + 5 ≤ W0.heap.size by have := O0.out.size; have := HZ.out; omega)
      have S1 := Lib.hid (show Only (Box w 6) W0 w1 from (by rw [hnm]; exact (Only.refl (Box w 6) W0).alloc _))
      have O1 := Lib.hid (O0.out.trans S1.out)
      have R0_1 := Lib.hid (row_nm hnm (alloc_old (R0_0.out)))
      have R1_1 := Lib.hid (row_nm hnm (alloc_old (R1_0.out)))
      have R2_1 := Lib.hid (row_nm hnm (alloc_old (R2_L.out)))
      have R3_1 := Lib.hid (row_nm hnm (alloc_old (R3_0.out)))
      have R4_1 := Lib.hid (row_nm hnm (alloc_old (R4_0.out)))
      have RW0_heap_size_1 := Lib.hid (show w1.heap[W0.heap.size]? = some (.cells #[.int .i64 x.id.index, .int .i64 x.id.gen] 114 (0, 0)) from (by rw [hnm]; exact alloc_at rfl))
      have Vc_1 := Lib.hid (val_only Vc_0.out S1.out)
      have Vs_1 := Lib.hid (val_only Vs_0.out S1.out)
      have Va_1 := Lib.hid (val_only Va_0.out S1.out)
      have Vd_1 := Lib.hid (val_only Vd_0.out S1.out)
      have Vb_1 := Lib.hid (val_only Vb_0.out S1.out)
      have HN1 := Lib.hid (show w1.heap.size = W0.heap.size + 1 by rw [hnm]; simp)
      clear hnm
      have HZ6 := Lib.hid (show w.heap.size + 6 ≤ w1.heap.size by rw [show w1.heap.size = W0.heap.size + 1 from HN1.out]; have := HZ.out; omega)
      obtain ⟨r, hr⟩ : ∃ r, goS c s x.kind x.id x.comp x.data = r := ⟨_, rfl⟩
      have HR := Lib.hid hr
      rw [hr] at HE
      clear hr
      refine (rgo11_calls (id := x.id) Vc_1.out Vs_1.out Vb_1.out HKW.out HOK.out HIN.out).mono ?_
      rintro e w5 ⟨z, rfl, hz, hb⟩
      rw [HR.out] at hz ⊢
      obtain ⟨D1, e1, D2, e2, D3, e3, rfl, _⟩ := rState_val hz
      have S2 := Lib.hid (show Only (Box w 6) w1 w5 from Only.of_below hb)
      have O2 := Lib.hid (O1.out.trans S2.out)
      have R0_2 := Lib.hid (row_call hb R0_1.out)
      have R1_2 := Lib.hid (row_call hb R1_1.out)
      have R2_2 := Lib.hid (row_call hb R2_1.out)
      have R3_2 := Lib.hid (row_call hb R3_1.out)
      have R4_2 := Lib.hid (row_call hb R4_1.out)
      have RW0_heap_size_2 := Lib.hid (row_call hb RW0_heap_size_1.out)
      have Vc_2 := Lib.hid (val_only Vc_1.out S2.out)
      have Vs_2 := Lib.hid (val_only Vs_1.out S2.out)
      have Va_2 := Lib.hid (val_only Va_1.out S2.out)
      have Vd_2 := Lib.hid (val_only Vd_1.out S2.out)
      have Vb_2 := Lib.hid (val_only Vb_1.out S2.out)
      have Vz_2 := Lib.hid (val_new (w := w) (n := 6) hz (by have := HZ6.out; omega))
      clear hb hz
      have HF2 := Lib.hid (show w.heap.size + 5 ≤ w5.heap.size by have := O2.out.size; have := HZ.out; omega)
      obtain ⟨w6, hn2⟩ : ∃ W, ((w5.alloc (.cells #[.slice D1 r.1.gens.length e1, .slice D2 r.1.free.length e2, .slice D3 r.1.ents.length e3] 75)).alloc (.cells #[.int .i64 r.2.id.index, .int .i64 r.2.id.gen] 114)) = W := ⟨_, rfl⟩
      have S3 := Lib.hid (show Only (Box w 6) w5 w6 from (by rw [← hn2]; exact ((Only.refl (Box w 6) w5).alloc _).alloc _))
      have O3 := Lib.hid (O2.out.trans S3.out)
      have R0_3 := Lib.hid (row_nm hn2.symm (alloc_old (alloc_old (R0_2.out))))
      have R1_3 := Lib.hid (row_nm hn2.symm (alloc_old (alloc_old (R1_2.out))))
      have R2_3 := Lib.hid (row_nm hn2.symm (alloc_old (alloc_old (R2_2.out))))
      have R3_3 := Lib.hid (row_nm hn2.symm (alloc_old (alloc_old (R3_2.out))))
      have R4_3 := Lib.hid (row_nm hn2.symm (alloc_old (alloc_old (R4_2.out))))
      have RW0_heap_size_3 := Lib.hid (row_nm hn2.symm (alloc_old (alloc_old (RW0_heap_size_2.out))))
      have Rw5_heap_size_3 := Lib.hid (show w6.heap[w5.heap.size]? = some (.cells #[.slice D1 r.1.gens.length e1, .slice D2 r.1.free.length e2, .slice D3 r.1.ents.length e3] 75 (0, 0)) from (by rw [← hn2]; exact alloc_old (alloc_at rfl)))
      have Rw5_heap_size_1_3 := Lib.hid (show w6.heap[w5.heap.size + 1]? = some (.cells #[.int .i64 r.2.id.index, .int .i64 r.2.id.gen] 114 (0, 0)) from (by rw [← hn2]; exact alloc_at (by simp)))
      have Vc_3 := Lib.hid (val_only Vc_2.out S3.out)
      have Vs_3 := Lib.hid (val_only Vs_2.out S3.out)
      have Va_3 := Lib.hid (val_only Va_2.out S3.out)
      have Vd_3 := Lib.hid (val_only Vd_2.out S3.out)
      have Vb_3 := Lib.hid (val_only Vb_2.out S3.out)
      have Vz_3 := Lib.hid (val_only Vz_2.out S3.out)
      have y0_0 := rw5 R0_3.out
      have y1_0 := rw3 R1_3.out
      have y2_0 := rw6 R2_3.out
      have y3_0 := rw3 R3_3.out
      have y4_0 := rw3 R4_3.out
      have yn0_0 := rw2 RW0_heap_size_3.out
      have yn1_0 := rw3 Rw5_heap_size_3.out
      have yn2_0 := rw2 Rw5_heap_size_1_3.out
      go_wp2_with fail
      try rw [hn2]
      clear hn2
      clear y0_0 y1_0 y2_0 y3_0 y4_0 yn0_0 yn1_0 yn2_0
      refine wp_region_held_drew (S := fun W => Only (fun b => b = w.heap.size + 1 + 1 + 1 ∨ b = w.heap.size + 1 + 1 + 1 + 1) w6 W) (by kernel_rfl) ((Only.refl _ _).drw) (fun s0 => ?_)
      obtain ⟨v1, hv0⟩ : ∃ V, V = w6.drew := ⟨_, rfl⟩
      rw [← hv0] at s0 ⊢
      have t1 : Only (fun b => b = w.heap.size + 1 + 1 + 1 ∨ b = w.heap.size + 1 + 1 + 1 + 1) w6 v1 := s0
      have rb3_1 : v1.heap[w.heap.size + 1 + 1 + 1]? = some (.cells #[.slice none 0 0, .slice none 0 0, .slice none 0 0] 75 (0, 0)) := by rw [hv0]; exact R3_3.out
      have rb4_1 : v1.heap[w.heap.size + 1 + 1 + 1 + 1]? = some (.cells #[.int .i64 0, .int .i64 0, .int .i64 0] 168 (0, 0)) := by rw [hv0]; exact R4_3.out
      clear hv0 s0
      refine tkH (i := 0) (v := .agg #[.slice D1 r.1.gens.length e1, .slice D2 r.1.free.length e2, .slice D3 r.1.ents.length e3]) rfl (Or.inl ⟨by rfl, fun w' h => by have e := row_only (h : Only (fun b => b = w.heap.size + 1 + 1 + 1 ∨ b = w.heap.size + 1 + 1 + 1 + 1) w6 w') Rw5_heap_size_3.out (by have := HF1.out; have := HF2.out; have := HF2.out; first | omega | (dsimp only; omega)); have e0 := cell_row e 0; have e1 := cell_row e 1; have e2 := cell_row e 2; go_simp⟩) t1 ?_
      go_simp
      refine tkHV (i := 1) (v := .int .i64 r.2.err) rfl t1 ?_
      go_simp
      refine tkH (i := 2) (v := .agg #[.int .i64 r.2.id.index, .int .i64 r.2.id.gen]) rfl (Or.inl ⟨by rfl, fun w' h => by have e := row_only (h : Only (fun b => b = w.heap.size + 1 + 1 + 1 ∨ b = w.heap.size + 1 + 1 + 1 + 1) w6 w') Rw5_heap_size_1_3.out (by have := HF1.out; have := HF2.out; have := HF2.out; first | omega | (dsimp only; omega)); have e0 := cell_row e 0; have e1 := cell_row e 1; go_simp⟩) t1 ?_
      go_simp
      refine tkHV (i := 3) (v := .agg #[.int .i64 r.2.err, .int .i64 r.2.id.index, .int .i64 r.2.id.gen]) rfl t1 ?_
      go_simp
      refine wpAnyH_all (rs := [4]) (by kernel_rfl) (by simp) ?_
      intro i hi
      obtain rfl : i = 4 := by simpa using hi
      clear hi
      refine wpOp_step rfl (fun K hK => ?_)
      go_simp
      have eb := rb3_1
      have q0 := rw3 eb
      go_simp
      refine hK _ _ ⟨(((t1).put (.inl rfl)).put (.inl rfl)).put (.inl rfl), ?_⟩
      clear hK K q0
      refine nm_any (fun v2 hnm => ?_)
      have t2 : Only (fun b => b = w.heap.size + 1 + 1 + 1 ∨ b = w.heap.size + 1 + 1 + 1 + 1) w6 v2 := by rw [hnm]; exact (((t1).put (.inl rfl)).put (.inl rfl)).put (.inl rfl)
      have rb3_2 : v2.heap[w.heap.size + 1 + 1 + 1]? = some (.cells #[.slice D1 r.1.gens.length e1, .slice D2 r.1.free.length e2, .slice D3 r.1.ents.length e3] 75 (0, 0)) := by rw [hnm]; exact heap_setRow (heap_setRow (heap_setRow (rb3_1)))
      have rb4_2 : v2.heap[w.heap.size + 1 + 1 + 1 + 1]? = some (.cells #[.int .i64 0, .int .i64 0, .int .i64 0] 168 (0, 0)) := by rw [hnm]; exact row_other (row_other (row_other (rb4_1) (by omega)) (by omega)) (by omega)
      clear hnm eb
      refine wpAnyH_all (rs := [5]) (by kernel_rfl) (by simp) ?_
      intro i hi
      obtain rfl : i = 5 := by simpa using hi
      clear hi
      refine wpOp_step rfl (fun K hK => ?_)
      go_simp
      have eb := rb4_2
      have q0 := rw3 eb
      go_simp
      refine hK _ _ ⟨(((t2).put (.inr (rfl))).put (.inr (rfl))).put (.inr (rfl)), ?_⟩
      clear hK K q0
      refine nm_any (fun v3 hnm => ?_)
      have t3 : Only (fun b => b = w.heap.size + 1 + 1 + 1 ∨ b = w.heap.size + 1 + 1 + 1 + 1) w6 v3 := by rw [hnm]; exact (((t2).put (.inr (rfl))).put (.inr (rfl))).put (.inr (rfl))
      have rb3_3 : v3.heap[w.heap.size + 1 + 1 + 1]? = some (.cells #[.slice D1 r.1.gens.length e1, .slice D2 r.1.free.length e2, .slice D3 r.1.ents.length e3] 75 (0, 0)) := by rw [hnm]; exact row_other (row_other (row_other (rb3_2) (by omega)) (by omega)) (by omega)
      have rb4_3 : v3.heap[w.heap.size + 1 + 1 + 1 + 1]? = some (.cells #[.int .i64 r.2.err, .int .i64 r.2.id.index, .int .i64 r.2.id.gen] 168 (0, 0)) := by rw [hnm]; exact heap_setRow (heap_setRow (heap_setRow (rb4_2)))
      clear hnm eb
      refine wpAnyH_done (by kernel_rfl) ?_ _
      have S4 := Lib.hid (show Only (Box w 6) w6 v3 from (t3).wid (fun b hb => by first | (unfold Box; omega) | (dsimp only at hb; unfold Box; omega)))
      have O4 := Lib.hid (O3.out.trans S4.out)
      have R0_4 := Lib.hid (row_only t3 R0_3.out (by first | omega | (dsimp only; omega)))
      have R1_4 := Lib.hid (row_only t3 R1_3.out (by first | omega | (dsimp only; omega)))
      have R2_4 := Lib.hid (row_only t3 R2_3.out (by first | omega | (dsimp only; omega)))
      have R3_4 := Lib.hid (show v3.heap[w.heap.size + 1 + 1 + 1]? = some (.cells #[.slice D1 r.1.gens.length e1, .slice D2 r.1.free.length e2, .slice D3 r.1.ents.length e3] 75 (0, 0)) from rb3_3)
      have R4_4 := Lib.hid (show v3.heap[w.heap.size + 1 + 1 + 1 + 1]? = some (.cells #[.int .i64 r.2.err, .int .i64 r.2.id.index, .int .i64 r.2.id.gen] 168 (0, 0)) from rb4_3)
      have RW0_heap_size_4 := Lib.hid (row_only t3 RW0_heap_size_3.out (by have := HF1.out; have := HF2.out; have := HF2.out; first | omega | (dsimp only; omega)))
      have Rw5_heap_size_4 := Lib.hid (row_only t3 Rw5_heap_size_3.out (by have := HF1.out; have := HF2.out; have := HF2.out; first | omega | (dsimp only; omega)))
      have Rw5_heap_size_1_4 := Lib.hid (row_only t3 Rw5_heap_size_1_3.out (by have := HF1.out; have := HF2.out; have := HF2.out; first | omega | (dsimp only; omega)))
      have Vc_4 := Lib.hid (val_only Vc_3.out S4.out)
      have Vs_4 := Lib.hid (val_only Vs_3.out S4.out)
      have Va_4 := Lib.hid (val_only Va_3.out S4.out)
      have Vd_4 := Lib.hid (val_only Vd_3.out S4.out)
      have Vb_4 := Lib.hid (val_only Vb_3.out S4.out)
      have Vz_4 := Lib.hid (val_only Vz_3.out S4.out)
      clear rb3_3 rb4_3
      have q3_0 := cl3 R3_4.out
      have q4_0 := cl3 R4_4.out
      try go_wp2_with fail
      refine ⟨rfl, .tuple #[.agg #[.slice D1 r.1.gens.length e1, .slice D2 r.1.free.length e2, .slice D3 r.1.ents.length e3], .agg #[.int .i64 r.2.err, .int .i64 r.2.id.index, .int .i64 r.2.id.gen]], by simp only [results, hfr]; go_simp, ?_⟩
      clear q3_0 q4_0
      rw [HE.out]
      exact ⟨_, rfl, val_out Vz_4.out, Only.fin HB0.out O4.out⟩
  obtain ⟨hloc, hkp⟩ := hl
  rcases hf : findS a d x.id.index with _ | id
  case none =>
    have HE := Lib.hid (oneS_none (c := c) (s := s) HKD.out ⟨hloc, hkp⟩ hf)
    have HFI := Lib.hid hf
    clear hf HKD
    have R2_L := Lib.hid (show W0.heap[w.heap.size + 1 + 1]? = some (.cells #[.int .i64 x.kind, .bool true, .int .i64 x.id.index, .int .i64 x.id.gen, .int .i64 x.comp, .slice A5 x.data.length c5] 116 (0, 0)) by rw [← hloc]; exact R2_0.out)
    clear hloc
    have k1 : (W0.alloc (.cells #[.int .i64 x.id.index, .int .i64 x.id.gen] 114)).heap[w.heap.size]? = some (.cells #[.int .i64 c.log, .int .i64 c.pages, .int .i64 c.entities, .int .i64 c.gens, .slice A c.comps.length cap] 49 (0, 0)) := alloc_old (R0_0.out)
    have k1_0 := rw5 k1
    clear k1
    have k2 : (W0.alloc (.cells #[.int .i64 x.id.index, .int .i64 x.id.gen] 114)).heap[w.heap.size + 1]? = some (.cells #[.slice A1 s.gens.length c1, .slice A2 s.free.length c2, .slice A3 s.ents.length c3] 75 (0, 0)) := alloc_old (R1_0.out)
    have k2_0 := rw3 k2
    clear k2
    have k3 : (W0.alloc (.cells #[.int .i64 x.id.index, .int .i64 x.id.gen] 114)).heap[w.heap.size + 1 + 1]? = some (.cells #[.int .i64 x.kind, .bool true, .int .i64 x.id.index, .int .i64 x.id.gen, .int .i64 x.comp, .slice A5 x.data.length c5] 116 (0, 0)) := alloc_old (R2_L.out)
    have k3_0 := rw6 k3
    clear k3
    have k4 : (W0.alloc (.cells #[.int .i64 x.id.index, .int .i64 x.id.gen] 114)).heap[w.heap.size + 1 + 1 + 1]? = some (.cells #[.slice none 0 0, .slice none 0 0, .slice none 0 0] 75 (0, 0)) := alloc_old (R3_0.out)
    have k4_0 := rw3 k4
    clear k4
    have k5 : (W0.alloc (.cells #[.int .i64 x.id.index, .int .i64 x.id.gen] 114)).heap[w.heap.size + 1 + 1 + 1 + 1]? = some (.cells #[.int .i64 0, .int .i64 0, .int .i64 0] 168 (0, 0)) := alloc_old (R4_0.out)
    have k5_0 := rw3 k5
    clear k5
    have k6 : (W0.alloc (.cells #[.int .i64 x.id.index, .int .i64 x.id.gen] 114)).heap[W0.heap.size]? = some (.cells #[.int .i64 x.id.index, .int .i64 x.id.gen] 114 (0, 0)) := alloc_at rfl
    have k6_0 := rw2 k6
    clear k6
    clear hz0 hb0
    have q0_0 := rw5 R0_0.out
    have q1_0 := rw3 R1_0.out
    have q2_0 := rw6 R2_L.out
    have q3_0 := rw3 R3_0.out
    have q4_0 := rw3 R4_0.out
    go_enter Try.func102, Try.ntmps102
    go_wp2_with fail
    try rw [hW0]
    clear hW0
    try go_wp2_with fail
    clear k1_0 k2_0 k3_0 k4_0 k5_0 k6_0 q0_0 q1_0 q2_0 q3_0 q4_0
    refine nm_calls (fun w1 hnm => ?_)
    have HF1 := Lib.hid (show w.heap.size + 5 ≤ W0.heap.size by have := O0.out.size; have := HZ.out; omega)
    have S1 := Lib.hid (show Only (Box w 6) W0 w1 from (by rw [hnm]; exact (Only.refl (Box w 6) W0).alloc _))
    have O1 := Lib.hid (O0.out.trans S1.out)
    have R0_1 := Lib.hid (row_nm hnm (alloc_old (R0_0.out)))
    have R1_1 := Lib.hid (row_nm hnm (alloc_old (R1_0.out)))
    have R2_1 := Lib.hid (row_nm hnm (alloc_old (R2_L.out)))
    have R3_1 := Lib.hid (row_nm hnm (alloc_old (R3_0.out)))
    have R4_1 := Lib.hid (row_nm hnm (alloc_old (R4_0.out)))
    have RW0_heap_size_1 := Lib.hid (show w1.heap[W0.heap.size]? = some (.cells #[.int .i64 x.id.index, .int .i64 x.id.gen] 114 (0, 0)) from (by rw [hnm]; exact alloc_at rfl))
    have Vc_1 := Lib.hid (val_only Vc_0.out S1.out)
    have Vs_1 := Lib.hid (val_only Vs_0.out S1.out)
    have Va_1 := Lib.hid (val_only Va_0.out S1.out)
    have Vd_1 := Lib.hid (val_only Vd_0.out S1.out)
    have Vb_1 := Lib.hid (val_only Vb_0.out S1.out)
    have HN1 := Lib.hid (show w1.heap.size = W0.heap.size + 1 by rw [hnm]; simp)
    clear hnm
    have HZ6 := Lib.hid (show w.heap.size + 6 ≤ w1.heap.size by rw [HN1.out]; have := HZ.out; omega)
    refine (rfind15_calls Va_1.out Vd_1.out HL.out).mono ?_
    rintro e w2 ⟨rfl, hb⟩
    rw [HFI.out]
    dsimp only [Option.getD_none, Option.getD_some, Option.isSome_none, Option.isSome_some]
    have S2 := Lib.hid (show Only (Box w 6) w1 w2 from Only.of_below hb)
    have O2 := Lib.hid (O1.out.trans S2.out)
    have R0_2 := Lib.hid (row_call hb R0_1.out)
    have R1_2 := Lib.hid (row_call hb R1_1.out)
    have R2_2 := Lib.hid (row_call hb R2_1.out)
    have R3_2 := Lib.hid (row_call hb R3_1.out)
    have R4_2 := Lib.hid (row_call hb R4_1.out)
    have RW0_heap_size_2 := Lib.hid (row_call hb RW0_heap_size_1.out)
    have Vc_2 := Lib.hid (val_only Vc_1.out S2.out)
    have Vs_2 := Lib.hid (val_only Vs_1.out S2.out)
    have Va_2 := Lib.hid (val_only Va_1.out S2.out)
    have Vd_2 := Lib.hid (val_only Vd_1.out S2.out)
    have Vb_2 := Lib.hid (val_only Vb_1.out S2.out)
    clear hb
    have q0_0 := rw5 R0_2.out
    have q1_0 := rw3 R1_2.out
    have q2_0 := rw6 R2_2.out
    have q3_0 := rw3 R3_2.out
    have q4_0 := rw3 R4_2.out
    have qn0_0 := rw2 RW0_heap_size_2.out
    have d0 : ¬ w.heap.size = W0.heap.size := by have := HZ.out; omega
    have d0' : ¬ W0.heap.size = w.heap.size := by have := HZ.out; omega
    have d1 : ¬ w.heap.size + 1 = W0.heap.size := by have := HZ.out; omega
    have d1' : ¬ W0.heap.size = w.heap.size + 1 := by have := HZ.out; omega
    have d2 : ¬ w.heap.size + 1 + 1 = W0.heap.size := by have := HZ.out; omega
    have d2' : ¬ W0.heap.size = w.heap.size + 1 + 1 := by have := HZ.out; omega
    have d3 : ¬ w.heap.size + 1 + 1 + 1 = W0.heap.size := by have := HZ.out; omega
    have d3' : ¬ W0.heap.size = w.heap.size + 1 + 1 + 1 := by have := HZ.out; omega
    have d4 : ¬ w.heap.size + 1 + 1 + 1 + 1 = W0.heap.size := by have := HZ.out; omega
    have d4' : ¬ W0.heap.size = w.heap.size + 1 + 1 + 1 + 1 := by have := HZ.out; omega
    go_wp2_with fail
    clear d0 d0' d1 d1' d2 d2' d3 d3' d4 d4'
    clear q0_0 q1_0 q2_0 q3_0 q4_0 qn0_0
    refine nm_post (fun w3 hnm => ?_)
    have S3 := Lib.hid (show Only (Box w 6) w2 w3 from (by rw [hnm]; exact ((((((((Only.refl (Box w 6) w2).put ⟨by have := HZ.out; omega, by have := HZ.out; omega⟩).put ⟨by have := HZ.out; omega, by have := HZ.out; omega⟩).put ⟨by omega, by omega⟩).put ⟨by omega, by omega⟩).put ⟨by omega, by omega⟩).put ⟨by omega, by omega⟩).put ⟨by omega, by omega⟩).put ⟨by omega, by omega⟩))
    have O3 := Lib.hid (O2.out.trans S3.out)
    have R0_3 := Lib.hid (row_nm hnm (row_other (row_other (row_other (row_other (row_other (row_other (row_other (row_other (R0_2.out) (by have := HF1.out; omega)) (by have := HF1.out; omega)) (by omega)) (by omega)) (by omega)) (by omega)) (by omega)) (by omega)))
    have R1_3 := Lib.hid (row_nm hnm (row_other (row_other (row_other (row_other (row_other (row_other (row_other (row_other (R1_2.out) (by have := HF1.out; omega)) (by have := HF1.out; omega)) (by omega)) (by omega)) (by omega)) (by omega)) (by omega)) (by omega)))
    have R2_3 := Lib.hid (row_nm hnm (row_other (row_other (row_other (row_other (row_other (row_other (row_other (row_other (R2_2.out) (by have := HF1.out; omega)) (by have := HF1.out; omega)) (by omega)) (by omega)) (by omega)) (by omega)) (by omega)) (by omega)))
    have R3_3 := Lib.hid (show w3.heap[w.heap.size + 1 + 1 + 1]? = some (.cells #[.slice A1 s.gens.length c1, .slice A2 s.free.length c2, .slice A3 s.ents.length c3] 75 (0, 0)) from (by rw [hnm]; exact row_other (row_other (row_other (heap_setRow (heap_setRow (heap_setRow (row_other (row_other (R3_2.out) (by have := HF1.out; omega)) (by have := HF1.out; omega))))) (by omega)) (by omega)) (by omega)))
    have R4_3 := Lib.hid (show w3.heap[w.heap.size + 1 + 1 + 1 + 1]? = some (.cells #[.int .i64 10, .int .i64 0, .int .i64 0] 168 (0, 0)) from (by rw [hnm]; exact heap_setRow (heap_setRow (heap_setRow (row_other (row_other (row_other (row_other (row_other (R4_2.out) (by have := HF1.out; omega)) (by have := HF1.out; omega)) (by omega)) (by omega)) (by omega))))))
    have RW0_heap_size_3 := Lib.hid (show w3.heap[W0.heap.size]? = some (.cells #[.int .i64 0, .int .i64 0] 114 (0, 0)) from (by rw [hnm]; exact row_other (row_other (row_other (row_other (row_other (row_other (heap_setRow (heap_setRow (RW0_heap_size_2.out))) (by have := HF1.out; omega)) (by have := HF1.out; omega)) (by have := HF1.out; omega)) (by have := HF1.out; omega)) (by have := HF1.out; omega)) (by have := HF1.out; omega)))
    have Vc_3 := Lib.hid (val_only Vc_2.out S3.out)
    have Vs_3 := Lib.hid (val_only Vs_2.out S3.out)
    have Va_3 := Lib.hid (val_only Va_2.out S3.out)
    have Vd_3 := Lib.hid (val_only Vd_2.out S3.out)
    have Vb_3 := Lib.hid (val_only Vb_2.out S3.out)
    clear hnm
    have q3_0 := cl3 R3_3.out
    have q4_0 := cl3 R4_3.out
    refine ⟨rfl, .tuple #[.agg #[.slice A1 s.gens.length c1, .slice A2 s.free.length c2, .slice A3 s.ents.length c3], .agg #[.int .i64 10, .int .i64 0, .int .i64 0]], by simp only [results, hfr]; go_simp, ?_⟩
    clear q3_0 q4_0
    rw [HE.out]
    exact ⟨_, rfl, val_out Vs_3.out, Only.fin HB0.out O3.out⟩
  have HE := Lib.hid (oneS_some (c := c) (s := s) HKD.out ⟨hloc, hkp⟩ hf)
  have HFI := Lib.hid hf
  clear hf HKD
  have R2_L := Lib.hid (show W0.heap[w.heap.size + 1 + 1]? = some (.cells #[.int .i64 x.kind, .bool true, .int .i64 x.id.index, .int .i64 x.id.gen, .int .i64 x.comp, .slice A5 x.data.length c5] 116 (0, 0)) by rw [← hloc]; exact R2_0.out)
  clear hloc
  have k1 : (W0.alloc (.cells #[.int .i64 x.id.index, .int .i64 x.id.gen] 114)).heap[w.heap.size]? = some (.cells #[.int .i64 c.log, .int .i64 c.pages, .int .i64 c.entities, .int .i64 c.gens, .slice A c.comps.length cap] 49 (0, 0)) := alloc_old (R0_0.out)
  have k1_0 := rw5 k1
  clear k1
  have k2 : (W0.alloc (.cells #[.int .i64 x.id.index, .int .i64 x.id.gen] 114)).heap[w.heap.size + 1]? = some (.cells #[.slice A1 s.gens.length c1, .slice A2 s.free.length c2, .slice A3 s.ents.length c3] 75 (0, 0)) := alloc_old (R1_0.out)
  have k2_0 := rw3 k2
  clear k2
  have k3 : (W0.alloc (.cells #[.int .i64 x.id.index, .int .i64 x.id.gen] 114)).heap[w.heap.size + 1 + 1]? = some (.cells #[.int .i64 x.kind, .bool true, .int .i64 x.id.index, .int .i64 x.id.gen, .int .i64 x.comp, .slice A5 x.data.length c5] 116 (0, 0)) := alloc_old (R2_L.out)
  have k3_0 := rw6 k3
  clear k3
  have k4 : (W0.alloc (.cells #[.int .i64 x.id.index, .int .i64 x.id.gen] 114)).heap[w.heap.size + 1 + 1 + 1]? = some (.cells #[.slice none 0 0, .slice none 0 0, .slice none 0 0] 75 (0, 0)) := alloc_old (R3_0.out)
  have k4_0 := rw3 k4
  clear k4
  have k5 : (W0.alloc (.cells #[.int .i64 x.id.index, .int .i64 x.id.gen] 114)).heap[w.heap.size + 1 + 1 + 1 + 1]? = some (.cells #[.int .i64 0, .int .i64 0, .int .i64 0] 168 (0, 0)) := alloc_old (R4_0.out)
  have k5_0 := rw3 k5
  clear k5
  have k6 : (W0.alloc (.cells #[.int .i64 x.id.index, .int .i64 x.id.gen] 114)).heap[W0.heap.size]? = some (.cells #[.int .i64 x.id.index, .int .i64 x.id.gen] 114 (0, 0)) := alloc_at rfl
  have k6_0 := rw2 k6
  clear k6
  clear hz0 hb0
  have q0_0 := rw5 R0_0.out
  have q1_0 := rw3 R1_0.out
  have q2_0 := rw6 R2_L.out
  have q3_0 := rw3 R3_0.out
  have q4_0 := rw3 R4_0.out
  go_enter Try.func102, Try.ntmps102
  go_wp2_with fail
  try rw [hW0]
  clear hW0
  try go_wp2_with fail
  clear k1_0 k2_0 k3_0 k4_0 k5_0 k6_0 q0_0 q1_0 q2_0 q3_0 q4_0
  refine nm_calls (fun w1 hnm => ?_)
  have HF1 := Lib.hid (show w.heap.size + 5 ≤ W0.heap.size by have := O0.out.size; have := HZ.out; omega)
  have S1 := Lib.hid (show Only (Box w 6) W0 w1 from (by rw [hnm]; exact (Only.refl (Box w 6) W0).alloc _))
  have O1 := Lib.hid (O0.out.trans S1.out)
  have R0_1 := Lib.hid (row_nm hnm (alloc_old (R0_0.out)))
  have R1_1 := Lib.hid (row_nm hnm (alloc_old (R1_0.out)))
  have R2_1 := Lib.hid (row_nm hnm (alloc_old (R2_L.out)))
  have R3_1 := Lib.hid (row_nm hnm (alloc_old (R3_0.out)))
  have R4_1 := Lib.hid (row_nm hnm (alloc_old (R4_0.out)))
  have RW0_heap_size_1 := Lib.hid (show w1.heap[W0.heap.size]? = some (.cells #[.int .i64 x.id.index, .int .i64 x.id.gen] 114 (0, 0)) from (by rw [hnm]; exact alloc_at rfl))
  have Vc_1 := Lib.hid (val_only Vc_0.out S1.out)
  have Vs_1 := Lib.hid (val_only Vs_0.out S1.out)
  have Va_1 := Lib.hid (val_only Va_0.out S1.out)
  have Vd_1 := Lib.hid (val_only Vd_0.out S1.out)
  have Vb_1 := Lib.hid (val_only Vb_0.out S1.out)
  have HN1 := Lib.hid (show w1.heap.size = W0.heap.size + 1 by rw [hnm]; simp)
  clear hnm
  have HZ6 := Lib.hid (show w.heap.size + 6 ≤ w1.heap.size by rw [HN1.out]; have := HZ.out; omega)
  refine (rfind15_calls Va_1.out Vd_1.out HL.out).mono ?_
  rintro e w2 ⟨rfl, hb⟩
  rw [HFI.out]
  dsimp only [Option.getD_none, Option.getD_some, Option.isSome_none, Option.isSome_some]
  have S2 := Lib.hid (show Only (Box w 6) w1 w2 from Only.of_below hb)
  have O2 := Lib.hid (O1.out.trans S2.out)
  have R0_2 := Lib.hid (row_call hb R0_1.out)
  have R1_2 := Lib.hid (row_call hb R1_1.out)
  have R2_2 := Lib.hid (row_call hb R2_1.out)
  have R3_2 := Lib.hid (row_call hb R3_1.out)
  have R4_2 := Lib.hid (row_call hb R4_1.out)
  have RW0_heap_size_2 := Lib.hid (row_call hb RW0_heap_size_1.out)
  have Vc_2 := Lib.hid (val_only Vc_1.out S2.out)
  have Vs_2 := Lib.hid (val_only Vs_1.out S2.out)
  have Va_2 := Lib.hid (val_only Va_1.out S2.out)
  have Vd_2 := Lib.hid (val_only Vd_1.out S2.out)
  have Vb_2 := Lib.hid (val_only Vb_1.out S2.out)
  clear hb
  have q0_0 := rw5 R0_2.out
  have q1_0 := rw3 R1_2.out
  have q2_0 := rw6 R2_2.out
  have q3_0 := rw3 R3_2.out
  have q4_0 := rw3 R4_2.out
  have qn0_0 := rw2 RW0_heap_size_2.out
  have d0 : ¬ w.heap.size = W0.heap.size := by have := HZ.out; omega
  have d0' : ¬ W0.heap.size = w.heap.size := by have := HZ.out; omega
  have d1 : ¬ w.heap.size + 1 = W0.heap.size := by have := HZ.out; omega
  have d1' : ¬ W0.heap.size = w.heap.size + 1 := by have := HZ.out; omega
  have d2 : ¬ w.heap.size + 1 + 1 = W0.heap.size := by have := HZ.out; omega
  have d2' : ¬ W0.heap.size = w.heap.size + 1 + 1 := by have := HZ.out; omega
  have d3 : ¬ w.heap.size + 1 + 1 + 1 = W0.heap.size := by have := HZ.out; omega
  have d3' : ¬ W0.heap.size = w.heap.size + 1 + 1 + 1 := by have := HZ.out; omega
  have d4 : ¬ w.heap.size + 1 + 1 + 1 + 1 = W0.heap.size := by have := HZ.out; omega
  have d4' : ¬ W0.heap.size = w.heap.size + 1 + 1 + 1 + 1 := by have := HZ.out; omega
  go_wp2_with fail
  clear d0 d0' d1 d1' d2 d2' d3 d3' d4 d4'
  clear q0_0 q1_0 q2_0 q3_0 q4_0 qn0_0
  refine nm_calls (fun w4 hnm => ?_)
  have S3 := Lib.hid (show Only (Box w 6) w2 w4 from (by rw [hnm]; exact ((Only.refl (Box w 6) w2).put ⟨by have := HZ.out; omega, by have := HZ.out; omega⟩).put ⟨by have := HZ.out; omega, by have := HZ.out; omega⟩))
  have O3 := Lib.hid (O2.out.trans S3.out)
  have R0_3 := Lib.hid (row_nm hnm (row_other (row_other (R0_2.out) (by have := HF1.out; omega)) (by have := HF1.out; omega)))
  have R1_3 := Lib.hid (row_nm hnm (row_other (row_other (R1_2.out) (by have := HF1.out; omega)) (by have := HF1.out; omega)))
  have R2_3 := Lib.hid (row_nm hnm (row_other (row_other (R2_2.out) (by have := HF1.out; omega)) (by have := HF1.out; omega)))
  have R3_3 := Lib.hid (row_nm hnm (row_other (row_other (R3_2.out) (by have := HF1.out; omega)) (by have := HF1.out; omega)))
  have R4_3 := Lib.hid (row_nm hnm (row_other (row_other (R4_2.out) (by have := HF1.out; omega)) (by have := HF1.out; omega)))
  have RW0_heap_size_3 := Lib.hid (show w4.heap[W0.heap.size]? = some (.cells #[.int .i64 id.index, .int .i64 id.gen] 114 (0, 0)) from (by rw [hnm]; exact heap_setRow (heap_setRow (RW0_heap_size_2.out))))
  have Vc_3 := Lib.hid (val_only Vc_2.out S3.out)
  have Vs_3 := Lib.hid (val_only Vs_2.out S3.out)
  have Va_3 := Lib.hid (val_only Va_2.out S3.out)
  have Vd_3 := Lib.hid (val_only Vd_2.out S3.out)
  have Vb_3 := Lib.hid (val_only Vb_2.out S3.out)
  clear hnm
  obtain ⟨r, hr⟩ : ∃ r, goS c s x.kind id x.comp x.data = r := ⟨_, rfl⟩
  have HR := Lib.hid hr
  rw [hr] at HE
  clear hr
  refine (rgo11_calls (id := id) Vc_3.out Vs_3.out Vb_3.out HKW.out HOK.out HIN.out).mono ?_
  rintro e w5 ⟨z, rfl, hz, hb⟩
  rw [HR.out] at hz ⊢
  obtain ⟨D1, e1, D2, e2, D3, e3, rfl, _⟩ := rState_val hz
  have S4 := Lib.hid (show Only (Box w 6) w4 w5 from Only.of_below hb)
  have O4 := Lib.hid (O3.out.trans S4.out)
  have R0_4 := Lib.hid (row_call hb R0_3.out)
  have R1_4 := Lib.hid (row_call hb R1_3.out)
  have R2_4 := Lib.hid (row_call hb R2_3.out)
  have R3_4 := Lib.hid (row_call hb R3_3.out)
  have R4_4 := Lib.hid (row_call hb R4_3.out)
  have RW0_heap_size_4 := Lib.hid (row_call hb RW0_heap_size_3.out)
  have Vc_4 := Lib.hid (val_only Vc_3.out S4.out)
  have Vs_4 := Lib.hid (val_only Vs_3.out S4.out)
  have Va_4 := Lib.hid (val_only Va_3.out S4.out)
  have Vd_4 := Lib.hid (val_only Vd_3.out S4.out)
  have Vb_4 := Lib.hid (val_only Vb_3.out S4.out)
  have Vz_4 := Lib.hid (val_new (w := w) (n := 6) hz (by have := HZ6.out; have := S2.out.size; have := S3.out.size; omega))
  clear hb hz
  have HF3 := Lib.hid (show w.heap.size + 5 ≤ w5.heap.size by have := O4.out.size; have := HZ.out; omega)
  obtain ⟨w6, hn3⟩ : ∃ W, ((w5.alloc (.cells #[.slice D1 r.1.gens.length e1, .slice D2 r.1.free.length e2, .slice D3 r.1.ents.length e3] 75)).alloc (.cells #[.int .i64 r.2.id.index, .int .i64 r.2.id.gen] 114)) = W := ⟨_, rfl⟩
  have S5 := Lib.hid (show Only (Box w 6) w5 w6 from (by rw [← hn3]; exact ((Only.refl (Box w 6) w5).alloc _).alloc _))
  have O5 := Lib.hid (O4.out.trans S5.out)
  have R0_5 := Lib.hid (row_nm hn3.symm (alloc_old (alloc_old (R0_4.out))))
  have R1_5 := Lib.hid (row_nm hn3.symm (alloc_old (alloc_old (R1_4.out))))
  have R2_5 := Lib.hid (row_nm hn3.symm (alloc_old (alloc_old (R2_4.out))))
  have R3_5 := Lib.hid (row_nm hn3.symm (alloc_old (alloc_old (R3_4.out))))
  have R4_5 := Lib.hid (row_nm hn3.symm (alloc_old (alloc_old (R4_4.out))))
  have RW0_heap_size_5 := Lib.hid (row_nm hn3.symm (alloc_old (alloc_old (RW0_heap_size_4.out))))
  have Rw5_heap_size_5 := Lib.hid (show w6.heap[w5.heap.size]? = some (.cells #[.slice D1 r.1.gens.length e1, .slice D2 r.1.free.length e2, .slice D3 r.1.ents.length e3] 75 (0, 0)) from (by rw [← hn3]; exact alloc_old (alloc_at rfl)))
  have Rw5_heap_size_1_5 := Lib.hid (show w6.heap[w5.heap.size + 1]? = some (.cells #[.int .i64 r.2.id.index, .int .i64 r.2.id.gen] 114 (0, 0)) from (by rw [← hn3]; exact alloc_at (by simp)))
  have Vc_5 := Lib.hid (val_only Vc_4.out S5.out)
  have Vs_5 := Lib.hid (val_only Vs_4.out S5.out)
  have Va_5 := Lib.hid (val_only Va_4.out S5.out)
  have Vd_5 := Lib.hid (val_only Vd_4.out S5.out)
  have Vb_5 := Lib.hid (val_only Vb_4.out S5.out)
  have Vz_5 := Lib.hid (val_only Vz_4.out S5.out)
  have y0_0 := rw5 R0_5.out
  have y1_0 := rw3 R1_5.out
  have y2_0 := rw6 R2_5.out
  have y3_0 := rw3 R3_5.out
  have y4_0 := rw3 R4_5.out
  have yn0_0 := rw2 RW0_heap_size_5.out
  have yn1_0 := rw3 Rw5_heap_size_5.out
  have yn2_0 := rw2 Rw5_heap_size_1_5.out
  go_wp2_with fail
  try rw [hn3]
  clear hn3
  clear y0_0 y1_0 y2_0 y3_0 y4_0 yn0_0 yn1_0 yn2_0
  refine wp_region_held_drew (S := fun W => Only (fun b => b = w.heap.size + 1 + 1 + 1 ∨ b = w.heap.size + 1 + 1 + 1 + 1) w6 W) (by kernel_rfl) ((Only.refl _ _).drw) (fun s0 => ?_)
  obtain ⟨v1, hv0⟩ : ∃ V, V = w6.drew := ⟨_, rfl⟩
  rw [← hv0] at s0 ⊢
  have t1 : Only (fun b => b = w.heap.size + 1 + 1 + 1 ∨ b = w.heap.size + 1 + 1 + 1 + 1) w6 v1 := s0
  have rb3_1 : v1.heap[w.heap.size + 1 + 1 + 1]? = some (.cells #[.slice none 0 0, .slice none 0 0, .slice none 0 0] 75 (0, 0)) := by rw [hv0]; exact R3_5.out
  have rb4_1 : v1.heap[w.heap.size + 1 + 1 + 1 + 1]? = some (.cells #[.int .i64 0, .int .i64 0, .int .i64 0] 168 (0, 0)) := by rw [hv0]; exact R4_5.out
  clear hv0 s0
  refine tkH (i := 0) (v := .agg #[.slice D1 r.1.gens.length e1, .slice D2 r.1.free.length e2, .slice D3 r.1.ents.length e3]) rfl (Or.inl ⟨by rfl, fun w' h => by have e := row_only (h : Only (fun b => b = w.heap.size + 1 + 1 + 1 ∨ b = w.heap.size + 1 + 1 + 1 + 1) w6 w') Rw5_heap_size_5.out (by have := HF1.out; have := HF3.out; have := HF3.out; first | omega | (dsimp only; omega)); have e0 := cell_row e 0; have e1 := cell_row e 1; have e2 := cell_row e 2; go_simp⟩) t1 ?_
  go_simp
  refine tkHV (i := 1) (v := .int .i64 r.2.err) rfl t1 ?_
  go_simp
  refine tkH (i := 2) (v := .agg #[.int .i64 r.2.id.index, .int .i64 r.2.id.gen]) rfl (Or.inl ⟨by rfl, fun w' h => by have e := row_only (h : Only (fun b => b = w.heap.size + 1 + 1 + 1 ∨ b = w.heap.size + 1 + 1 + 1 + 1) w6 w') Rw5_heap_size_1_5.out (by have := HF1.out; have := HF3.out; have := HF3.out; first | omega | (dsimp only; omega)); have e0 := cell_row e 0; have e1 := cell_row e 1; go_simp⟩) t1 ?_
  go_simp
  refine tkHV (i := 3) (v := .agg #[.int .i64 r.2.err, .int .i64 r.2.id.index, .int .i64 r.2.id.gen]) rfl t1 ?_
  go_simp
  refine wpAnyH_all (rs := [4]) (by kernel_rfl) (by simp) ?_
  intro i hi
  obtain rfl : i = 4 := by simpa using hi
  clear hi
  refine wpOp_step rfl (fun K hK => ?_)
  go_simp
  have eb := rb3_1
  have q0 := rw3 eb
  go_simp
  refine hK _ _ ⟨(((t1).put (.inl rfl)).put (.inl rfl)).put (.inl rfl), ?_⟩
  clear hK K q0
  refine nm_any (fun v2 hnm => ?_)
  have t2 : Only (fun b => b = w.heap.size + 1 + 1 + 1 ∨ b = w.heap.size + 1 + 1 + 1 + 1) w6 v2 := by rw [hnm]; exact (((t1).put (.inl rfl)).put (.inl rfl)).put (.inl rfl)
  have rb3_2 : v2.heap[w.heap.size + 1 + 1 + 1]? = some (.cells #[.slice D1 r.1.gens.length e1, .slice D2 r.1.free.length e2, .slice D3 r.1.ents.length e3] 75 (0, 0)) := by rw [hnm]; exact heap_setRow (heap_setRow (heap_setRow (rb3_1)))
  have rb4_2 : v2.heap[w.heap.size + 1 + 1 + 1 + 1]? = some (.cells #[.int .i64 0, .int .i64 0, .int .i64 0] 168 (0, 0)) := by rw [hnm]; exact row_other (row_other (row_other (rb4_1) (by omega)) (by omega)) (by omega)
  clear hnm eb
  refine wpAnyH_all (rs := [5]) (by kernel_rfl) (by simp) ?_
  intro i hi
  obtain rfl : i = 5 := by simpa using hi
  clear hi
  refine wpOp_step rfl (fun K hK => ?_)
  go_simp
  have eb := rb4_2
  have q0 := rw3 eb
  go_simp
  refine hK _ _ ⟨(((t2).put (.inr (rfl))).put (.inr (rfl))).put (.inr (rfl)), ?_⟩
  clear hK K q0
  refine nm_any (fun v3 hnm => ?_)
  have t3 : Only (fun b => b = w.heap.size + 1 + 1 + 1 ∨ b = w.heap.size + 1 + 1 + 1 + 1) w6 v3 := by rw [hnm]; exact (((t2).put (.inr (rfl))).put (.inr (rfl))).put (.inr (rfl))
  have rb3_3 : v3.heap[w.heap.size + 1 + 1 + 1]? = some (.cells #[.slice D1 r.1.gens.length e1, .slice D2 r.1.free.length e2, .slice D3 r.1.ents.length e3] 75 (0, 0)) := by rw [hnm]; exact row_other (row_other (row_other (rb3_2) (by omega)) (by omega)) (by omega)
  have rb4_3 : v3.heap[w.heap.size + 1 + 1 + 1 + 1]? = some (.cells #[.int .i64 r.2.err, .int .i64 r.2.id.index, .int .i64 r.2.id.gen] 168 (0, 0)) := by rw [hnm]; exact heap_setRow (heap_setRow (heap_setRow (rb4_2)))
  clear hnm eb
  refine wpAnyH_done (by kernel_rfl) ?_ _
  have S6 := Lib.hid (show Only (Box w 6) w6 v3 from (t3).wid (fun b hb => by first | (unfold Box; omega) | (dsimp only at hb; unfold Box; omega)))
  have O6 := Lib.hid (O5.out.trans S6.out)
  have R0_6 := Lib.hid (row_only t3 R0_5.out (by first | omega | (dsimp only; omega)))
  have R1_6 := Lib.hid (row_only t3 R1_5.out (by first | omega | (dsimp only; omega)))
  have R2_6 := Lib.hid (row_only t3 R2_5.out (by first | omega | (dsimp only; omega)))
  have R3_6 := Lib.hid (show v3.heap[w.heap.size + 1 + 1 + 1]? = some (.cells #[.slice D1 r.1.gens.length e1, .slice D2 r.1.free.length e2, .slice D3 r.1.ents.length e3] 75 (0, 0)) from rb3_3)
  have R4_6 := Lib.hid (show v3.heap[w.heap.size + 1 + 1 + 1 + 1]? = some (.cells #[.int .i64 r.2.err, .int .i64 r.2.id.index, .int .i64 r.2.id.gen] 168 (0, 0)) from rb4_3)
  have RW0_heap_size_6 := Lib.hid (row_only t3 RW0_heap_size_5.out (by have := HF1.out; have := HF3.out; have := HF3.out; first | omega | (dsimp only; omega)))
  have Rw5_heap_size_6 := Lib.hid (row_only t3 Rw5_heap_size_5.out (by have := HF1.out; have := HF3.out; have := HF3.out; first | omega | (dsimp only; omega)))
  have Rw5_heap_size_1_6 := Lib.hid (row_only t3 Rw5_heap_size_1_5.out (by have := HF1.out; have := HF3.out; have := HF3.out; first | omega | (dsimp only; omega)))
  have Vc_6 := Lib.hid (val_only Vc_5.out S6.out)
  have Vs_6 := Lib.hid (val_only Vs_5.out S6.out)
  have Va_6 := Lib.hid (val_only Va_5.out S6.out)
  have Vd_6 := Lib.hid (val_only Vd_5.out S6.out)
  have Vb_6 := Lib.hid (val_only Vb_5.out S6.out)
  have Vz_6 := Lib.hid (val_only Vz_5.out S6.out)
  clear rb3_3 rb4_3
  have q3_0 := cl3 R3_6.out
  have q4_0 := cl3 R4_6.out
  try go_wp2_with fail
  refine ⟨rfl, .tuple #[.agg #[.slice D1 r.1.gens.length e1, .slice D2 r.1.free.length e2, .slice D3 r.1.ents.length e3], .agg #[.int .i64 r.2.err, .int .i64 r.2.id.index, .int .i64 r.2.id.gen]], by simp only [results, hfr]; go_simp, ?_⟩
  clear q3_0 q4_0
  rw [HE.out]
  exact ⟨_, rfl, val_out Vz_6.out, Only.fin HB0.out O6.out⟩
end Go.Proofs.Yteljibjbndpncaa
