/- Texts on which the proofs stand: CPlain. No condition is laid on any input. -/
import Derived.Test.YtejibngkeaamkaaGreatDoorCoG5
namespace Go.Proofs.YtejibngkeaamkaaGreatDoor
open Go.RowKit

set_option maxRecDepth 100000 in
set_option maxHeartbeats 1500000 in
/-- cmd.Plain, of a command that is known -/
theorem cplain_calls {Q : Nat → Prop} {w : World} {v : Value} {x : DCmd} (hx : rCmd.val Q w v x) (hk : knownB x.kind = true) (hd : x.data.length ≤ 1000000) :
    Calls Tryz.prog 57 #[v] w (Res rCmd (fun b => w.heap.size ≤ b) w (plainC x)) := by
  have hfr : Tryz.f57.results = #[.cell 2 29] := rfl
  obtain ⟨Ad, cd, rfl, f0, f1, f2, f3, hs⟩ := rCmd_val hx
  have HSL := Lib.hid hs.val
  have HF := Lib.hid (And.intro f0 (And.intro f1 (And.intro f2 f3)))
  have HK := Lib.hid hk
  have HD := Lib.hid hd
  have h4 : x.kind = 0 ∨ x.kind = 1 ∨ x.kind = 2 ∨ x.kind = 3 := by
    have := hk
    unfold knownB at this
    simp at this
    omega
  clear hx hs f0 f1 f2 f3 hk hd
  cases hl : x.loc
  case false =>
    have HL := Lib.hid hl
    clear hl
    rcases h4 with h | h | h | h
    · have HKK := Lib.hid h
      have b2 : (x.kind == 2) = false := by simp [h]
      have b3 : (x.kind == 3) = false := by simp [h]
      have b1 : (x.kind == 1) = false := by simp [h]
      clear h
      obtain ⟨W0, hW0⟩ : ∃ W, ((w.alloc (.cells #[.int .i64 x.kind, .bool false, .int .i64 x.id.index, .int .i64 x.id.gen, .int .i64 x.comp, .slice Ad x.data.length cd] 29)).alloc (.cells #[.int .i64 0, .bool false, .int .i64 0, .int .i64 0, .int .i64 0, .slice none 0 0] 29)) = W := ⟨_, rfl⟩
      have hz0 : W0.heap.size = w.heap.size + 2 := by rw [← hW0]; simp
      have hb0 : Below w.heap.size w W0 := by rw [← hW0]; exact ((Below.refl _ _).alloc (Nat.le_refl _) _).alloc (by first | (simp; done) | (simp; omega)) _
      have HZ := Lib.hid hz0
      have HB0 := Lib.hid hb0
      have R0_0 := Lib.hid (show W0.heap[w.heap.size]? = some (.cells #[.int .i64 x.kind, .bool false, .int .i64 x.id.index, .int .i64 x.id.gen, .int .i64 x.comp, .slice Ad x.data.length cd] 29 (0, 0)) by rw [← hW0]; exact alloc_old (alloc_at rfl))
      have R1_0 := Lib.hid (show W0.heap[w.heap.size + 1]? = some (.cells #[.int .i64 0, .bool false, .int .i64 0, .int .i64 0, .int .i64 0, .slice none 0 0] 29 (0, 0)) by rw [← hW0]; exact alloc_at (by simp))
      have O0 := Lib.hid (Only.refl (Box w 3) W0)
      clear hz0 hb0
      have q0_0 := cell_row R0_0.out 0
      have z0_0 := frozen_row R0_0.out 0
      have q0_1 := cell_row R0_0.out 1
      have z0_1 := frozen_row R0_0.out 1
      have q0_2 := cell_row R0_0.out 2
      have z0_2 := frozen_row R0_0.out 2
      have q0_3 := cell_row R0_0.out 3
      have z0_3 := frozen_row R0_0.out 3
      have q0_4 := cell_row R0_0.out 4
      have z0_4 := frozen_row R0_0.out 4
      have q0_5 := cell_row R0_0.out 5
      have z0_5 := frozen_row R0_0.out 5
      have q1_0 := cell_row R1_0.out 0
      have z1_0 := frozen_row R1_0.out 0
      have q1_1 := cell_row R1_0.out 1
      have z1_1 := frozen_row R1_0.out 1
      have q1_2 := cell_row R1_0.out 2
      have z1_2 := frozen_row R1_0.out 2
      have q1_3 := cell_row R1_0.out 3
      have z1_3 := frozen_row R1_0.out 3
      have q1_4 := cell_row R1_0.out 4
      have z1_4 := frozen_row R1_0.out 4
      have q1_5 := cell_row R1_0.out 5
      have z1_5 := frozen_row R1_0.out 5
      go_enter Tryz.func57, Tryz.ntmps57
      go_wp2_with fail
      try rw [hW0]
      clear hW0
      try go_wp2_with fail
      clear q0_0 z0_0 q0_1 z0_1 q0_2 z0_2 q0_3 z0_3 q0_4 z0_4 q0_5 z0_5 q1_0 z1_0 q1_1 z1_1 q1_2 z1_2 q1_3 z1_3 q1_4 z1_4 q1_5 z1_5
      refine (known_calls _ _).mono ?_
      rintro e w1 ⟨rfl, rfl⟩
      rw [HK.out]
      have q0_0 := cell_row R0_0.out 0
      have z0_0 := frozen_row R0_0.out 0
      have q0_1 := cell_row R0_0.out 1
      have z0_1 := frozen_row R0_0.out 1
      have q0_2 := cell_row R0_0.out 2
      have z0_2 := frozen_row R0_0.out 2
      have q0_3 := cell_row R0_0.out 3
      have z0_3 := frozen_row R0_0.out 3
      have q0_4 := cell_row R0_0.out 4
      have z0_4 := frozen_row R0_0.out 4
      have q0_5 := cell_row R0_0.out 5
      have z0_5 := frozen_row R0_0.out 5
      have q1_0 := cell_row R1_0.out 0
      have z1_0 := frozen_row R1_0.out 0
      have q1_1 := cell_row R1_0.out 1
      have z1_1 := frozen_row R1_0.out 1
      have q1_2 := cell_row R1_0.out 2
      have z1_2 := frozen_row R1_0.out 2
      have q1_3 := cell_row R1_0.out 3
      have z1_3 := frozen_row R1_0.out 3
      have q1_4 := cell_row R1_0.out 4
      have z1_4 := frozen_row R1_0.out 4
      have q1_5 := cell_row R1_0.out 5
      have z1_5 := frozen_row R1_0.out 5
      go_wp2_with (with_reducible refine stopLoad 3 16 rfl ?_)
      refine Lib.hid ?_
      clear q0_0 z0_0 q0_1 z0_1 q0_2 z0_2 q0_3 z0_3 q0_4 z0_4 q0_5 z0_5 q1_0 z1_0 q1_1 z1_1 q1_2 z1_2 q1_3 z1_3 q1_4 z1_4 q1_5 z1_5
      rw [show w1.heap.size = w.heap.size + 1 + 1 by have := HZ.out; omega]
      refine nm_list (fun V1 hnm => ?_)
      have S1 := Lib.hid (show Only (Box w 3) w1 V1 from (by rw [hnm]; exact (Only.refl (Box w 3) w1).alloc _))
      have O1 := Lib.hid (O0.out.trans S1.out)
      have R0_1 := Lib.hid (show V1.heap[w.heap.size]? = some (.cells #[.int .i64 x.kind, .bool false, .int .i64 x.id.index, .int .i64 x.id.gen, .int .i64 x.comp, .slice Ad x.data.length cd] 29 (0, 0)) from (by rw [hnm]; exact alloc_old (R0_0.out)))
      have R1_1 := Lib.hid (show V1.heap[w.heap.size + 1]? = some (.cells #[.int .i64 0, .bool false, .int .i64 0, .int .i64 0, .int .i64 0, .slice none 0 0] 29 (0, 0)) from (by rw [hnm]; exact alloc_old (R1_0.out)))
      have R2_1 := Lib.hid (show V1.heap[w.heap.size + 1 + 1]? = some (.cells #[.int .i64 x.kind, .bool false, .int .i64 0, .int .i64 0, .int .i64 0, .slice none 0 0] 29 (0, 0)) from (by rw [hnm]; exact alloc_at (by have := HZ.out; first | omega | (simp <;> omega))))
      clear hnm
      have q0_0 := cell_row R0_1.out 0
      have z0_0 := frozen_row R0_1.out 0
      have q0_1 := cell_row R0_1.out 1
      have z0_1 := frozen_row R0_1.out 1
      have q0_2 := cell_row R0_1.out 2
      have z0_2 := frozen_row R0_1.out 2
      have q0_3 := cell_row R0_1.out 3
      have z0_3 := frozen_row R0_1.out 3
      have q0_4 := cell_row R0_1.out 4
      have z0_4 := frozen_row R0_1.out 4
      have q0_5 := cell_row R0_1.out 5
      have z0_5 := frozen_row R0_1.out 5
      have q1_0 := cell_row R1_1.out 0
      have z1_0 := frozen_row R1_1.out 0
      have q1_1 := cell_row R1_1.out 1
      have z1_1 := frozen_row R1_1.out 1
      have q1_2 := cell_row R1_1.out 2
      have z1_2 := frozen_row R1_1.out 2
      have q1_3 := cell_row R1_1.out 3
      have z1_3 := frozen_row R1_1.out 3
      have q1_4 := cell_row R1_1.out 4
      have z1_4 := frozen_row R1_1.out 4
      have q1_5 := cell_row R1_1.out 5
      have z1_5 := frozen_row R1_1.out 5
      have q2_0 := cell_row R2_1.out 0
      have z2_0 := frozen_row R2_1.out 0
      have q2_1 := cell_row R2_1.out 1
      have z2_1 := frozen_row R2_1.out 1
      have q2_2 := cell_row R2_1.out 2
      have z2_2 := frozen_row R2_1.out 2
      have q2_3 := cell_row R2_1.out 3
      have z2_3 := frozen_row R2_1.out 3
      have q2_4 := cell_row R2_1.out 4
      have z2_4 := frozen_row R2_1.out 4
      have q2_5 := cell_row R2_1.out 5
      have z2_5 := frozen_row R2_1.out 5
      go_wp2_with fail
      clear q0_0 z0_0 q0_1 z0_1 q0_2 z0_2 q0_3 z0_3 q0_4 z0_4 q0_5 z0_5 q1_0 z1_0 q1_1 z1_1 q1_2 z1_2 q1_3 z1_3 q1_4 z1_4 q1_5 z1_5 q2_0 z2_0 q2_1 z2_1 q2_2 z2_2 q2_3 z2_3 q2_4 z2_4 q2_5 z2_5
      refine nm_post (fun V9 hnm => ?_)
      have S2 := Lib.hid (show Only (Box w 3) V1 V9 from (by rw [hnm]; exact ((((((Only.refl (Box w 3) V1).put ⟨by omega, by omega⟩).put ⟨by omega, by omega⟩).put ⟨by omega, by omega⟩).put ⟨by omega, by omega⟩).put ⟨by omega, by omega⟩).put ⟨by omega, by omega⟩))
      have O2 := Lib.hid (O1.out.trans S2.out)
      have R0_2 := Lib.hid (show V9.heap[w.heap.size]? = some (.cells #[.int .i64 x.kind, .bool false, .int .i64 x.id.index, .int .i64 x.id.gen, .int .i64 x.comp, .slice Ad x.data.length cd] 29 (0, 0)) from (by rw [hnm]; exact row_other (row_other (row_other (row_other (row_other (row_other (R0_1.out) (by omega)) (by omega)) (by omega)) (by omega)) (by omega)) (by omega)))
      have R1_2 := Lib.hid (show V9.heap[w.heap.size + 1]? = some (.cells #[.int .i64 x.kind, .bool false, .int .i64 0, .int .i64 0, .int .i64 0, .slice none 0 0] 29 (0, 0)) from (by rw [hnm]; exact heap_setList (heap_setList (heap_setList (heap_setList (heap_setList (heap_setList (R1_1.out))))))))
      have R2_2 := Lib.hid (show V9.heap[w.heap.size + 1 + 1]? = some (.cells #[.int .i64 x.kind, .bool false, .int .i64 0, .int .i64 0, .int .i64 0, .slice none 0 0] 29 (0, 0)) from (by rw [hnm]; exact row_other (row_other (row_other (row_other (row_other (row_other (R2_1.out) (by omega)) (by omega)) (by omega)) (by omega)) (by omega)) (by omega)))
      clear hnm
      have q1_0 := cell_row R1_2.out 0
      have q1_1 := cell_row R1_2.out 1
      have q1_2 := cell_row R1_2.out 2
      have q1_3 := cell_row R1_2.out 3
      have q1_4 := cell_row R1_2.out 4
      have q1_5 := cell_row R1_2.out 5
      refine ⟨rfl, .agg #[.int .i64 x.kind, .bool false, .int .i64 0, .int .i64 0, .int .i64 0, .slice none 0 0], by simp only [results, hfr]; go_simp, ?_⟩
      clear q1_0 q1_1 q1_2 q1_3 q1_4 q1_5
      have HP := Lib.hid (show plainC x = ⟨x.kind, false, ⟨0, 0⟩, 0, []⟩ by unfold plainC; rw [if_pos HK.out]; simp [HKK.out])
      exact ⟨_, rfl, by rw [HP.out]; exact cmd_bare (x := ⟨x.kind, false, ⟨0, 0⟩, 0, []⟩) HF.out.1 wf0 wf0 wf0 rfl, Only.fin HB0.out O2.out⟩
    · have HKK := Lib.hid h
      have b2 : (x.kind == 2) = false := by simp [h]
      have b3 : (x.kind == 3) = false := by simp [h]
      have b1 : (x.kind == 1) = true := by simp [h]
      clear h
      obtain ⟨W0, hW0⟩ : ∃ W, ((w.alloc (.cells #[.int .i64 x.kind, .bool false, .int .i64 x.id.index, .int .i64 x.id.gen, .int .i64 x.comp, .slice Ad x.data.length cd] 29)).alloc (.cells #[.int .i64 0, .bool false, .int .i64 0, .int .i64 0, .int .i64 0, .slice none 0 0] 29)) = W := ⟨_, rfl⟩
      have hz0 : W0.heap.size = w.heap.size + 2 := by rw [← hW0]; simp
      have hb0 : Below w.heap.size w W0 := by rw [← hW0]; exact ((Below.refl _ _).alloc (Nat.le_refl _) _).alloc (by first | (simp; done) | (simp; omega)) _
      have HZ := Lib.hid hz0
      have HB0 := Lib.hid hb0
      have R0_0 := Lib.hid (show W0.heap[w.heap.size]? = some (.cells #[.int .i64 x.kind, .bool false, .int .i64 x.id.index, .int .i64 x.id.gen, .int .i64 x.comp, .slice Ad x.data.length cd] 29 (0, 0)) by rw [← hW0]; exact alloc_old (alloc_at rfl))
      have R1_0 := Lib.hid (show W0.heap[w.heap.size + 1]? = some (.cells #[.int .i64 0, .bool false, .int .i64 0, .int .i64 0, .int .i64 0, .slice none 0 0] 29 (0, 0)) by rw [← hW0]; exact alloc_at (by simp))
      have O0 := Lib.hid (Only.refl (Box w 3) W0)
      clear hz0 hb0
      have q0_0 := cell_row R0_0.out 0
      have z0_0 := frozen_row R0_0.out 0
      have q0_1 := cell_row R0_0.out 1
      have z0_1 := frozen_row R0_0.out 1
      have q0_2 := cell_row R0_0.out 2
      have z0_2 := frozen_row R0_0.out 2
      have q0_3 := cell_row R0_0.out 3
      have z0_3 := frozen_row R0_0.out 3
      have q0_4 := cell_row R0_0.out 4
      have z0_4 := frozen_row R0_0.out 4
      have q0_5 := cell_row R0_0.out 5
      have z0_5 := frozen_row R0_0.out 5
      have q1_0 := cell_row R1_0.out 0
      have z1_0 := frozen_row R1_0.out 0
      have q1_1 := cell_row R1_0.out 1
      have z1_1 := frozen_row R1_0.out 1
      have q1_2 := cell_row R1_0.out 2
      have z1_2 := frozen_row R1_0.out 2
      have q1_3 := cell_row R1_0.out 3
      have z1_3 := frozen_row R1_0.out 3
      have q1_4 := cell_row R1_0.out 4
      have z1_4 := frozen_row R1_0.out 4
      have q1_5 := cell_row R1_0.out 5
      have z1_5 := frozen_row R1_0.out 5
      go_enter Tryz.func57, Tryz.ntmps57
      go_wp2_with fail
      try rw [hW0]
      clear hW0
      try go_wp2_with fail
      clear q0_0 z0_0 q0_1 z0_1 q0_2 z0_2 q0_3 z0_3 q0_4 z0_4 q0_5 z0_5 q1_0 z1_0 q1_1 z1_1 q1_2 z1_2 q1_3 z1_3 q1_4 z1_4 q1_5 z1_5
      refine (known_calls _ _).mono ?_
      rintro e w1 ⟨rfl, rfl⟩
      rw [HK.out]
      have q0_0 := cell_row R0_0.out 0
      have z0_0 := frozen_row R0_0.out 0
      have q0_1 := cell_row R0_0.out 1
      have z0_1 := frozen_row R0_0.out 1
      have q0_2 := cell_row R0_0.out 2
      have z0_2 := frozen_row R0_0.out 2
      have q0_3 := cell_row R0_0.out 3
      have z0_3 := frozen_row R0_0.out 3
      have q0_4 := cell_row R0_0.out 4
      have z0_4 := frozen_row R0_0.out 4
      have q0_5 := cell_row R0_0.out 5
      have z0_5 := frozen_row R0_0.out 5
      have q1_0 := cell_row R1_0.out 0
      have z1_0 := frozen_row R1_0.out 0
      have q1_1 := cell_row R1_0.out 1
      have z1_1 := frozen_row R1_0.out 1
      have q1_2 := cell_row R1_0.out 2
      have z1_2 := frozen_row R1_0.out 2
      have q1_3 := cell_row R1_0.out 3
      have z1_3 := frozen_row R1_0.out 3
      have q1_4 := cell_row R1_0.out 4
      have z1_4 := frozen_row R1_0.out 4
      have q1_5 := cell_row R1_0.out 5
      have z1_5 := frozen_row R1_0.out 5
      go_wp2_with (with_reducible refine stopLoad 3 16 rfl ?_)
      refine Lib.hid ?_
      clear q0_0 z0_0 q0_1 z0_1 q0_2 z0_2 q0_3 z0_3 q0_4 z0_4 q0_5 z0_5 q1_0 z1_0 q1_1 z1_1 q1_2 z1_2 q1_3 z1_3 q1_4 z1_4 q1_5 z1_5
      rw [show w1.heap.size = w.heap.size + 1 + 1 by have := HZ.out; omega]
      refine nm_list (fun V1 hnm => ?_)
      have S1 := Lib.hid (show Only (Box w 3) w1 V1 from (by rw [hnm]; exact (Only.refl (Box w 3) w1).alloc _))
      have O1 := Lib.hid (O0.out.trans S1.out)
      have R0_1 := Lib.hid (show V1.heap[w.heap.size]? = some (.cells #[.int .i64 x.kind, .bool false, .int .i64 x.id.index, .int .i64 x.id.gen, .int .i64 x.comp, .slice Ad x.data.length cd] 29 (0, 0)) from (by rw [hnm]; exact alloc_old (R0_0.out)))
      have R1_1 := Lib.hid (show V1.heap[w.heap.size + 1]? = some (.cells #[.int .i64 0, .bool false, .int .i64 0, .int .i64 0, .int .i64 0, .slice none 0 0] 29 (0, 0)) from (by rw [hnm]; exact alloc_old (R1_0.out)))
      have R2_1 := Lib.hid (show V1.heap[w.heap.size + 1 + 1]? = some (.cells #[.int .i64 x.kind, .bool false, .int .i64 0, .int .i64 0, .int .i64 0, .slice none 0 0] 29 (0, 0)) from (by rw [hnm]; exact alloc_at (by have := HZ.out; first | omega | (simp <;> omega))))
      clear hnm
      have q0_0 := cell_row R0_1.out 0
      have z0_0 := frozen_row R0_1.out 0
      have q0_1 := cell_row R0_1.out 1
      have z0_1 := frozen_row R0_1.out 1
      have q0_2 := cell_row R0_1.out 2
      have z0_2 := frozen_row R0_1.out 2
      have q0_3 := cell_row R0_1.out 3
      have z0_3 := frozen_row R0_1.out 3
      have q0_4 := cell_row R0_1.out 4
      have z0_4 := frozen_row R0_1.out 4
      have q0_5 := cell_row R0_1.out 5
      have z0_5 := frozen_row R0_1.out 5
      have q1_0 := cell_row R1_1.out 0
      have z1_0 := frozen_row R1_1.out 0
      have q1_1 := cell_row R1_1.out 1
      have z1_1 := frozen_row R1_1.out 1
      have q1_2 := cell_row R1_1.out 2
      have z1_2 := frozen_row R1_1.out 2
      have q1_3 := cell_row R1_1.out 3
      have z1_3 := frozen_row R1_1.out 3
      have q1_4 := cell_row R1_1.out 4
      have z1_4 := frozen_row R1_1.out 4
      have q1_5 := cell_row R1_1.out 5
      have z1_5 := frozen_row R1_1.out 5
      have q2_0 := cell_row R2_1.out 0
      have z2_0 := frozen_row R2_1.out 0
      have q2_1 := cell_row R2_1.out 1
      have z2_1 := frozen_row R2_1.out 1
      have q2_2 := cell_row R2_1.out 2
      have z2_2 := frozen_row R2_1.out 2
      have q2_3 := cell_row R2_1.out 3
      have z2_3 := frozen_row R2_1.out 3
      have q2_4 := cell_row R2_1.out 4
      have z2_4 := frozen_row R2_1.out 4
      have q2_5 := cell_row R2_1.out 5
      have z2_5 := frozen_row R2_1.out 5
      go_wp2_with fail
      clear q0_0 z0_0 q0_1 z0_1 q0_2 z0_2 q0_3 z0_3 q0_4 z0_4 q0_5 z0_5 q1_0 z1_0 q1_1 z1_1 q1_2 z1_2 q1_3 z1_3 q1_4 z1_4 q1_5 z1_5 q2_0 z2_0 q2_1 z2_1 q2_2 z2_2 q2_3 z2_3 q2_4 z2_4 q2_5 z2_5
      refine wp_region_held_drew (S := fun W => Only (fun b => b = w.heap.size + 1 + 1) V1 W) (by kernel_rfl) ((Only.refl _ _).drw) (fun s0 => ?_)
      obtain ⟨v1, hv0⟩ : ∃ V, V = V1.drew := ⟨_, rfl⟩
      rw [← hv0] at s0 ⊢
      have t1 : Only (fun b => b = w.heap.size + 1 + 1) V1 v1 := s0
      have rb2_1 : v1.heap[w.heap.size + 1 + 1]? = some (.cells #[.int .i64 x.kind, .bool false, .int .i64 0, .int .i64 0, .int .i64 0, .slice none 0 0] 29 (0, 0)) := by rw [hv0]; exact R2_1.out
      clear hv0 s0
      refine wpAnyH_take (i := 0) (v := .pointer (some ⟨w.heap.size, 1, none⟩)) rfl (by kernel_rfl) (by kernel_rfl) (by kernel_rfl) (fun _ _ _ h => h) (Or.inl ⟨by rfl, fun w' _ => by go_simp <;> omega⟩) t1 ?_
      go_simp
      refine wpAnyH_take (i := 1) (v := .bool false) rfl (by kernel_rfl) (by kernel_rfl) (by kernel_rfl) (fun _ _ _ h => h) (Or.inl ⟨by rfl, fun w' h => by have e := row_only (h : Only (fun b => b = w.heap.size + 1 + 1) V1 w') R0_1.out (by first | omega | (dsimp only; omega)); have e0 := cell_row e 0; have e1 := cell_row e 1; have e2 := cell_row e 2; have e3 := cell_row e 3; have e4 := cell_row e 4; have e5 := cell_row e 5; go_simp⟩) t1 ?_
      go_simp
      refine wpAnyH_take (i := 2) (v := .pointer (some ⟨w.heap.size, 2, none⟩)) rfl (by kernel_rfl) (by kernel_rfl) (by kernel_rfl) (fun _ _ _ h => h) (Or.inl ⟨by rfl, fun w' _ => by go_simp <;> omega⟩) t1 ?_
      go_simp
      refine wpAnyH_take (i := 3) (v := .agg #[.int .i64 x.id.index, .int .i64 x.id.gen]) rfl (by kernel_rfl) (by kernel_rfl) (by kernel_rfl) (fun _ _ _ h => h) (Or.inl ⟨by rfl, fun w' h => by have e := row_only (h : Only (fun b => b = w.heap.size + 1 + 1) V1 w') R0_1.out (by first | omega | (dsimp only; omega)); have e0 := cell_row e 0; have e1 := cell_row e 1; have e2 := cell_row e 2; have e3 := cell_row e 3; have e4 := cell_row e 4; have e5 := cell_row e 5; go_simp⟩) t1 ?_
      go_simp
      refine wpAnyH_take (i := 4) (v := .pointer (some ⟨w.heap.size + 1 + 1, 1, none⟩)) rfl (by kernel_rfl) (by kernel_rfl) (by kernel_rfl) (fun _ _ _ h => h) (Or.inl ⟨by rfl, fun w' _ => by go_simp <;> omega⟩) t1 ?_
      go_simp
      refine wpAnyH_all (rs := [5]) (by kernel_rfl) (by simp) ?_
      intro i hi
      obtain rfl : i = 5 := by simpa using hi
      clear hi
      refine wpOp_step rfl (fun K hK => ?_)
      go_simp
      have eb := rb2_1
      have q0 := cell_row eb 0
      have z0 := frozen_row eb 0
      have q1 := cell_row eb 1
      have z1 := frozen_row eb 1
      have q2 := cell_row eb 2
      have z2 := frozen_row eb 2
      have q3 := cell_row eb 3
      have z3 := frozen_row eb 3
      have q4 := cell_row eb 4
      have z4 := frozen_row eb 4
      have q5 := cell_row eb 5
      have z5 := frozen_row eb 5
      go_simp
      refine hK _ _ ⟨(t1).put rfl, ?_⟩
      clear hK K q0 z0 q1 z1 q2 z2 q3 z3 q4 z4 q5 z5
      refine nm_any (fun v2 hnm => ?_)
      have t2 : Only (fun b => b = w.heap.size + 1 + 1) V1 v2 := by rw [hnm]; exact (t1).put rfl
      have rb2_2 : v2.heap[w.heap.size + 1 + 1]? = some (.cells #[.int .i64 x.kind, .bool false, .int .i64 0, .int .i64 0, .int .i64 0, .slice none 0 0] 29 (0, 0)) := by rw [hnm]; exact heap_setList (rb2_1)
      clear hnm eb
      refine wpAnyH_take (i := 6) (v := .pointer (some ⟨w.heap.size + 1 + 1, 2, none⟩)) rfl (by kernel_rfl) (by kernel_rfl) (by kernel_rfl) (fun _ _ _ h => h) (Or.inl ⟨by rfl, fun w' _ => by go_simp <;> omega⟩) t2 ?_
      go_simp
      refine wpAnyH_all (rs := [7]) (by kernel_rfl) (by simp) ?_
      intro i hi
      obtain rfl : i = 7 := by simpa using hi
      clear hi
      refine wpOp_step rfl (fun K hK => ?_)
      go_simp
      have eb := rb2_2
      have q0 := cell_row eb 0
      have z0 := frozen_row eb 0
      have q1 := cell_row eb 1
      have z1 := frozen_row eb 1
      have q2 := cell_row eb 2
      have z2 := frozen_row eb 2
      have q3 := cell_row eb 3
      have z3 := frozen_row eb 3
      have q4 := cell_row eb 4
      have z4 := frozen_row eb 4
      have q5 := cell_row eb 5
      have z5 := frozen_row eb 5
      go_simp
      refine hK _ _ ⟨((t2).put rfl).put rfl, ?_⟩
      clear hK K q0 z0 q1 z1 q2 z2 q3 z3 q4 z4 q5 z5
      refine nm_any (fun v3 hnm => ?_)
      have t3 : Only (fun b => b = w.heap.size + 1 + 1) V1 v3 := by rw [hnm]; exact ((t2).put rfl).put rfl
      have rb2_3 : v3.heap[w.heap.size + 1 + 1]? = some (.cells #[.int .i64 x.kind, .bool false, .int .i64 x.id.index, .int .i64 x.id.gen, .int .i64 0, .slice none 0 0] 29 (0, 0)) := by rw [hnm]; exact heap_setList (heap_setList (rb2_2))
      clear hnm eb
      refine wpAnyH_done (by kernel_rfl) ?_ _
      have S2 := Lib.hid (show Only (Box w 3) V1 v3 from (t3).wid (fun b hb => by first | (unfold Box; omega) | (dsimp only at hb; unfold Box; omega)))
      have O2 := Lib.hid (O1.out.trans S2.out)
      have R0_2 := Lib.hid (show v3.heap[w.heap.size]? = some (.cells #[.int .i64 x.kind, .bool false, .int .i64 x.id.index, .int .i64 x.id.gen, .int .i64 x.comp, .slice Ad x.data.length cd] 29 (0, 0)) from row_only t3 R0_1.out (by first | omega | (dsimp only; omega)))
      have R1_2 := Lib.hid (show v3.heap[w.heap.size + 1]? = some (.cells #[.int .i64 0, .bool false, .int .i64 0, .int .i64 0, .int .i64 0, .slice none 0 0] 29 (0, 0)) from row_only t3 R1_1.out (by first | omega | (dsimp only; omega)))
      have R2_2 := Lib.hid (show v3.heap[w.heap.size + 1 + 1]? = some (.cells #[.int .i64 x.kind, .bool false, .int .i64 x.id.index, .int .i64 x.id.gen, .int .i64 0, .slice none 0 0] 29 (0, 0)) from rb2_3)
      clear rb2_3
      have q0_0 := cell_row R0_2.out 0
      have z0_0 := frozen_row R0_2.out 0
      have q0_1 := cell_row R0_2.out 1
      have z0_1 := frozen_row R0_2.out 1
      have q0_2 := cell_row R0_2.out 2
      have z0_2 := frozen_row R0_2.out 2
      have q0_3 := cell_row R0_2.out 3
      have z0_3 := frozen_row R0_2.out 3
      have q0_4 := cell_row R0_2.out 4
      have z0_4 := frozen_row R0_2.out 4
      have q0_5 := cell_row R0_2.out 5
      have z0_5 := frozen_row R0_2.out 5
      have q1_0 := cell_row R1_2.out 0
      have z1_0 := frozen_row R1_2.out 0
      have q1_1 := cell_row R1_2.out 1
      have z1_1 := frozen_row R1_2.out 1
      have q1_2 := cell_row R1_2.out 2
      have z1_2 := frozen_row R1_2.out 2
      have q1_3 := cell_row R1_2.out 3
      have z1_3 := frozen_row R1_2.out 3
      have q1_4 := cell_row R1_2.out 4
      have z1_4 := frozen_row R1_2.out 4
      have q1_5 := cell_row R1_2.out 5
      have z1_5 := frozen_row R1_2.out 5
      have q2_0 := cell_row R2_2.out 0
      have z2_0 := frozen_row R2_2.out 0
      have q2_1 := cell_row R2_2.out 1
      have z2_1 := frozen_row R2_2.out 1
      have q2_2 := cell_row R2_2.out 2
      have z2_2 := frozen_row R2_2.out 2
      have q2_3 := cell_row R2_2.out 3
      have z2_3 := frozen_row R2_2.out 3
      have q2_4 := cell_row R2_2.out 4
      have z2_4 := frozen_row R2_2.out 4
      have q2_5 := cell_row R2_2.out 5
      have z2_5 := frozen_row R2_2.out 5
      go_wp2_with fail
      clear q0_0 z0_0 q0_1 z0_1 q0_2 z0_2 q0_3 z0_3 q0_4 z0_4 q0_5 z0_5 q1_0 z1_0 q1_1 z1_1 q1_2 z1_2 q1_3 z1_3 q1_4 z1_4 q1_5 z1_5 q2_0 z2_0 q2_1 z2_1 q2_2 z2_2 q2_3 z2_3 q2_4 z2_4 q2_5 z2_5
      refine nm_post (fun V9 hnm => ?_)
      have S3 := Lib.hid (show Only (Box w 3) v3 V9 from (by rw [hnm]; exact ((((((Only.refl (Box w 3) v3).put ⟨by omega, by omega⟩).put ⟨by omega, by omega⟩).put ⟨by omega, by omega⟩).put ⟨by omega, by omega⟩).put ⟨by omega, by omega⟩).put ⟨by omega, by omega⟩))
      have O3 := Lib.hid (O2.out.trans S3.out)
      have R0_3 := Lib.hid (show V9.heap[w.heap.size]? = some (.cells #[.int .i64 x.kind, .bool false, .int .i64 x.id.index, .int .i64 x.id.gen, .int .i64 x.comp, .slice Ad x.data.length cd] 29 (0, 0)) from (by rw [hnm]; exact row_other (row_other (row_other (row_other (row_other (row_other (R0_2.out) (by omega)) (by omega)) (by omega)) (by omega)) (by omega)) (by omega)))
      have R1_3 := Lib.hid (show V9.heap[w.heap.size + 1]? = some (.cells #[.int .i64 x.kind, .bool false, .int .i64 x.id.index, .int .i64 x.id.gen, .int .i64 0, .slice none 0 0] 29 (0, 0)) from (by rw [hnm]; exact heap_setList (heap_setList (heap_setList (heap_setList (heap_setList (heap_setList (R1_2.out))))))))
      have R2_3 := Lib.hid (show V9.heap[w.heap.size + 1 + 1]? = some (.cells #[.int .i64 x.kind, .bool false, .int .i64 x.id.index, .int .i64 x.id.gen, .int .i64 0, .slice none 0 0] 29 (0, 0)) from (by rw [hnm]; exact row_other (row_other (row_other (row_other (row_other (row_other (R2_2.out) (by omega)) (by omega)) (by omega)) (by omega)) (by omega)) (by omega)))
      clear hnm
      have q1_0 := cell_row R1_3.out 0
      have q1_1 := cell_row R1_3.out 1
      have q1_2 := cell_row R1_3.out 2
      have q1_3 := cell_row R1_3.out 3
      have q1_4 := cell_row R1_3.out 4
      have q1_5 := cell_row R1_3.out 5
      refine ⟨rfl, .agg #[.int .i64 x.kind, .bool false, .int .i64 x.id.index, .int .i64 x.id.gen, .int .i64 0, .slice none 0 0], by simp only [results, hfr]; go_simp, ?_⟩
      clear q1_0 q1_1 q1_2 q1_3 q1_4 q1_5
      have HP := Lib.hid (show plainC x = ⟨x.kind, false, ⟨x.id.index, x.id.gen⟩, 0, []⟩ by unfold plainC; rw [if_pos HK.out]; simp [HKK.out, HL.out])
      exact ⟨_, rfl, by rw [HP.out]; exact cmd_bare (x := ⟨x.kind, false, ⟨x.id.index, x.id.gen⟩, 0, []⟩) HF.out.1 HF.out.2.1 HF.out.2.2.1 wf0 rfl, Only.fin HB0.out O3.out⟩
    · have HKK := Lib.hid h
      have b2 : (x.kind == 2) = true := by simp [h]
      have b3 : (x.kind == 3) = false := by simp [h]
      have b1 : (x.kind == 1) = false := by simp [h]
      clear h
      obtain ⟨W0, hW0⟩ : ∃ W, ((w.alloc (.cells #[.int .i64 x.kind, .bool false, .int .i64 x.id.index, .int .i64 x.id.gen, .int .i64 x.comp, .slice Ad x.data.length cd] 29)).alloc (.cells #[.int .i64 0, .bool false, .int .i64 0, .int .i64 0, .int .i64 0, .slice none 0 0] 29)) = W := ⟨_, rfl⟩
      have hz0 : W0.heap.size = w.heap.size + 2 := by rw [← hW0]; simp
      have hb0 : Below w.heap.size w W0 := by rw [← hW0]; exact ((Below.refl _ _).alloc (Nat.le_refl _) _).alloc (by first | (simp; done) | (simp; omega)) _
      have HZ := Lib.hid hz0
      have HB0 := Lib.hid hb0
      have R0_0 := Lib.hid (show W0.heap[w.heap.size]? = some (.cells #[.int .i64 x.kind, .bool false, .int .i64 x.id.index, .int .i64 x.id.gen, .int .i64 x.comp, .slice Ad x.data.length cd] 29 (0, 0)) by rw [← hW0]; exact alloc_old (alloc_at rfl))
      have R1_0 := Lib.hid (show W0.heap[w.heap.size + 1]? = some (.cells #[.int .i64 0, .bool false, .int .i64 0, .int .i64 0, .int .i64 0, .slice none 0 0] 29 (0, 0)) by rw [← hW0]; exact alloc_at (by simp))
      have O0 := Lib.hid (Only.refl (Box w 3) W0)
      have Vd_0 := Lib.hid (show Rep.byte.list.val (In Q w 3) W0 (.slice Ad x.data.length cd) x.data from val_in HSL.out hb0)
      clear hz0 hb0
      have q0_0 := cell_row R0_0.out 0
      have z0_0 := frozen_row R0_0.out 0
      have q0_1 := cell_row R0_0.out 1
      have z0_1 := frozen_row R0_0.out 1
      have q0_2 := cell_row R0_0.out 2
      have z0_2 := frozen_row R0_0.out 2
      have q0_3 := cell_row R0_0.out 3
      have z0_3 := frozen_row R0_0.out 3
      have q0_4 := cell_row R0_0.out 4
      have z0_4 := frozen_row R0_0.out 4
      have q0_5 := cell_row R0_0.out 5
      have z0_5 := frozen_row R0_0.out 5
      have q1_0 := cell_row R1_0.out 0
      have z1_0 := frozen_row R1_0.out 0
      have q1_1 := cell_row R1_0.out 1
      have z1_1 := frozen_row R1_0.out 1
      have q1_2 := cell_row R1_0.out 2
      have z1_2 := frozen_row R1_0.out 2
      have q1_3 := cell_row R1_0.out 3
      have z1_3 := frozen_row R1_0.out 3
      have q1_4 := cell_row R1_0.out 4
      have z1_4 := frozen_row R1_0.out 4
      have q1_5 := cell_row R1_0.out 5
      have z1_5 := frozen_row R1_0.out 5
      go_enter Tryz.func57, Tryz.ntmps57
      go_wp2_with fail
      try rw [hW0]
      clear hW0
      try go_wp2_with fail
      clear q0_0 z0_0 q0_1 z0_1 q0_2 z0_2 q0_3 z0_3 q0_4 z0_4 q0_5 z0_5 q1_0 z1_0 q1_1 z1_1 q1_2 z1_2 q1_3 z1_3 q1_4 z1_4 q1_5 z1_5
      refine (known_calls _ _).mono ?_
      rintro e w1 ⟨rfl, rfl⟩
      rw [HK.out]
      have q0_0 := cell_row R0_0.out 0
      have z0_0 := frozen_row R0_0.out 0
      have q0_1 := cell_row R0_0.out 1
      have z0_1 := frozen_row R0_0.out 1
      have q0_2 := cell_row R0_0.out 2
      have z0_2 := frozen_row R0_0.out 2
      have q0_3 := cell_row R0_0.out 3
      have z0_3 := frozen_row R0_0.out 3
      have q0_4 := cell_row R0_0.out 4
      have z0_4 := frozen_row R0_0.out 4
      have q0_5 := cell_row R0_0.out 5
      have z0_5 := frozen_row R0_0.out 5
      have q1_0 := cell_row R1_0.out 0
      have z1_0 := frozen_row R1_0.out 0
      have q1_1 := cell_row R1_0.out 1
      have z1_1 := frozen_row R1_0.out 1
      have q1_2 := cell_row R1_0.out 2
      have z1_2 := frozen_row R1_0.out 2
      have q1_3 := cell_row R1_0.out 3
      have z1_3 := frozen_row R1_0.out 3
      have q1_4 := cell_row R1_0.out 4
      have z1_4 := frozen_row R1_0.out 4
      have q1_5 := cell_row R1_0.out 5
      have z1_5 := frozen_row R1_0.out 5
      go_wp2_with (with_reducible refine stopLoad 3 16 rfl ?_)
      refine Lib.hid ?_
      clear q0_0 z0_0 q0_1 z0_1 q0_2 z0_2 q0_3 z0_3 q0_4 z0_4 q0_5 z0_5 q1_0 z1_0 q1_1 z1_1 q1_2 z1_2 q1_3 z1_3 q1_4 z1_4 q1_5 z1_5
      rw [show w1.heap.size = w.heap.size + 1 + 1 by have := HZ.out; omega]
      refine nm_list (fun V1 hnm => ?_)
      have S1 := Lib.hid (show Only (Box w 3) w1 V1 from (by rw [hnm]; exact (Only.refl (Box w 3) w1).alloc _))
      have O1 := Lib.hid (O0.out.trans S1.out)
      have R0_1 := Lib.hid (show V1.heap[w.heap.size]? = some (.cells #[.int .i64 x.kind, .bool false, .int .i64 x.id.index, .int .i64 x.id.gen, .int .i64 x.comp, .slice Ad x.data.length cd] 29 (0, 0)) from (by rw [hnm]; exact alloc_old (R0_0.out)))
      have R1_1 := Lib.hid (show V1.heap[w.heap.size + 1]? = some (.cells #[.int .i64 0, .bool false, .int .i64 0, .int .i64 0, .int .i64 0, .slice none 0 0] 29 (0, 0)) from (by rw [hnm]; exact alloc_old (R1_0.out)))
      have R2_1 := Lib.hid (show V1.heap[w.heap.size + 1 + 1]? = some (.cells #[.int .i64 x.kind, .bool false, .int .i64 0, .int .i64 0, .int .i64 0, .slice none 0 0] 29 (0, 0)) from (by rw [hnm]; exact alloc_at (by have := HZ.out; first | omega | (simp <;> omega))))
      have Vd_1 := Lib.hid (val_only Vd_0.out S1.out)
      clear hnm
      have q0_0 := cell_row R0_1.out 0
      have z0_0 := frozen_row R0_1.out 0
      have q0_1 := cell_row R0_1.out 1
      have z0_1 := frozen_row R0_1.out 1
      have q0_2 := cell_row R0_1.out 2
      have z0_2 := frozen_row R0_1.out 2
      have q0_3 := cell_row R0_1.out 3
      have z0_3 := frozen_row R0_1.out 3
      have q0_4 := cell_row R0_1.out 4
      have z0_4 := frozen_row R0_1.out 4
      have q0_5 := cell_row R0_1.out 5
      have z0_5 := frozen_row R0_1.out 5
      have q1_0 := cell_row R1_1.out 0
      have z1_0 := frozen_row R1_1.out 0
      have q1_1 := cell_row R1_1.out 1
      have z1_1 := frozen_row R1_1.out 1
      have q1_2 := cell_row R1_1.out 2
      have z1_2 := frozen_row R1_1.out 2
      have q1_3 := cell_row R1_1.out 3
      have z1_3 := frozen_row R1_1.out 3
      have q1_4 := cell_row R1_1.out 4
      have z1_4 := frozen_row R1_1.out 4
      have q1_5 := cell_row R1_1.out 5
      have z1_5 := frozen_row R1_1.out 5
      have q2_0 := cell_row R2_1.out 0
      have z2_0 := frozen_row R2_1.out 0
      have q2_1 := cell_row R2_1.out 1
      have z2_1 := frozen_row R2_1.out 1
      have q2_2 := cell_row R2_1.out 2
      have z2_2 := frozen_row R2_1.out 2
      have q2_3 := cell_row R2_1.out 3
      have z2_3 := frozen_row R2_1.out 3
      have q2_4 := cell_row R2_1.out 4
      have z2_4 := frozen_row R2_1.out 4
      have q2_5 := cell_row R2_1.out 5
      have z2_5 := frozen_row R2_1.out 5
      go_wp2_with fail
      clear q0_0 z0_0 q0_1 z0_1 q0_2 z0_2 q0_3 z0_3 q0_4 z0_4 q0_5 z0_5 q1_0 z1_0 q1_1 z1_1 q1_2 z1_2 q1_3 z1_3 q1_4 z1_4 q1_5 z1_5 q2_0 z2_0 q2_1 z2_1 q2_2 z2_2 q2_3 z2_3 q2_4 z2_4 q2_5 z2_5
      refine (bytesClone Vd_1.out (by have := HD.out; omega)).mono ?_
      rintro e w2 ⟨vd, rfl, hvd, hb⟩
      have S2 := Lib.hid (show Only (Box w 3) V1 w2 from Only.of_below hb)
      have O2 := Lib.hid (O1.out.trans S2.out)
      have R0_2 := Lib.hid (show w2.heap[w.heap.size]? = some (.cells #[.int .i64 x.kind, .bool false, .int .i64 x.id.index, .int .i64 x.id.gen, .int .i64 x.comp, .slice Ad x.data.length cd] 29 (0, 0)) from row_call hb R0_1.out)
      have R1_2 := Lib.hid (show w2.heap[w.heap.size + 1]? = some (.cells #[.int .i64 0, .bool false, .int .i64 0, .int .i64 0, .int .i64 0, .slice none 0 0] 29 (0, 0)) from row_call hb R1_1.out)
      have R2_2 := Lib.hid (show w2.heap[w.heap.size + 1 + 1]? = some (.cells #[.int .i64 x.kind, .bool false, .int .i64 0, .int .i64 0, .int .i64 0, .slice none 0 0] 29 (0, 0)) from row_call hb R2_1.out)
      have Vd_2 := Lib.hid (val_only Vd_1.out S2.out)
      have Ve_2 := Lib.hid (val_fresh (Q := fun _ => False) (w := w) (n := 3) hvd (by have := O1.out.size; have := HZ.out; have := Below.size hb; have h9 := (Array.getElem?_eq_some_iff.1 R2_1.out).1; omega))
      obtain ⟨Bd, dd, rfl, hsl⟩ := Rep.val_sl hvd
      clear hvd hb hsl
      have q0_0 := cell_row R0_2.out 0
      have z0_0 := frozen_row R0_2.out 0
      have q0_1 := cell_row R0_2.out 1
      have z0_1 := frozen_row R0_2.out 1
      have q0_2 := cell_row R0_2.out 2
      have z0_2 := frozen_row R0_2.out 2
      have q0_3 := cell_row R0_2.out 3
      have z0_3 := frozen_row R0_2.out 3
      have q0_4 := cell_row R0_2.out 4
      have z0_4 := frozen_row R0_2.out 4
      have q0_5 := cell_row R0_2.out 5
      have z0_5 := frozen_row R0_2.out 5
      have q1_0 := cell_row R1_2.out 0
      have z1_0 := frozen_row R1_2.out 0
      have q1_1 := cell_row R1_2.out 1
      have z1_1 := frozen_row R1_2.out 1
      have q1_2 := cell_row R1_2.out 2
      have z1_2 := frozen_row R1_2.out 2
      have q1_3 := cell_row R1_2.out 3
      have z1_3 := frozen_row R1_2.out 3
      have q1_4 := cell_row R1_2.out 4
      have z1_4 := frozen_row R1_2.out 4
      have q1_5 := cell_row R1_2.out 5
      have z1_5 := frozen_row R1_2.out 5
      have q2_0 := cell_row R2_2.out 0
      have z2_0 := frozen_row R2_2.out 0
      have q2_1 := cell_row R2_2.out 1
      have z2_1 := frozen_row R2_2.out 1
      have q2_2 := cell_row R2_2.out 2
      have z2_2 := frozen_row R2_2.out 2
      have q2_3 := cell_row R2_2.out 3
      have z2_3 := frozen_row R2_2.out 3
      have q2_4 := cell_row R2_2.out 4
      have z2_4 := frozen_row R2_2.out 4
      have q2_5 := cell_row R2_2.out 5
      have z2_5 := frozen_row R2_2.out 5
      go_wp2_with fail
      clear q0_0 z0_0 q0_1 z0_1 q0_2 z0_2 q0_3 z0_3 q0_4 z0_4 q0_5 z0_5 q1_0 z1_0 q1_1 z1_1 q1_2 z1_2 q1_3 z1_3 q1_4 z1_4 q1_5 z1_5 q2_0 z2_0 q2_1 z2_1 q2_2 z2_2 q2_3 z2_3 q2_4 z2_4 q2_5 z2_5
      refine nm_region (fun V3 hnm => ?_)
      have S3 := Lib.hid (show Only (Box w 3) w2 V3 from (by rw [hnm]; exact ((Only.refl (Box w 3) w2).put ⟨by omega, by omega⟩).put ⟨by omega, by omega⟩))
      have O3 := Lib.hid (O2.out.trans S3.out)
      have R0_3 := Lib.hid (show V3.heap[w.heap.size]? = some (.cells #[.int .i64 x.kind, .bool false, .int .i64 x.id.index, .int .i64 x.id.gen, .int .i64 x.comp, .slice Ad x.data.length cd] 29 (0, 0)) from (by rw [hnm]; exact row_other (row_other (R0_2.out) (by omega)) (by omega)))
      have R1_3 := Lib.hid (show V3.heap[w.heap.size + 1]? = some (.cells #[.int .i64 0, .bool false, .int .i64 0, .int .i64 0, .int .i64 0, .slice none 0 0] 29 (0, 0)) from (by rw [hnm]; exact row_other (row_other (R1_2.out) (by omega)) (by omega)))
      have R2_3 := Lib.hid (show V3.heap[w.heap.size + 1 + 1]? = some (.cells #[.int .i64 x.kind, .bool false, .int .i64 0, .int .i64 0, .int .i64 x.comp, .slice Bd x.data.length dd] 29 (0, 0)) from (by rw [hnm]; exact heap_setList (heap_setList (R2_2.out))))
      have Vd_3 := Lib.hid (val_only Vd_2.out S3.out)
      have Ve_3 := Lib.hid (val_only Ve_2.out S3.out)
      clear hnm
      refine wp_region_held_drew (S := fun W => Only (fun b => b = w.heap.size + 1 + 1) V3 W) (by kernel_rfl) ((Only.refl _ _).drw) (fun s0 => ?_)
      obtain ⟨v1, hv0⟩ : ∃ V, V = V3.drew := ⟨_, rfl⟩
      rw [← hv0] at s0 ⊢
      have t1 : Only (fun b => b = w.heap.size + 1 + 1) V3 v1 := s0
      have rb2_1 : v1.heap[w.heap.size + 1 + 1]? = some (.cells #[.int .i64 x.kind, .bool false, .int .i64 0, .int .i64 0, .int .i64 x.comp, .slice Bd x.data.length dd] 29 (0, 0)) := by rw [hv0]; exact R2_3.out
      clear hv0 s0
      refine wpAnyH_take (i := 0) (v := .pointer (some ⟨w.heap.size, 1, none⟩)) rfl (by kernel_rfl) (by kernel_rfl) (by kernel_rfl) (fun _ _ _ h => h) (Or.inl ⟨by rfl, fun w' _ => by go_simp <;> omega⟩) t1 ?_
      go_simp
      refine wpAnyH_take (i := 1) (v := .bool false) rfl (by kernel_rfl) (by kernel_rfl) (by kernel_rfl) (fun _ _ _ h => h) (Or.inl ⟨by rfl, fun w' h => by have e := row_only (h : Only (fun b => b = w.heap.size + 1 + 1) V3 w') R0_3.out (by first | omega | (dsimp only; omega)); have e0 := cell_row e 0; have e1 := cell_row e 1; have e2 := cell_row e 2; have e3 := cell_row e 3; have e4 := cell_row e 4; have e5 := cell_row e 5; go_simp⟩) t1 ?_
      go_simp
      refine wpAnyH_take (i := 2) (v := .pointer (some ⟨w.heap.size, 2, none⟩)) rfl (by kernel_rfl) (by kernel_rfl) (by kernel_rfl) (fun _ _ _ h => h) (Or.inl ⟨by rfl, fun w' _ => by go_simp <;> omega⟩) t1 ?_
      go_simp
      refine wpAnyH_take (i := 3) (v := .agg #[.int .i64 x.id.index, .int .i64 x.id.gen]) rfl (by kernel_rfl) (by kernel_rfl) (by kernel_rfl) (fun _ _ _ h => h) (Or.inl ⟨by rfl, fun w' h => by have e := row_only (h : Only (fun b => b = w.heap.size + 1 + 1) V3 w') R0_3.out (by first | omega | (dsimp only; omega)); have e0 := cell_row e 0; have e1 := cell_row e 1; have e2 := cell_row e 2; have e3 := cell_row e 3; have e4 := cell_row e 4; have e5 := cell_row e 5; go_simp⟩) t1 ?_
      go_simp
      refine wpAnyH_take (i := 4) (v := .pointer (some ⟨w.heap.size + 1 + 1, 1, none⟩)) rfl (by kernel_rfl) (by kernel_rfl) (by kernel_rfl) (fun _ _ _ h => h) (Or.inl ⟨by rfl, fun w' _ => by go_simp <;> omega⟩) t1 ?_
      go_simp
      refine wpAnyH_all (rs := [5]) (by kernel_rfl) (by simp) ?_
      intro i hi
      obtain rfl : i = 5 := by simpa using hi
      clear hi
      refine wpOp_step rfl (fun K hK => ?_)
      go_simp
      have eb := rb2_1
      have q0 := cell_row eb 0
      have z0 := frozen_row eb 0
      have q1 := cell_row eb 1
      have z1 := frozen_row eb 1
      have q2 := cell_row eb 2
      have z2 := frozen_row eb 2
      have q3 := cell_row eb 3
      have z3 := frozen_row eb 3
      have q4 := cell_row eb 4
      have z4 := frozen_row eb 4
      have q5 := cell_row eb 5
      have z5 := frozen_row eb 5
      go_simp
      refine hK _ _ ⟨(t1).put rfl, ?_⟩
      clear hK K q0 z0 q1 z1 q2 z2 q3 z3 q4 z4 q5 z5
      refine nm_any (fun v2 hnm => ?_)
      have t2 : Only (fun b => b = w.heap.size + 1 + 1) V3 v2 := by rw [hnm]; exact (t1).put rfl
      have rb2_2 : v2.heap[w.heap.size + 1 + 1]? = some (.cells #[.int .i64 x.kind, .bool false, .int .i64 0, .int .i64 0, .int .i64 x.comp, .slice Bd x.data.length dd] 29 (0, 0)) := by rw [hnm]; exact heap_setList (rb2_1)
      clear hnm eb
      refine wpAnyH_take (i := 6) (v := .pointer (some ⟨w.heap.size + 1 + 1, 2, none⟩)) rfl (by kernel_rfl) (by kernel_rfl) (by kernel_rfl) (fun _ _ _ h => h) (Or.inl ⟨by rfl, fun w' _ => by go_simp <;> omega⟩) t2 ?_
      go_simp
      refine wpAnyH_all (rs := [7]) (by kernel_rfl) (by simp) ?_
      intro i hi
      obtain rfl : i = 7 := by simpa using hi
      clear hi
      refine wpOp_step rfl (fun K hK => ?_)
      go_simp
      have eb := rb2_2
      have q0 := cell_row eb 0
      have z0 := frozen_row eb 0
      have q1 := cell_row eb 1
      have z1 := frozen_row eb 1
      have q2 := cell_row eb 2
      have z2 := frozen_row eb 2
      have q3 := cell_row eb 3
      have z3 := frozen_row eb 3
      have q4 := cell_row eb 4
      have z4 := frozen_row eb 4
      have q5 := cell_row eb 5
      have z5 := frozen_row eb 5
      go_simp
      refine hK _ _ ⟨((t2).put rfl).put rfl, ?_⟩
      clear hK K q0 z0 q1 z1 q2 z2 q3 z3 q4 z4 q5 z5
      refine nm_any (fun v3 hnm => ?_)
      have t3 : Only (fun b => b = w.heap.size + 1 + 1) V3 v3 := by rw [hnm]; exact ((t2).put rfl).put rfl
      have rb2_3 : v3.heap[w.heap.size + 1 + 1]? = some (.cells #[.int .i64 x.kind, .bool false, .int .i64 x.id.index, .int .i64 x.id.gen, .int .i64 x.comp, .slice Bd x.data.length dd] 29 (0, 0)) := by rw [hnm]; exact heap_setList (heap_setList (rb2_2))
      clear hnm eb
      refine wpAnyH_done (by kernel_rfl) ?_ _
      have S4 := Lib.hid (show Only (Box w 3) V3 v3 from (t3).wid (fun b hb => by first | (unfold Box; omega) | (dsimp only at hb; unfold Box; omega)))
      have O4 := Lib.hid (O3.out.trans S4.out)
      have R0_4 := Lib.hid (show v3.heap[w.heap.size]? = some (.cells #[.int .i64 x.kind, .bool false, .int .i64 x.id.index, .int .i64 x.id.gen, .int .i64 x.comp, .slice Ad x.data.length cd] 29 (0, 0)) from row_only t3 R0_3.out (by first | omega | (dsimp only; omega)))
      have R1_4 := Lib.hid (show v3.heap[w.heap.size + 1]? = some (.cells #[.int .i64 0, .bool false, .int .i64 0, .int .i64 0, .int .i64 0, .slice none 0 0] 29 (0, 0)) from row_only t3 R1_3.out (by first | omega | (dsimp only; omega)))
      have R2_4 := Lib.hid (show v3.heap[w.heap.size + 1 + 1]? = some (.cells #[.int .i64 x.kind, .bool false, .int .i64 x.id.index, .int .i64 x.id.gen, .int .i64 x.comp, .slice Bd x.data.length dd] 29 (0, 0)) from rb2_3)
      have Vd_4 := Lib.hid (val_only Vd_3.out S4.out)
      have Ve_4 := Lib.hid (val_only Ve_3.out S4.out)
      clear rb2_3
      have q0_0 := cell_row R0_4.out 0
      have z0_0 := frozen_row R0_4.out 0
      have q0_1 := cell_row R0_4.out 1
      have z0_1 := frozen_row R0_4.out 1
      have q0_2 := cell_row R0_4.out 2
      have z0_2 := frozen_row R0_4.out 2
      have q0_3 := cell_row R0_4.out 3
      have z0_3 := frozen_row R0_4.out 3
      have q0_4 := cell_row R0_4.out 4
      have z0_4 := frozen_row R0_4.out 4
      have q0_5 := cell_row R0_4.out 5
      have z0_5 := frozen_row R0_4.out 5
      have q1_0 := cell_row R1_4.out 0
      have z1_0 := frozen_row R1_4.out 0
      have q1_1 := cell_row R1_4.out 1
      have z1_1 := frozen_row R1_4.out 1
      have q1_2 := cell_row R1_4.out 2
      have z1_2 := frozen_row R1_4.out 2
      have q1_3 := cell_row R1_4.out 3
      have z1_3 := frozen_row R1_4.out 3
      have q1_4 := cell_row R1_4.out 4
      have z1_4 := frozen_row R1_4.out 4
      have q1_5 := cell_row R1_4.out 5
      have z1_5 := frozen_row R1_4.out 5
      have q2_0 := cell_row R2_4.out 0
      have z2_0 := frozen_row R2_4.out 0
      have q2_1 := cell_row R2_4.out 1
      have z2_1 := frozen_row R2_4.out 1
      have q2_2 := cell_row R2_4.out 2
      have z2_2 := frozen_row R2_4.out 2
      have q2_3 := cell_row R2_4.out 3
      have z2_3 := frozen_row R2_4.out 3
      have q2_4 := cell_row R2_4.out 4
      have z2_4 := frozen_row R2_4.out 4
      have q2_5 := cell_row R2_4.out 5
      have z2_5 := frozen_row R2_4.out 5
      go_wp2_with fail
      clear q0_0 z0_0 q0_1 z0_1 q0_2 z0_2 q0_3 z0_3 q0_4 z0_4 q0_5 z0_5 q1_0 z1_0 q1_1 z1_1 q1_2 z1_2 q1_3 z1_3 q1_4 z1_4 q1_5 z1_5 q2_0 z2_0 q2_1 z2_1 q2_2 z2_2 q2_3 z2_3 q2_4 z2_4 q2_5 z2_5
      refine nm_post (fun V9 hnm => ?_)
      have S5 := Lib.hid (show Only (Box w 3) v3 V9 from (by rw [hnm]; exact ((((((Only.refl (Box w 3) v3).put ⟨by omega, by omega⟩).put ⟨by omega, by omega⟩).put ⟨by omega, by omega⟩).put ⟨by omega, by omega⟩).put ⟨by omega, by omega⟩).put ⟨by omega, by omega⟩))
      have O5 := Lib.hid (O4.out.trans S5.out)
      have R0_5 := Lib.hid (show V9.heap[w.heap.size]? = some (.cells #[.int .i64 x.kind, .bool false, .int .i64 x.id.index, .int .i64 x.id.gen, .int .i64 x.comp, .slice Ad x.data.length cd] 29 (0, 0)) from (by rw [hnm]; exact row_other (row_other (row_other (row_other (row_other (row_other (R0_4.out) (by omega)) (by omega)) (by omega)) (by omega)) (by omega)) (by omega)))
      have R1_5 := Lib.hid (show V9.heap[w.heap.size + 1]? = some (.cells #[.int .i64 x.kind, .bool false, .int .i64 x.id.index, .int .i64 x.id.gen, .int .i64 x.comp, .slice Bd x.data.length dd] 29 (0, 0)) from (by rw [hnm]; exact heap_setList (heap_setList (heap_setList (heap_setList (heap_setList (heap_setList (R1_4.out))))))))
      have R2_5 := Lib.hid (show V9.heap[w.heap.size + 1 + 1]? = some (.cells #[.int .i64 x.kind, .bool false, .int .i64 x.id.index, .int .i64 x.id.gen, .int .i64 x.comp, .slice Bd x.data.length dd] 29 (0, 0)) from (by rw [hnm]; exact row_other (row_other (row_other (row_other (row_other (row_other (R2_4.out) (by omega)) (by omega)) (by omega)) (by omega)) (by omega)) (by omega)))
      have Vd_5 := Lib.hid (val_only Vd_4.out S5.out)
      have Ve_5 := Lib.hid (val_only Ve_4.out S5.out)
      clear hnm
      have q1_0 := cell_row R1_5.out 0
      have q1_1 := cell_row R1_5.out 1
      have q1_2 := cell_row R1_5.out 2
      have q1_3 := cell_row R1_5.out 3
      have q1_4 := cell_row R1_5.out 4
      have q1_5 := cell_row R1_5.out 5
      refine ⟨rfl, .agg #[.int .i64 x.kind, .bool false, .int .i64 x.id.index, .int .i64 x.id.gen, .int .i64 x.comp, .slice Bd x.data.length dd], by simp only [results, hfr]; go_simp, ?_⟩
      clear q1_0 q1_1 q1_2 q1_3 q1_4 q1_5
      have HP := Lib.hid (show plainC x = ⟨x.kind, false, ⟨x.id.index, x.id.gen⟩, x.comp, x.data⟩ by unfold plainC; rw [if_pos HK.out]; simp [HKK.out, HL.out])
      exact ⟨_, rfl, by rw [HP.out]; exact rCmd_agg (x := ⟨x.kind, false, ⟨x.id.index, x.id.gen⟩, x.comp, x.data⟩) HF.out.1 HF.out.2.1 HF.out.2.2.1 HF.out.2.2.2 (sl_of (Rep.val_mono (fun b hb _ => by rcases hb with h | h; exact absurd h.1 id; omega) Ve_5.out)), Only.fin HB0.out O5.out⟩
    · have HKK := Lib.hid h
      have b2 : (x.kind == 2) = false := by simp [h]
      have b3 : (x.kind == 3) = true := by simp [h]
      have b1 : (x.kind == 1) = false := by simp [h]
      clear h
      obtain ⟨W0, hW0⟩ : ∃ W, ((w.alloc (.cells #[.int .i64 x.kind, .bool false, .int .i64 x.id.index, .int .i64 x.id.gen, .int .i64 x.comp, .slice Ad x.data.length cd] 29)).alloc (.cells #[.int .i64 0, .bool false, .int .i64 0, .int .i64 0, .int .i64 0, .slice none 0 0] 29)) = W := ⟨_, rfl⟩
      have hz0 : W0.heap.size = w.heap.size + 2 := by rw [← hW0]; simp
      have hb0 : Below w.heap.size w W0 := by rw [← hW0]; exact ((Below.refl _ _).alloc (Nat.le_refl _) _).alloc (by first | (simp; done) | (simp; omega)) _
      have HZ := Lib.hid hz0
      have HB0 := Lib.hid hb0
      have R0_0 := Lib.hid (show W0.heap[w.heap.size]? = some (.cells #[.int .i64 x.kind, .bool false, .int .i64 x.id.index, .int .i64 x.id.gen, .int .i64 x.comp, .slice Ad x.data.length cd] 29 (0, 0)) by rw [← hW0]; exact alloc_old (alloc_at rfl))
      have R1_0 := Lib.hid (show W0.heap[w.heap.size + 1]? = some (.cells #[.int .i64 0, .bool false, .int .i64 0, .int .i64 0, .int .i64 0, .slice none 0 0] 29 (0, 0)) by rw [← hW0]; exact alloc_at (by simp))
      have O0 := Lib.hid (Only.refl (Box w 3) W0)
      clear hz0 hb0
      have q0_0 := cell_row R0_0.out 0
      have z0_0 := frozen_row R0_0.out 0
      have q0_1 := cell_row R0_0.out 1
      have z0_1 := frozen_row R0_0.out 1
      have q0_2 := cell_row R0_0.out 2
      have z0_2 := frozen_row R0_0.out 2
      have q0_3 := cell_row R0_0.out 3
      have z0_3 := frozen_row R0_0.out 3
      have q0_4 := cell_row R0_0.out 4
      have z0_4 := frozen_row R0_0.out 4
      have q0_5 := cell_row R0_0.out 5
      have z0_5 := frozen_row R0_0.out 5
      have q1_0 := cell_row R1_0.out 0
      have z1_0 := frozen_row R1_0.out 0
      have q1_1 := cell_row R1_0.out 1
      have z1_1 := frozen_row R1_0.out 1
      have q1_2 := cell_row R1_0.out 2
      have z1_2 := frozen_row R1_0.out 2
      have q1_3 := cell_row R1_0.out 3
      have z1_3 := frozen_row R1_0.out 3
      have q1_4 := cell_row R1_0.out 4
      have z1_4 := frozen_row R1_0.out 4
      have q1_5 := cell_row R1_0.out 5
      have z1_5 := frozen_row R1_0.out 5
      go_enter Tryz.func57, Tryz.ntmps57
      go_wp2_with fail
      try rw [hW0]
      clear hW0
      try go_wp2_with fail
      clear q0_0 z0_0 q0_1 z0_1 q0_2 z0_2 q0_3 z0_3 q0_4 z0_4 q0_5 z0_5 q1_0 z1_0 q1_1 z1_1 q1_2 z1_2 q1_3 z1_3 q1_4 z1_4 q1_5 z1_5
      refine (known_calls _ _).mono ?_
      rintro e w1 ⟨rfl, rfl⟩
      rw [HK.out]
      have q0_0 := cell_row R0_0.out 0
      have z0_0 := frozen_row R0_0.out 0
      have q0_1 := cell_row R0_0.out 1
      have z0_1 := frozen_row R0_0.out 1
      have q0_2 := cell_row R0_0.out 2
      have z0_2 := frozen_row R0_0.out 2
      have q0_3 := cell_row R0_0.out 3
      have z0_3 := frozen_row R0_0.out 3
      have q0_4 := cell_row R0_0.out 4
      have z0_4 := frozen_row R0_0.out 4
      have q0_5 := cell_row R0_0.out 5
      have z0_5 := frozen_row R0_0.out 5
      have q1_0 := cell_row R1_0.out 0
      have z1_0 := frozen_row R1_0.out 0
      have q1_1 := cell_row R1_0.out 1
      have z1_1 := frozen_row R1_0.out 1
      have q1_2 := cell_row R1_0.out 2
      have z1_2 := frozen_row R1_0.out 2
      have q1_3 := cell_row R1_0.out 3
      have z1_3 := frozen_row R1_0.out 3
      have q1_4 := cell_row R1_0.out 4
      have z1_4 := frozen_row R1_0.out 4
      have q1_5 := cell_row R1_0.out 5
      have z1_5 := frozen_row R1_0.out 5
      go_wp2_with (with_reducible refine stopLoad 3 16 rfl ?_)
      refine Lib.hid ?_
      clear q0_0 z0_0 q0_1 z0_1 q0_2 z0_2 q0_3 z0_3 q0_4 z0_4 q0_5 z0_5 q1_0 z1_0 q1_1 z1_1 q1_2 z1_2 q1_3 z1_3 q1_4 z1_4 q1_5 z1_5
      rw [show w1.heap.size = w.heap.size + 1 + 1 by have := HZ.out; omega]
      refine nm_list (fun V1 hnm => ?_)
      have S1 := Lib.hid (show Only (Box w 3) w1 V1 from (by rw [hnm]; exact (Only.refl (Box w 3) w1).alloc _))
      have O1 := Lib.hid (O0.out.trans S1.out)
      have R0_1 := Lib.hid (show V1.heap[w.heap.size]? = some (.cells #[.int .i64 x.kind, .bool false, .int .i64 x.id.index, .int .i64 x.id.gen, .int .i64 x.comp, .slice Ad x.data.length cd] 29 (0, 0)) from (by rw [hnm]; exact alloc_old (R0_0.out)))
      have R1_1 := Lib.hid (show V1.heap[w.heap.size + 1]? = some (.cells #[.int .i64 0, .bool false, .int .i64 0, .int .i64 0, .int .i64 0, .slice none 0 0] 29 (0, 0)) from (by rw [hnm]; exact alloc_old (R1_0.out)))
      have R2_1 := Lib.hid (show V1.heap[w.heap.size + 1 + 1]? = some (.cells #[.int .i64 x.kind, .bool false, .int .i64 0, .int .i64 0, .int .i64 0, .slice none 0 0] 29 (0, 0)) from (by rw [hnm]; exact alloc_at (by have := HZ.out; first | omega | (simp <;> omega))))
      clear hnm
      have q0_0 := cell_row R0_1.out 0
      have z0_0 := frozen_row R0_1.out 0
      have q0_1 := cell_row R0_1.out 1
      have z0_1 := frozen_row R0_1.out 1
      have q0_2 := cell_row R0_1.out 2
      have z0_2 := frozen_row R0_1.out 2
      have q0_3 := cell_row R0_1.out 3
      have z0_3 := frozen_row R0_1.out 3
      have q0_4 := cell_row R0_1.out 4
      have z0_4 := frozen_row R0_1.out 4
      have q0_5 := cell_row R0_1.out 5
      have z0_5 := frozen_row R0_1.out 5
      have q1_0 := cell_row R1_1.out 0
      have z1_0 := frozen_row R1_1.out 0
      have q1_1 := cell_row R1_1.out 1
      have z1_1 := frozen_row R1_1.out 1
      have q1_2 := cell_row R1_1.out 2
      have z1_2 := frozen_row R1_1.out 2
      have q1_3 := cell_row R1_1.out 3
      have z1_3 := frozen_row R1_1.out 3
      have q1_4 := cell_row R1_1.out 4
      have z1_4 := frozen_row R1_1.out 4
      have q1_5 := cell_row R1_1.out 5
      have z1_5 := frozen_row R1_1.out 5
      have q2_0 := cell_row R2_1.out 0
      have z2_0 := frozen_row R2_1.out 0
      have q2_1 := cell_row R2_1.out 1
      have z2_1 := frozen_row R2_1.out 1
      have q2_2 := cell_row R2_1.out 2
      have z2_2 := frozen_row R2_1.out 2
      have q2_3 := cell_row R2_1.out 3
      have z2_3 := frozen_row R2_1.out 3
      have q2_4 := cell_row R2_1.out 4
      have z2_4 := frozen_row R2_1.out 4
      have q2_5 := cell_row R2_1.out 5
      have z2_5 := frozen_row R2_1.out 5
      go_wp2_with fail
      clear q0_0 z0_0 q0_1 z0_1 q0_2 z0_2 q0_3 z0_3 q0_4 z0_4 q0_5 z0_5 q1_0 z1_0 q1_1 z1_1 q1_2 z1_2 q1_3 z1_3 q1_4 z1_4 q1_5 z1_5 q2_0 z2_0 q2_1 z2_1 q2_2 z2_2 q2_3 z2_3 q2_4 z2_4 q2_5 z2_5
      refine nm_region (fun V3 hnm => ?_)
      have S2 := Lib.hid (show Only (Box w 3) V1 V3 from (by rw [hnm]; exact (Only.refl (Box w 3) V1).put ⟨by omega, by omega⟩))
      have O2 := Lib.hid (O1.out.trans S2.out)
      have R0_2 := Lib.hid (show V3.heap[w.heap.size]? = some (.cells #[.int .i64 x.kind, .bool false, .int .i64 x.id.index, .int .i64 x.id.gen, .int .i64 x.comp, .slice Ad x.data.length cd] 29 (0, 0)) from (by rw [hnm]; exact row_other (R0_1.out) (by omega)))
      have R1_2 := Lib.hid (show V3.heap[w.heap.size + 1]? = some (.cells #[.int .i64 0, .bool false, .int .i64 0, .int .i64 0, .int .i64 0, .slice none 0 0] 29 (0, 0)) from (by rw [hnm]; exact row_other (R1_1.out) (by omega)))
      have R2_2 := Lib.hid (show V3.heap[w.heap.size + 1 + 1]? = some (.cells #[.int .i64 x.kind, .bool false, .int .i64 0, .int .i64 0, .int .i64 x.comp, .slice none 0 0] 29 (0, 0)) from (by rw [hnm]; exact heap_setList (R2_1.out)))
      clear hnm
      refine wp_region_held_drew (S := fun W => Only (fun b => b = w.heap.size + 1 + 1) V3 W) (by kernel_rfl) ((Only.refl _ _).drw) (fun s0 => ?_)
      obtain ⟨v1, hv0⟩ : ∃ V, V = V3.drew := ⟨_, rfl⟩
      rw [← hv0] at s0 ⊢
      have t1 : Only (fun b => b = w.heap.size + 1 + 1) V3 v1 := s0
      have rb2_1 : v1.heap[w.heap.size + 1 + 1]? = some (.cells #[.int .i64 x.kind, .bool false, .int .i64 0, .int .i64 0, .int .i64 x.comp, .slice none 0 0] 29 (0, 0)) := by rw [hv0]; exact R2_2.out
      clear hv0 s0
      refine wpAnyH_take (i := 0) (v := .pointer (some ⟨w.heap.size, 1, none⟩)) rfl (by kernel_rfl) (by kernel_rfl) (by kernel_rfl) (fun _ _ _ h => h) (Or.inl ⟨by rfl, fun w' _ => by go_simp <;> omega⟩) t1 ?_
      go_simp
      refine wpAnyH_take (i := 1) (v := .bool false) rfl (by kernel_rfl) (by kernel_rfl) (by kernel_rfl) (fun _ _ _ h => h) (Or.inl ⟨by rfl, fun w' h => by have e := row_only (h : Only (fun b => b = w.heap.size + 1 + 1) V3 w') R0_2.out (by first | omega | (dsimp only; omega)); have e0 := cell_row e 0; have e1 := cell_row e 1; have e2 := cell_row e 2; have e3 := cell_row e 3; have e4 := cell_row e 4; have e5 := cell_row e 5; go_simp⟩) t1 ?_
      go_simp
      refine wpAnyH_take (i := 2) (v := .pointer (some ⟨w.heap.size, 2, none⟩)) rfl (by kernel_rfl) (by kernel_rfl) (by kernel_rfl) (fun _ _ _ h => h) (Or.inl ⟨by rfl, fun w' _ => by go_simp <;> omega⟩) t1 ?_
      go_simp
      refine wpAnyH_take (i := 3) (v := .agg #[.int .i64 x.id.index, .int .i64 x.id.gen]) rfl (by kernel_rfl) (by kernel_rfl) (by kernel_rfl) (fun _ _ _ h => h) (Or.inl ⟨by rfl, fun w' h => by have e := row_only (h : Only (fun b => b = w.heap.size + 1 + 1) V3 w') R0_2.out (by first | omega | (dsimp only; omega)); have e0 := cell_row e 0; have e1 := cell_row e 1; have e2 := cell_row e 2; have e3 := cell_row e 3; have e4 := cell_row e 4; have e5 := cell_row e 5; go_simp⟩) t1 ?_
      go_simp
      refine wpAnyH_take (i := 4) (v := .pointer (some ⟨w.heap.size + 1 + 1, 1, none⟩)) rfl (by kernel_rfl) (by kernel_rfl) (by kernel_rfl) (fun _ _ _ h => h) (Or.inl ⟨by rfl, fun w' _ => by go_simp <;> omega⟩) t1 ?_
      go_simp
      refine wpAnyH_all (rs := [5]) (by kernel_rfl) (by simp) ?_
      intro i hi
      obtain rfl : i = 5 := by simpa using hi
      clear hi
      refine wpOp_step rfl (fun K hK => ?_)
      go_simp
      have eb := rb2_1
      have q0 := cell_row eb 0
      have z0 := frozen_row eb 0
      have q1 := cell_row eb 1
      have z1 := frozen_row eb 1
      have q2 := cell_row eb 2
      have z2 := frozen_row eb 2
      have q3 := cell_row eb 3
      have z3 := frozen_row eb 3
      have q4 := cell_row eb 4
      have z4 := frozen_row eb 4
      have q5 := cell_row eb 5
      have z5 := frozen_row eb 5
      go_simp
      refine hK _ _ ⟨(t1).put rfl, ?_⟩
      clear hK K q0 z0 q1 z1 q2 z2 q3 z3 q4 z4 q5 z5
      refine nm_any (fun v2 hnm => ?_)
      have t2 : Only (fun b => b = w.heap.size + 1 + 1) V3 v2 := by rw [hnm]; exact (t1).put rfl
      have rb2_2 : v2.heap[w.heap.size + 1 + 1]? = some (.cells #[.int .i64 x.kind, .bool false, .int .i64 0, .int .i64 0, .int .i64 x.comp, .slice none 0 0] 29 (0, 0)) := by rw [hnm]; exact heap_setList (rb2_1)
      clear hnm eb
      refine wpAnyH_take (i := 6) (v := .pointer (some ⟨w.heap.size + 1 + 1, 2, none⟩)) rfl (by kernel_rfl) (by kernel_rfl) (by kernel_rfl) (fun _ _ _ h => h) (Or.inl ⟨by rfl, fun w' _ => by go_simp <;> omega⟩) t2 ?_
      go_simp
      refine wpAnyH_all (rs := [7]) (by kernel_rfl) (by simp) ?_
      intro i hi
      obtain rfl : i = 7 := by simpa using hi
      clear hi
      refine wpOp_step rfl (fun K hK => ?_)
      go_simp
      have eb := rb2_2
      have q0 := cell_row eb 0
      have z0 := frozen_row eb 0
      have q1 := cell_row eb 1
      have z1 := frozen_row eb 1
      have q2 := cell_row eb 2
      have z2 := frozen_row eb 2
      have q3 := cell_row eb 3
      have z3 := frozen_row eb 3
      have q4 := cell_row eb 4
      have z4 := frozen_row eb 4
      have q5 := cell_row eb 5
      have z5 := frozen_row eb 5
      go_simp
      refine hK _ _ ⟨((t2).put rfl).put rfl, ?_⟩
      clear hK K q0 z0 q1 z1 q2 z2 q3 z3 q4 z4 q5 z5
      refine nm_any (fun v3 hnm => ?_)
      have t3 : Only (fun b => b = w.heap.size + 1 + 1) V3 v3 := by rw [hnm]; exact ((t2).put rfl).put rfl
      have rb2_3 : v3.heap[w.heap.size + 1 + 1]? = some (.cells #[.int .i64 x.kind, .bool false, .int .i64 x.id.index, .int .i64 x.id.gen, .int .i64 x.comp, .slice none 0 0] 29 (0, 0)) := by rw [hnm]; exact heap_setList (heap_setList (rb2_2))
      clear hnm eb
      refine wpAnyH_done (by kernel_rfl) ?_ _
      have S3 := Lib.hid (show Only (Box w 3) V3 v3 from (t3).wid (fun b hb => by first | (unfold Box; omega) | (dsimp only at hb; unfold Box; omega)))
      have O3 := Lib.hid (O2.out.trans S3.out)
      have R0_3 := Lib.hid (show v3.heap[w.heap.size]? = some (.cells #[.int .i64 x.kind, .bool false, .int .i64 x.id.index, .int .i64 x.id.gen, .int .i64 x.comp, .slice Ad x.data.length cd] 29 (0, 0)) from row_only t3 R0_2.out (by first | omega | (dsimp only; omega)))
      have R1_3 := Lib.hid (show v3.heap[w.heap.size + 1]? = some (.cells #[.int .i64 0, .bool false, .int .i64 0, .int .i64 0, .int .i64 0, .slice none 0 0] 29 (0, 0)) from row_only t3 R1_2.out (by first | omega | (dsimp only; omega)))
      have R2_3 := Lib.hid (show v3.heap[w.heap.size + 1 + 1]? = some (.cells #[.int .i64 x.kind, .bool false, .int .i64 x.id.index, .int .i64 x.id.gen, .int .i64 x.comp, .slice none 0 0] 29 (0, 0)) from rb2_3)
      clear rb2_3
      have q0_0 := cell_row R0_3.out 0
      have z0_0 := frozen_row R0_3.out 0
      have q0_1 := cell_row R0_3.out 1
      have z0_1 := frozen_row R0_3.out 1
      have q0_2 := cell_row R0_3.out 2
      have z0_2 := frozen_row R0_3.out 2
      have q0_3 := cell_row R0_3.out 3
      have z0_3 := frozen_row R0_3.out 3
      have q0_4 := cell_row R0_3.out 4
      have z0_4 := frozen_row R0_3.out 4
      have q0_5 := cell_row R0_3.out 5
      have z0_5 := frozen_row R0_3.out 5
      have q1_0 := cell_row R1_3.out 0
      have z1_0 := frozen_row R1_3.out 0
      have q1_1 := cell_row R1_3.out 1
      have z1_1 := frozen_row R1_3.out 1
      have q1_2 := cell_row R1_3.out 2
      have z1_2 := frozen_row R1_3.out 2
      have q1_3 := cell_row R1_3.out 3
      have z1_3 := frozen_row R1_3.out 3
      have q1_4 := cell_row R1_3.out 4
      have z1_4 := frozen_row R1_3.out 4
      have q1_5 := cell_row R1_3.out 5
      have z1_5 := frozen_row R1_3.out 5
      have q2_0 := cell_row R2_3.out 0
      have z2_0 := frozen_row R2_3.out 0
      have q2_1 := cell_row R2_3.out 1
      have z2_1 := frozen_row R2_3.out 1
      have q2_2 := cell_row R2_3.out 2
      have z2_2 := frozen_row R2_3.out 2
      have q2_3 := cell_row R2_3.out 3
      have z2_3 := frozen_row R2_3.out 3
      have q2_4 := cell_row R2_3.out 4
      have z2_4 := frozen_row R2_3.out 4
      have q2_5 := cell_row R2_3.out 5
      have z2_5 := frozen_row R2_3.out 5
      go_wp2_with fail
      clear q0_0 z0_0 q0_1 z0_1 q0_2 z0_2 q0_3 z0_3 q0_4 z0_4 q0_5 z0_5 q1_0 z1_0 q1_1 z1_1 q1_2 z1_2 q1_3 z1_3 q1_4 z1_4 q1_5 z1_5 q2_0 z2_0 q2_1 z2_1 q2_2 z2_2 q2_3 z2_3 q2_4 z2_4 q2_5 z2_5
      refine nm_post (fun V9 hnm => ?_)
      have S4 := Lib.hid (show Only (Box w 3) v3 V9 from (by rw [hnm]; exact ((((((Only.refl (Box w 3) v3).put ⟨by omega, by omega⟩).put ⟨by omega, by omega⟩).put ⟨by omega, by omega⟩).put ⟨by omega, by omega⟩).put ⟨by omega, by omega⟩).put ⟨by omega, by omega⟩))
      have O4 := Lib.hid (O3.out.trans S4.out)
      have R0_4 := Lib.hid (show V9.heap[w.heap.size]? = some (.cells #[.int .i64 x.kind, .bool false, .int .i64 x.id.index, .int .i64 x.id.gen, .int .i64 x.comp, .slice Ad x.data.length cd] 29 (0, 0)) from (by rw [hnm]; exact row_other (row_other (row_other (row_other (row_other (row_other (R0_3.out) (by omega)) (by omega)) (by omega)) (by omega)) (by omega)) (by omega)))
      have R1_4 := Lib.hid (show V9.heap[w.heap.size + 1]? = some (.cells #[.int .i64 x.kind, .bool false, .int .i64 x.id.index, .int .i64 x.id.gen, .int .i64 x.comp, .slice none 0 0] 29 (0, 0)) from (by rw [hnm]; exact heap_setList (heap_setList (heap_setList (heap_setList (heap_setList (heap_setList (R1_3.out))))))))
      have R2_4 := Lib.hid (show V9.heap[w.heap.size + 1 + 1]? = some (.cells #[.int .i64 x.kind, .bool false, .int .i64 x.id.index, .int .i64 x.id.gen, .int .i64 x.comp, .slice none 0 0] 29 (0, 0)) from (by rw [hnm]; exact row_other (row_other (row_other (row_other (row_other (row_other (R2_3.out) (by omega)) (by omega)) (by omega)) (by omega)) (by omega)) (by omega)))
      clear hnm
      have q1_0 := cell_row R1_4.out 0
      have q1_1 := cell_row R1_4.out 1
      have q1_2 := cell_row R1_4.out 2
      have q1_3 := cell_row R1_4.out 3
      have q1_4 := cell_row R1_4.out 4
      have q1_5 := cell_row R1_4.out 5
      refine ⟨rfl, .agg #[.int .i64 x.kind, .bool false, .int .i64 x.id.index, .int .i64 x.id.gen, .int .i64 x.comp, .slice none 0 0], by simp only [results, hfr]; go_simp, ?_⟩
      clear q1_0 q1_1 q1_2 q1_3 q1_4 q1_5
      have HP := Lib.hid (show plainC x = ⟨x.kind, false, ⟨x.id.index, x.id.gen⟩, x.comp, []⟩ by unfold plainC; rw [if_pos HK.out]; simp [HKK.out, HL.out])
      exact ⟨_, rfl, by rw [HP.out]; exact cmd_bare (x := ⟨x.kind, false, ⟨x.id.index, x.id.gen⟩, x.comp, []⟩) HF.out.1 HF.out.2.1 HF.out.2.2.1 HF.out.2.2.2 rfl, Only.fin HB0.out O4.out⟩
  case true =>
    have HL := Lib.hid hl
    clear hl
    rcases h4 with h | h | h | h
    · have HKK := Lib.hid h
      have b2 : (x.kind == 2) = false := by simp [h]
      have b3 : (x.kind == 3) = false := by simp [h]
      have b1 : (x.kind == 1) = false := by simp [h]
      clear h
      obtain ⟨W0, hW0⟩ : ∃ W, ((w.alloc (.cells #[.int .i64 x.kind, .bool true, .int .i64 x.id.index, .int .i64 x.id.gen, .int .i64 x.comp, .slice Ad x.data.length cd] 29)).alloc (.cells #[.int .i64 0, .bool false, .int .i64 0, .int .i64 0, .int .i64 0, .slice none 0 0] 29)) = W := ⟨_, rfl⟩
      have hz0 : W0.heap.size = w.heap.size + 2 := by rw [← hW0]; simp
      have hb0 : Below w.heap.size w W0 := by rw [← hW0]; exact ((Below.refl _ _).alloc (Nat.le_refl _) _).alloc (by first | (simp; done) | (simp; omega)) _
      have HZ := Lib.hid hz0
      have HB0 := Lib.hid hb0
      have R0_0 := Lib.hid (show W0.heap[w.heap.size]? = some (.cells #[.int .i64 x.kind, .bool true, .int .i64 x.id.index, .int .i64 x.id.gen, .int .i64 x.comp, .slice Ad x.data.length cd] 29 (0, 0)) by rw [← hW0]; exact alloc_old (alloc_at rfl))
      have R1_0 := Lib.hid (show W0.heap[w.heap.size + 1]? = some (.cells #[.int .i64 0, .bool false, .int .i64 0, .int .i64 0, .int .i64 0, .slice none 0 0] 29 (0, 0)) by rw [← hW0]; exact alloc_at (by simp))
      have O0 := Lib.hid (Only.refl (Box w 3) W0)
      clear hz0 hb0
      have q0_0 := cell_row R0_0.out 0
      have z0_0 := frozen_row R0_0.out 0
      have q0_1 := cell_row R0_0.out 1
      have z0_1 := frozen_row R0_0.out 1
      have q0_2 := cell_row R0_0.out 2
      have z0_2 := frozen_row R0_0.out 2
      have q0_3 := cell_row R0_0.out 3
      have z0_3 := frozen_row R0_0.out 3
      have q0_4 := cell_row R0_0.out 4
      have z0_4 := frozen_row R0_0.out 4
      have q0_5 := cell_row R0_0.out 5
      have z0_5 := frozen_row R0_0.out 5
      have q1_0 := cell_row R1_0.out 0
      have z1_0 := frozen_row R1_0.out 0
      have q1_1 := cell_row R1_0.out 1
      have z1_1 := frozen_row R1_0.out 1
      have q1_2 := cell_row R1_0.out 2
      have z1_2 := frozen_row R1_0.out 2
      have q1_3 := cell_row R1_0.out 3
      have z1_3 := frozen_row R1_0.out 3
      have q1_4 := cell_row R1_0.out 4
      have z1_4 := frozen_row R1_0.out 4
      have q1_5 := cell_row R1_0.out 5
      have z1_5 := frozen_row R1_0.out 5
      go_enter Tryz.func57, Tryz.ntmps57
      go_wp2_with fail
      try rw [hW0]
      clear hW0
      try go_wp2_with fail
      clear q0_0 z0_0 q0_1 z0_1 q0_2 z0_2 q0_3 z0_3 q0_4 z0_4 q0_5 z0_5 q1_0 z1_0 q1_1 z1_1 q1_2 z1_2 q1_3 z1_3 q1_4 z1_4 q1_5 z1_5
      refine (known_calls _ _).mono ?_
      rintro e w1 ⟨rfl, rfl⟩
      rw [HK.out]
      have q0_0 := cell_row R0_0.out 0
      have z0_0 := frozen_row R0_0.out 0
      have q0_1 := cell_row R0_0.out 1
      have z0_1 := frozen_row R0_0.out 1
      have q0_2 := cell_row R0_0.out 2
      have z0_2 := frozen_row R0_0.out 2
      have q0_3 := cell_row R0_0.out 3
      have z0_3 := frozen_row R0_0.out 3
      have q0_4 := cell_row R0_0.out 4
      have z0_4 := frozen_row R0_0.out 4
      have q0_5 := cell_row R0_0.out 5
      have z0_5 := frozen_row R0_0.out 5
      have q1_0 := cell_row R1_0.out 0
      have z1_0 := frozen_row R1_0.out 0
      have q1_1 := cell_row R1_0.out 1
      have z1_1 := frozen_row R1_0.out 1
      have q1_2 := cell_row R1_0.out 2
      have z1_2 := frozen_row R1_0.out 2
      have q1_3 := cell_row R1_0.out 3
      have z1_3 := frozen_row R1_0.out 3
      have q1_4 := cell_row R1_0.out 4
      have z1_4 := frozen_row R1_0.out 4
      have q1_5 := cell_row R1_0.out 5
      have z1_5 := frozen_row R1_0.out 5
      go_wp2_with (with_reducible refine stopLoad 3 16 rfl ?_)
      refine Lib.hid ?_
      clear q0_0 z0_0 q0_1 z0_1 q0_2 z0_2 q0_3 z0_3 q0_4 z0_4 q0_5 z0_5 q1_0 z1_0 q1_1 z1_1 q1_2 z1_2 q1_3 z1_3 q1_4 z1_4 q1_5 z1_5
      rw [show w1.heap.size = w.heap.size + 1 + 1 by have := HZ.out; omega]
      refine nm_list (fun V1 hnm => ?_)
      have S1 := Lib.hid (show Only (Box w 3) w1 V1 from (by rw [hnm]; exact (Only.refl (Box w 3) w1).alloc _))
      have O1 := Lib.hid (O0.out.trans S1.out)
      have R0_1 := Lib.hid (show V1.heap[w.heap.size]? = some (.cells #[.int .i64 x.kind, .bool true, .int .i64 x.id.index, .int .i64 x.id.gen, .int .i64 x.comp, .slice Ad x.data.length cd] 29 (0, 0)) from (by rw [hnm]; exact alloc_old (R0_0.out)))
      have R1_1 := Lib.hid (show V1.heap[w.heap.size + 1]? = some (.cells #[.int .i64 0, .bool false, .int .i64 0, .int .i64 0, .int .i64 0, .slice none 0 0] 29 (0, 0)) from (by rw [hnm]; exact alloc_old (R1_0.out)))
      have R2_1 := Lib.hid (show V1.heap[w.heap.size + 1 + 1]? = some (.cells #[.int .i64 x.kind, .bool false, .int .i64 0, .int .i64 0, .int .i64 0, .slice none 0 0] 29 (0, 0)) from (by rw [hnm]; exact alloc_at (by have := HZ.out; first | omega | (simp <;> omega))))
      clear hnm
      have q0_0 := cell_row R0_1.out 0
      have z0_0 := frozen_row R0_1.out 0
      have q0_1 := cell_row R0_1.out 1
      have z0_1 := frozen_row R0_1.out 1
      have q0_2 := cell_row R0_1.out 2
      have z0_2 := frozen_row R0_1.out 2
      have q0_3 := cell_row R0_1.out 3
      have z0_3 := frozen_row R0_1.out 3
      have q0_4 := cell_row R0_1.out 4
      have z0_4 := frozen_row R0_1.out 4
      have q0_5 := cell_row R0_1.out 5
      have z0_5 := frozen_row R0_1.out 5
      have q1_0 := cell_row R1_1.out 0
      have z1_0 := frozen_row R1_1.out 0
      have q1_1 := cell_row R1_1.out 1
      have z1_1 := frozen_row R1_1.out 1
      have q1_2 := cell_row R1_1.out 2
      have z1_2 := frozen_row R1_1.out 2
      have q1_3 := cell_row R1_1.out 3
      have z1_3 := frozen_row R1_1.out 3
      have q1_4 := cell_row R1_1.out 4
      have z1_4 := frozen_row R1_1.out 4
      have q1_5 := cell_row R1_1.out 5
      have z1_5 := frozen_row R1_1.out 5
      have q2_0 := cell_row R2_1.out 0
      have z2_0 := frozen_row R2_1.out 0
      have q2_1 := cell_row R2_1.out 1
      have z2_1 := frozen_row R2_1.out 1
      have q2_2 := cell_row R2_1.out 2
      have z2_2 := frozen_row R2_1.out 2
      have q2_3 := cell_row R2_1.out 3
      have z2_3 := frozen_row R2_1.out 3
      have q2_4 := cell_row R2_1.out 4
      have z2_4 := frozen_row R2_1.out 4
      have q2_5 := cell_row R2_1.out 5
      have z2_5 := frozen_row R2_1.out 5
      go_wp2_with fail
      clear q0_0 z0_0 q0_1 z0_1 q0_2 z0_2 q0_3 z0_3 q0_4 z0_4 q0_5 z0_5 q1_0 z1_0 q1_1 z1_1 q1_2 z1_2 q1_3 z1_3 q1_4 z1_4 q1_5 z1_5 q2_0 z2_0 q2_1 z2_1 q2_2 z2_2 q2_3 z2_3 q2_4 z2_4 q2_5 z2_5
      refine nm_post (fun V9 hnm => ?_)
      have S2 := Lib.hid (show Only (Box w 3) V1 V9 from (by rw [hnm]; exact ((((((Only.refl (Box w 3) V1).put ⟨by omega, by omega⟩).put ⟨by omega, by omega⟩).put ⟨by omega, by omega⟩).put ⟨by omega, by omega⟩).put ⟨by omega, by omega⟩).put ⟨by omega, by omega⟩))
      have O2 := Lib.hid (O1.out.trans S2.out)
      have R0_2 := Lib.hid (show V9.heap[w.heap.size]? = some (.cells #[.int .i64 x.kind, .bool true, .int .i64 x.id.index, .int .i64 x.id.gen, .int .i64 x.comp, .slice Ad x.data.length cd] 29 (0, 0)) from (by rw [hnm]; exact row_other (row_other (row_other (row_other (row_other (row_other (R0_1.out) (by omega)) (by omega)) (by omega)) (by omega)) (by omega)) (by omega)))
      have R1_2 := Lib.hid (show V9.heap[w.heap.size + 1]? = some (.cells #[.int .i64 x.kind, .bool false, .int .i64 0, .int .i64 0, .int .i64 0, .slice none 0 0] 29 (0, 0)) from (by rw [hnm]; exact heap_setList (heap_setList (heap_setList (heap_setList (heap_setList (heap_setList (R1_1.out))))))))
      have R2_2 := Lib.hid (show V9.heap[w.heap.size + 1 + 1]? = some (.cells #[.int .i64 x.kind, .bool false, .int .i64 0, .int .i64 0, .int .i64 0, .slice none 0 0] 29 (0, 0)) from (by rw [hnm]; exact row_other (row_other (row_other (row_other (row_other (row_other (R2_1.out) (by omega)) (by omega)) (by omega)) (by omega)) (by omega)) (by omega)))
      clear hnm
      have q1_0 := cell_row R1_2.out 0
      have q1_1 := cell_row R1_2.out 1
      have q1_2 := cell_row R1_2.out 2
      have q1_3 := cell_row R1_2.out 3
      have q1_4 := cell_row R1_2.out 4
      have q1_5 := cell_row R1_2.out 5
      refine ⟨rfl, .agg #[.int .i64 x.kind, .bool false, .int .i64 0, .int .i64 0, .int .i64 0, .slice none 0 0], by simp only [results, hfr]; go_simp, ?_⟩
      clear q1_0 q1_1 q1_2 q1_3 q1_4 q1_5
      have HP := Lib.hid (show plainC x = ⟨x.kind, false, ⟨0, 0⟩, 0, []⟩ by unfold plainC; rw [if_pos HK.out]; simp [HKK.out])
      exact ⟨_, rfl, by rw [HP.out]; exact cmd_bare (x := ⟨x.kind, false, ⟨0, 0⟩, 0, []⟩) HF.out.1 wf0 wf0 wf0 rfl, Only.fin HB0.out O2.out⟩
    · have HKK := Lib.hid h
      have b2 : (x.kind == 2) = false := by simp [h]
      have b3 : (x.kind == 3) = false := by simp [h]
      have b1 : (x.kind == 1) = true := by simp [h]
      clear h
      obtain ⟨W0, hW0⟩ : ∃ W, ((w.alloc (.cells #[.int .i64 x.kind, .bool true, .int .i64 x.id.index, .int .i64 x.id.gen, .int .i64 x.comp, .slice Ad x.data.length cd] 29)).alloc (.cells #[.int .i64 0, .bool false, .int .i64 0, .int .i64 0, .int .i64 0, .slice none 0 0] 29)) = W := ⟨_, rfl⟩
      have hz0 : W0.heap.size = w.heap.size + 2 := by rw [← hW0]; simp
      have hb0 : Below w.heap.size w W0 := by rw [← hW0]; exact ((Below.refl _ _).alloc (Nat.le_refl _) _).alloc (by first | (simp; done) | (simp; omega)) _
      have HZ := Lib.hid hz0
      have HB0 := Lib.hid hb0
      have R0_0 := Lib.hid (show W0.heap[w.heap.size]? = some (.cells #[.int .i64 x.kind, .bool true, .int .i64 x.id.index, .int .i64 x.id.gen, .int .i64 x.comp, .slice Ad x.data.length cd] 29 (0, 0)) by rw [← hW0]; exact alloc_old (alloc_at rfl))
      have R1_0 := Lib.hid (show W0.heap[w.heap.size + 1]? = some (.cells #[.int .i64 0, .bool false, .int .i64 0, .int .i64 0, .int .i64 0, .slice none 0 0] 29 (0, 0)) by rw [← hW0]; exact alloc_at (by simp))
      have O0 := Lib.hid (Only.refl (Box w 3) W0)
      clear hz0 hb0
      have q0_0 := cell_row R0_0.out 0
      have z0_0 := frozen_row R0_0.out 0
      have q0_1 := cell_row R0_0.out 1
      have z0_1 := frozen_row R0_0.out 1
      have q0_2 := cell_row R0_0.out 2
      have z0_2 := frozen_row R0_0.out 2
      have q0_3 := cell_row R0_0.out 3
      have z0_3 := frozen_row R0_0.out 3
      have q0_4 := cell_row R0_0.out 4
      have z0_4 := frozen_row R0_0.out 4
      have q0_5 := cell_row R0_0.out 5
      have z0_5 := frozen_row R0_0.out 5
      have q1_0 := cell_row R1_0.out 0
      have z1_0 := frozen_row R1_0.out 0
      have q1_1 := cell_row R1_0.out 1
      have z1_1 := frozen_row R1_0.out 1
      have q1_2 := cell_row R1_0.out 2
      have z1_2 := frozen_row R1_0.out 2
      have q1_3 := cell_row R1_0.out 3
      have z1_3 := frozen_row R1_0.out 3
      have q1_4 := cell_row R1_0.out 4
      have z1_4 := frozen_row R1_0.out 4
      have q1_5 := cell_row R1_0.out 5
      have z1_5 := frozen_row R1_0.out 5
      go_enter Tryz.func57, Tryz.ntmps57
      go_wp2_with fail
      try rw [hW0]
      clear hW0
      try go_wp2_with fail
      clear q0_0 z0_0 q0_1 z0_1 q0_2 z0_2 q0_3 z0_3 q0_4 z0_4 q0_5 z0_5 q1_0 z1_0 q1_1 z1_1 q1_2 z1_2 q1_3 z1_3 q1_4 z1_4 q1_5 z1_5
      refine (known_calls _ _).mono ?_
      rintro e w1 ⟨rfl, rfl⟩
      rw [HK.out]
      have q0_0 := cell_row R0_0.out 0
      have z0_0 := frozen_row R0_0.out 0
      have q0_1 := cell_row R0_0.out 1
      have z0_1 := frozen_row R0_0.out 1
      have q0_2 := cell_row R0_0.out 2
      have z0_2 := frozen_row R0_0.out 2
      have q0_3 := cell_row R0_0.out 3
      have z0_3 := frozen_row R0_0.out 3
      have q0_4 := cell_row R0_0.out 4
      have z0_4 := frozen_row R0_0.out 4
      have q0_5 := cell_row R0_0.out 5
      have z0_5 := frozen_row R0_0.out 5
      have q1_0 := cell_row R1_0.out 0
      have z1_0 := frozen_row R1_0.out 0
      have q1_1 := cell_row R1_0.out 1
      have z1_1 := frozen_row R1_0.out 1
      have q1_2 := cell_row R1_0.out 2
      have z1_2 := frozen_row R1_0.out 2
      have q1_3 := cell_row R1_0.out 3
      have z1_3 := frozen_row R1_0.out 3
      have q1_4 := cell_row R1_0.out 4
      have z1_4 := frozen_row R1_0.out 4
      have q1_5 := cell_row R1_0.out 5
      have z1_5 := frozen_row R1_0.out 5
      go_wp2_with (with_reducible refine stopLoad 3 16 rfl ?_)
      refine Lib.hid ?_
      clear q0_0 z0_0 q0_1 z0_1 q0_2 z0_2 q0_3 z0_3 q0_4 z0_4 q0_5 z0_5 q1_0 z1_0 q1_1 z1_1 q1_2 z1_2 q1_3 z1_3 q1_4 z1_4 q1_5 z1_5
      rw [show w1.heap.size = w.heap.size + 1 + 1 by have := HZ.out; omega]
      refine nm_list (fun V1 hnm => ?_)
      have S1 := Lib.hid (show Only (Box w 3) w1 V1 from (by rw [hnm]; exact (Only.refl (Box w 3) w1).alloc _))
      have O1 := Lib.hid (O0.out.trans S1.out)
      have R0_1 := Lib.hid (show V1.heap[w.heap.size]? = some (.cells #[.int .i64 x.kind, .bool true, .int .i64 x.id.index, .int .i64 x.id.gen, .int .i64 x.comp, .slice Ad x.data.length cd] 29 (0, 0)) from (by rw [hnm]; exact alloc_old (R0_0.out)))
      have R1_1 := Lib.hid (show V1.heap[w.heap.size + 1]? = some (.cells #[.int .i64 0, .bool false, .int .i64 0, .int .i64 0, .int .i64 0, .slice none 0 0] 29 (0, 0)) from (by rw [hnm]; exact alloc_old (R1_0.out)))
      have R2_1 := Lib.hid (show V1.heap[w.heap.size + 1 + 1]? = some (.cells #[.int .i64 x.kind, .bool false, .int .i64 0, .int .i64 0, .int .i64 0, .slice none 0 0] 29 (0, 0)) from (by rw [hnm]; exact alloc_at (by have := HZ.out; first | omega | (simp <;> omega))))
      clear hnm
      have q0_0 := cell_row R0_1.out 0
      have z0_0 := frozen_row R0_1.out 0
      have q0_1 := cell_row R0_1.out 1
      have z0_1 := frozen_row R0_1.out 1
      have q0_2 := cell_row R0_1.out 2
      have z0_2 := frozen_row R0_1.out 2
      have q0_3 := cell_row R0_1.out 3
      have z0_3 := frozen_row R0_1.out 3
      have q0_4 := cell_row R0_1.out 4
      have z0_4 := frozen_row R0_1.out 4
      have q0_5 := cell_row R0_1.out 5
      have z0_5 := frozen_row R0_1.out 5
      have q1_0 := cell_row R1_1.out 0
      have z1_0 := frozen_row R1_1.out 0
      have q1_1 := cell_row R1_1.out 1
      have z1_1 := frozen_row R1_1.out 1
      have q1_2 := cell_row R1_1.out 2
      have z1_2 := frozen_row R1_1.out 2
      have q1_3 := cell_row R1_1.out 3
      have z1_3 := frozen_row R1_1.out 3
      have q1_4 := cell_row R1_1.out 4
      have z1_4 := frozen_row R1_1.out 4
      have q1_5 := cell_row R1_1.out 5
      have z1_5 := frozen_row R1_1.out 5
      have q2_0 := cell_row R2_1.out 0
      have z2_0 := frozen_row R2_1.out 0
      have q2_1 := cell_row R2_1.out 1
      have z2_1 := frozen_row R2_1.out 1
      have q2_2 := cell_row R2_1.out 2
      have z2_2 := frozen_row R2_1.out 2
      have q2_3 := cell_row R2_1.out 3
      have z2_3 := frozen_row R2_1.out 3
      have q2_4 := cell_row R2_1.out 4
      have z2_4 := frozen_row R2_1.out 4
      have q2_5 := cell_row R2_1.out 5
      have z2_5 := frozen_row R2_1.out 5
      go_wp2_with fail
      clear q0_0 z0_0 q0_1 z0_1 q0_2 z0_2 q0_3 z0_3 q0_4 z0_4 q0_5 z0_5 q1_0 z1_0 q1_1 z1_1 q1_2 z1_2 q1_3 z1_3 q1_4 z1_4 q1_5 z1_5 q2_0 z2_0 q2_1 z2_1 q2_2 z2_2 q2_3 z2_3 q2_4 z2_4 q2_5 z2_5
      refine wp_region_held_drew (S := fun W => Only (fun b => b = w.heap.size + 1 + 1) V1 W) (by kernel_rfl) ((Only.refl _ _).drw) (fun s0 => ?_)
      obtain ⟨v1, hv0⟩ : ∃ V, V = V1.drew := ⟨_, rfl⟩
      rw [← hv0] at s0 ⊢
      have t1 : Only (fun b => b = w.heap.size + 1 + 1) V1 v1 := s0
      have rb2_1 : v1.heap[w.heap.size + 1 + 1]? = some (.cells #[.int .i64 x.kind, .bool false, .int .i64 0, .int .i64 0, .int .i64 0, .slice none 0 0] 29 (0, 0)) := by rw [hv0]; exact R2_1.out
      clear hv0 s0
      refine wpAnyH_take (i := 0) (v := .pointer (some ⟨w.heap.size, 1, none⟩)) rfl (by kernel_rfl) (by kernel_rfl) (by kernel_rfl) (fun _ _ _ h => h) (Or.inl ⟨by rfl, fun w' _ => by go_simp <;> omega⟩) t1 ?_
      go_simp
      refine wpAnyH_take (i := 1) (v := .bool true) rfl (by kernel_rfl) (by kernel_rfl) (by kernel_rfl) (fun _ _ _ h => h) (Or.inl ⟨by rfl, fun w' h => by have e := row_only (h : Only (fun b => b = w.heap.size + 1 + 1) V1 w') R0_1.out (by first | omega | (dsimp only; omega)); have e0 := cell_row e 0; have e1 := cell_row e 1; have e2 := cell_row e 2; have e3 := cell_row e 3; have e4 := cell_row e 4; have e5 := cell_row e 5; go_simp⟩) t1 ?_
      go_simp
      refine wpAnyH_take (i := 2) (v := .pointer (some ⟨w.heap.size, 2, none⟩)) rfl (by kernel_rfl) (by kernel_rfl) (by kernel_rfl) (fun _ _ _ h => h) (Or.inl ⟨by rfl, fun w' _ => by go_simp <;> omega⟩) t1 ?_
      go_simp
      refine wpAnyH_take (i := 3) (v := .agg #[.int .i64 x.id.index, .int .i64 x.id.gen]) rfl (by kernel_rfl) (by kernel_rfl) (by kernel_rfl) (fun _ _ _ h => h) (Or.inl ⟨by rfl, fun w' h => by have e := row_only (h : Only (fun b => b = w.heap.size + 1 + 1) V1 w') R0_1.out (by first | omega | (dsimp only; omega)); have e0 := cell_row e 0; have e1 := cell_row e 1; have e2 := cell_row e 2; have e3 := cell_row e 3; have e4 := cell_row e 4; have e5 := cell_row e 5; go_simp⟩) t1 ?_
      go_simp
      refine wpAnyH_take (i := 4) (v := .pointer (some ⟨w.heap.size + 1 + 1, 1, none⟩)) rfl (by kernel_rfl) (by kernel_rfl) (by kernel_rfl) (fun _ _ _ h => h) (Or.inl ⟨by rfl, fun w' _ => by go_simp <;> omega⟩) t1 ?_
      go_simp
      refine wpAnyH_all (rs := [5]) (by kernel_rfl) (by simp) ?_
      intro i hi
      obtain rfl : i = 5 := by simpa using hi
      clear hi
      refine wpOp_step rfl (fun K hK => ?_)
      go_simp
      have eb := rb2_1
      have q0 := cell_row eb 0
      have z0 := frozen_row eb 0
      have q1 := cell_row eb 1
      have z1 := frozen_row eb 1
      have q2 := cell_row eb 2
      have z2 := frozen_row eb 2
      have q3 := cell_row eb 3
      have z3 := frozen_row eb 3
      have q4 := cell_row eb 4
      have z4 := frozen_row eb 4
      have q5 := cell_row eb 5
      have z5 := frozen_row eb 5
      go_simp
      refine hK _ _ ⟨(t1).put rfl, ?_⟩
      clear hK K q0 z0 q1 z1 q2 z2 q3 z3 q4 z4 q5 z5
      refine nm_any (fun v2 hnm => ?_)
      have t2 : Only (fun b => b = w.heap.size + 1 + 1) V1 v2 := by rw [hnm]; exact (t1).put rfl
      have rb2_2 : v2.heap[w.heap.size + 1 + 1]? = some (.cells #[.int .i64 x.kind, .bool true, .int .i64 0, .int .i64 0, .int .i64 0, .slice none 0 0] 29 (0, 0)) := by rw [hnm]; exact heap_setList (rb2_1)
      clear hnm eb
      refine wpAnyH_take (i := 6) (v := .pointer (some ⟨w.heap.size + 1 + 1, 2, none⟩)) rfl (by kernel_rfl) (by kernel_rfl) (by kernel_rfl) (fun _ _ _ h => h) (Or.inl ⟨by rfl, fun w' _ => by go_simp <;> omega⟩) t2 ?_
      go_simp
      refine wpAnyH_all (rs := [7]) (by kernel_rfl) (by simp) ?_
      intro i hi
      obtain rfl : i = 7 := by simpa using hi
      clear hi
      refine wpOp_step rfl (fun K hK => ?_)
      go_simp
      have eb := rb2_2
      have q0 := cell_row eb 0
      have z0 := frozen_row eb 0
      have q1 := cell_row eb 1
      have z1 := frozen_row eb 1
      have q2 := cell_row eb 2
      have z2 := frozen_row eb 2
      have q3 := cell_row eb 3
      have z3 := frozen_row eb 3
      have q4 := cell_row eb 4
      have z4 := frozen_row eb 4
      have q5 := cell_row eb 5
      have z5 := frozen_row eb 5
      go_simp
      refine hK _ _ ⟨((t2).put rfl).put rfl, ?_⟩
      clear hK K q0 z0 q1 z1 q2 z2 q3 z3 q4 z4 q5 z5
      refine nm_any (fun v3 hnm => ?_)
      have t3 : Only (fun b => b = w.heap.size + 1 + 1) V1 v3 := by rw [hnm]; exact ((t2).put rfl).put rfl
      have rb2_3 : v3.heap[w.heap.size + 1 + 1]? = some (.cells #[.int .i64 x.kind, .bool true, .int .i64 x.id.index, .int .i64 x.id.gen, .int .i64 0, .slice none 0 0] 29 (0, 0)) := by rw [hnm]; exact heap_setList (heap_setList (rb2_2))
      clear hnm eb
      refine wpAnyH_done (by kernel_rfl) ?_ _
      have S2 := Lib.hid (show Only (Box w 3) V1 v3 from (t3).wid (fun b hb => by first | (unfold Box; omega) | (dsimp only at hb; unfold Box; omega)))
      have O2 := Lib.hid (O1.out.trans S2.out)
      have R0_2 := Lib.hid (show v3.heap[w.heap.size]? = some (.cells #[.int .i64 x.kind, .bool true, .int .i64 x.id.index, .int .i64 x.id.gen, .int .i64 x.comp, .slice Ad x.data.length cd] 29 (0, 0)) from row_only t3 R0_1.out (by first | omega | (dsimp only; omega)))
      have R1_2 := Lib.hid (show v3.heap[w.heap.size + 1]? = some (.cells #[.int .i64 0, .bool false, .int .i64 0, .int .i64 0, .int .i64 0, .slice none 0 0] 29 (0, 0)) from row_only t3 R1_1.out (by first | omega | (dsimp only; omega)))
      have R2_2 := Lib.hid (show v3.heap[w.heap.size + 1 + 1]? = some (.cells #[.int .i64 x.kind, .bool true, .int .i64 x.id.index, .int .i64 x.id.gen, .int .i64 0, .slice none 0 0] 29 (0, 0)) from rb2_3)
      clear rb2_3
      have q0_0 := cell_row R0_2.out 0
      have z0_0 := frozen_row R0_2.out 0
      have q0_1 := cell_row R0_2.out 1
      have z0_1 := frozen_row R0_2.out 1
      have q0_2 := cell_row R0_2.out 2
      have z0_2 := frozen_row R0_2.out 2
      have q0_3 := cell_row R0_2.out 3
      have z0_3 := frozen_row R0_2.out 3
      have q0_4 := cell_row R0_2.out 4
      have z0_4 := frozen_row R0_2.out 4
      have q0_5 := cell_row R0_2.out 5
      have z0_5 := frozen_row R0_2.out 5
      have q1_0 := cell_row R1_2.out 0
      have z1_0 := frozen_row R1_2.out 0
      have q1_1 := cell_row R1_2.out 1
      have z1_1 := frozen_row R1_2.out 1
      have q1_2 := cell_row R1_2.out 2
      have z1_2 := frozen_row R1_2.out 2
      have q1_3 := cell_row R1_2.out 3
      have z1_3 := frozen_row R1_2.out 3
      have q1_4 := cell_row R1_2.out 4
      have z1_4 := frozen_row R1_2.out 4
      have q1_5 := cell_row R1_2.out 5
      have z1_5 := frozen_row R1_2.out 5
      have q2_0 := cell_row R2_2.out 0
      have z2_0 := frozen_row R2_2.out 0
      have q2_1 := cell_row R2_2.out 1
      have z2_1 := frozen_row R2_2.out 1
      have q2_2 := cell_row R2_2.out 2
      have z2_2 := frozen_row R2_2.out 2
      have q2_3 := cell_row R2_2.out 3
      have z2_3 := frozen_row R2_2.out 3
      have q2_4 := cell_row R2_2.out 4
      have z2_4 := frozen_row R2_2.out 4
      have q2_5 := cell_row R2_2.out 5
      have z2_5 := frozen_row R2_2.out 5
      go_wp2_with (with_reducible refine stopLoad 29 3 rfl ?_)
      refine Lib.hid ?_
      clear q0_0 z0_0 q0_1 z0_1 q0_2 z0_2 q0_3 z0_3 q0_4 z0_4 q0_5 z0_5 q1_0 z1_0 q1_1 z1_1 q1_2 z1_2 q1_3 z1_3 q1_4 z1_4 q1_5 z1_5 q2_0 z2_0 q2_1 z2_1 q2_2 z2_2 q2_3 z2_3 q2_4 z2_4 q2_5 z2_5
      refine nm_list (fun V4 hnm => ?_)
      have S3 := Lib.hid (show Only (Box w 3) v3 V4 from (by rw [hnm]; exact (Only.refl (Box w 3) v3).put ⟨by omega, by omega⟩))
      have O3 := Lib.hid (O2.out.trans S3.out)
      have R0_3 := Lib.hid (show V4.heap[w.heap.size]? = some (.cells #[.int .i64 x.kind, .bool true, .int .i64 x.id.index, .int .i64 x.id.gen, .int .i64 x.comp, .slice Ad x.data.length cd] 29 (0, 0)) from (by rw [hnm]; exact row_other (R0_2.out) (by omega)))
      have R1_3 := Lib.hid (show V4.heap[w.heap.size + 1]? = some (.cells #[.int .i64 0, .bool false, .int .i64 0, .int .i64 0, .int .i64 0, .slice none 0 0] 29 (0, 0)) from (by rw [hnm]; exact row_other (R1_2.out) (by omega)))
      have R2_3 := Lib.hid (show V4.heap[w.heap.size + 1 + 1]? = some (.cells #[.int .i64 x.kind, .bool true, .int .i64 x.id.index, .int .i64 0, .int .i64 0, .slice none 0 0] 29 (0, 0)) from (by rw [hnm]; exact heap_setList (R2_2.out)))
      clear hnm
      have q0_0 := cell_row R0_3.out 0
      have z0_0 := frozen_row R0_3.out 0
      have q0_1 := cell_row R0_3.out 1
      have z0_1 := frozen_row R0_3.out 1
      have q0_2 := cell_row R0_3.out 2
      have z0_2 := frozen_row R0_3.out 2
      have q0_3 := cell_row R0_3.out 3
      have z0_3 := frozen_row R0_3.out 3
      have q0_4 := cell_row R0_3.out 4
      have z0_4 := frozen_row R0_3.out 4
      have q0_5 := cell_row R0_3.out 5
      have z0_5 := frozen_row R0_3.out 5
      have q1_0 := cell_row R1_3.out 0
      have z1_0 := frozen_row R1_3.out 0
      have q1_1 := cell_row R1_3.out 1
      have z1_1 := frozen_row R1_3.out 1
      have q1_2 := cell_row R1_3.out 2
      have z1_2 := frozen_row R1_3.out 2
      have q1_3 := cell_row R1_3.out 3
      have z1_3 := frozen_row R1_3.out 3
      have q1_4 := cell_row R1_3.out 4
      have z1_4 := frozen_row R1_3.out 4
      have q1_5 := cell_row R1_3.out 5
      have z1_5 := frozen_row R1_3.out 5
      have q2_0 := cell_row R2_3.out 0
      have z2_0 := frozen_row R2_3.out 0
      have q2_1 := cell_row R2_3.out 1
      have z2_1 := frozen_row R2_3.out 1
      have q2_2 := cell_row R2_3.out 2
      have z2_2 := frozen_row R2_3.out 2
      have q2_3 := cell_row R2_3.out 3
      have z2_3 := frozen_row R2_3.out 3
      have q2_4 := cell_row R2_3.out 4
      have z2_4 := frozen_row R2_3.out 4
      have q2_5 := cell_row R2_3.out 5
      have z2_5 := frozen_row R2_3.out 5
      go_wp2_with fail
      clear q0_0 z0_0 q0_1 z0_1 q0_2 z0_2 q0_3 z0_3 q0_4 z0_4 q0_5 z0_5 q1_0 z1_0 q1_1 z1_1 q1_2 z1_2 q1_3 z1_3 q1_4 z1_4 q1_5 z1_5 q2_0 z2_0 q2_1 z2_1 q2_2 z2_2 q2_3 z2_3 q2_4 z2_4 q2_5 z2_5
      refine nm_post (fun V9 hnm => ?_)
      have S4 := Lib.hid (show Only (Box w 3) V4 V9 from (by rw [hnm]; exact ((((((Only.refl (Box w 3) V4).put ⟨by omega, by omega⟩).put ⟨by omega, by omega⟩).put ⟨by omega, by omega⟩).put ⟨by omega, by omega⟩).put ⟨by omega, by omega⟩).put ⟨by omega, by omega⟩))
      have O4 := Lib.hid (O3.out.trans S4.out)
      have R0_4 := Lib.hid (show V9.heap[w.heap.size]? = some (.cells #[.int .i64 x.kind, .bool true, .int .i64 x.id.index, .int .i64 x.id.gen, .int .i64 x.comp, .slice Ad x.data.length cd] 29 (0, 0)) from (by rw [hnm]; exact row_other (row_other (row_other (row_other (row_other (row_other (R0_3.out) (by omega)) (by omega)) (by omega)) (by omega)) (by omega)) (by omega)))
      have R1_4 := Lib.hid (show V9.heap[w.heap.size + 1]? = some (.cells #[.int .i64 x.kind, .bool true, .int .i64 x.id.index, .int .i64 0, .int .i64 0, .slice none 0 0] 29 (0, 0)) from (by rw [hnm]; exact heap_setList (heap_setList (heap_setList (heap_setList (heap_setList (heap_setList (R1_3.out))))))))
      have R2_4 := Lib.hid (show V9.heap[w.heap.size + 1 + 1]? = some (.cells #[.int .i64 x.kind, .bool true, .int .i64 x.id.index, .int .i64 0, .int .i64 0, .slice none 0 0] 29 (0, 0)) from (by rw [hnm]; exact row_other (row_other (row_other (row_other (row_other (row_other (R2_3.out) (by omega)) (by omega)) (by omega)) (by omega)) (by omega)) (by omega)))
      clear hnm
      have q1_0 := cell_row R1_4.out 0
      have q1_1 := cell_row R1_4.out 1
      have q1_2 := cell_row R1_4.out 2
      have q1_3 := cell_row R1_4.out 3
      have q1_4 := cell_row R1_4.out 4
      have q1_5 := cell_row R1_4.out 5
      refine ⟨rfl, .agg #[.int .i64 x.kind, .bool true, .int .i64 x.id.index, .int .i64 0, .int .i64 0, .slice none 0 0], by simp only [results, hfr]; go_simp, ?_⟩
      clear q1_0 q1_1 q1_2 q1_3 q1_4 q1_5
      have HP := Lib.hid (show plainC x = ⟨x.kind, true, ⟨x.id.index, 0⟩, 0, []⟩ by unfold plainC; rw [if_pos HK.out]; simp [HKK.out, HL.out])
      exact ⟨_, rfl, by rw [HP.out]; exact cmd_bare (x := ⟨x.kind, true, ⟨x.id.index, 0⟩, 0, []⟩) HF.out.1 HF.out.2.1 wf0 wf0 rfl, Only.fin HB0.out O4.out⟩
    · have HKK := Lib.hid h
      have b2 : (x.kind == 2) = true := by simp [h]
      have b3 : (x.kind == 3) = false := by simp [h]
      have b1 : (x.kind == 1) = false := by simp [h]
      clear h
      obtain ⟨W0, hW0⟩ : ∃ W, ((w.alloc (.cells #[.int .i64 x.kind, .bool true, .int .i64 x.id.index, .int .i64 x.id.gen, .int .i64 x.comp, .slice Ad x.data.length cd] 29)).alloc (.cells #[.int .i64 0, .bool false, .int .i64 0, .int .i64 0, .int .i64 0, .slice none 0 0] 29)) = W := ⟨_, rfl⟩
      have hz0 : W0.heap.size = w.heap.size + 2 := by rw [← hW0]; simp
      have hb0 : Below w.heap.size w W0 := by rw [← hW0]; exact ((Below.refl _ _).alloc (Nat.le_refl _) _).alloc (by first | (simp; done) | (simp; omega)) _
      have HZ := Lib.hid hz0
      have HB0 := Lib.hid hb0
      have R0_0 := Lib.hid (show W0.heap[w.heap.size]? = some (.cells #[.int .i64 x.kind, .bool true, .int .i64 x.id.index, .int .i64 x.id.gen, .int .i64 x.comp, .slice Ad x.data.length cd] 29 (0, 0)) by rw [← hW0]; exact alloc_old (alloc_at rfl))
      have R1_0 := Lib.hid (show W0.heap[w.heap.size + 1]? = some (.cells #[.int .i64 0, .bool false, .int .i64 0, .int .i64 0, .int .i64 0, .slice none 0 0] 29 (0, 0)) by rw [← hW0]; exact alloc_at (by simp))
      have O0 := Lib.hid (Only.refl (Box w 3) W0)
      have Vd_0 := Lib.hid (show Rep.byte.list.val (In Q w 3) W0 (.slice Ad x.data.length cd) x.data from val_in HSL.out hb0)
      clear hz0 hb0
      have q0_0 := cell_row R0_0.out 0
      have z0_0 := frozen_row R0_0.out 0
      have q0_1 := cell_row R0_0.out 1
      have z0_1 := frozen_row R0_0.out 1
      have q0_2 := cell_row R0_0.out 2
      have z0_2 := frozen_row R0_0.out 2
      have q0_3 := cell_row R0_0.out 3
      have z0_3 := frozen_row R0_0.out 3
      have q0_4 := cell_row R0_0.out 4
      have z0_4 := frozen_row R0_0.out 4
      have q0_5 := cell_row R0_0.out 5
      have z0_5 := frozen_row R0_0.out 5
      have q1_0 := cell_row R1_0.out 0
      have z1_0 := frozen_row R1_0.out 0
      have q1_1 := cell_row R1_0.out 1
      have z1_1 := frozen_row R1_0.out 1
      have q1_2 := cell_row R1_0.out 2
      have z1_2 := frozen_row R1_0.out 2
      have q1_3 := cell_row R1_0.out 3
      have z1_3 := frozen_row R1_0.out 3
      have q1_4 := cell_row R1_0.out 4
      have z1_4 := frozen_row R1_0.out 4
      have q1_5 := cell_row R1_0.out 5
      have z1_5 := frozen_row R1_0.out 5
      go_enter Tryz.func57, Tryz.ntmps57
      go_wp2_with fail
      try rw [hW0]
      clear hW0
      try go_wp2_with fail
      clear q0_0 z0_0 q0_1 z0_1 q0_2 z0_2 q0_3 z0_3 q0_4 z0_4 q0_5 z0_5 q1_0 z1_0 q1_1 z1_1 q1_2 z1_2 q1_3 z1_3 q1_4 z1_4 q1_5 z1_5
      refine (known_calls _ _).mono ?_
      rintro e w1 ⟨rfl, rfl⟩
      rw [HK.out]
      have q0_0 := cell_row R0_0.out 0
      have z0_0 := frozen_row R0_0.out 0
      have q0_1 := cell_row R0_0.out 1
      have z0_1 := frozen_row R0_0.out 1
      have q0_2 := cell_row R0_0.out 2
      have z0_2 := frozen_row R0_0.out 2
      have q0_3 := cell_row R0_0.out 3
      have z0_3 := frozen_row R0_0.out 3
      have q0_4 := cell_row R0_0.out 4
      have z0_4 := frozen_row R0_0.out 4
      have q0_5 := cell_row R0_0.out 5
      have z0_5 := frozen_row R0_0.out 5
      have q1_0 := cell_row R1_0.out 0
      have z1_0 := frozen_row R1_0.out 0
      have q1_1 := cell_row R1_0.out 1
      have z1_1 := frozen_row R1_0.out 1
      have q1_2 := cell_row R1_0.out 2
      have z1_2 := frozen_row R1_0.out 2
      have q1_3 := cell_row R1_0.out 3
      have z1_3 := frozen_row R1_0.out 3
      have q1_4 := cell_row R1_0.out 4
      have z1_4 := frozen_row R1_0.out 4
      have q1_5 := cell_row R1_0.out 5
      have z1_5 := frozen_row R1_0.out 5
      go_wp2_with (with_reducible refine stopLoad 3 16 rfl ?_)
      refine Lib.hid ?_
      clear q0_0 z0_0 q0_1 z0_1 q0_2 z0_2 q0_3 z0_3 q0_4 z0_4 q0_5 z0_5 q1_0 z1_0 q1_1 z1_1 q1_2 z1_2 q1_3 z1_3 q1_4 z1_4 q1_5 z1_5
      rw [show w1.heap.size = w.heap.size + 1 + 1 by have := HZ.out; omega]
      refine nm_list (fun V1 hnm => ?_)
      have S1 := Lib.hid (show Only (Box w 3) w1 V1 from (by rw [hnm]; exact (Only.refl (Box w 3) w1).alloc _))
      have O1 := Lib.hid (O0.out.trans S1.out)
      have R0_1 := Lib.hid (show V1.heap[w.heap.size]? = some (.cells #[.int .i64 x.kind, .bool true, .int .i64 x.id.index, .int .i64 x.id.gen, .int .i64 x.comp, .slice Ad x.data.length cd] 29 (0, 0)) from (by rw [hnm]; exact alloc_old (R0_0.out)))
      have R1_1 := Lib.hid (show V1.heap[w.heap.size + 1]? = some (.cells #[.int .i64 0, .bool false, .int .i64 0, .int .i64 0, .int .i64 0, .slice none 0 0] 29 (0, 0)) from (by rw [hnm]; exact alloc_old (R1_0.out)))
      have R2_1 := Lib.hid (show V1.heap[w.heap.size + 1 + 1]? = some (.cells #[.int .i64 x.kind, .bool false, .int .i64 0, .int .i64 0, .int .i64 0, .slice none 0 0] 29 (0, 0)) from (by rw [hnm]; exact alloc_at (by have := HZ.out; first | omega | (simp <;> omega))))
      have Vd_1 := Lib.hid (val_only Vd_0.out S1.out)
      clear hnm
      have q0_0 := cell_row R0_1.out 0
      have z0_0 := frozen_row R0_1.out 0
      have q0_1 := cell_row R0_1.out 1
      have z0_1 := frozen_row R0_1.out 1
      have q0_2 := cell_row R0_1.out 2
      have z0_2 := frozen_row R0_1.out 2
      have q0_3 := cell_row R0_1.out 3
      have z0_3 := frozen_row R0_1.out 3
      have q0_4 := cell_row R0_1.out 4
      have z0_4 := frozen_row R0_1.out 4
      have q0_5 := cell_row R0_1.out 5
      have z0_5 := frozen_row R0_1.out 5
      have q1_0 := cell_row R1_1.out 0
      have z1_0 := frozen_row R1_1.out 0
      have q1_1 := cell_row R1_1.out 1
      have z1_1 := frozen_row R1_1.out 1
      have q1_2 := cell_row R1_1.out 2
      have z1_2 := frozen_row R1_1.out 2
      have q1_3 := cell_row R1_1.out 3
      have z1_3 := frozen_row R1_1.out 3
      have q1_4 := cell_row R1_1.out 4
      have z1_4 := frozen_row R1_1.out 4
      have q1_5 := cell_row R1_1.out 5
      have z1_5 := frozen_row R1_1.out 5
      have q2_0 := cell_row R2_1.out 0
      have z2_0 := frozen_row R2_1.out 0
      have q2_1 := cell_row R2_1.out 1
      have z2_1 := frozen_row R2_1.out 1
      have q2_2 := cell_row R2_1.out 2
      have z2_2 := frozen_row R2_1.out 2
      have q2_3 := cell_row R2_1.out 3
      have z2_3 := frozen_row R2_1.out 3
      have q2_4 := cell_row R2_1.out 4
      have z2_4 := frozen_row R2_1.out 4
      have q2_5 := cell_row R2_1.out 5
      have z2_5 := frozen_row R2_1.out 5
      go_wp2_with fail
      clear q0_0 z0_0 q0_1 z0_1 q0_2 z0_2 q0_3 z0_3 q0_4 z0_4 q0_5 z0_5 q1_0 z1_0 q1_1 z1_1 q1_2 z1_2 q1_3 z1_3 q1_4 z1_4 q1_5 z1_5 q2_0 z2_0 q2_1 z2_1 q2_2 z2_2 q2_3 z2_3 q2_4 z2_4 q2_5 z2_5
      refine (bytesClone Vd_1.out (by have := HD.out; omega)).mono ?_
      rintro e w2 ⟨vd, rfl, hvd, hb⟩
      have S2 := Lib.hid (show Only (Box w 3) V1 w2 from Only.of_below hb)
      have O2 := Lib.hid (O1.out.trans S2.out)
      have R0_2 := Lib.hid (show w2.heap[w.heap.size]? = some (.cells #[.int .i64 x.kind, .bool true, .int .i64 x.id.index, .int .i64 x.id.gen, .int .i64 x.comp, .slice Ad x.data.length cd] 29 (0, 0)) from row_call hb R0_1.out)
      have R1_2 := Lib.hid (show w2.heap[w.heap.size + 1]? = some (.cells #[.int .i64 0, .bool false, .int .i64 0, .int .i64 0, .int .i64 0, .slice none 0 0] 29 (0, 0)) from row_call hb R1_1.out)
      have R2_2 := Lib.hid (show w2.heap[w.heap.size + 1 + 1]? = some (.cells #[.int .i64 x.kind, .bool false, .int .i64 0, .int .i64 0, .int .i64 0, .slice none 0 0] 29 (0, 0)) from row_call hb R2_1.out)
      have Vd_2 := Lib.hid (val_only Vd_1.out S2.out)
      have Ve_2 := Lib.hid (val_fresh (Q := fun _ => False) (w := w) (n := 3) hvd (by have := O1.out.size; have := HZ.out; have := Below.size hb; have h9 := (Array.getElem?_eq_some_iff.1 R2_1.out).1; omega))
      obtain ⟨Bd, dd, rfl, hsl⟩ := Rep.val_sl hvd
      clear hvd hb hsl
      have q0_0 := cell_row R0_2.out 0
      have z0_0 := frozen_row R0_2.out 0
      have q0_1 := cell_row R0_2.out 1
      have z0_1 := frozen_row R0_2.out 1
      have q0_2 := cell_row R0_2.out 2
      have z0_2 := frozen_row R0_2.out 2
      have q0_3 := cell_row R0_2.out 3
      have z0_3 := frozen_row R0_2.out 3
      have q0_4 := cell_row R0_2.out 4
      have z0_4 := frozen_row R0_2.out 4
      have q0_5 := cell_row R0_2.out 5
      have z0_5 := frozen_row R0_2.out 5
      have q1_0 := cell_row R1_2.out 0
      have z1_0 := frozen_row R1_2.out 0
      have q1_1 := cell_row R1_2.out 1
      have z1_1 := frozen_row R1_2.out 1
      have q1_2 := cell_row R1_2.out 2
      have z1_2 := frozen_row R1_2.out 2
      have q1_3 := cell_row R1_2.out 3
      have z1_3 := frozen_row R1_2.out 3
      have q1_4 := cell_row R1_2.out 4
      have z1_4 := frozen_row R1_2.out 4
      have q1_5 := cell_row R1_2.out 5
      have z1_5 := frozen_row R1_2.out 5
      have q2_0 := cell_row R2_2.out 0
      have z2_0 := frozen_row R2_2.out 0
      have q2_1 := cell_row R2_2.out 1
      have z2_1 := frozen_row R2_2.out 1
      have q2_2 := cell_row R2_2.out 2
      have z2_2 := frozen_row R2_2.out 2
      have q2_3 := cell_row R2_2.out 3
      have z2_3 := frozen_row R2_2.out 3
      have q2_4 := cell_row R2_2.out 4
      have z2_4 := frozen_row R2_2.out 4
      have q2_5 := cell_row R2_2.out 5
      have z2_5 := frozen_row R2_2.out 5
      go_wp2_with fail
      clear q0_0 z0_0 q0_1 z0_1 q0_2 z0_2 q0_3 z0_3 q0_4 z0_4 q0_5 z0_5 q1_0 z1_0 q1_1 z1_1 q1_2 z1_2 q1_3 z1_3 q1_4 z1_4 q1_5 z1_5 q2_0 z2_0 q2_1 z2_1 q2_2 z2_2 q2_3 z2_3 q2_4 z2_4 q2_5 z2_5
      refine nm_region (fun V3 hnm => ?_)
      have S3 := Lib.hid (show Only (Box w 3) w2 V3 from (by rw [hnm]; exact ((Only.refl (Box w 3) w2).put ⟨by omega, by omega⟩).put ⟨by omega, by omega⟩))
      have O3 := Lib.hid (O2.out.trans S3.out)
      have R0_3 := Lib.hid (show V3.heap[w.heap.size]? = some (.cells #[.int .i64 x.kind, .bool true, .int .i64 x.id.index, .int .i64 x.id.gen, .int .i64 x.comp, .slice Ad x.data.length cd] 29 (0, 0)) from (by rw [hnm]; exact row_other (row_other (R0_2.out) (by omega)) (by omega)))
      have R1_3 := Lib.hid (show V3.heap[w.heap.size + 1]? = some (.cells #[.int .i64 0, .bool false, .int .i64 0, .int .i64 0, .int .i64 0, .slice none 0 0] 29 (0, 0)) from (by rw [hnm]; exact row_other (row_other (R1_2.out) (by omega)) (by omega)))
      have R2_3 := Lib.hid (show V3.heap[w.heap.size + 1 + 1]? = some (.cells #[.int .i64 x.kind, .bool false, .int .i64 0, .int .i64 0, .int .i64 x.comp, .slice Bd x.data.length dd] 29 (0, 0)) from (by rw [hnm]; exact heap_setList (heap_setList (R2_2.out))))
      have Vd_3 := Lib.hid (val_only Vd_2.out S3.out)
      have Ve_3 := Lib.hid (val_only Ve_2.out S3.out)
      clear hnm
      refine wp_region_held_drew (S := fun W => Only (fun b => b = w.heap.size + 1 + 1) V3 W) (by kernel_rfl) ((Only.refl _ _).drw) (fun s0 => ?_)
      obtain ⟨v1, hv0⟩ : ∃ V, V = V3.drew := ⟨_, rfl⟩
      rw [← hv0] at s0 ⊢
      have t1 : Only (fun b => b = w.heap.size + 1 + 1) V3 v1 := s0
      have rb2_1 : v1.heap[w.heap.size + 1 + 1]? = some (.cells #[.int .i64 x.kind, .bool false, .int .i64 0, .int .i64 0, .int .i64 x.comp, .slice Bd x.data.length dd] 29 (0, 0)) := by rw [hv0]; exact R2_3.out
      clear hv0 s0
      refine wpAnyH_take (i := 0) (v := .pointer (some ⟨w.heap.size, 1, none⟩)) rfl (by kernel_rfl) (by kernel_rfl) (by kernel_rfl) (fun _ _ _ h => h) (Or.inl ⟨by rfl, fun w' _ => by go_simp <;> omega⟩) t1 ?_
      go_simp
      refine wpAnyH_take (i := 1) (v := .bool true) rfl (by kernel_rfl) (by kernel_rfl) (by kernel_rfl) (fun _ _ _ h => h) (Or.inl ⟨by rfl, fun w' h => by have e := row_only (h : Only (fun b => b = w.heap.size + 1 + 1) V3 w') R0_3.out (by first | omega | (dsimp only; omega)); have e0 := cell_row e 0; have e1 := cell_row e 1; have e2 := cell_row e 2; have e3 := cell_row e 3; have e4 := cell_row e 4; have e5 := cell_row e 5; go_simp⟩) t1 ?_
      go_simp
      refine wpAnyH_take (i := 2) (v := .pointer (some ⟨w.heap.size, 2, none⟩)) rfl (by kernel_rfl) (by kernel_rfl) (by kernel_rfl) (fun _ _ _ h => h) (Or.inl ⟨by rfl, fun w' _ => by go_simp <;> omega⟩) t1 ?_
      go_simp
      refine wpAnyH_take (i := 3) (v := .agg #[.int .i64 x.id.index, .int .i64 x.id.gen]) rfl (by kernel_rfl) (by kernel_rfl) (by kernel_rfl) (fun _ _ _ h => h) (Or.inl ⟨by rfl, fun w' h => by have e := row_only (h : Only (fun b => b = w.heap.size + 1 + 1) V3 w') R0_3.out (by first | omega | (dsimp only; omega)); have e0 := cell_row e 0; have e1 := cell_row e 1; have e2 := cell_row e 2; have e3 := cell_row e 3; have e4 := cell_row e 4; have e5 := cell_row e 5; go_simp⟩) t1 ?_
      go_simp
      refine wpAnyH_take (i := 4) (v := .pointer (some ⟨w.heap.size + 1 + 1, 1, none⟩)) rfl (by kernel_rfl) (by kernel_rfl) (by kernel_rfl) (fun _ _ _ h => h) (Or.inl ⟨by rfl, fun w' _ => by go_simp <;> omega⟩) t1 ?_
      go_simp
      refine wpAnyH_all (rs := [5]) (by kernel_rfl) (by simp) ?_
      intro i hi
      obtain rfl : i = 5 := by simpa using hi
      clear hi
      refine wpOp_step rfl (fun K hK => ?_)
      go_simp
      have eb := rb2_1
      have q0 := cell_row eb 0
      have z0 := frozen_row eb 0
      have q1 := cell_row eb 1
      have z1 := frozen_row eb 1
      have q2 := cell_row eb 2
      have z2 := frozen_row eb 2
      have q3 := cell_row eb 3
      have z3 := frozen_row eb 3
      have q4 := cell_row eb 4
      have z4 := frozen_row eb 4
      have q5 := cell_row eb 5
      have z5 := frozen_row eb 5
      go_simp
      refine hK _ _ ⟨(t1).put rfl, ?_⟩
      clear hK K q0 z0 q1 z1 q2 z2 q3 z3 q4 z4 q5 z5
      refine nm_any (fun v2 hnm => ?_)
      have t2 : Only (fun b => b = w.heap.size + 1 + 1) V3 v2 := by rw [hnm]; exact (t1).put rfl
      have rb2_2 : v2.heap[w.heap.size + 1 + 1]? = some (.cells #[.int .i64 x.kind, .bool true, .int .i64 0, .int .i64 0, .int .i64 x.comp, .slice Bd x.data.length dd] 29 (0, 0)) := by rw [hnm]; exact heap_setList (rb2_1)
      clear hnm eb
      refine wpAnyH_take (i := 6) (v := .pointer (some ⟨w.heap.size + 1 + 1, 2, none⟩)) rfl (by kernel_rfl) (by kernel_rfl) (by kernel_rfl) (fun _ _ _ h => h) (Or.inl ⟨by rfl, fun w' _ => by go_simp <;> omega⟩) t2 ?_
      go_simp
      refine wpAnyH_all (rs := [7]) (by kernel_rfl) (by simp) ?_
      intro i hi
      obtain rfl : i = 7 := by simpa using hi
      clear hi
      refine wpOp_step rfl (fun K hK => ?_)
      go_simp
      have eb := rb2_2
      have q0 := cell_row eb 0
      have z0 := frozen_row eb 0
      have q1 := cell_row eb 1
      have z1 := frozen_row eb 1
      have q2 := cell_row eb 2
      have z2 := frozen_row eb 2
      have q3 := cell_row eb 3
      have z3 := frozen_row eb 3
      have q4 := cell_row eb 4
      have z4 := frozen_row eb 4
      have q5 := cell_row eb 5
      have z5 := frozen_row eb 5
      go_simp
      refine hK _ _ ⟨((t2).put rfl).put rfl, ?_⟩
      clear hK K q0 z0 q1 z1 q2 z2 q3 z3 q4 z4 q5 z5
      refine nm_any (fun v3 hnm => ?_)
      have t3 : Only (fun b => b = w.heap.size + 1 + 1) V3 v3 := by rw [hnm]; exact ((t2).put rfl).put rfl
      have rb2_3 : v3.heap[w.heap.size + 1 + 1]? = some (.cells #[.int .i64 x.kind, .bool true, .int .i64 x.id.index, .int .i64 x.id.gen, .int .i64 x.comp, .slice Bd x.data.length dd] 29 (0, 0)) := by rw [hnm]; exact heap_setList (heap_setList (rb2_2))
      clear hnm eb
      refine wpAnyH_done (by kernel_rfl) ?_ _
      have S4 := Lib.hid (show Only (Box w 3) V3 v3 from (t3).wid (fun b hb => by first | (unfold Box; omega) | (dsimp only at hb; unfold Box; omega)))
      have O4 := Lib.hid (O3.out.trans S4.out)
      have R0_4 := Lib.hid (show v3.heap[w.heap.size]? = some (.cells #[.int .i64 x.kind, .bool true, .int .i64 x.id.index, .int .i64 x.id.gen, .int .i64 x.comp, .slice Ad x.data.length cd] 29 (0, 0)) from row_only t3 R0_3.out (by first | omega | (dsimp only; omega)))
      have R1_4 := Lib.hid (show v3.heap[w.heap.size + 1]? = some (.cells #[.int .i64 0, .bool false, .int .i64 0, .int .i64 0, .int .i64 0, .slice none 0 0] 29 (0, 0)) from row_only t3 R1_3.out (by first | omega | (dsimp only; omega)))
      have R2_4 := Lib.hid (show v3.heap[w.heap.size + 1 + 1]? = some (.cells #[.int .i64 x.kind, .bool true, .int .i64 x.id.index, .int .i64 x.id.gen, .int .i64 x.comp, .slice Bd x.data.length dd] 29 (0, 0)) from rb2_3)
      have Vd_4 := Lib.hid (val_only Vd_3.out S4.out)
      have Ve_4 := Lib.hid (val_only Ve_3.out S4.out)
      clear rb2_3
      have q0_0 := cell_row R0_4.out 0
      have z0_0 := frozen_row R0_4.out 0
      have q0_1 := cell_row R0_4.out 1
      have z0_1 := frozen_row R0_4.out 1
      have q0_2 := cell_row R0_4.out 2
      have z0_2 := frozen_row R0_4.out 2
      have q0_3 := cell_row R0_4.out 3
      have z0_3 := frozen_row R0_4.out 3
      have q0_4 := cell_row R0_4.out 4
      have z0_4 := frozen_row R0_4.out 4
      have q0_5 := cell_row R0_4.out 5
      have z0_5 := frozen_row R0_4.out 5
      have q1_0 := cell_row R1_4.out 0
      have z1_0 := frozen_row R1_4.out 0
      have q1_1 := cell_row R1_4.out 1
      have z1_1 := frozen_row R1_4.out 1
      have q1_2 := cell_row R1_4.out 2
      have z1_2 := frozen_row R1_4.out 2
      have q1_3 := cell_row R1_4.out 3
      have z1_3 := frozen_row R1_4.out 3
      have q1_4 := cell_row R1_4.out 4
      have z1_4 := frozen_row R1_4.out 4
      have q1_5 := cell_row R1_4.out 5
      have z1_5 := frozen_row R1_4.out 5
      have q2_0 := cell_row R2_4.out 0
      have z2_0 := frozen_row R2_4.out 0
      have q2_1 := cell_row R2_4.out 1
      have z2_1 := frozen_row R2_4.out 1
      have q2_2 := cell_row R2_4.out 2
      have z2_2 := frozen_row R2_4.out 2
      have q2_3 := cell_row R2_4.out 3
      have z2_3 := frozen_row R2_4.out 3
      have q2_4 := cell_row R2_4.out 4
      have z2_4 := frozen_row R2_4.out 4
      have q2_5 := cell_row R2_4.out 5
      have z2_5 := frozen_row R2_4.out 5
      go_wp2_with (with_reducible refine stopLoad 29 3 rfl ?_)
      refine Lib.hid ?_
      clear q0_0 z0_0 q0_1 z0_1 q0_2 z0_2 q0_3 z0_3 q0_4 z0_4 q0_5 z0_5 q1_0 z1_0 q1_1 z1_1 q1_2 z1_2 q1_3 z1_3 q1_4 z1_4 q1_5 z1_5 q2_0 z2_0 q2_1 z2_1 q2_2 z2_2 q2_3 z2_3 q2_4 z2_4 q2_5 z2_5
      refine nm_list (fun V4 hnm => ?_)
      have S5 := Lib.hid (show Only (Box w 3) v3 V4 from (by rw [hnm]; exact (Only.refl (Box w 3) v3).put ⟨by omega, by omega⟩))
      have O5 := Lib.hid (O4.out.trans S5.out)
      have R0_5 := Lib.hid (show V4.heap[w.heap.size]? = some (.cells #[.int .i64 x.kind, .bool true, .int .i64 x.id.index, .int .i64 x.id.gen, .int .i64 x.comp, .slice Ad x.data.length cd] 29 (0, 0)) from (by rw [hnm]; exact row_other (R0_4.out) (by omega)))
      have R1_5 := Lib.hid (show V4.heap[w.heap.size + 1]? = some (.cells #[.int .i64 0, .bool false, .int .i64 0, .int .i64 0, .int .i64 0, .slice none 0 0] 29 (0, 0)) from (by rw [hnm]; exact row_other (R1_4.out) (by omega)))
      have R2_5 := Lib.hid (show V4.heap[w.heap.size + 1 + 1]? = some (.cells #[.int .i64 x.kind, .bool true, .int .i64 x.id.index, .int .i64 0, .int .i64 x.comp, .slice Bd x.data.length dd] 29 (0, 0)) from (by rw [hnm]; exact heap_setList (R2_4.out)))
      have Vd_5 := Lib.hid (val_only Vd_4.out S5.out)
      have Ve_5 := Lib.hid (val_only Ve_4.out S5.out)
      clear hnm
      have q0_0 := cell_row R0_5.out 0
      have z0_0 := frozen_row R0_5.out 0
      have q0_1 := cell_row R0_5.out 1
      have z0_1 := frozen_row R0_5.out 1
      have q0_2 := cell_row R0_5.out 2
      have z0_2 := frozen_row R0_5.out 2
      have q0_3 := cell_row R0_5.out 3
      have z0_3 := frozen_row R0_5.out 3
      have q0_4 := cell_row R0_5.out 4
      have z0_4 := frozen_row R0_5.out 4
      have q0_5 := cell_row R0_5.out 5
      have z0_5 := frozen_row R0_5.out 5
      have q1_0 := cell_row R1_5.out 0
      have z1_0 := frozen_row R1_5.out 0
      have q1_1 := cell_row R1_5.out 1
      have z1_1 := frozen_row R1_5.out 1
      have q1_2 := cell_row R1_5.out 2
      have z1_2 := frozen_row R1_5.out 2
      have q1_3 := cell_row R1_5.out 3
      have z1_3 := frozen_row R1_5.out 3
      have q1_4 := cell_row R1_5.out 4
      have z1_4 := frozen_row R1_5.out 4
      have q1_5 := cell_row R1_5.out 5
      have z1_5 := frozen_row R1_5.out 5
      have q2_0 := cell_row R2_5.out 0
      have z2_0 := frozen_row R2_5.out 0
      have q2_1 := cell_row R2_5.out 1
      have z2_1 := frozen_row R2_5.out 1
      have q2_2 := cell_row R2_5.out 2
      have z2_2 := frozen_row R2_5.out 2
      have q2_3 := cell_row R2_5.out 3
      have z2_3 := frozen_row R2_5.out 3
      have q2_4 := cell_row R2_5.out 4
      have z2_4 := frozen_row R2_5.out 4
      have q2_5 := cell_row R2_5.out 5
      have z2_5 := frozen_row R2_5.out 5
      go_wp2_with fail
      clear q0_0 z0_0 q0_1 z0_1 q0_2 z0_2 q0_3 z0_3 q0_4 z0_4 q0_5 z0_5 q1_0 z1_0 q1_1 z1_1 q1_2 z1_2 q1_3 z1_3 q1_4 z1_4 q1_5 z1_5 q2_0 z2_0 q2_1 z2_1 q2_2 z2_2 q2_3 z2_3 q2_4 z2_4 q2_5 z2_5
      refine nm_post (fun V9 hnm => ?_)
      have S6 := Lib.hid (show Only (Box w 3) V4 V9 from (by rw [hnm]; exact ((((((Only.refl (Box w 3) V4).put ⟨by omega, by omega⟩).put ⟨by omega, by omega⟩).put ⟨by omega, by omega⟩).put ⟨by omega, by omega⟩).put ⟨by omega, by omega⟩).put ⟨by omega, by omega⟩))
      have O6 := Lib.hid (O5.out.trans S6.out)
      have R0_6 := Lib.hid (show V9.heap[w.heap.size]? = some (.cells #[.int .i64 x.kind, .bool true, .int .i64 x.id.index, .int .i64 x.id.gen, .int .i64 x.comp, .slice Ad x.data.length cd] 29 (0, 0)) from (by rw [hnm]; exact row_other (row_other (row_other (row_other (row_other (row_other (R0_5.out) (by omega)) (by omega)) (by omega)) (by omega)) (by omega)) (by omega)))
      have R1_6 := Lib.hid (show V9.heap[w.heap.size + 1]? = some (.cells #[.int .i64 x.kind, .bool true, .int .i64 x.id.index, .int .i64 0, .int .i64 x.comp, .slice Bd x.data.length dd] 29 (0, 0)) from (by rw [hnm]; exact heap_setList (heap_setList (heap_setList (heap_setList (heap_setList (heap_setList (R1_5.out))))))))
      have R2_6 := Lib.hid (show V9.heap[w.heap.size + 1 + 1]? = some (.cells #[.int .i64 x.kind, .bool true, .int .i64 x.id.index, .int .i64 0, .int .i64 x.comp, .slice Bd x.data.length dd] 29 (0, 0)) from (by rw [hnm]; exact row_other (row_other (row_other (row_other (row_other (row_other (R2_5.out) (by omega)) (by omega)) (by omega)) (by omega)) (by omega)) (by omega)))
      have Vd_6 := Lib.hid (val_only Vd_5.out S6.out)
      have Ve_6 := Lib.hid (val_only Ve_5.out S6.out)
      clear hnm
      have q1_0 := cell_row R1_6.out 0
      have q1_1 := cell_row R1_6.out 1
      have q1_2 := cell_row R1_6.out 2
      have q1_3 := cell_row R1_6.out 3
      have q1_4 := cell_row R1_6.out 4
      have q1_5 := cell_row R1_6.out 5
      refine ⟨rfl, .agg #[.int .i64 x.kind, .bool true, .int .i64 x.id.index, .int .i64 0, .int .i64 x.comp, .slice Bd x.data.length dd], by simp only [results, hfr]; go_simp, ?_⟩
      clear q1_0 q1_1 q1_2 q1_3 q1_4 q1_5
      have HP := Lib.hid (show plainC x = ⟨x.kind, true, ⟨x.id.index, 0⟩, x.comp, x.data⟩ by unfold plainC; rw [if_pos HK.out]; simp [HKK.out, HL.out])
      exact ⟨_, rfl, by rw [HP.out]; exact rCmd_agg (x := ⟨x.kind, true, ⟨x.id.index, 0⟩, x.comp, x.data⟩) HF.out.1 HF.out.2.1 wf0 HF.out.2.2.2 (sl_of (Rep.val_mono (fun b hb _ => by rcases hb with h | h; exact absurd h.1 id; omega) Ve_6.out)), Only.fin HB0.out O6.out⟩
    · have HKK := Lib.hid h
      have b2 : (x.kind == 2) = false := by simp [h]
      have b3 : (x.kind == 3) = true := by simp [h]
      have b1 : (x.kind == 1) = false := by simp [h]
      clear h
      obtain ⟨W0, hW0⟩ : ∃ W, ((w.alloc (.cells #[.int .i64 x.kind, .bool true, .int .i64 x.id.index, .int .i64 x.id.gen, .int .i64 x.comp, .slice Ad x.data.length cd] 29)).alloc (.cells #[.int .i64 0, .bool false, .int .i64 0, .int .i64 0, .int .i64 0, .slice none 0 0] 29)) = W := ⟨_, rfl⟩
      have hz0 : W0.heap.size = w.heap.size + 2 := by rw [← hW0]; simp
      have hb0 : Below w.heap.size w W0 := by rw [← hW0]; exact ((Below.refl _ _).alloc (Nat.le_refl _) _).alloc (by first | (simp; done) | (simp; omega)) _
      have HZ := Lib.hid hz0
      have HB0 := Lib.hid hb0
      have R0_0 := Lib.hid (show W0.heap[w.heap.size]? = some (.cells #[.int .i64 x.kind, .bool true, .int .i64 x.id.index, .int .i64 x.id.gen, .int .i64 x.comp, .slice Ad x.data.length cd] 29 (0, 0)) by rw [← hW0]; exact alloc_old (alloc_at rfl))
      have R1_0 := Lib.hid (show W0.heap[w.heap.size + 1]? = some (.cells #[.int .i64 0, .bool false, .int .i64 0, .int .i64 0, .int .i64 0, .slice none 0 0] 29 (0, 0)) by rw [← hW0]; exact alloc_at (by simp))
      have O0 := Lib.hid (Only.refl (Box w 3) W0)
      clear hz0 hb0
      have q0_0 := cell_row R0_0.out 0
      have z0_0 := frozen_row R0_0.out 0
      have q0_1 := cell_row R0_0.out 1
      have z0_1 := frozen_row R0_0.out 1
      have q0_2 := cell_row R0_0.out 2
      have z0_2 := frozen_row R0_0.out 2
      have q0_3 := cell_row R0_0.out 3
      have z0_3 := frozen_row R0_0.out 3
      have q0_4 := cell_row R0_0.out 4
      have z0_4 := frozen_row R0_0.out 4
      have q0_5 := cell_row R0_0.out 5
      have z0_5 := frozen_row R0_0.out 5
      have q1_0 := cell_row R1_0.out 0
      have z1_0 := frozen_row R1_0.out 0
      have q1_1 := cell_row R1_0.out 1
      have z1_1 := frozen_row R1_0.out 1
      have q1_2 := cell_row R1_0.out 2
      have z1_2 := frozen_row R1_0.out 2
      have q1_3 := cell_row R1_0.out 3
      have z1_3 := frozen_row R1_0.out 3
      have q1_4 := cell_row R1_0.out 4
      have z1_4 := frozen_row R1_0.out 4
      have q1_5 := cell_row R1_0.out 5
      have z1_5 := frozen_row R1_0.out 5
      go_enter Tryz.func57, Tryz.ntmps57
      go_wp2_with fail
      try rw [hW0]
      clear hW0
      try go_wp2_with fail
      clear q0_0 z0_0 q0_1 z0_1 q0_2 z0_2 q0_3 z0_3 q0_4 z0_4 q0_5 z0_5 q1_0 z1_0 q1_1 z1_1 q1_2 z1_2 q1_3 z1_3 q1_4 z1_4 q1_5 z1_5
      refine (known_calls _ _).mono ?_
      rintro e w1 ⟨rfl, rfl⟩
      rw [HK.out]
      have q0_0 := cell_row R0_0.out 0
      have z0_0 := frozen_row R0_0.out 0
      have q0_1 := cell_row R0_0.out 1
      have z0_1 := frozen_row R0_0.out 1
      have q0_2 := cell_row R0_0.out 2
      have z0_2 := frozen_row R0_0.out 2
      have q0_3 := cell_row R0_0.out 3
      have z0_3 := frozen_row R0_0.out 3
      have q0_4 := cell_row R0_0.out 4
      have z0_4 := frozen_row R0_0.out 4
      have q0_5 := cell_row R0_0.out 5
      have z0_5 := frozen_row R0_0.out 5
      have q1_0 := cell_row R1_0.out 0
      have z1_0 := frozen_row R1_0.out 0
      have q1_1 := cell_row R1_0.out 1
      have z1_1 := frozen_row R1_0.out 1
      have q1_2 := cell_row R1_0.out 2
      have z1_2 := frozen_row R1_0.out 2
      have q1_3 := cell_row R1_0.out 3
      have z1_3 := frozen_row R1_0.out 3
      have q1_4 := cell_row R1_0.out 4
      have z1_4 := frozen_row R1_0.out 4
      have q1_5 := cell_row R1_0.out 5
      have z1_5 := frozen_row R1_0.out 5
      go_wp2_with (with_reducible refine stopLoad 3 16 rfl ?_)
      refine Lib.hid ?_
      clear q0_0 z0_0 q0_1 z0_1 q0_2 z0_2 q0_3 z0_3 q0_4 z0_4 q0_5 z0_5 q1_0 z1_0 q1_1 z1_1 q1_2 z1_2 q1_3 z1_3 q1_4 z1_4 q1_5 z1_5
      rw [show w1.heap.size = w.heap.size + 1 + 1 by have := HZ.out; omega]
      refine nm_list (fun V1 hnm => ?_)
      have S1 := Lib.hid (show Only (Box w 3) w1 V1 from (by rw [hnm]; exact (Only.refl (Box w 3) w1).alloc _))
      have O1 := Lib.hid (O0.out.trans S1.out)
      have R0_1 := Lib.hid (show V1.heap[w.heap.size]? = some (.cells #[.int .i64 x.kind, .bool true, .int .i64 x.id.index, .int .i64 x.id.gen, .int .i64 x.comp, .slice Ad x.data.length cd] 29 (0, 0)) from (by rw [hnm]; exact alloc_old (R0_0.out)))
      have R1_1 := Lib.hid (show V1.heap[w.heap.size + 1]? = some (.cells #[.int .i64 0, .bool false, .int .i64 0, .int .i64 0, .int .i64 0, .slice none 0 0] 29 (0, 0)) from (by rw [hnm]; exact alloc_old (R1_0.out)))
      have R2_1 := Lib.hid (show V1.heap[w.heap.size + 1 + 1]? = some (.cells #[.int .i64 x.kind, .bool false, .int .i64 0, .int .i64 0, .int .i64 0, .slice none 0 0] 29 (0, 0)) from (by rw [hnm]; exact alloc_at (by have := HZ.out; first | omega | (simp <;> omega))))
      clear hnm
      have q0_0 := cell_row R0_1.out 0
      have z0_0 := frozen_row R0_1.out 0
      have q0_1 := cell_row R0_1.out 1
      have z0_1 := frozen_row R0_1.out 1
      have q0_2 := cell_row R0_1.out 2
      have z0_2 := frozen_row R0_1.out 2
      have q0_3 := cell_row R0_1.out 3
      have z0_3 := frozen_row R0_1.out 3
      have q0_4 := cell_row R0_1.out 4
      have z0_4 := frozen_row R0_1.out 4
      have q0_5 := cell_row R0_1.out 5
      have z0_5 := frozen_row R0_1.out 5
      have q1_0 := cell_row R1_1.out 0
      have z1_0 := frozen_row R1_1.out 0
      have q1_1 := cell_row R1_1.out 1
      have z1_1 := frozen_row R1_1.out 1
      have q1_2 := cell_row R1_1.out 2
      have z1_2 := frozen_row R1_1.out 2
      have q1_3 := cell_row R1_1.out 3
      have z1_3 := frozen_row R1_1.out 3
      have q1_4 := cell_row R1_1.out 4
      have z1_4 := frozen_row R1_1.out 4
      have q1_5 := cell_row R1_1.out 5
      have z1_5 := frozen_row R1_1.out 5
      have q2_0 := cell_row R2_1.out 0
      have z2_0 := frozen_row R2_1.out 0
      have q2_1 := cell_row R2_1.out 1
      have z2_1 := frozen_row R2_1.out 1
      have q2_2 := cell_row R2_1.out 2
      have z2_2 := frozen_row R2_1.out 2
      have q2_3 := cell_row R2_1.out 3
      have z2_3 := frozen_row R2_1.out 3
      have q2_4 := cell_row R2_1.out 4
      have z2_4 := frozen_row R2_1.out 4
      have q2_5 := cell_row R2_1.out 5
      have z2_5 := frozen_row R2_1.out 5
      go_wp2_with fail
      clear q0_0 z0_0 q0_1 z0_1 q0_2 z0_2 q0_3 z0_3 q0_4 z0_4 q0_5 z0_5 q1_0 z1_0 q1_1 z1_1 q1_2 z1_2 q1_3 z1_3 q1_4 z1_4 q1_5 z1_5 q2_0 z2_0 q2_1 z2_1 q2_2 z2_2 q2_3 z2_3 q2_4 z2_4 q2_5 z2_5
      refine nm_region (fun V3 hnm => ?_)
      have S2 := Lib.hid (show Only (Box w 3) V1 V3 from (by rw [hnm]; exact (Only.refl (Box w 3) V1).put ⟨by omega, by omega⟩))
      have O2 := Lib.hid (O1.out.trans S2.out)
      have R0_2 := Lib.hid (show V3.heap[w.heap.size]? = some (.cells #[.int .i64 x.kind, .bool true, .int .i64 x.id.index, .int .i64 x.id.gen, .int .i64 x.comp, .slice Ad x.data.length cd] 29 (0, 0)) from (by rw [hnm]; exact row_other (R0_1.out) (by omega)))
      have R1_2 := Lib.hid (show V3.heap[w.heap.size + 1]? = some (.cells #[.int .i64 0, .bool false, .int .i64 0, .int .i64 0, .int .i64 0, .slice none 0 0] 29 (0, 0)) from (by rw [hnm]; exact row_other (R1_1.out) (by omega)))
      have R2_2 := Lib.hid (show V3.heap[w.heap.size + 1 + 1]? = some (.cells #[.int .i64 x.kind, .bool false, .int .i64 0, .int .i64 0, .int .i64 x.comp, .slice none 0 0] 29 (0, 0)) from (by rw [hnm]; exact heap_setList (R2_1.out)))
      clear hnm
      refine wp_region_held_drew (S := fun W => Only (fun b => b = w.heap.size + 1 + 1) V3 W) (by kernel_rfl) ((Only.refl _ _).drw) (fun s0 => ?_)
      obtain ⟨v1, hv0⟩ : ∃ V, V = V3.drew := ⟨_, rfl⟩
      rw [← hv0] at s0 ⊢
      have t1 : Only (fun b => b = w.heap.size + 1 + 1) V3 v1 := s0
      have rb2_1 : v1.heap[w.heap.size + 1 + 1]? = some (.cells #[.int .i64 x.kind, .bool false, .int .i64 0, .int .i64 0, .int .i64 x.comp, .slice none 0 0] 29 (0, 0)) := by rw [hv0]; exact R2_2.out
      clear hv0 s0
      refine wpAnyH_take (i := 0) (v := .pointer (some ⟨w.heap.size, 1, none⟩)) rfl (by kernel_rfl) (by kernel_rfl) (by kernel_rfl) (fun _ _ _ h => h) (Or.inl ⟨by rfl, fun w' _ => by go_simp <;> omega⟩) t1 ?_
      go_simp
      refine wpAnyH_take (i := 1) (v := .bool true) rfl (by kernel_rfl) (by kernel_rfl) (by kernel_rfl) (fun _ _ _ h => h) (Or.inl ⟨by rfl, fun w' h => by have e := row_only (h : Only (fun b => b = w.heap.size + 1 + 1) V3 w') R0_2.out (by first | omega | (dsimp only; omega)); have e0 := cell_row e 0; have e1 := cell_row e 1; have e2 := cell_row e 2; have e3 := cell_row e 3; have e4 := cell_row e 4; have e5 := cell_row e 5; go_simp⟩) t1 ?_
      go_simp
      refine wpAnyH_take (i := 2) (v := .pointer (some ⟨w.heap.size, 2, none⟩)) rfl (by kernel_rfl) (by kernel_rfl) (by kernel_rfl) (fun _ _ _ h => h) (Or.inl ⟨by rfl, fun w' _ => by go_simp <;> omega⟩) t1 ?_
      go_simp
      refine wpAnyH_take (i := 3) (v := .agg #[.int .i64 x.id.index, .int .i64 x.id.gen]) rfl (by kernel_rfl) (by kernel_rfl) (by kernel_rfl) (fun _ _ _ h => h) (Or.inl ⟨by rfl, fun w' h => by have e := row_only (h : Only (fun b => b = w.heap.size + 1 + 1) V3 w') R0_2.out (by first | omega | (dsimp only; omega)); have e0 := cell_row e 0; have e1 := cell_row e 1; have e2 := cell_row e 2; have e3 := cell_row e 3; have e4 := cell_row e 4; have e5 := cell_row e 5; go_simp⟩) t1 ?_
      go_simp
      refine wpAnyH_take (i := 4) (v := .pointer (some ⟨w.heap.size + 1 + 1, 1, none⟩)) rfl (by kernel_rfl) (by kernel_rfl) (by kernel_rfl) (fun _ _ _ h => h) (Or.inl ⟨by rfl, fun w' _ => by go_simp <;> omega⟩) t1 ?_
      go_simp
      refine wpAnyH_all (rs := [5]) (by kernel_rfl) (by simp) ?_
      intro i hi
      obtain rfl : i = 5 := by simpa using hi
      clear hi
      refine wpOp_step rfl (fun K hK => ?_)
      go_simp
      have eb := rb2_1
      have q0 := cell_row eb 0
      have z0 := frozen_row eb 0
      have q1 := cell_row eb 1
      have z1 := frozen_row eb 1
      have q2 := cell_row eb 2
      have z2 := frozen_row eb 2
      have q3 := cell_row eb 3
      have z3 := frozen_row eb 3
      have q4 := cell_row eb 4
      have z4 := frozen_row eb 4
      have q5 := cell_row eb 5
      have z5 := frozen_row eb 5
      go_simp
      refine hK _ _ ⟨(t1).put rfl, ?_⟩
      clear hK K q0 z0 q1 z1 q2 z2 q3 z3 q4 z4 q5 z5
      refine nm_any (fun v2 hnm => ?_)
      have t2 : Only (fun b => b = w.heap.size + 1 + 1) V3 v2 := by rw [hnm]; exact (t1).put rfl
      have rb2_2 : v2.heap[w.heap.size + 1 + 1]? = some (.cells #[.int .i64 x.kind, .bool true, .int .i64 0, .int .i64 0, .int .i64 x.comp, .slice none 0 0] 29 (0, 0)) := by rw [hnm]; exact heap_setList (rb2_1)
      clear hnm eb
      refine wpAnyH_take (i := 6) (v := .pointer (some ⟨w.heap.size + 1 + 1, 2, none⟩)) rfl (by kernel_rfl) (by kernel_rfl) (by kernel_rfl) (fun _ _ _ h => h) (Or.inl ⟨by rfl, fun w' _ => by go_simp <;> omega⟩) t2 ?_
      go_simp
      refine wpAnyH_all (rs := [7]) (by kernel_rfl) (by simp) ?_
      intro i hi
      obtain rfl : i = 7 := by simpa using hi
      clear hi
      refine wpOp_step rfl (fun K hK => ?_)
      go_simp
      have eb := rb2_2
      have q0 := cell_row eb 0
      have z0 := frozen_row eb 0
      have q1 := cell_row eb 1
      have z1 := frozen_row eb 1
      have q2 := cell_row eb 2
      have z2 := frozen_row eb 2
      have q3 := cell_row eb 3
      have z3 := frozen_row eb 3
      have q4 := cell_row eb 4
      have z4 := frozen_row eb 4
      have q5 := cell_row eb 5
      have z5 := frozen_row eb 5
      go_simp
      refine hK _ _ ⟨((t2).put rfl).put rfl, ?_⟩
      clear hK K q0 z0 q1 z1 q2 z2 q3 z3 q4 z4 q5 z5
      refine nm_any (fun v3 hnm => ?_)
      have t3 : Only (fun b => b = w.heap.size + 1 + 1) V3 v3 := by rw [hnm]; exact ((t2).put rfl).put rfl
      have rb2_3 : v3.heap[w.heap.size + 1 + 1]? = some (.cells #[.int .i64 x.kind, .bool true, .int .i64 x.id.index, .int .i64 x.id.gen, .int .i64 x.comp, .slice none 0 0] 29 (0, 0)) := by rw [hnm]; exact heap_setList (heap_setList (rb2_2))
      clear hnm eb
      refine wpAnyH_done (by kernel_rfl) ?_ _
      have S3 := Lib.hid (show Only (Box w 3) V3 v3 from (t3).wid (fun b hb => by first | (unfold Box; omega) | (dsimp only at hb; unfold Box; omega)))
      have O3 := Lib.hid (O2.out.trans S3.out)
      have R0_3 := Lib.hid (show v3.heap[w.heap.size]? = some (.cells #[.int .i64 x.kind, .bool true, .int .i64 x.id.index, .int .i64 x.id.gen, .int .i64 x.comp, .slice Ad x.data.length cd] 29 (0, 0)) from row_only t3 R0_2.out (by first | omega | (dsimp only; omega)))
      have R1_3 := Lib.hid (show v3.heap[w.heap.size + 1]? = some (.cells #[.int .i64 0, .bool false, .int .i64 0, .int .i64 0, .int .i64 0, .slice none 0 0] 29 (0, 0)) from row_only t3 R1_2.out (by first | omega | (dsimp only; omega)))
      have R2_3 := Lib.hid (show v3.heap[w.heap.size + 1 + 1]? = some (.cells #[.int .i64 x.kind, .bool true, .int .i64 x.id.index, .int .i64 x.id.gen, .int .i64 x.comp, .slice none 0 0] 29 (0, 0)) from rb2_3)
      clear rb2_3
      have q0_0 := cell_row R0_3.out 0
      have z0_0 := frozen_row R0_3.out 0
      have q0_1 := cell_row R0_3.out 1
      have z0_1 := frozen_row R0_3.out 1
      have q0_2 := cell_row R0_3.out 2
      have z0_2 := frozen_row R0_3.out 2
      have q0_3 := cell_row R0_3.out 3
      have z0_3 := frozen_row R0_3.out 3
      have q0_4 := cell_row R0_3.out 4
      have z0_4 := frozen_row R0_3.out 4
      have q0_5 := cell_row R0_3.out 5
      have z0_5 := frozen_row R0_3.out 5
      have q1_0 := cell_row R1_3.out 0
      have z1_0 := frozen_row R1_3.out 0
      have q1_1 := cell_row R1_3.out 1
      have z1_1 := frozen_row R1_3.out 1
      have q1_2 := cell_row R1_3.out 2
      have z1_2 := frozen_row R1_3.out 2
      have q1_3 := cell_row R1_3.out 3
      have z1_3 := frozen_row R1_3.out 3
      have q1_4 := cell_row R1_3.out 4
      have z1_4 := frozen_row R1_3.out 4
      have q1_5 := cell_row R1_3.out 5
      have z1_5 := frozen_row R1_3.out 5
      have q2_0 := cell_row R2_3.out 0
      have z2_0 := frozen_row R2_3.out 0
      have q2_1 := cell_row R2_3.out 1
      have z2_1 := frozen_row R2_3.out 1
      have q2_2 := cell_row R2_3.out 2
      have z2_2 := frozen_row R2_3.out 2
      have q2_3 := cell_row R2_3.out 3
      have z2_3 := frozen_row R2_3.out 3
      have q2_4 := cell_row R2_3.out 4
      have z2_4 := frozen_row R2_3.out 4
      have q2_5 := cell_row R2_3.out 5
      have z2_5 := frozen_row R2_3.out 5
      go_wp2_with (with_reducible refine stopLoad 29 3 rfl ?_)
      refine Lib.hid ?_
      clear q0_0 z0_0 q0_1 z0_1 q0_2 z0_2 q0_3 z0_3 q0_4 z0_4 q0_5 z0_5 q1_0 z1_0 q1_1 z1_1 q1_2 z1_2 q1_3 z1_3 q1_4 z1_4 q1_5 z1_5 q2_0 z2_0 q2_1 z2_1 q2_2 z2_2 q2_3 z2_3 q2_4 z2_4 q2_5 z2_5
      refine nm_list (fun V4 hnm => ?_)
      have S4 := Lib.hid (show Only (Box w 3) v3 V4 from (by rw [hnm]; exact (Only.refl (Box w 3) v3).put ⟨by omega, by omega⟩))
      have O4 := Lib.hid (O3.out.trans S4.out)
      have R0_4 := Lib.hid (show V4.heap[w.heap.size]? = some (.cells #[.int .i64 x.kind, .bool true, .int .i64 x.id.index, .int .i64 x.id.gen, .int .i64 x.comp, .slice Ad x.data.length cd] 29 (0, 0)) from (by rw [hnm]; exact row_other (R0_3.out) (by omega)))
      have R1_4 := Lib.hid (show V4.heap[w.heap.size + 1]? = some (.cells #[.int .i64 0, .bool false, .int .i64 0, .int .i64 0, .int .i64 0, .slice none 0 0] 29 (0, 0)) from (by rw [hnm]; exact row_other (R1_3.out) (by omega)))
      have R2_4 := Lib.hid (show V4.heap[w.heap.size + 1 + 1]? = some (.cells #[.int .i64 x.kind, .bool true, .int .i64 x.id.index, .int .i64 0, .int .i64 x.comp, .slice none 0 0] 29 (0, 0)) from (by rw [hnm]; exact heap_setList (R2_3.out)))
      clear hnm
      have q0_0 := cell_row R0_4.out 0
      have z0_0 := frozen_row R0_4.out 0
      have q0_1 := cell_row R0_4.out 1
      have z0_1 := frozen_row R0_4.out 1
      have q0_2 := cell_row R0_4.out 2
      have z0_2 := frozen_row R0_4.out 2
      have q0_3 := cell_row R0_4.out 3
      have z0_3 := frozen_row R0_4.out 3
      have q0_4 := cell_row R0_4.out 4
      have z0_4 := frozen_row R0_4.out 4
      have q0_5 := cell_row R0_4.out 5
      have z0_5 := frozen_row R0_4.out 5
      have q1_0 := cell_row R1_4.out 0
      have z1_0 := frozen_row R1_4.out 0
      have q1_1 := cell_row R1_4.out 1
      have z1_1 := frozen_row R1_4.out 1
      have q1_2 := cell_row R1_4.out 2
      have z1_2 := frozen_row R1_4.out 2
      have q1_3 := cell_row R1_4.out 3
      have z1_3 := frozen_row R1_4.out 3
      have q1_4 := cell_row R1_4.out 4
      have z1_4 := frozen_row R1_4.out 4
      have q1_5 := cell_row R1_4.out 5
      have z1_5 := frozen_row R1_4.out 5
      have q2_0 := cell_row R2_4.out 0
      have z2_0 := frozen_row R2_4.out 0
      have q2_1 := cell_row R2_4.out 1
      have z2_1 := frozen_row R2_4.out 1
      have q2_2 := cell_row R2_4.out 2
      have z2_2 := frozen_row R2_4.out 2
      have q2_3 := cell_row R2_4.out 3
      have z2_3 := frozen_row R2_4.out 3
      have q2_4 := cell_row R2_4.out 4
      have z2_4 := frozen_row R2_4.out 4
      have q2_5 := cell_row R2_4.out 5
      have z2_5 := frozen_row R2_4.out 5
      go_wp2_with fail
      clear q0_0 z0_0 q0_1 z0_1 q0_2 z0_2 q0_3 z0_3 q0_4 z0_4 q0_5 z0_5 q1_0 z1_0 q1_1 z1_1 q1_2 z1_2 q1_3 z1_3 q1_4 z1_4 q1_5 z1_5 q2_0 z2_0 q2_1 z2_1 q2_2 z2_2 q2_3 z2_3 q2_4 z2_4 q2_5 z2_5
      refine nm_post (fun V9 hnm => ?_)
      have S5 := Lib.hid (show Only (Box w 3) V4 V9 from (by rw [hnm]; exact ((((((Only.refl (Box w 3) V4).put ⟨by omega, by omega⟩).put ⟨by omega, by omega⟩).put ⟨by omega, by omega⟩).put ⟨by omega, by omega⟩).put ⟨by omega, by omega⟩).put ⟨by omega, by omega⟩))
      have O5 := Lib.hid (O4.out.trans S5.out)
      have R0_5 := Lib.hid (show V9.heap[w.heap.size]? = some (.cells #[.int .i64 x.kind, .bool true, .int .i64 x.id.index, .int .i64 x.id.gen, .int .i64 x.comp, .slice Ad x.data.length cd] 29 (0, 0)) from (by rw [hnm]; exact row_other (row_other (row_other (row_other (row_other (row_other (R0_4.out) (by omega)) (by omega)) (by omega)) (by omega)) (by omega)) (by omega)))
      have R1_5 := Lib.hid (show V9.heap[w.heap.size + 1]? = some (.cells #[.int .i64 x.kind, .bool true, .int .i64 x.id.index, .int .i64 0, .int .i64 x.comp, .slice none 0 0] 29 (0, 0)) from (by rw [hnm]; exact heap_setList (heap_setList (heap_setList (heap_setList (heap_setList (heap_setList (R1_4.out))))))))
      have R2_5 := Lib.hid (show V9.heap[w.heap.size + 1 + 1]? = some (.cells #[.int .i64 x.kind, .bool true, .int .i64 x.id.index, .int .i64 0, .int .i64 x.comp, .slice none 0 0] 29 (0, 0)) from (by rw [hnm]; exact row_other (row_other (row_other (row_other (row_other (row_other (R2_4.out) (by omega)) (by omega)) (by omega)) (by omega)) (by omega)) (by omega)))
      clear hnm
      have q1_0 := cell_row R1_5.out 0
      have q1_1 := cell_row R1_5.out 1
      have q1_2 := cell_row R1_5.out 2
      have q1_3 := cell_row R1_5.out 3
      have q1_4 := cell_row R1_5.out 4
      have q1_5 := cell_row R1_5.out 5
      refine ⟨rfl, .agg #[.int .i64 x.kind, .bool true, .int .i64 x.id.index, .int .i64 0, .int .i64 x.comp, .slice none 0 0], by simp only [results, hfr]; go_simp, ?_⟩
      clear q1_0 q1_1 q1_2 q1_3 q1_4 q1_5
      have HP := Lib.hid (show plainC x = ⟨x.kind, true, ⟨x.id.index, 0⟩, x.comp, []⟩ by unfold plainC; rw [if_pos HK.out]; simp [HKK.out, HL.out])
      exact ⟨_, rfl, by rw [HP.out]; exact cmd_bare (x := ⟨x.kind, true, ⟨x.id.index, 0⟩, x.comp, []⟩) HF.out.1 HF.out.2.1 wf0 HF.out.2.2.2 rfl, Only.fin HB0.out O5.out⟩
end Go.Proofs.YtejibngkeaamkaaGreatDoor
