/- Texts on which the proofs stand: RSpawn. No condition is laid on any input. -/
import Derived.Test.YteljibjbndpncaaJsG15
namespace Go.Proofs.Yteljibjbndpncaa
open Go.RowKit

def SpawnPost (Q : Nat → Prop) (w : World) (r : DState × DID × Int) (e : Ending) (w' : World) : Prop :=
  ∃ z, e = .returned (.tuple #[z, .agg #[.int .i64 r.2.1.index, .int .i64 r.2.1.gen], .int .i64 r.2.2]) ∧ rState.val (fun b => Q b ∨ w.heap.size ≤ b) w' z r.1 ∧ Below w.heap.size w w'

set_option maxRecDepth 100000 in
set_option maxHeartbeats 4000000 in
/-- r11.Spawn -/
theorem rspawn_calls {Q : Nat → Prop} {w : World} {vc v : Value} {c : DConf} {s : DState} (hc : rConf.val Q w vc c) (hx : rState.val Q w v s) (hok : StOk c s) :
    Calls Try.prog 145 #[vc, v] w (SpawnPost Q w (spawnS c s)) := by
  have HC := Lib.hid hc
  have HX := Lib.hid hx
  have HOK := Lib.hid hok
  have HSM := Lib.hid hok.small
  obtain ⟨A, cap, rfl, _⟩ := rConf_val hc
  obtain ⟨A1, c1, A2, c2, A3, c3, rfl, f1, f2, f3⟩ := rState_val hx
  have F3 := Lib.hid f3
  have l3 := f3.2.1
  have m3 := f3.1
  unfold maxLen at l3
  have hfr : Try.f145.results = #[.cell 4 75, .cell 5 114, .tmp 6] := rfl
  clear hc hx f1 f2 f3
  obtain ⟨W0, hW0⟩ : ∃ W, ((((w.alloc (.cells #[.int .i64 c.log, .int .i64 c.pages, .int .i64 c.entities, .int .i64 c.gens, .slice A c.comps.length cap] 49)).alloc (.cells #[.slice A1 s.gens.length c1, .slice A2 s.free.length c2, .slice A3 s.ents.length c3] 75)).alloc (.cells #[.slice none 0 0, .slice none 0 0, .slice none 0 0] 75)).alloc (.cells #[.int .i64 0, .int .i64 0] 114)) = W := ⟨_, rfl⟩
  have hz0 : W0.heap.size = w.heap.size + 4 := by rw [← hW0]; simp
  have hb0 : Below w.heap.size w W0 := by rw [← hW0]; exact ((((Below.refl _ _).alloc (Nat.le_refl _) _).alloc (by first | (simp; done) | (simp; omega)) _).alloc (by first | (simp; done) | (simp; omega)) _).alloc (by first | (simp; done) | (simp; omega)) _
  have HZ := Lib.hid hz0
  have HB0 := Lib.hid hb0
  have R0_0 := Lib.hid (show W0.heap[w.heap.size]? = some (.cells #[.int .i64 c.log, .int .i64 c.pages, .int .i64 c.entities, .int .i64 c.gens, .slice A c.comps.length cap] 49 (0, 0)) by rw [← hW0]; exact alloc_old (alloc_old (alloc_old (alloc_at rfl))))
  have R1_0 := Lib.hid (show W0.heap[w.heap.size + 1]? = some (.cells #[.slice A1 s.gens.length c1, .slice A2 s.free.length c2, .slice A3 s.ents.length c3] 75 (0, 0)) by rw [← hW0]; exact alloc_old (alloc_old (alloc_at (by simp))))
  have R2_0 := Lib.hid (show W0.heap[w.heap.size + 1 + 1]? = some (.cells #[.slice none 0 0, .slice none 0 0, .slice none 0 0] 75 (0, 0)) by rw [← hW0]; exact alloc_old (alloc_at (by simp)))
  have R3_0 := Lib.hid (show W0.heap[w.heap.size + 1 + 1 + 1]? = some (.cells #[.int .i64 0, .int .i64 0] 114 (0, 0)) by rw [← hW0]; exact alloc_at (by simp))
  have O0 := Lib.hid (Only.refl (Box w 4) W0)
  have Vc_0 := Lib.hid (show rConf.val (In Q w 4) W0 (.agg #[.int .i64 c.log, .int .i64 c.pages, .int .i64 c.entities, .int .i64 c.gens, .slice A c.comps.length cap]) c from val_in HC.out hb0)
  have Vs_0 := Lib.hid (show rState.val (In Q w 4) W0 (.agg #[.slice A1 s.gens.length c1, .slice A2 s.free.length c2, .slice A3 s.ents.length c3]) s from val_in HX.out hb0)
  have HLO := Lib.hid (show ∀ V, Below W0.heap.size W0 V → rEnt.list.val (Lo Q w) V (.slice A3 s.ents.length c3) s.ents from fun V h => val_lo_later (val_lo F3.out.val hb0) h)
  by_cases ht : (takeI (idsOf c s)).2.2 = 0
  case neg =>
    obtain ⟨ht1, ht2⟩ := spawn_full ht
    have HT := Lib.hid ht1
    have HE := Lib.hid ht2
    clear ht ht1 ht2 hok
    clear hz0 hb0
    have q0_0 := rw5 R0_0.out
    have q1_0 := rw3 R1_0.out
    have q2_0 := rw3 R2_0.out
    have q3_0 := rw2 R3_0.out
    go_enter Try.func145, Try.ntmps145
    go_wp2_with fail
    try rw [hW0]
    clear hW0
    try go_wp2_with fail
    clear q0_0 q1_0 q2_0 q3_0
    refine (names_calls Vc_0.out Vs_0.out).mono ?_
    rintro e w1 ⟨u1, rfl, hu1, hb⟩
    have S1 := Lib.hid (show Only (Box w 4) W0 w1 from Only.of_below hb)
    have O1 := Lib.hid (O0.out.trans S1.out)
    have R0_1 := Lib.hid (row_call hb R0_0.out)
    have R1_1 := Lib.hid (row_call hb R1_0.out)
    have R2_1 := Lib.hid (row_call hb R2_0.out)
    have R3_1 := Lib.hid (row_call hb R3_0.out)
    have Vc_1 := Lib.hid (val_only Vc_0.out S1.out)
    have Vs_1 := Lib.hid (val_only Vs_0.out S1.out)
    have Vx_1 := Lib.hid (val_new (w := w) (n := 4) hu1 (by have := O0.out.size; have := HZ.out; omega))
    clear hb hu1
    skip
    have q0_0 := rw5 R0_1.out
    have q1_0 := rw3 R1_1.out
    have q2_0 := rw3 R2_1.out
    have q3_0 := rw2 R3_1.out
    go_wp2_with fail
    clear q0_0 q1_0 q2_0 q3_0
    refine (take_calls Vx_1.out (fun k hk => by obtain ⟨h0, q, hq, _⟩ := HOK.out.free k hk; have h1 := (List.getElem?_eq_some_iff.1 hq).1; exact ⟨h0, by show k < (s.gens.length : Int); omega⟩) (by show s.gens.length ≤ 100000; have := HSM.out; omega)).mono ?_
    rintro e w2 ⟨u2, rfl, hu2, hb⟩
    have S2 := Lib.hid (show Only (Box w 4) w1 w2 from Only.of_below hb)
    have O2 := Lib.hid (O1.out.trans S2.out)
    have R0_2 := Lib.hid (row_call hb R0_1.out)
    have R1_2 := Lib.hid (row_call hb R1_1.out)
    have R2_2 := Lib.hid (row_call hb R2_1.out)
    have R3_2 := Lib.hid (row_call hb R3_1.out)
    have Vc_2 := Lib.hid (val_only Vc_1.out S2.out)
    have Vs_2 := Lib.hid (val_only Vs_1.out S2.out)
    have Vx_2 := Lib.hid (val_only Vx_1.out S2.out)
    clear hb
    rw [HT.out] at hu2 ⊢
    obtain ⟨B1, e1, B2, e2, rfl, _⟩ := rIds_val hu2
    clear hu2
    dsimp only [noID]
    have k1 : ((w2.alloc (.cells #[.int .i64 (idsOf c s).entities, .int .i64 (idsOf c s).limit, .slice B1 (idsOf c s).gens.length e1, .slice B2 (idsOf c s).free.length e2] 142)).alloc (.cells #[.int .i64 0, .int .i64 0] 114)).heap[w.heap.size]? = some (.cells #[.int .i64 c.log, .int .i64 c.pages, .int .i64 c.entities, .int .i64 c.gens, .slice A c.comps.length cap] 49 (0, 0)) := alloc_old (alloc_old (R0_2.out))
    have k1_0 := rw5 k1
    clear k1
    have k2 : ((w2.alloc (.cells #[.int .i64 (idsOf c s).entities, .int .i64 (idsOf c s).limit, .slice B1 (idsOf c s).gens.length e1, .slice B2 (idsOf c s).free.length e2] 142)).alloc (.cells #[.int .i64 0, .int .i64 0] 114)).heap[w.heap.size + 1]? = some (.cells #[.slice A1 s.gens.length c1, .slice A2 s.free.length c2, .slice A3 s.ents.length c3] 75 (0, 0)) := alloc_old (alloc_old (R1_2.out))
    have k2_0 := rw3 k2
    clear k2
    have k3 : ((w2.alloc (.cells #[.int .i64 (idsOf c s).entities, .int .i64 (idsOf c s).limit, .slice B1 (idsOf c s).gens.length e1, .slice B2 (idsOf c s).free.length e2] 142)).alloc (.cells #[.int .i64 0, .int .i64 0] 114)).heap[w.heap.size + 1 + 1]? = some (.cells #[.slice none 0 0, .slice none 0 0, .slice none 0 0] 75 (0, 0)) := alloc_old (alloc_old (R2_2.out))
    have k3_0 := rw3 k3
    clear k3
    have k4 : ((w2.alloc (.cells #[.int .i64 (idsOf c s).entities, .int .i64 (idsOf c s).limit, .slice B1 (idsOf c s).gens.length e1, .slice B2 (idsOf c s).free.length e2] 142)).alloc (.cells #[.int .i64 0, .int .i64 0] 114)).heap[w.heap.size + 1 + 1 + 1]? = some (.cells #[.int .i64 0, .int .i64 0] 114 (0, 0)) := alloc_old (alloc_old (R3_2.out))
    have k4_0 := rw2 k4
    clear k4
    have k5 : ((w2.alloc (.cells #[.int .i64 (idsOf c s).entities, .int .i64 (idsOf c s).limit, .slice B1 (idsOf c s).gens.length e1, .slice B2 (idsOf c s).free.length e2] 142)).alloc (.cells #[.int .i64 0, .int .i64 0] 114)).heap[w2.heap.size]? = some (.cells #[.int .i64 (idsOf c s).entities, .int .i64 (idsOf c s).limit, .slice B1 (idsOf c s).gens.length e1, .slice B2 (idsOf c s).free.length e2] 142 (0, 0)) := alloc_old (alloc_at rfl)
    have k5_0 := rw4 k5
    clear k5
    have k6 : ((w2.alloc (.cells #[.int .i64 (idsOf c s).entities, .int .i64 (idsOf c s).limit, .slice B1 (idsOf c s).gens.length e1, .slice B2 (idsOf c s).free.length e2] 142)).alloc (.cells #[.int .i64 0, .int .i64 0] 114)).heap[w2.heap.size + 1]? = some (.cells #[.int .i64 0, .int .i64 0] 114 (0, 0)) := alloc_at (by simp)
    have k6_0 := rw2 k6
    clear k6
    go_wp2_with fail
    clear k1_0 k2_0 k3_0 k4_0 k5_0 k6_0
    refine nm_post (fun w4 hnm => ?_)
    have HF1 := Lib.hid (show w.heap.size + 4 ≤ w2.heap.size by have := O2.out.size; have := HZ.out; omega)
    have S3 := Lib.hid (show Only (Box w 4) w2 w4 from (by rw [hnm]; exact (((((((Only.refl (Box w 4) w2).alloc _).alloc _).put ⟨by omega, by omega⟩).put ⟨by omega, by omega⟩).put ⟨by omega, by omega⟩).put ⟨by omega, by omega⟩).put ⟨by omega, by omega⟩))
    have O3 := Lib.hid (O2.out.trans S3.out)
    have R0_3 := Lib.hid (row_nm hnm (row_other (row_other (row_other (row_other (row_other (alloc_old (alloc_old (R0_2.out))) (by omega)) (by omega)) (by omega)) (by omega)) (by omega)))
    have R1_3 := Lib.hid (row_nm hnm (row_other (row_other (row_other (row_other (row_other (alloc_old (alloc_old (R1_2.out))) (by omega)) (by omega)) (by omega)) (by omega)) (by omega)))
    have R2_3 := Lib.hid (show w4.heap[w.heap.size + 1 + 1]? = some (.cells #[.slice A1 s.gens.length c1, .slice A2 s.free.length c2, .slice A3 s.ents.length c3] 75 (0, 0)) from (by rw [hnm]; exact row_other (row_other (heap_setRow (heap_setRow (heap_setRow (alloc_old (alloc_old (R2_2.out)))))) (by omega)) (by omega)))
    have R3_3 := Lib.hid (show w4.heap[w.heap.size + 1 + 1 + 1]? = some (.cells #[.int .i64 0, .int .i64 0] 114 (0, 0)) from (by rw [hnm]; exact heap_setRow (heap_setRow (row_other (row_other (row_other (alloc_old (alloc_old (R3_2.out))) (by omega)) (by omega)) (by omega)))))
    have Rw2_heap_size_3 := Lib.hid (show w4.heap[w2.heap.size]? = some (.cells #[.int .i64 (idsOf c s).entities, .int .i64 (idsOf c s).limit, .slice B1 (idsOf c s).gens.length e1, .slice B2 (idsOf c s).free.length e2] 142 (0, 0)) from (by rw [hnm]; exact row_other (row_other (row_other (row_other (row_other (alloc_old (alloc_at rfl)) (by have := HF1.out; have := HF1.out; omega)) (by have := HF1.out; have := HF1.out; omega)) (by have := HF1.out; have := HF1.out; omega)) (by have := HF1.out; have := HF1.out; omega)) (by have := HF1.out; have := HF1.out; omega)))
    have Rw2_heap_size_1_3 := Lib.hid (show w4.heap[w2.heap.size + 1]? = some (.cells #[.int .i64 0, .int .i64 0] 114 (0, 0)) from (by rw [hnm]; exact row_other (row_other (row_other (row_other (row_other (alloc_at (by simp)) (by have := HF1.out; have := HF1.out; omega)) (by have := HF1.out; have := HF1.out; omega)) (by have := HF1.out; have := HF1.out; omega)) (by have := HF1.out; have := HF1.out; omega)) (by have := HF1.out; have := HF1.out; omega)))
    have Vc_3 := Lib.hid (val_only Vc_2.out S3.out)
    have Vs_3 := Lib.hid (val_only Vs_2.out S3.out)
    have Vx_3 := Lib.hid (val_only Vx_2.out S3.out)
    clear hnm
    have q2_0 := cl3 R2_3.out
    have q3_0 := cl2 R3_3.out
    refine ⟨rfl, .tuple #[.agg #[.slice A1 s.gens.length c1, .slice A2 s.free.length c2, .slice A3 s.ents.length c3], .agg #[.int .i64 0, .int .i64 0], .int .i64 9], by simp only [results, hfr]; go_simp, ?_⟩
    clear q2_0 q3_0
    rw [HE.out]
    exact ⟨_, rfl, val_out Vs_3.out, Only.fin HB0.out O3.out⟩
  obtain ⟨y, id, ht1, ht2, hne, hw0, hw1⟩ := spawn_more hok ht
  have HT := Lib.hid ht1
  have HE := Lib.hid ht2
  have HNE := Lib.hid hne
  have HW0 := Lib.hid hw0
  have HW1 := Lib.hid hw1
  clear ht ht1 ht2 hok hne hw0 hw1
  clear hz0 hb0
  have q0_0 := rw5 R0_0.out
  have q1_0 := rw3 R1_0.out
  have q2_0 := rw3 R2_0.out
  have q3_0 := rw2 R3_0.out
  go_enter Try.func145, Try.ntmps145
  go_wp2_with fail
  try rw [hW0]
  clear hW0
  try go_wp2_with fail
  clear q0_0 q1_0 q2_0 q3_0
  refine (names_calls Vc_0.out Vs_0.out).mono ?_
  rintro e w1 ⟨u1, rfl, hu1, hb⟩
  have S1 := Lib.hid (show Only (Box w 4) W0 w1 from Only.of_below hb)
  have O1 := Lib.hid (O0.out.trans S1.out)
  have R0_1 := Lib.hid (row_call hb R0_0.out)
  have R1_1 := Lib.hid (row_call hb R1_0.out)
  have R2_1 := Lib.hid (row_call hb R2_0.out)
  have R3_1 := Lib.hid (row_call hb R3_0.out)
  have Vc_1 := Lib.hid (val_only Vc_0.out S1.out)
  have Vs_1 := Lib.hid (val_only Vs_0.out S1.out)
  have Vx_1 := Lib.hid (val_new (w := w) (n := 4) hu1 (by have := O0.out.size; have := HZ.out; omega))
  clear hb hu1
  have q0_0 := rw5 R0_1.out
  have q1_0 := rw3 R1_1.out
  have q2_0 := rw3 R2_1.out
  have q3_0 := rw2 R3_1.out
  go_wp2_with fail
  clear q0_0 q1_0 q2_0 q3_0
  refine (take_calls Vx_1.out (fun k hk => by obtain ⟨h0, q, hq, _⟩ := HOK.out.free k hk; have h1 := (List.getElem?_eq_some_iff.1 hq).1; exact ⟨h0, by show k < (s.gens.length : Int); omega⟩) (by show s.gens.length ≤ 100000; have := HSM.out; omega)).mono ?_
  rintro e w2 ⟨u2, rfl, hu2, hb⟩
  have S2 := Lib.hid (show Only (Box w 4) w1 w2 from Only.of_below hb)
  have O2 := Lib.hid (O1.out.trans S2.out)
  have R0_2 := Lib.hid (row_call hb R0_1.out)
  have R1_2 := Lib.hid (row_call hb R1_1.out)
  have R2_2 := Lib.hid (row_call hb R2_1.out)
  have R3_2 := Lib.hid (row_call hb R3_1.out)
  have Vc_2 := Lib.hid (val_only Vc_1.out S2.out)
  have Vs_2 := Lib.hid (val_only Vs_1.out S2.out)
  have Vx_2 := Lib.hid (val_only Vx_1.out S2.out)
  clear hb
  rw [HT.out] at hu2 ⊢
  dsimp only at hu2 ⊢
  have HY := Lib.hid (val_new (w := w) (n := 4) hu2 (by have := O1.out.size; have := HZ.out; omega))
  obtain ⟨B1, e1, B2, e2, rfl, _⟩ := rIds_val hu2
  clear hu2
  have HF1 := Lib.hid (show w.heap.size + 4 ≤ w2.heap.size by have := O2.out.size; have := HZ.out; omega)
  obtain ⟨w3, hn1⟩ : ∃ W, ((w2.alloc (.cells #[.int .i64 y.entities, .int .i64 y.limit, .slice B1 y.gens.length e1, .slice B2 y.free.length e2] 142)).alloc (.cells #[.int .i64 id.index, .int .i64 id.gen] 114)) = W := ⟨_, rfl⟩
  have S3 := Lib.hid (show Only (Box w 4) w2 w3 from (by rw [← hn1]; exact ((Only.refl (Box w 4) w2).alloc _).alloc _))
  have O3 := Lib.hid (O2.out.trans S3.out)
  have R0_3 := Lib.hid (row_nm hn1.symm (alloc_old (alloc_old (R0_2.out))))
  have R1_3 := Lib.hid (row_nm hn1.symm (alloc_old (alloc_old (R1_2.out))))
  have R2_3 := Lib.hid (row_nm hn1.symm (alloc_old (alloc_old (R2_2.out))))
  have R3_3 := Lib.hid (row_nm hn1.symm (alloc_old (alloc_old (R3_2.out))))
  have Rw2_heap_size_3 := Lib.hid (show w3.heap[w2.heap.size]? = some (.cells #[.int .i64 y.entities, .int .i64 y.limit, .slice B1 y.gens.length e1, .slice B2 y.free.length e2] 142 (0, 0)) from (by rw [← hn1]; exact alloc_old (alloc_at rfl)))
  have Rw2_heap_size_1_3 := Lib.hid (show w3.heap[w2.heap.size + 1]? = some (.cells #[.int .i64 id.index, .int .i64 id.gen] 114 (0, 0)) from (by rw [← hn1]; exact alloc_at (by simp)))
  have Vc_3 := Lib.hid (val_only Vc_2.out S3.out)
  have Vs_3 := Lib.hid (val_only Vs_2.out S3.out)
  have Vx_3 := Lib.hid (val_only Vx_2.out S3.out)
  have Vy_3 := Lib.hid (val_only HY.out S3.out)
  have y0_0 := rw5 R0_3.out
  have y1_0 := rw3 R1_3.out
  have y2_0 := rw3 R2_3.out
  have y3_0 := rw2 R3_3.out
  have yn0_0 := rw4 Rw2_heap_size_3.out
  have yn1_0 := rw2 Rw2_heap_size_1_3.out
  go_wp2_with fail
  try rw [hn1]
  clear hn1
  clear y0_0 y1_0 y2_0 y3_0 yn0_0 yn1_0
  have HLE := Lib.hid (takeWhile_le (f := belowE id.index) s.ents)
  obtain ⟨p, hp⟩ : ∃ p, (s.ents.takeWhile (belowE id.index)).length = p := ⟨_, rfl⟩
  have HP := Lib.hid hp
  rw [hp] at HLE
  clear hp
  have HES := Lib.hid (show ∀ V, Below w3.heap.size w3 V → rEnt.At (Lo Q w) V A3 s.ents from fun V h => Rep.At.keep (w := W0) (fun b hb _ => ⟨hb, (O3.out.trans (Only.of_below h)).block b (by have := hb.2; have := HZ.out; omega) (fun hb2 => by have := hb.2; have := hb2.1; omega)⟩) (sl_of (HLO.out W0 (Below.refl _ _))).2.2)
  have q0_0 := cl5 R0_3.out
  have q1_0 := cl3 R1_3.out
  have q2_0 := cl3 R2_3.out
  have q3_0 := cl2 R3_3.out
  have qn0_0 := cl4 Rw2_heap_size_3.out
  have qn1_0 := cl2 Rw2_heap_size_1_3.out
  go_loopw [10, 11, 12] (fun u10 u11 u12 wr => ∃ k : Nat, u12 = .int .i64 k ∧ u11 = .bool (decide (p < k)) ∧ k ≤ s.ents.length ∧ Hid (rEnt.acc 133 w3.heap.size (Lo Q w) wr u10 (insAt id s.ents k)) ∧ Hid (Below w3.heap.size w3 wr)) (fun _ _ i _ => s.ents.length - (intOf i).toNat)
  case atStart => exact ⟨0, rfl, rfl, Nat.zero_le _, Lib.hid (by rw [insAt_zero]; exact Rep.acc_nil), Lib.hid (Below.refl _ _)⟩
  case round =>
    clear q0_0 q1_0 q2_0 q3_0 qn0_0 qn1_0
    obtain ⟨k, rfl, rfl, hk, HA, HBR⟩ := hrel
    have S4 := Lib.hid (show Only (Box w 4) w3 wr from Only.of_below HBR.out)
    have O4 := Lib.hid (O3.out.trans S4.out)
    have R0_4 := Lib.hid (row_call HBR.out R0_3.out)
    have R1_4 := Lib.hid (row_call HBR.out R1_3.out)
    have R2_4 := Lib.hid (row_call HBR.out R2_3.out)
    have R3_4 := Lib.hid (row_call HBR.out R3_3.out)
    have Rw2_heap_size_4 := Lib.hid (row_call HBR.out Rw2_heap_size_3.out)
    have Rw2_heap_size_1_4 := Lib.hid (row_call HBR.out Rw2_heap_size_1_3.out)
    have Vc_4 := Lib.hid (val_only Vc_3.out S4.out)
    have Vs_4 := Lib.hid (val_only Vs_3.out S4.out)
    have Vx_4 := Lib.hid (val_only Vx_3.out S4.out)
    have Vy_4 := Lib.hid (val_only Vy_3.out S4.out)
    have HPL := HLE.out
    by_cases hlt : (k : Int) < s.ents.length
    · skip
      obtain ⟨e, he⟩ : ∃ e, s.ents[k]? = some e := ⟨_, List.getElem?_eq_getElem (by omega)⟩
      obtain ⟨eb, eo, Ap, cp, hA3, _, k0, k1, k2, h0, h1, hs⟩ := rEnt_at (HES.out wr HBR.out) he
      subst hA3
      have HEK := Lib.hid he
      have K0 := Lib.hid k0
      have K1 := Lib.hid k1
      have K2 := Lib.hid k2
      have H0 := Lib.hid h0
      have H1 := Lib.hid h1
      have HSL := Lib.hid hs
      have hin : e.id.index ≠ id.index := HNE.out e (List.mem_of_getElem? he)
      have hkn : k < s.ents.length := by omega
      clear he k0 k1 k2 h0 h1 hs
      have HEB := Lib.hid (show eb < w3.heap.size by
        obtain ⟨b2, off2, es2, hh1, hh2, _⟩ := (HES.out wr HBR.out).get HEK.out
        cases hh1
        have h1 := hh2.2
        have := O3.out.size
        have := HZ.out
        omega)
      have hstop : k = p → (belowE id.index e) = false := fun h => takeWhile_stop (f := belowE id.index) (by rw [HP.out, ← h]; exact HEK.out)
      have hbef : k < p → (belowE id.index e) = true := fun h => takeWhile_get (f := belowE id.index) (by rw [HP.out]; exact h) HEK.out
      rcases Nat.lt_trichotomy k p with hkp | hkp | hkp
      · skip
        have hd : decide (p < k) = false := decide_eq_false (by omega)
        rw [hd]
        clear hd
        have HMK := Lib.hid (insAt_before (id := id) HEK.out (by rw [HP.out]; exact hkp))
        have HLX := Lib.hid (show (insAt id s.ents k).length ≤ s.ents.length + 1 from insAt_len)
        have hgt : ¬ id.index < e.id.index := by have := hbef hkp; unfold belowE at this; simp at this; omega
        clear hstop hbef
        have q0_0 := cl5 R0_4.out
        have q1_0 := cl3 R1_4.out
        have q2_0 := cl3 R2_4.out
        have q3_0 := cl2 R3_4.out
        have qn0_0 := cl4 Rw2_heap_size_4.out
        have qn1_0 := cl2 Rw2_heap_size_1_4.out
        go_wp2_with fail
        clear q0_0 q1_0 q2_0 q3_0 qn0_0 qn1_0
        refine wp_region_held_drew (S := fun W => Below wr.heap.size wr W) (by kernel_rfl) ((Below.refl _ _).drew) (fun s0 => ?_)
        obtain ⟨v1, hv0⟩ : ∃ V, V = wr.drew := ⟨_, rfl⟩
        rw [← hv0] at s0 ⊢
        have t1 : Below wr.heap.size wr v1 := s0
        clear hv0 s0
        refine tkHV (i := 0) (v := .bool false) rfl t1 ?_
        go_simp
        refine tkHV (i := 1) (v := .bool true) rfl t1 ?_
        go_simp
        refine tkHV (i := 2) (v := .bool true) rfl t1 ?_
        go_simp
        refine tkHV (i := 3) (v := .pointer (some ⟨w.heap.size + 1, 2, none⟩)) rfl t1 ?_
        go_simp
        refine tkH (i := 4) (v := .slice (some ⟨eb, eo, none⟩) s.ents.length c3) rfl (Or.inl ⟨by rfl, fun w' h => by have e := row_call (h : Below wr.heap.size wr w') R1_4.out; have e0 := cell_row e 0; have e1 := cell_row e 1; have e2 := cell_row e 2; go_simp⟩) t1 ?_
        go_simp
        refine tkHV (i := 5) (v := .int .i64 k) rfl t1 ?_
        go_simp
        refine tkHV (i := 6) (v := .pointer (some ⟨eb, eo + k * 3, none⟩)) rfl t1 ?_
        go_simp
        refine tkHV (i := 7) (v := .pointer (some ⟨eb, eo + k * 3, none⟩)) rfl t1 ?_
        go_simp
        refine tkHV (i := 8) (v := .pointer (some ⟨eb, eo + k * 3, none⟩)) rfl t1 ?_
        go_simp
        refine tkH (i := 9) (v := .int .i64 e.id.index) rfl (Or.inl ⟨by rfl, fun w' h => by have e := cell_call (h : Below wr.heap.size wr w') K0.out; go_simp⟩) t1 ?_
        go_simp
        refine tkHV (i := 10) (v := .pointer (some ⟨w2.heap.size + 1, 0, none⟩)) rfl t1 ?_
        go_simp
        refine tkH (i := 11) (v := .int .i64 id.index) rfl (Or.inl ⟨by rfl, fun w' h => by have e := row_call (h : Below wr.heap.size wr w') Rw2_heap_size_1_4.out; have e0 := cell_row e 0; have e1 := cell_row e 1; go_simp⟩) t1 ?_
        go_simp
        refine tkHV (i := 12) (v := .bool false) rfl t1 ?_
        go_simp
        refine tkHV (i := 13) (v := .bool false) rfl t1 ?_
        go_simp
        refine wpAnyH_done (by kernel_rfl) ?_ _
        have S5 := Lib.hid (show Only (Box w 4) wr v1 from Only.of_below t1)
        have O5 := Lib.hid (O4.out.trans S5.out)
        have R0_5 := Lib.hid (row_call t1 R0_4.out)
        have R1_5 := Lib.hid (row_call t1 R1_4.out)
        have R2_5 := Lib.hid (row_call t1 R2_4.out)
        have R3_5 := Lib.hid (row_call t1 R3_4.out)
        have Rw2_heap_size_5 := Lib.hid (row_call t1 Rw2_heap_size_4.out)
        have Rw2_heap_size_1_5 := Lib.hid (row_call t1 Rw2_heap_size_1_4.out)
        have Vc_5 := Lib.hid (val_only Vc_4.out S5.out)
        have Vs_5 := Lib.hid (val_only Vs_4.out S5.out)
        have Vx_5 := Lib.hid (val_only Vx_4.out S5.out)
        have Vy_5 := Lib.hid (val_only Vy_4.out S5.out)
        have hbw := (show Below wr.heap.size wr v1 from t1)
        have HBV := Lib.hid (HBR.out.trans (hbw.mono HBR.out.size))
        have HAV := Lib.hid (Rep.acc_later HA.out hbw)
        have q0_0 := cl5 R0_5.out
        have q1_0 := cl3 R1_5.out
        have q2_0 := cl3 R2_5.out
        have q3_0 := cl2 R3_5.out
        have qn0_0 := cl4 Rw2_heap_size_5.out
        have qn1_0 := cl2 Rw2_heap_size_1_5.out
        have c0v := cell_call (hbw) K0.out
        have c1v := cell_call (hbw) K1.out
        have c2v := cell_call (hbw) K2.out
        have hbv1 : Below wr.heap.size wr v1 := hbw
        go_wp2_with (with_reducible refine stopOne rfl ?_)
        refine Lib.hid ?_
        clear q0_0 q1_0 q2_0 q3_0 qn0_0 qn1_0 c0v c1v c2v
        refine wpList_snoc (e := 133) (base := w3.heap.size) (Q := Lo Q w) (r := rEnt) rfl rfl _ _ 73 _ rfl rfl rfl (.agg #[.int .i64 0, .int .i64 0, .slice none 0 0]) 3 40 Try.underlying73 infoEnt rfl (by decide) rfl _ (insAt id s.ents k) HAV.out (e) _ (by exact rfl) (rEnt_agg (x := e) H0.out H1.out (HSL.out.keep fun b hb hl => ⟨⟨hb, fun h => by have h1 := (Rep.acc_own HAV.out b h).1; have h2 := hb.2; have := O3.out.size; have := HZ.out; omega⟩, (hbv1).block b hl.lt⟩)) (by exact rfl) (by exact rfl) (by have := HLX.out; have := HSM.out; unfold maxLen; omega) (by have := HLX.out; have := HSM.out; omega) HBV.out.size ?_
        intro s1 x1 hacc1 hgr1 hat1
        have HAc1 := Lib.hid hacc1
        have HBc1 := Lib.hid (Rep.acc_below HAV.out HBV.out hgr1 HBV.out.size)
        clear hacc1 hgr1 hat1
        go_wp2_with fail
        exact ⟨⟨k + 1, by go_num, by rw [decide_eq_false (by omega)], by omega, Lib.hid (by rw [← HMK.out]; exact HAc1.out), HBc1⟩, by simp [intOf]; omega⟩
      · skip
        subst hkp
        have hd : decide (k < k) = false := decide_eq_false (by omega)
        rw [hd]
        clear hd
        have HMK := Lib.hid (insAt_at (id := id) HEK.out HP.out.symm)
        have HLX := Lib.hid (show (insAt id s.ents k).length ≤ s.ents.length + 1 from insAt_len)
        have hgt : id.index < e.id.index := by have := hstop rfl; unfold belowE at this; simp at this; omega
        clear hstop hbef
        have q0_0 := cl5 R0_4.out
        have q1_0 := cl3 R1_4.out
        have q2_0 := cl3 R2_4.out
        have q3_0 := cl2 R3_4.out
        have qn0_0 := cl4 Rw2_heap_size_4.out
        have qn1_0 := cl2 Rw2_heap_size_1_4.out
        go_wp2_with fail
        clear q0_0 q1_0 q2_0 q3_0 qn0_0 qn1_0
        refine wp_region_held_drew (S := fun W => Below wr.heap.size wr W) (by kernel_rfl) ((Below.refl _ _).drew) (fun s0 => ?_)
        obtain ⟨v1, hv0⟩ : ∃ V, V = wr.drew := ⟨_, rfl⟩
        rw [← hv0] at s0 ⊢
        have t1 : Below wr.heap.size wr v1 := s0
        clear hv0 s0
        refine tkHV (i := 0) (v := .bool false) rfl t1 ?_
        go_simp
        refine tkHV (i := 1) (v := .bool true) rfl t1 ?_
        go_simp
        refine tkHV (i := 2) (v := .bool true) rfl t1 ?_
        go_simp
        refine tkHV (i := 3) (v := .pointer (some ⟨w.heap.size + 1, 2, none⟩)) rfl t1 ?_
        go_simp
        refine tkH (i := 4) (v := .slice (some ⟨eb, eo, none⟩) s.ents.length c3) rfl (Or.inl ⟨by rfl, fun w' h => by have e := row_call (h : Below wr.heap.size wr w') R1_4.out; have e0 := cell_row e 0; have e1 := cell_row e 1; have e2 := cell_row e 2; go_simp⟩) t1 ?_
        go_simp
        refine tkHV (i := 5) (v := .int .i64 k) rfl t1 ?_
        go_simp
        refine tkHV (i := 6) (v := .pointer (some ⟨eb, eo + k * 3, none⟩)) rfl t1 ?_
        go_simp
        refine tkHV (i := 7) (v := .pointer (some ⟨eb, eo + k * 3, none⟩)) rfl t1 ?_
        go_simp
        refine tkHV (i := 8) (v := .pointer (some ⟨eb, eo + k * 3, none⟩)) rfl t1 ?_
        go_simp
        refine tkH (i := 9) (v := .int .i64 e.id.index) rfl (Or.inl ⟨by rfl, fun w' h => by have e := cell_call (h : Below wr.heap.size wr w') K0.out; go_simp⟩) t1 ?_
        go_simp
        refine tkHV (i := 10) (v := .pointer (some ⟨w2.heap.size + 1, 0, none⟩)) rfl t1 ?_
        go_simp
        refine tkH (i := 11) (v := .int .i64 id.index) rfl (Or.inl ⟨by rfl, fun w' h => by have e := row_call (h : Below wr.heap.size wr w') Rw2_heap_size_1_4.out; have e0 := cell_row e 0; have e1 := cell_row e 1; go_simp⟩) t1 ?_
        go_simp
        refine tkHV (i := 12) (v := .bool true) rfl t1 ?_
        go_simp
        refine tkHV (i := 13) (v := .bool true) rfl t1 ?_
        go_simp
        refine wpAnyH_done (by kernel_rfl) ?_ _
        have S5 := Lib.hid (show Only (Box w 4) wr v1 from Only.of_below t1)
        have O5 := Lib.hid (O4.out.trans S5.out)
        have R0_5 := Lib.hid (row_call t1 R0_4.out)
        have R1_5 := Lib.hid (row_call t1 R1_4.out)
        have R2_5 := Lib.hid (row_call t1 R2_4.out)
        have R3_5 := Lib.hid (row_call t1 R3_4.out)
        have Rw2_heap_size_5 := Lib.hid (row_call t1 Rw2_heap_size_4.out)
        have Rw2_heap_size_1_5 := Lib.hid (row_call t1 Rw2_heap_size_1_4.out)
        have Vc_5 := Lib.hid (val_only Vc_4.out S5.out)
        have Vs_5 := Lib.hid (val_only Vs_4.out S5.out)
        have Vx_5 := Lib.hid (val_only Vx_4.out S5.out)
        have Vy_5 := Lib.hid (val_only Vy_4.out S5.out)
        have hbw := (show Below wr.heap.size wr v1 from t1)
        have HBV := Lib.hid (HBR.out.trans (hbw.mono HBR.out.size))
        have HAV := Lib.hid (Rep.acc_later HA.out hbw)
        have q0_0 := cl5 R0_5.out
        have q1_0 := cl3 R1_5.out
        have q2_0 := cl3 R2_5.out
        have q3_0 := cl2 R3_5.out
        have qn0_0 := cl4 Rw2_heap_size_5.out
        have qn1_0 := cl2 Rw2_heap_size_1_5.out
        go_wp2_with (with_reducible refine stopOne rfl ?_)
        refine Lib.hid ?_
        clear q0_0 q1_0 q2_0 q3_0 qn0_0 qn1_0
        refine wpList_snoc (e := 133) (base := w3.heap.size) (Q := Lo Q w) (r := rEnt) rfl rfl _ _ 73 _ rfl rfl rfl (.agg #[.int .i64 0, .int .i64 0, .slice none 0 0]) 3 40 Try.underlying73 infoEnt rfl (by decide) rfl _ (insAt id s.ents k) HAV.out (⟨id, []⟩) _ (by exact rfl) (rEnt_agg (x := ⟨id, []⟩) HW0.out HW1.out ⟨Nat.le_refl _, by simp [maxLen], [], rfl, fun h => absurd h (by simp)⟩) (by exact rfl) (by exact rfl) (by have := HLX.out; have := HSM.out; unfold maxLen; omega) (by have := HLX.out; have := HSM.out; omega) HBV.out.size ?_
        intro s2 x2 hacc2 hgr2 hat2
        have HAc2 := Lib.hid hacc2
        have HBc2 := Lib.hid (Rep.acc_below HAV.out HBV.out hgr2 HBV.out.size)
        have HOW2 := Lib.hid (show ∀ b, b < w3.heap.size → x2.heap[b]? = wr.heap[b]? from fun b hb => (HBc2.out.block b hb).trans (HBR.out.block b hb).symm)
        clear hacc2 hgr2 hat2
        have row2 := ((HBc2.out.block _ (Array.getElem?_eq_some_iff.1 R0_3.out).1).trans R0_3.out)
        have b0_0 := cl5 row2
        clear row2
        have row2 := ((HBc2.out.block _ (Array.getElem?_eq_some_iff.1 R1_3.out).1).trans R1_3.out)
        have b1_0 := cl3 row2
        clear row2
        have row2 := ((HBc2.out.block _ (Array.getElem?_eq_some_iff.1 R2_3.out).1).trans R2_3.out)
        have b2_0 := cl3 row2
        clear row2
        have row2 := ((HBc2.out.block _ (Array.getElem?_eq_some_iff.1 R3_3.out).1).trans R3_3.out)
        have b3_0 := cl2 row2
        clear row2
        have row2 := ((HBc2.out.block _ (Array.getElem?_eq_some_iff.1 Rw2_heap_size_3.out).1).trans Rw2_heap_size_3.out)
        have bw2_heap_size_0 := cl4 row2
        clear row2
        have row2 := ((HBc2.out.block _ (Array.getElem?_eq_some_iff.1 Rw2_heap_size_1_3.out).1).trans Rw2_heap_size_1_3.out)
        have bw2_heap_size_1_0 := cl2 row2
        clear row2
        have c0v := cell_same (HOW2.out _ HEB.out) K0.out
        have c1v := cell_same (HOW2.out _ HEB.out) K1.out
        have c2v := cell_same (HOW2.out _ HEB.out) K2.out
        have HLX := Lib.hid (show (insAt id s.ents k ++ [(⟨id, []⟩ : DEnt)]).length ≤ s.ents.length + 2 by rw [List.length_append, List.length_singleton]; have := HLX.out; omega)
        go_wp2_with (with_reducible refine stopOne rfl ?_)
        refine Lib.hid ?_
        clear b0_0 b1_0 b2_0 b3_0 bw2_heap_size_0 bw2_heap_size_1_0 c0v c1v c2v
        refine wpList_snoc (e := 133) (base := w3.heap.size) (Q := Lo Q w) (r := rEnt) rfl rfl _ _ 73 _ rfl rfl rfl (.agg #[.int .i64 0, .int .i64 0, .slice none 0 0]) 3 40 Try.underlying73 infoEnt rfl (by decide) rfl _ (insAt id s.ents k ++ [(⟨id, []⟩ : DEnt)]) HAc2.out (e) _ (by exact rfl) (rEnt_agg (x := e) H0.out H1.out (HSL.out.keep fun b hb hl => ⟨⟨hb, fun h => by have h1 := (Rep.acc_own HAc2.out b h).1; have h2 := hb.2; have := O3.out.size; have := HZ.out; omega⟩, (show x2.heap[b]? = wr.heap[b]? from HOW2.out b (by have := hb.2; have := O3.out.size; have := HZ.out; omega))⟩)) (by exact rfl) (by exact rfl) (by have := HLX.out; have := HSM.out; unfold maxLen; omega) (by have := HLX.out; have := HSM.out; omega) HBc2.out.size ?_
        intro s3 x3 hacc3 hgr3 hat3
        have HAc3 := Lib.hid hacc3
        have HBc3 := Lib.hid (Rep.acc_below HAc2.out HBc2.out hgr3 HBc2.out.size)
        clear hacc3 hgr3 hat3
        go_wp2_with fail
        exact ⟨⟨k + 1, by go_num, by rw [decide_eq_true (by omega)], by omega, Lib.hid (by rw [← HMK.out]; exact HAc3.out), HBc3⟩, by simp [intOf]; omega⟩
      · skip
        clear hstop hbef
        have hd : decide (p < k) = true := decide_eq_true (by omega)
        rw [hd]
        clear hd
        have HMK := Lib.hid (insAt_behind (id := id) HEK.out (by rw [HP.out]; exact hkp))
        have HLX := Lib.hid (show (insAt id s.ents k).length ≤ s.ents.length + 1 from insAt_len)
        have q0_0 := cl5 R0_4.out
        have q1_0 := cl3 R1_4.out
        have q2_0 := cl3 R2_4.out
        have q3_0 := cl2 R3_4.out
        have qn0_0 := cl4 Rw2_heap_size_4.out
        have qn1_0 := cl2 Rw2_heap_size_1_4.out
        go_wp2_with fail
        clear q0_0 q1_0 q2_0 q3_0 qn0_0 qn1_0
        refine wp_region_held_drew (S := fun W => Below wr.heap.size wr W) (by kernel_rfl) ((Below.refl _ _).drew) (fun s0 => ?_)
        obtain ⟨v1, hv0⟩ : ∃ V, V = wr.drew := ⟨_, rfl⟩
        rw [← hv0] at s0 ⊢
        have t1 : Below wr.heap.size wr v1 := s0
        clear hv0 s0
        refine tkHV (i := 0) (v := .bool true) rfl t1 ?_
        go_simp
        refine tkHV (i := 1) (v := .bool false) rfl t1 ?_
        go_simp
        refine tkHV (i := 2) (v := .bool false) rfl t1 ?_
        go_simp
        refine tkH (i := 3) (v := undef) rfl (Or.inr ⟨by rfl, rfl⟩) t1 ?_
        go_simp
        refine tkH (i := 4) (v := undef) rfl (Or.inr ⟨by rfl, rfl⟩) t1 ?_
        go_simp
        refine tkH (i := 5) (v := undef) rfl (Or.inr ⟨by rfl, rfl⟩) t1 ?_
        go_simp
        refine tkH (i := 6) (v := undef) rfl (Or.inr ⟨by rfl, rfl⟩) t1 ?_
        go_simp
        refine tkH (i := 7) (v := undef) rfl (Or.inr ⟨by rfl, rfl⟩) t1 ?_
        go_simp
        refine tkH (i := 8) (v := undef) rfl (Or.inr ⟨by rfl, rfl⟩) t1 ?_
        go_simp
        refine tkH (i := 9) (v := undef) rfl (Or.inr ⟨by rfl, rfl⟩) t1 ?_
        go_simp
        refine tkH (i := 10) (v := undef) rfl (Or.inr ⟨by rfl, rfl⟩) t1 ?_
        go_simp
        refine tkH (i := 11) (v := undef) rfl (Or.inr ⟨by rfl, rfl⟩) t1 ?_
        go_simp
        refine tkH (i := 12) (v := undef) rfl (Or.inr ⟨by rfl, rfl⟩) t1 ?_
        go_simp
        refine tkHV (i := 13) (v := .bool false) rfl t1 ?_
        go_simp
        refine wpAnyH_done (by kernel_rfl) ?_ _
        have S5 := Lib.hid (show Only (Box w 4) wr v1 from Only.of_below t1)
        have O5 := Lib.hid (O4.out.trans S5.out)
        have R0_5 := Lib.hid (row_call t1 R0_4.out)
        have R1_5 := Lib.hid (row_call t1 R1_4.out)
        have R2_5 := Lib.hid (row_call t1 R2_4.out)
        have R3_5 := Lib.hid (row_call t1 R3_4.out)
        have Rw2_heap_size_5 := Lib.hid (row_call t1 Rw2_heap_size_4.out)
        have Rw2_heap_size_1_5 := Lib.hid (row_call t1 Rw2_heap_size_1_4.out)
        have Vc_5 := Lib.hid (val_only Vc_4.out S5.out)
        have Vs_5 := Lib.hid (val_only Vs_4.out S5.out)
        have Vx_5 := Lib.hid (val_only Vx_4.out S5.out)
        have Vy_5 := Lib.hid (val_only Vy_4.out S5.out)
        have hbw := (show Below wr.heap.size wr v1 from t1)
        have HBV := Lib.hid (HBR.out.trans (hbw.mono HBR.out.size))
        have HAV := Lib.hid (Rep.acc_later HA.out hbw)
        have q0_0 := cl5 R0_5.out
        have q1_0 := cl3 R1_5.out
        have q2_0 := cl3 R2_5.out
        have q3_0 := cl2 R3_5.out
        have qn0_0 := cl4 Rw2_heap_size_5.out
        have qn1_0 := cl2 Rw2_heap_size_1_5.out
        have c0v := cell_call (hbw) K0.out
        have c1v := cell_call (hbw) K1.out
        have c2v := cell_call (hbw) K2.out
        have hbv4 : Below wr.heap.size wr v1 := hbw
        go_wp2_with (with_reducible refine stopOne rfl ?_)
        refine Lib.hid ?_
        clear q0_0 q1_0 q2_0 q3_0 qn0_0 qn1_0 c0v c1v c2v
        refine wpList_snoc (e := 133) (base := w3.heap.size) (Q := Lo Q w) (r := rEnt) rfl rfl _ _ 73 _ rfl rfl rfl (.agg #[.int .i64 0, .int .i64 0, .slice none 0 0]) 3 40 Try.underlying73 infoEnt rfl (by decide) rfl _ (insAt id s.ents k) HAV.out (e) _ (by exact rfl) (rEnt_agg (x := e) H0.out H1.out (HSL.out.keep fun b hb hl => ⟨⟨hb, fun h => by have h1 := (Rep.acc_own HAV.out b h).1; have h2 := hb.2; have := O3.out.size; have := HZ.out; omega⟩, (hbv4).block b hl.lt⟩)) (by exact rfl) (by exact rfl) (by have := HLX.out; have := HSM.out; unfold maxLen; omega) (by have := HLX.out; have := HSM.out; omega) HBV.out.size ?_
        intro s4 x4 hacc4 hgr4 hat4
        have HAc4 := Lib.hid hacc4
        have HBc4 := Lib.hid (Rep.acc_below HAV.out HBV.out hgr4 HBV.out.size)
        clear hacc4 hgr4 hat4
        go_wp2_with fail
        exact ⟨⟨k + 1, by go_num, by rw [decide_eq_true (by omega)], by omega, Lib.hid (by rw [← HMK.out]; exact HAc4.out), HBc4⟩, by simp [intOf]; omega⟩
    · obtain rfl : k = s.ents.length := by omega
      by_cases hpe : p = s.ents.length
      · skip
        have hd : decide (p < s.ents.length) = false := decide_eq_false (by omega)
        rw [hd]
        clear hd
        have HLX := Lib.hid (show (insAt id s.ents s.ents.length).length ≤ s.ents.length + 1 from insAt_len)
        have q0_0 := cl5 R0_4.out
        have q1_0 := cl3 R1_4.out
        have q2_0 := cl3 R2_4.out
        have q3_0 := cl2 R3_4.out
        have qn0_0 := cl4 Rw2_heap_size_4.out
        have qn1_0 := cl2 Rw2_heap_size_1_4.out
        have HMK := Lib.hid (insAt_last (id := id) (es := s.ents) (by rw [HP.out]; exact hpe))
        clear hpe
        go_wp2_with (with_reducible refine stopOne rfl ?_)
        refine Lib.hid ?_
        clear q0_0 q1_0 q2_0 q3_0 qn0_0 qn1_0
        refine wpList_snoc (e := 133) (base := w3.heap.size) (Q := Lo Q w) (r := rEnt) rfl rfl _ _ 73 _ rfl rfl rfl (.agg #[.int .i64 0, .int .i64 0, .slice none 0 0]) 3 40 Try.underlying73 infoEnt rfl (by decide) rfl _ (insAt id s.ents s.ents.length) HA.out (⟨id, []⟩) _ (by exact rfl) (rEnt_agg (x := ⟨id, []⟩) HW0.out HW1.out ⟨Nat.le_refl _, by simp [maxLen], [], rfl, fun h => absurd h (by simp)⟩) (by exact rfl) (by exact rfl) (by have := HLX.out; have := HSM.out; unfold maxLen; omega) (by have := HLX.out; have := HSM.out; omega) HBR.out.size ?_
        intro s5 x5 hacc5 hgr5 hat5
        have HAc5 := Lib.hid hacc5
        have HBc5 := Lib.hid (Rep.acc_below HA.out HBR.out hgr5 HBR.out.size)
        clear hacc5 hgr5 hat5
        have HAE := Lib.hid (show rEnt.acc 133 w3.heap.size (Lo Q w) x5 s5 (insEnt id s.ents) by rw [← HMK.out]; exact HAc5.out)
        obtain ⟨A9, c9, rfl, _, _⟩ := Rep.acc_form HAE.out
        obtain ⟨es, hes⟩ : ∃ es, insEnt id s.ents = es := ⟨_, rfl⟩
        rw [hes] at HAE HE ⊢
        clear hes HMK HLX
        have S5 := Lib.hid (show Only (Box w 4) w3 x5 from Only.of_below HBc5.out)
        have O5 := Lib.hid (O3.out.trans S5.out)
        have R0_5 := Lib.hid (row_call HBc5.out R0_3.out)
        have R1_5 := Lib.hid (row_call HBc5.out R1_3.out)
        have R2_5 := Lib.hid (row_call HBc5.out R2_3.out)
        have R3_5 := Lib.hid (row_call HBc5.out R3_3.out)
        have Rw2_heap_size_5 := Lib.hid (row_call HBc5.out Rw2_heap_size_3.out)
        have Rw2_heap_size_1_5 := Lib.hid (row_call HBc5.out Rw2_heap_size_1_3.out)
        have Vc_5 := Lib.hid (val_only Vc_3.out S5.out)
        have Vs_5 := Lib.hid (val_only Vs_3.out S5.out)
        have Vx_5 := Lib.hid (val_only Vx_3.out S5.out)
        have Vy_5 := Lib.hid (val_only Vy_3.out S5.out)
        have Vl_5 := Lib.hid (show rEnt.list.val (In Q w 4) x5 (.slice A9 es.length c9) es from Rep.val_mono (fun b hb _ => hb.elim Lo.inn (fun h => .inr (by have h1 := (Rep.acc_own HAE.out b h).1; have := O3.out.size; have := HZ.out; omega))) (Rep.acc_val HAE.out))
        have q0_0 := cl5 R0_5.out
        have q1_0 := cl3 R1_5.out
        have q2_0 := cl3 R2_5.out
        have q3_0 := cl2 R3_5.out
        have qn0_0 := cl4 Rw2_heap_size_5.out
        have qn1_0 := cl2 Rw2_heap_size_1_5.out
        try go_wp2_with fail
        clear q0_0 q1_0 q2_0 q3_0 qn0_0 qn1_0
        refine wp_region_held_drew (S := fun W => Only (fun b => b = w.heap.size + 1 + 1 ∨ b = w.heap.size + 1 + 1 + 1) x5 W) (by kernel_rfl) ((Only.refl _ _).drw) (fun s0 => ?_)
        obtain ⟨v1, hv0⟩ : ∃ V, V = x5.drew := ⟨_, rfl⟩
        rw [← hv0] at s0 ⊢
        have t1 : Only (fun b => b = w.heap.size + 1 + 1 ∨ b = w.heap.size + 1 + 1 + 1) x5 v1 := s0
        have rb2_1 : v1.heap[w.heap.size + 1 + 1]? = some (.cells #[.slice none 0 0, .slice none 0 0, .slice none 0 0] 75 (0, 0)) := by rw [hv0]; exact R2_5.out
        have rb3_1 : v1.heap[w.heap.size + 1 + 1 + 1]? = some (.cells #[.int .i64 0, .int .i64 0] 114 (0, 0)) := by rw [hv0]; exact R3_5.out
        clear hv0 s0
        refine tkHV (i := 0) (v := .pointer (some ⟨w2.heap.size, 2, none⟩)) rfl t1 ?_
        go_simp
        refine tkH (i := 1) (v := .slice B1 y.gens.length e1) rfl (Or.inl ⟨by rfl, fun w' h => by have e := row_only (h : Only (fun b => b = w.heap.size + 1 + 1 ∨ b = w.heap.size + 1 + 1 + 1) x5 w') Rw2_heap_size_5.out (by have := HF1.out; have := HF1.out; first | omega | (dsimp only; omega)); have e0 := cell_row e 0; have e1 := cell_row e 1; have e2 := cell_row e 2; have e3 := cell_row e 3; go_simp⟩) t1 ?_
        go_simp
        refine tkHV (i := 2) (v := .pointer (some ⟨w2.heap.size, 3, none⟩)) rfl t1 ?_
        go_simp
        refine tkH (i := 3) (v := .slice B2 y.free.length e2) rfl (Or.inl ⟨by rfl, fun w' h => by have e := row_only (h : Only (fun b => b = w.heap.size + 1 + 1 ∨ b = w.heap.size + 1 + 1 + 1) x5 w') Rw2_heap_size_5.out (by have := HF1.out; have := HF1.out; first | omega | (dsimp only; omega)); have e0 := cell_row e 0; have e1 := cell_row e 1; have e2 := cell_row e 2; have e3 := cell_row e 3; go_simp⟩) t1 ?_
        go_simp
        refine tkHV (i := 4) (v := .slice A9 es.length c9) rfl t1 ?_
        go_simp
        refine tkHV (i := 5) (v := .agg #[.slice B1 y.gens.length e1, .slice B2 y.free.length e2, .slice A9 es.length c9]) rfl t1 ?_
        go_simp
        refine tkH (i := 6) (v := .agg #[.int .i64 id.index, .int .i64 id.gen]) rfl (Or.inl ⟨by rfl, fun w' h => by have e := row_only (h : Only (fun b => b = w.heap.size + 1 + 1 ∨ b = w.heap.size + 1 + 1 + 1) x5 w') Rw2_heap_size_1_5.out (by have := HF1.out; have := HF1.out; first | omega | (dsimp only; omega)); have e0 := cell_row e 0; have e1 := cell_row e 1; go_simp⟩) t1 ?_
        go_simp
        refine wpAnyH_all (rs := [7]) (by kernel_rfl) (by simp) ?_
        intro i hi
        obtain rfl : i = 7 := by simpa using hi
        clear hi
        refine wpOp_step rfl (fun K hK => ?_)
        go_simp
        have eb := rb2_1
        have q0 := rw3 eb
        go_simp
        refine hK _ _ ⟨(((t1).put (.inl rfl)).put (.inl rfl)).put (.inl rfl), ?_⟩
        clear hK K q0
        refine nm_any (fun v2 hnm => ?_)
        have t2 : Only (fun b => b = w.heap.size + 1 + 1 ∨ b = w.heap.size + 1 + 1 + 1) x5 v2 := by rw [hnm]; exact (((t1).put (.inl rfl)).put (.inl rfl)).put (.inl rfl)
        have rb2_2 : v2.heap[w.heap.size + 1 + 1]? = some (.cells #[.slice B1 y.gens.length e1, .slice B2 y.free.length e2, .slice A9 es.length c9] 75 (0, 0)) := by rw [hnm]; exact heap_setRow (heap_setRow (heap_setRow (rb2_1)))
        have rb3_2 : v2.heap[w.heap.size + 1 + 1 + 1]? = some (.cells #[.int .i64 0, .int .i64 0] 114 (0, 0)) := by rw [hnm]; exact row_other (row_other (row_other (rb3_1) (by omega)) (by omega)) (by omega)
        clear hnm eb
        refine wpAnyH_all (rs := [8]) (by kernel_rfl) (by simp) ?_
        intro i hi
        obtain rfl : i = 8 := by simpa using hi
        clear hi
        refine wpOp_step rfl (fun K hK => ?_)
        go_simp
        have eb := rb3_2
        have q0 := rw2 eb
        go_simp
        refine hK _ _ ⟨((t2).put (.inr (rfl))).put (.inr (rfl)), ?_⟩
        clear hK K q0
        refine nm_any (fun v3 hnm => ?_)
        have t3 : Only (fun b => b = w.heap.size + 1 + 1 ∨ b = w.heap.size + 1 + 1 + 1) x5 v3 := by rw [hnm]; exact ((t2).put (.inr (rfl))).put (.inr (rfl))
        have rb2_3 : v3.heap[w.heap.size + 1 + 1]? = some (.cells #[.slice B1 y.gens.length e1, .slice B2 y.free.length e2, .slice A9 es.length c9] 75 (0, 0)) := by rw [hnm]; exact row_other (row_other (rb2_2) (by omega)) (by omega)
        have rb3_3 : v3.heap[w.heap.size + 1 + 1 + 1]? = some (.cells #[.int .i64 id.index, .int .i64 id.gen] 114 (0, 0)) := by rw [hnm]; exact heap_setRow (heap_setRow (rb3_2))
        clear hnm eb
        refine tkHV (i := 9) (v := .int .i64 0) rfl t3 ?_
        go_simp
        refine wpAnyH_done (by kernel_rfl) ?_ _
        have S6 := Lib.hid (show Only (Box w 4) x5 v3 from (t3).wid (fun b hb => by first | (unfold Box; omega) | (dsimp only at hb; unfold Box; omega)))
        have O6 := Lib.hid (O5.out.trans S6.out)
        have R0_6 := Lib.hid (row_only t3 R0_5.out (by first | omega | (dsimp only; omega)))
        have R1_6 := Lib.hid (row_only t3 R1_5.out (by first | omega | (dsimp only; omega)))
        have R2_6 := Lib.hid (show v3.heap[w.heap.size + 1 + 1]? = some (.cells #[.slice B1 y.gens.length e1, .slice B2 y.free.length e2, .slice A9 es.length c9] 75 (0, 0)) from rb2_3)
        have R3_6 := Lib.hid (show v3.heap[w.heap.size + 1 + 1 + 1]? = some (.cells #[.int .i64 id.index, .int .i64 id.gen] 114 (0, 0)) from rb3_3)
        have Rw2_heap_size_6 := Lib.hid (row_only t3 Rw2_heap_size_5.out (by have := HF1.out; have := HF1.out; first | omega | (dsimp only; omega)))
        have Rw2_heap_size_1_6 := Lib.hid (row_only t3 Rw2_heap_size_1_5.out (by have := HF1.out; have := HF1.out; first | omega | (dsimp only; omega)))
        have Vc_6 := Lib.hid (val_only Vc_5.out S6.out)
        have Vs_6 := Lib.hid (val_only Vs_5.out S6.out)
        have Vx_6 := Lib.hid (val_only Vx_5.out S6.out)
        have Vy_6 := Lib.hid (val_only Vy_5.out S6.out)
        have Vl_6 := Lib.hid (val_only Vl_5.out S6.out)
        clear rb2_3 rb3_3
        have q2_0 := cl3 R2_6.out
        have q3_0 := cl2 R3_6.out
        try go_wp2_with fail
        refine ⟨rfl, .tuple #[.agg #[.slice B1 y.gens.length e1, .slice B2 y.free.length e2, .slice A9 es.length c9], .agg #[.int .i64 id.index, .int .i64 id.gen], .int .i64 0], by simp only [results, hfr]; go_simp, ?_⟩
        clear q2_0 q3_0
        obtain ⟨_, _, _, _, hye, _, _, y1, y2⟩ := rIds_val Vy_6.out
        cases hye
        rw [HE.out]
        exact ⟨_, rfl, val_out (rState_agg (x := ⟨y.gens, y.free, es⟩) y1 y2 (sl_of Vl_6.out)), Only.fin HB0.out O6.out⟩
      · skip
        have hd : decide (p < s.ents.length) = true := decide_eq_true (by omega)
        rw [hd]
        clear hd
        have HLX := Lib.hid (show (insAt id s.ents s.ents.length).length ≤ s.ents.length + 1 from insAt_len)
        have q0_0 := cl5 R0_4.out
        have q1_0 := cl3 R1_4.out
        have q2_0 := cl3 R2_4.out
        have q3_0 := cl2 R3_4.out
        have qn0_0 := cl4 Rw2_heap_size_4.out
        have qn1_0 := cl2 Rw2_heap_size_1_4.out
        have HMK := Lib.hid (insAt_end (id := id) (es := s.ents) (by rw [HP.out]; omega))
        clear hpe
        go_wp2_with fail
        clear q0_0 q1_0 q2_0 q3_0 qn0_0 qn1_0
        have HAE := Lib.hid (show rEnt.acc 133 w3.heap.size (Lo Q w) wr _ (insEnt id s.ents) by rw [← HMK.out]; exact HA.out)
        obtain ⟨A9, c9, rfl, _, _⟩ := Rep.acc_form HAE.out
        obtain ⟨es, hes⟩ : ∃ es, insEnt id s.ents = es := ⟨_, rfl⟩
        rw [hes] at HAE HE ⊢
        clear hes HMK HLX
        have S5 := Lib.hid (show Only (Box w 4) w3 wr from Only.of_below HBR.out)
        have O5 := Lib.hid (O3.out.trans S5.out)
        have R0_5 := Lib.hid (row_call HBR.out R0_3.out)
        have R1_5 := Lib.hid (row_call HBR.out R1_3.out)
        have R2_5 := Lib.hid (row_call HBR.out R2_3.out)
        have R3_5 := Lib.hid (row_call HBR.out R3_3.out)
        have Rw2_heap_size_5 := Lib.hid (row_call HBR.out Rw2_heap_size_3.out)
        have Rw2_heap_size_1_5 := Lib.hid (row_call HBR.out Rw2_heap_size_1_3.out)
        have Vc_5 := Lib.hid (val_only Vc_3.out S5.out)
        have Vs_5 := Lib.hid (val_only Vs_3.out S5.out)
        have Vx_5 := Lib.hid (val_only Vx_3.out S5.out)
        have Vy_5 := Lib.hid (val_only Vy_3.out S5.out)
        have Vl_5 := Lib.hid (show rEnt.list.val (In Q w 4) wr (.slice A9 es.length c9) es from Rep.val_mono (fun b hb _ => hb.elim Lo.inn (fun h => .inr (by have h1 := (Rep.acc_own HAE.out b h).1; have := O3.out.size; have := HZ.out; omega))) (Rep.acc_val HAE.out))
        have q0_0 := cl5 R0_5.out
        have q1_0 := cl3 R1_5.out
        have q2_0 := cl3 R2_5.out
        have q3_0 := cl2 R3_5.out
        have qn0_0 := cl4 Rw2_heap_size_5.out
        have qn1_0 := cl2 Rw2_heap_size_1_5.out
        try go_wp2_with fail
        clear q0_0 q1_0 q2_0 q3_0 qn0_0 qn1_0
        refine wp_region_held_drew (S := fun W => Only (fun b => b = w.heap.size + 1 + 1 ∨ b = w.heap.size + 1 + 1 + 1) wr W) (by kernel_rfl) ((Only.refl _ _).drw) (fun s0 => ?_)
        obtain ⟨v1, hv0⟩ : ∃ V, V = wr.drew := ⟨_, rfl⟩
        rw [← hv0] at s0 ⊢
        have t1 : Only (fun b => b = w.heap.size + 1 + 1 ∨ b = w.heap.size + 1 + 1 + 1) wr v1 := s0
        have rb2_1 : v1.heap[w.heap.size + 1 + 1]? = some (.cells #[.slice none 0 0, .slice none 0 0, .slice none 0 0] 75 (0, 0)) := by rw [hv0]; exact R2_5.out
        have rb3_1 : v1.heap[w.heap.size + 1 + 1 + 1]? = some (.cells #[.int .i64 0, .int .i64 0] 114 (0, 0)) := by rw [hv0]; exact R3_5.out
        clear hv0 s0
        refine tkHV (i := 0) (v := .pointer (some ⟨w2.heap.size, 2, none⟩)) rfl t1 ?_
        go_simp
        refine tkH (i := 1) (v := .slice B1 y.gens.length e1) rfl (Or.inl ⟨by rfl, fun w' h => by have e := row_only (h : Only (fun b => b = w.heap.size + 1 + 1 ∨ b = w.heap.size + 1 + 1 + 1) wr w') Rw2_heap_size_5.out (by have := HF1.out; have := HF1.out; first | omega | (dsimp only; omega)); have e0 := cell_row e 0; have e1 := cell_row e 1; have e2 := cell_row e 2; have e3 := cell_row e 3; go_simp⟩) t1 ?_
        go_simp
        refine tkHV (i := 2) (v := .pointer (some ⟨w2.heap.size, 3, none⟩)) rfl t1 ?_
        go_simp
        refine tkH (i := 3) (v := .slice B2 y.free.length e2) rfl (Or.inl ⟨by rfl, fun w' h => by have e := row_only (h : Only (fun b => b = w.heap.size + 1 + 1 ∨ b = w.heap.size + 1 + 1 + 1) wr w') Rw2_heap_size_5.out (by have := HF1.out; have := HF1.out; first | omega | (dsimp only; omega)); have e0 := cell_row e 0; have e1 := cell_row e 1; have e2 := cell_row e 2; have e3 := cell_row e 3; go_simp⟩) t1 ?_
        go_simp
        refine tkHV (i := 4) (v := .slice A9 es.length c9) rfl t1 ?_
        go_simp
        refine tkHV (i := 5) (v := .agg #[.slice B1 y.gens.length e1, .slice B2 y.free.length e2, .slice A9 es.length c9]) rfl t1 ?_
        go_simp
        refine tkH (i := 6) (v := .agg #[.int .i64 id.index, .int .i64 id.gen]) rfl (Or.inl ⟨by rfl, fun w' h => by have e := row_only (h : Only (fun b => b = w.heap.size + 1 + 1 ∨ b = w.heap.size + 1 + 1 + 1) wr w') Rw2_heap_size_1_5.out (by have := HF1.out; have := HF1.out; first | omega | (dsimp only; omega)); have e0 := cell_row e 0; have e1 := cell_row e 1; go_simp⟩) t1 ?_
        go_simp
        refine wpAnyH_all (rs := [7]) (by kernel_rfl) (by simp) ?_
        intro i hi
        obtain rfl : i = 7 := by simpa using hi
        clear hi
        refine wpOp_step rfl (fun K hK => ?_)
        go_simp
        have eb := rb2_1
        have q0 := rw3 eb
        go_simp
        refine hK _ _ ⟨(((t1).put (.inl rfl)).put (.inl rfl)).put (.inl rfl), ?_⟩
        clear hK K q0
        refine nm_any (fun v2 hnm => ?_)
        have t2 : Only (fun b => b = w.heap.size + 1 + 1 ∨ b = w.heap.size + 1 + 1 + 1) wr v2 := by rw [hnm]; exact (((t1).put (.inl rfl)).put (.inl rfl)).put (.inl rfl)
        have rb2_2 : v2.heap[w.heap.size + 1 + 1]? = some (.cells #[.slice B1 y.gens.length e1, .slice B2 y.free.length e2, .slice A9 es.length c9] 75 (0, 0)) := by rw [hnm]; exact heap_setRow (heap_setRow (heap_setRow (rb2_1)))
        have rb3_2 : v2.heap[w.heap.size + 1 + 1 + 1]? = some (.cells #[.int .i64 0, .int .i64 0] 114 (0, 0)) := by rw [hnm]; exact row_other (row_other (row_other (rb3_1) (by omega)) (by omega)) (by omega)
        clear hnm eb
        refine wpAnyH_all (rs := [8]) (by kernel_rfl) (by simp) ?_
        intro i hi
        obtain rfl : i = 8 := by simpa using hi
        clear hi
        refine wpOp_step rfl (fun K hK => ?_)
        go_simp
        have eb := rb3_2
        have q0 := rw2 eb
        go_simp
        refine hK _ _ ⟨((t2).put (.inr (rfl))).put (.inr (rfl)), ?_⟩
        clear hK K q0
        refine nm_any (fun v3 hnm => ?_)
        have t3 : Only (fun b => b = w.heap.size + 1 + 1 ∨ b = w.heap.size + 1 + 1 + 1) wr v3 := by rw [hnm]; exact ((t2).put (.inr (rfl))).put (.inr (rfl))
        have rb2_3 : v3.heap[w.heap.size + 1 + 1]? = some (.cells #[.slice B1 y.gens.length e1, .slice B2 y.free.length e2, .slice A9 es.length c9] 75 (0, 0)) := by rw [hnm]; exact row_other (row_other (rb2_2) (by omega)) (by omega)
        have rb3_3 : v3.heap[w.heap.size + 1 + 1 + 1]? = some (.cells #[.int .i64 id.index, .int .i64 id.gen] 114 (0, 0)) := by rw [hnm]; exact heap_setRow (heap_setRow (rb3_2))
        clear hnm eb
        refine tkHV (i := 9) (v := .int .i64 0) rfl t3 ?_
        go_simp
        refine wpAnyH_done (by kernel_rfl) ?_ _
        have S6 := Lib.hid (show Only (Box w 4) wr v3 from (t3).wid (fun b hb => by first | (unfold Box; omega) | (dsimp only at hb; unfold Box; omega)))
        have O6 := Lib.hid (O5.out.trans S6.out)
        have R0_6 := Lib.hid (row_only t3 R0_5.out (by first | omega | (dsimp only; omega)))
        have R1_6 := Lib.hid (row_only t3 R1_5.out (by first | omega | (dsimp only; omega)))
        have R2_6 := Lib.hid (show v3.heap[w.heap.size + 1 + 1]? = some (.cells #[.slice B1 y.gens.length e1, .slice B2 y.free.length e2, .slice A9 es.length c9] 75 (0, 0)) from rb2_3)
        have R3_6 := Lib.hid (show v3.heap[w.heap.size + 1 + 1 + 1]? = some (.cells #[.int .i64 id.index, .int .i64 id.gen] 114 (0, 0)) from rb3_3)
        have Rw2_heap_size_6 := Lib.hid (row_only t3 Rw2_heap_size_5.out (by have := HF1.out; have := HF1.out; first | omega | (dsimp only; omega)))
        have Rw2_heap_size_1_6 := Lib.hid (row_only t3 Rw2_heap_size_1_5.out (by have := HF1.out; have := HF1.out; first | omega | (dsimp only; omega)))
        have Vc_6 := Lib.hid (val_only Vc_5.out S6.out)
        have Vs_6 := Lib.hid (val_only Vs_5.out S6.out)
        have Vx_6 := Lib.hid (val_only Vx_5.out S6.out)
        have Vy_6 := Lib.hid (val_only Vy_5.out S6.out)
        have Vl_6 := Lib.hid (val_only Vl_5.out S6.out)
        clear rb2_3 rb3_3
        have q2_0 := cl3 R2_6.out
        have q3_0 := cl2 R3_6.out
        try go_wp2_with fail
        refine ⟨rfl, .tuple #[.agg #[.slice B1 y.gens.length e1, .slice B2 y.free.length e2, .slice A9 es.length c9], .agg #[.int .i64 id.index, .int .i64 id.gen], .int .i64 0], by simp only [results, hfr]; go_simp, ?_⟩
        clear q2_0 q3_0
        obtain ⟨_, _, _, _, hye, _, _, y1, y2⟩ := rIds_val Vy_6.out
        cases hye
        rw [HE.out]
        exact ⟨_, rfl, val_out (rState_agg (x := ⟨y.gens, y.free, es⟩) y1 y2 (sl_of Vl_6.out)), Only.fin HB0.out O6.out⟩
end Go.Proofs.Yteljibjbndpncaa
