/- Texts on which the proofs stand: RSet. No condition is laid on any input. -/
import Derived.Test.YteljibjbndpncaaJsG20
namespace Go.Proofs.Yteljibjbndpncaa
open Go.RowKit

set_option maxRecDepth 100000 in
set_option maxHeartbeats 4000000 in
/-- r11.Set -/
theorem rset_calls {Q : Nat → Prop} {w : World} {vc v vd : Value} {c : DConf} {s : DState} {id : DID} {k : Int} {data : List UInt8} (hc : rConf.val Q w vc c) (hx : rState.val Q w v s) (hd : Rep.byte.list.val Q w vd data) (hkw : (Lit.int .i64 k).wf = true) (hok : StOk c s) :
    Calls Try.prog 142 #[vc, v, .agg #[.int .i64 id.index, .int .i64 id.gen], .int .i64 k, vd] w (DespawnPost Q w (setS c s id k data)) := by
  have HC := Lib.hid hc
  have HX := Lib.hid hx
  have HOK := Lib.hid hok
  have HSM := Lib.hid hok.small
  obtain ⟨A, cap, rfl, _⟩ := rConf_val hc
  obtain ⟨A1, c1, A2, c2, A3, c3, rfl, f1, f2, f3⟩ := rState_val hx
  obtain ⟨A5, c5, rfl, n5, l5, _⟩ := Rep.val_list hd
  have HD := Lib.hid hd
  have HKW := Lib.hid hkw
  have F3 := Lib.hid f3
  have l3 := f3.2.1
  have m3 := f3.1
  unfold maxLen at l3 l5
  have hfr : Try.f142.results = #[.cell 10 75, .tmp 11] := rfl
  clear hc hx f1 f2 f3 hok hd hkw
  obtain ⟨W0, hW0⟩ : ∃ W, ((((w.alloc (.cells #[.int .i64 c.log, .int .i64 c.pages, .int .i64 c.entities, .int .i64 c.gens, .slice A c.comps.length cap] 49)).alloc (.cells #[.slice A1 s.gens.length c1, .slice A2 s.free.length c2, .slice A3 s.ents.length c3] 75)).alloc (.cells #[.int .i64 id.index, .int .i64 id.gen] 114)).alloc (.cells #[.slice none 0 0, .slice none 0 0, .slice none 0 0] 75)) = W := ⟨_, rfl⟩
  have hz0 : W0.heap.size = w.heap.size + 4 := by rw [← hW0]; simp
  have hb0 : Below w.heap.size w W0 := by rw [← hW0]; exact ((((Below.refl _ _).alloc (Nat.le_refl _) _).alloc (by first | (simp; done) | (simp; omega)) _).alloc (by first | (simp; done) | (simp; omega)) _).alloc (by first | (simp; done) | (simp; omega)) _
  have HZ := Lib.hid hz0
  have HB0 := Lib.hid hb0
  have R0_0 := Lib.hid (show W0.heap[w.heap.size]? = some (.cells #[.int .i64 c.log, .int .i64 c.pages, .int .i64 c.entities, .int .i64 c.gens, .slice A c.comps.length cap] 49 (0, 0)) by rw [← hW0]; exact alloc_old (alloc_old (alloc_old (alloc_at rfl))))
  have R1_0 := Lib.hid (show W0.heap[w.heap.size + 1]? = some (.cells #[.slice A1 s.gens.length c1, .slice A2 s.free.length c2, .slice A3 s.ents.length c3] 75 (0, 0)) by rw [← hW0]; exact alloc_old (alloc_old (alloc_at (by simp))))
  have R2_0 := Lib.hid (show W0.heap[w.heap.size + 1 + 1]? = some (.cells #[.int .i64 id.index, .int .i64 id.gen] 114 (0, 0)) by rw [← hW0]; exact alloc_old (alloc_at (by simp)))
  have R3_0 := Lib.hid (show W0.heap[w.heap.size + 1 + 1 + 1]? = some (.cells #[.slice none 0 0, .slice none 0 0, .slice none 0 0] 75 (0, 0)) by rw [← hW0]; exact alloc_at (by simp))
  have O0 := Lib.hid (Only.refl (Box w 4) W0)
  have Vc_0 := Lib.hid (show rConf.val (In Q w 4) W0 (.agg #[.int .i64 c.log, .int .i64 c.pages, .int .i64 c.entities, .int .i64 c.gens, .slice A c.comps.length cap]) c from val_in HC.out hb0)
  have Vs_0 := Lib.hid (show rState.val (In Q w 4) W0 (.agg #[.slice A1 s.gens.length c1, .slice A2 s.free.length c2, .slice A3 s.ents.length c3]) s from val_in HX.out hb0)
  have HLO := Lib.hid (show ∀ V, Below W0.heap.size W0 V → rEnt.list.val (Lo Q w) V (.slice A3 s.ents.length c3) s.ents from fun V h => val_lo_later (val_lo F3.out.val hb0) h)
  have HDL := Lib.hid (show Rep.byte.Sl (Lo Q w) W0 A5 c5 data from sl_of (val_lo HD.out hb0))
  rcases hp : placeOf s.ents id with _ | i
  case none =>
    have HP := Lib.hid (place_none hp)
    have HE := Lib.hid (show setS c s id k data = (s, 5) by unfold setS; rw [hp])
    clear hp
    clear hz0 hb0
    have q0_0 := rw5 R0_0.out
    have q1_0 := rw3 R1_0.out
    have q2_0 := rw2 R2_0.out
    have q3_0 := rw3 R3_0.out
    go_enter Try.func142, Try.ntmps142
    go_wp2_with fail
    try rw [hW0]
    clear hW0
    try go_wp2_with fail
    clear q0_0 q1_0 q2_0 q3_0
    refine (rplace11_calls (id := id) Vs_0.out).mono ?_
    rintro e w1 ⟨rfl, hb⟩
    have S1 := Lib.hid (show Only (Box w 4) W0 w1 from Only.of_below hb)
    have O1 := Lib.hid (O0.out.trans S1.out)
    have R0_1 := Lib.hid (row_call hb R0_0.out)
    have R1_1 := Lib.hid (row_call hb R1_0.out)
    have R2_1 := Lib.hid (row_call hb R2_0.out)
    have R3_1 := Lib.hid (row_call hb R3_0.out)
    have Vc_1 := Lib.hid (val_only Vc_0.out S1.out)
    have Vs_1 := Lib.hid (val_only Vs_0.out S1.out)
    clear hb
    rw [HP.out]
    have q0_0 := rw5 R0_1.out
    have q1_0 := rw3 R1_1.out
    have q2_0 := rw2 R2_1.out
    have q3_0 := rw3 R3_1.out
    go_wp2_with fail
    clear q0_0 q1_0 q2_0 q3_0
    refine nm_post (fun wz hnm => ?_)
    have S2 := Lib.hid (show Only (Box w 4) w1 wz from (by rw [hnm]; exact (((Only.refl (Box w 4) w1).put ⟨by omega, by omega⟩).put ⟨by omega, by omega⟩).put ⟨by omega, by omega⟩))
    have O2 := Lib.hid (O1.out.trans S2.out)
    have R0_2 := Lib.hid (row_nm hnm (row_other (row_other (row_other (R0_1.out) (by omega)) (by omega)) (by omega)))
    have R1_2 := Lib.hid (row_nm hnm (row_other (row_other (row_other (R1_1.out) (by omega)) (by omega)) (by omega)))
    have R2_2 := Lib.hid (row_nm hnm (row_other (row_other (row_other (R2_1.out) (by omega)) (by omega)) (by omega)))
    have R3_2 := Lib.hid (show wz.heap[w.heap.size + 1 + 1 + 1]? = some (.cells #[.slice A1 s.gens.length c1, .slice A2 s.free.length c2, .slice A3 s.ents.length c3] 75 (0, 0)) from (by rw [hnm]; exact heap_setRow (heap_setRow (heap_setRow (R3_1.out)))))
    have Vc_2 := Lib.hid (val_only Vc_1.out S2.out)
    have Vs_2 := Lib.hid (val_only Vs_1.out S2.out)
    clear hnm
    have q3_0 := cl3 R3_2.out
    refine ⟨rfl, .tuple #[.agg #[.slice A1 s.gens.length c1, .slice A2 s.free.length c2, .slice A3 s.ents.length c3], .int .i64 5], by simp only [results, hfr]; go_simp, ?_⟩
    clear q3_0
    rw [HE.out]
    exact ⟨_, rfl, val_out Vs_2.out, Only.fin HB0.out O2.out⟩
  have HP := Lib.hid (place_some hp)
  obtain ⟨x, hx0, hid0⟩ := placeOf_some hp
  have hil : i < s.ents.length := (List.getElem?_eq_some_iff.1 hx0).1
  have HIL := Lib.hid hil
  have HX0 := Lib.hid hx0
  have HID := Lib.hid hid0
  have HPO := Lib.hid hp
  have HPK := Lib.hid (HOK.out.parts x (List.mem_of_getElem? hx0)).len
  clear hp hx0 hid0 hil
  rcases hsz : compSize c k with _ | n
  case none =>
    have HS := Lib.hid hsz
    have HE := Lib.hid (show setS c s id k data = (s, 6) by unfold setS; rw [HPO.out]; dsimp only; rw [hsz])
    clear hsz
    clear hz0 hb0
    have q0_0 := rw5 R0_0.out
    have q1_0 := rw3 R1_0.out
    have q2_0 := rw2 R2_0.out
    have q3_0 := rw3 R3_0.out
    go_enter Try.func142, Try.ntmps142
    go_wp2_with fail
    try rw [hW0]
    clear hW0
    try go_wp2_with fail
    clear q0_0 q1_0 q2_0 q3_0
    refine (rplace11_calls (id := id) Vs_0.out).mono ?_
    rintro e w1 ⟨rfl, hb⟩
    have S1 := Lib.hid (show Only (Box w 4) W0 w1 from Only.of_below hb)
    have O1 := Lib.hid (O0.out.trans S1.out)
    have R0_1 := Lib.hid (row_call hb R0_0.out)
    have R1_1 := Lib.hid (row_call hb R1_0.out)
    have R2_1 := Lib.hid (row_call hb R2_0.out)
    have R3_1 := Lib.hid (row_call hb R3_0.out)
    have Vc_1 := Lib.hid (val_only Vc_0.out S1.out)
    have Vs_1 := Lib.hid (val_only Vs_0.out S1.out)
    clear hb
    rw [HP.out]
    have q0_0 := rw5 R0_1.out
    have q1_0 := rw3 R1_1.out
    have q2_0 := rw2 R2_1.out
    have q3_0 := rw3 R3_1.out
    go_wp2_with fail
    clear q0_0 q1_0 q2_0 q3_0
    refine (rsize_calls (k := k) Vc_1.out).mono ?_
    rintro e w2 ⟨rfl, hb⟩
    have S2 := Lib.hid (show Only (Box w 4) w1 w2 from Only.of_below hb)
    have O2 := Lib.hid (O1.out.trans S2.out)
    have R0_2 := Lib.hid (row_call hb R0_1.out)
    have R1_2 := Lib.hid (row_call hb R1_1.out)
    have R2_2 := Lib.hid (row_call hb R2_1.out)
    have R3_2 := Lib.hid (row_call hb R3_1.out)
    have Vc_2 := Lib.hid (val_only Vc_1.out S2.out)
    have Vs_2 := Lib.hid (val_only Vs_1.out S2.out)
    clear hb
    rw [HS.out]
    dsimp only [Option.getD_none, Option.isSome_none]
    have q0_0 := rw5 R0_2.out
    have q1_0 := rw3 R1_2.out
    have q2_0 := rw2 R2_2.out
    have q3_0 := rw3 R3_2.out
    go_wp2_with fail
    clear q0_0 q1_0 q2_0 q3_0
    refine nm_post (fun wz hnm => ?_)
    have S3 := Lib.hid (show Only (Box w 4) w2 wz from (by rw [hnm]; exact (((Only.refl (Box w 4) w2).put ⟨by omega, by omega⟩).put ⟨by omega, by omega⟩).put ⟨by omega, by omega⟩))
    have O3 := Lib.hid (O2.out.trans S3.out)
    have R0_3 := Lib.hid (row_nm hnm (row_other (row_other (row_other (R0_2.out) (by omega)) (by omega)) (by omega)))
    have R1_3 := Lib.hid (row_nm hnm (row_other (row_other (row_other (R1_2.out) (by omega)) (by omega)) (by omega)))
    have R2_3 := Lib.hid (row_nm hnm (row_other (row_other (row_other (R2_2.out) (by omega)) (by omega)) (by omega)))
    have R3_3 := Lib.hid (show wz.heap[w.heap.size + 1 + 1 + 1]? = some (.cells #[.slice A1 s.gens.length c1, .slice A2 s.free.length c2, .slice A3 s.ents.length c3] 75 (0, 0)) from (by rw [hnm]; exact heap_setRow (heap_setRow (heap_setRow (R3_2.out)))))
    have Vc_3 := Lib.hid (val_only Vc_2.out S3.out)
    have Vs_3 := Lib.hid (val_only Vs_2.out S3.out)
    clear hnm
    have q3_0 := cl3 R3_3.out
    refine ⟨rfl, .tuple #[.agg #[.slice A1 s.gens.length c1, .slice A2 s.free.length c2, .slice A3 s.ents.length c3], .int .i64 6], by simp only [results, hfr]; go_simp, ?_⟩
    clear q3_0
    rw [HE.out]
    exact ⟨_, rfl, val_out Vs_3.out, Only.fin HB0.out O3.out⟩
  have HS := Lib.hid hsz
  by_cases hnl : (data.length : Int) = n
  case neg =>
    have HE := Lib.hid (show setS c s id k data = (s, 7) by unfold setS; rw [HPO.out]; dsimp only; rw [hsz]; exact if_neg hnl)
    have hg : ((data.length : Int) == n) = false := by simp [hnl]
    clear hsz hnl
    clear hz0 hb0
    have q0_0 := rw5 R0_0.out
    have q1_0 := rw3 R1_0.out
    have q2_0 := rw2 R2_0.out
    have q3_0 := rw3 R3_0.out
    go_enter Try.func142, Try.ntmps142
    go_wp2_with fail
    try rw [hW0]
    clear hW0
    try go_wp2_with fail
    clear q0_0 q1_0 q2_0 q3_0
    refine (rplace11_calls (id := id) Vs_0.out).mono ?_
    rintro e w1 ⟨rfl, hb⟩
    have S1 := Lib.hid (show Only (Box w 4) W0 w1 from Only.of_below hb)
    have O1 := Lib.hid (O0.out.trans S1.out)
    have R0_1 := Lib.hid (row_call hb R0_0.out)
    have R1_1 := Lib.hid (row_call hb R1_0.out)
    have R2_1 := Lib.hid (row_call hb R2_0.out)
    have R3_1 := Lib.hid (row_call hb R3_0.out)
    have Vc_1 := Lib.hid (val_only Vc_0.out S1.out)
    have Vs_1 := Lib.hid (val_only Vs_0.out S1.out)
    clear hb
    rw [HP.out]
    have q0_0 := rw5 R0_1.out
    have q1_0 := rw3 R1_1.out
    have q2_0 := rw2 R2_1.out
    have q3_0 := rw3 R3_1.out
    go_wp2_with fail
    clear q0_0 q1_0 q2_0 q3_0
    refine (rsize_calls (k := k) Vc_1.out).mono ?_
    rintro e w2 ⟨rfl, hb⟩
    have S2 := Lib.hid (show Only (Box w 4) w1 w2 from Only.of_below hb)
    have O2 := Lib.hid (O1.out.trans S2.out)
    have R0_2 := Lib.hid (row_call hb R0_1.out)
    have R1_2 := Lib.hid (row_call hb R1_1.out)
    have R2_2 := Lib.hid (row_call hb R2_1.out)
    have R3_2 := Lib.hid (row_call hb R3_1.out)
    have Vc_2 := Lib.hid (val_only Vc_1.out S2.out)
    have Vs_2 := Lib.hid (val_only Vs_1.out S2.out)
    clear hb
    rw [HS.out]
    dsimp only [Option.getD_some, Option.isSome_some]
    have q0_0 := rw5 R0_2.out
    have q1_0 := rw3 R1_2.out
    have q2_0 := rw2 R2_2.out
    have q3_0 := rw3 R3_2.out
    go_wp2_with fail
    clear q0_0 q1_0 q2_0 q3_0
    refine nm_post (fun wz hnm => ?_)
    have S3 := Lib.hid (show Only (Box w 4) w2 wz from (by rw [hnm]; exact (((Only.refl (Box w 4) w2).put ⟨by omega, by omega⟩).put ⟨by omega, by omega⟩).put ⟨by omega, by omega⟩))
    have O3 := Lib.hid (O2.out.trans S3.out)
    have R0_3 := Lib.hid (row_nm hnm (row_other (row_other (row_other (R0_2.out) (by omega)) (by omega)) (by omega)))
    have R1_3 := Lib.hid (row_nm hnm (row_other (row_other (row_other (R1_2.out) (by omega)) (by omega)) (by omega)))
    have R2_3 := Lib.hid (row_nm hnm (row_other (row_other (row_other (R2_2.out) (by omega)) (by omega)) (by omega)))
    have R3_3 := Lib.hid (show wz.heap[w.heap.size + 1 + 1 + 1]? = some (.cells #[.slice A1 s.gens.length c1, .slice A2 s.free.length c2, .slice A3 s.ents.length c3] 75 (0, 0)) from (by rw [hnm]; exact heap_setRow (heap_setRow (heap_setRow (R3_2.out)))))
    have Vc_3 := Lib.hid (val_only Vc_2.out S3.out)
    have Vs_3 := Lib.hid (val_only Vs_2.out S3.out)
    clear hnm
    have q3_0 := cl3 R3_3.out
    refine ⟨rfl, .tuple #[.agg #[.slice A1 s.gens.length c1, .slice A2 s.free.length c2, .slice A3 s.ents.length c3], .int .i64 7], by simp only [results, hfr]; go_simp, ?_⟩
    clear q3_0
    rw [HE.out]
    exact ⟨_, rfl, val_out Vs_3.out, Only.fin HB0.out O3.out⟩
  have HE := Lib.hid (show setS c s id k data = (⟨s.gens, s.free, s.ents.set i ⟨id, putPart x.parts k data⟩⟩, 0) by unfold setS; rw [HPO.out]; dsimp only; rw [hsz]; dsimp only; rw [if_pos hnl, modify_set HX0.out, HID.out])
  have hg : ((data.length : Int) == n) = true := by simp [hnl]
  have hg2 : ((data.length : Int) != n) = false := by simp [hnl]
  clear hsz hnl
  obtain ⟨eb, eo, Ap, cp, hA3, _, k0, k1, k2, h0, h1, hs⟩ := rEnt_at (sl_of (HLO.out W0 (Below.refl _ _))).2.2 HX0.out
  subst hA3
  have hcell : (Lo Q w) eb := by
    obtain ⟨b2, off2, es2, hh1, hh2, _⟩ := (sl_of (HLO.out W0 (Below.refl _ _))).2.2.get HX0.out
    cases hh1
    exact hh2
  have HEB := Lib.hid hcell
  have K2 := Lib.hid k2
  have HSP := Lib.hid hs
  have lp := hs.2.1
  have mp := hs.1
  unfold maxLen at lp
  have hil : (i : Int) < s.ents.length := by have := HIL.out; omega
  have HW0 := Lib.hid h0
  have HW1 := Lib.hid h1
  have HLE := Lib.hid (takeWhile_le (f := belowP k) x.parts)
  obtain ⟨q, hq⟩ : ∃ q, (x.parts.takeWhile (belowP k)).length = q := ⟨_, rfl⟩
  have HQ := Lib.hid hq
  rw [hq] at HLE
  clear k0 k1 k2 h0 h1 hs hcell hq
  clear hz0 hb0
  have q0_0 := rw5 R0_0.out
  have q1_0 := rw3 R1_0.out
  have q2_0 := rw2 R2_0.out
  have q3_0 := rw3 R3_0.out
  go_enter Try.func142, Try.ntmps142
  go_wp2_with fail
  try rw [hW0]
  clear hW0
  try go_wp2_with fail
  clear q0_0 q1_0 q2_0 q3_0
  refine (rplace11_calls (id := id) Vs_0.out).mono ?_
  rintro e w1 ⟨rfl, hb⟩
  have S1 := Lib.hid (show Only (Box w 4) W0 w1 from Only.of_below hb)
  have O1 := Lib.hid (O0.out.trans S1.out)
  have R0_1 := Lib.hid (row_call hb R0_0.out)
  have R1_1 := Lib.hid (row_call hb R1_0.out)
  have R2_1 := Lib.hid (row_call hb R2_0.out)
  have R3_1 := Lib.hid (row_call hb R3_0.out)
  have Vc_1 := Lib.hid (val_only Vc_0.out S1.out)
  have Vs_1 := Lib.hid (val_only Vs_0.out S1.out)
  clear hb
  rw [HP.out]
  have q0_0 := rw5 R0_1.out
  have q1_0 := rw3 R1_1.out
  have q2_0 := rw2 R2_1.out
  have q3_0 := rw3 R3_1.out
  go_wp2_with fail
  clear q0_0 q1_0 q2_0 q3_0
  refine (rsize_calls (k := k) Vc_1.out).mono ?_
  rintro e w2 ⟨rfl, hb⟩
  have S2 := Lib.hid (show Only (Box w 4) w1 w2 from Only.of_below hb)
  have O2 := Lib.hid (O1.out.trans S2.out)
  have R0_2 := Lib.hid (row_call hb R0_1.out)
  have R1_2 := Lib.hid (row_call hb R1_1.out)
  have R2_2 := Lib.hid (row_call hb R2_1.out)
  have R3_2 := Lib.hid (row_call hb R3_1.out)
  have Vc_2 := Lib.hid (val_only Vc_1.out S2.out)
  have Vs_2 := Lib.hid (val_only Vs_1.out S2.out)
  clear hb
  rw [HS.out]
  dsimp only [Option.getD_some, Option.isSome_some]
  have q0_0 := rw5 R0_2.out
  have q1_0 := rw3 R1_2.out
  have q2_0 := rw2 R2_2.out
  have q3_0 := rw3 R3_2.out
  have kk := cell_only O2.out (Lo.inn HEB.out).no K2.out
  go_wp2_with fail
  clear kk hg hg2
  clear q0_0 q1_0 q2_0 q3_0
  have HB2 := Lib.hid (show ∀ b, b < w.heap.size → w2.heap[b]? = W0.heap[b]? from fun b hb => O2.out.block b (by have := HZ.out; omega) (fun h => by have := h.1; omega))
  have HZ2 := Lib.hid (show w.heap.size + 4 ≤ w2.heap.size by have := O2.out.size; have := HZ.out; omega)
  go_loopw [15, 16, 18] (fun u15 u16 u18 wr => ∃ m : Nat, u18 = .int .i64 m ∧ u16 = .bool (decide (q < m)) ∧ m ≤ x.parts.length ∧ Hid (rPart.acc 135 w2.heap.size (Lo Q w) wr u15 (putAt x.parts k data m)) ∧ Hid (Below w2.heap.size w2 wr)) (fun _ _ i _ => x.parts.length - (intOf i).toNat)
  case atStart => exact ⟨0, rfl, rfl, Nat.zero_le _, Lib.hid (by rw [putAt_zero]; exact Rep.acc_nil), Lib.hid (Below.refl _ _)⟩
  case round =>
    obtain ⟨m, rfl, rfl, hm, HA, HBR⟩ := hrel
    have HQL := HLE.out
    have HLX := Lib.hid (show (putAt x.parts k data m).length ≤ x.parts.length + 1 from putAt_len)
    by_cases hlt : (m : Int) < x.parts.length
    · skip
      obtain ⟨e, he⟩ : ∃ e, x.parts[m]? = some e := ⟨_, List.getElem?_eq_getElem (by omega)⟩
      obtain ⟨pb, po, Ad, cd, hAp, _, k0, k1, h0, hs⟩ := rPart_at HSP.out.2.2 he
      have hcell : (Lo Q w) pb := by
        obtain ⟨b2, off2, es2, hh1, hh2, _⟩ := HSP.out.2.2.get he
        cases hAp.symm.trans hh1
        exact hh2
      subst hAp
      have HEK := Lib.hid he
      have K0 := Lib.hid k0
      have K1 := Lib.hid k1
      have H0 := Lib.hid h0
      have HSL := Lib.hid hs
      have HPB := Lib.hid hcell
      have hmn : m < x.parts.length := by omega
      have hstop : m = q → (belowP k e) = false := fun h => takeWhile_stop (f := belowP k) (by rw [HQ.out, ← h]; exact HEK.out)
      have hbef : m < q → (belowP k e) = true := fun h => takeWhile_get (f := belowP k) (by rw [HQ.out]; exact h) HEK.out
      clear he k0 k1 h0 hs hcell
      rcases Nat.lt_trichotomy m q with hmq | hmq | hmq
      · skip
        have hck : e.comp < k := by have := hbef hmq; unfold belowP at this; simpa using this
        have hge : ¬ k ≤ e.comp := by omega
        have hne : (e.comp == k) = false := by simp; omega
        have HM := Lib.hid (putAt_before (k := k) (b := data) HEK.out (by rw [HQ.out]; exact hmq))
        have hd : decide (q < m) = false := decide_eq_false (by omega)
        rw [hd]
        clear hd hstop hbef
        have e0v := cell_same ((HBR.out.block pb (by have := HPB.out.2; have := HZ2.out; omega)).trans (HB2.out pb HPB.out.2)) K0.out
        have e1v := cell_same ((HBR.out.block pb (by have := HPB.out.2; have := HZ2.out; omega)).trans (HB2.out pb HPB.out.2)) K1.out
        go_wp2_with (with_reducible refine stopOne rfl ?_)
        refine Lib.hid ?_
        clear e0v e1v
        refine wpList_snoc (e := 135) (base := w2.heap.size) (Q := Lo Q w) (r := rPart) rfl rfl _ _ 131 _ rfl rfl rfl (.agg #[.int .i64 0, .slice none 0 0]) 2 32 Try.underlying131 infoPt rfl (by decide) rfl _ (putAt x.parts k data m) HA.out (e) _ (by exact rfl) (rPart_agg (x := e) H0.out (HSL.out.keep fun b hb _ => ⟨⟨hb, fun h => by have h1 := (Rep.acc_own HA.out b h).1; have h2 := hb.2; have := HZ2.out; omega⟩, (show wr.heap[b]? = W0.heap[b]? from ((HBR).out.block b (by have := hb.2; have := HZ2.out; omega)).trans (HB2.out b hb.2))⟩)) (by exact rfl) (by exact rfl) (by have := HLX.out; have := HPK.out; have := (right_facts HOK.out.conf).1; unfold maxLen; omega) (by have := HLX.out; have := HPK.out; have := (right_facts HOK.out.conf).1; omega) HBR.out.size ?_
        intro s1 x1 hacc1 hgr1 hat1
        have HAc1 := Lib.hid hacc1
        have HBc1 := Lib.hid (Rep.acc_below HA.out HBR.out hgr1 HBR.out.size)
        clear hacc1 hgr1 hat1
        go_wp2_with fail
        first
        | exact ⟨⟨m + 1, by go_num, by rw [decide_eq_false (by omega)], by omega, Lib.hid (by rw [← HM.out]; exact HAc1.out), HBc1⟩, by simp [intOf]; omega⟩
        | exact ⟨⟨_, _, _, _, _, _, _, _, _, _, _, _, _, _, _, _, _, _, _, _, _, _, _, _, _, _, _, _, _, _, _, _, _, _, _, _, _, _, _, _, ⟨m + 1, by go_num, by rw [decide_eq_false (by omega)], by omega, Lib.hid (by rw [← HM.out]; exact HAc1.out), HBc1⟩, rfl⟩, by simp [intOf]; omega⟩
      · skip
        subst hmq
        have hge : k ≤ e.comp := by have := hstop rfl; unfold belowP at this; simp at this; omega
        have HM0 := Lib.hid (putAt_at (k := k) (b := data) HEK.out HQ.out.symm)
        have hd : decide (m < m) = false := decide_eq_false (by omega)
        rw [hd]
        clear hd hstop hbef
        by_cases hek : e.comp = k
        · skip
          have hne : (e.comp == k) = true := by simp [hek]
          have HM := Lib.hid (show putAt x.parts k data m ++ [⟨k, data⟩] ++ [] = putAt x.parts k data (m + 1) from by have := HM0.out; rw [if_pos hek] at this; exact this)
          clear hek
          have e0v := cell_same ((HBR.out.block pb (by have := HPB.out.2; have := HZ2.out; omega)).trans (HB2.out pb HPB.out.2)) K0.out
          have e1v := cell_same ((HBR.out.block pb (by have := HPB.out.2; have := HZ2.out; omega)).trans (HB2.out pb HPB.out.2)) K1.out
          go_wp2_with (with_reducible refine stopOne rfl ?_)
          refine Lib.hid ?_
          clear e0v e1v
          refine wpList_snoc (e := 135) (base := w2.heap.size) (Q := Lo Q w) (r := rPart) rfl rfl _ _ 131 _ rfl rfl rfl (.agg #[.int .i64 0, .slice none 0 0]) 2 32 Try.underlying131 infoPt rfl (by decide) rfl _ (putAt x.parts k data m) HA.out (⟨k, data⟩) _ (by exact rfl) (rPart_agg (x := ⟨k, data⟩) HKW.out (HDL.out.keep fun b hb _ => ⟨⟨hb, fun h => by have h1 := (Rep.acc_own HA.out b h).1; have h2 := hb.2; have := HZ2.out; omega⟩, (show wr.heap[b]? = W0.heap[b]? from ((HBR).out.block b (by have := hb.2; have := HZ2.out; omega)).trans (HB2.out b hb.2))⟩)) (by exact rfl) (by exact rfl) (by have := HLX.out; have := HPK.out; have := (right_facts HOK.out.conf).1; unfold maxLen; omega) (by have := HLX.out; have := HPK.out; have := (right_facts HOK.out.conf).1; omega) HBR.out.size ?_
          intro s2 x2 hacc2 hgr2 hat2
          have HAc2 := Lib.hid hacc2
          have HBc2 := Lib.hid (Rep.acc_below HA.out HBR.out hgr2 HBR.out.size)
          clear hacc2 hgr2 hat2
          have e0v := cell_same ((HBc2.out.block pb (by have := HPB.out.2; have := HZ2.out; omega)).trans (HB2.out pb HPB.out.2)) K0.out
          have e1v := cell_same ((HBc2.out.block pb (by have := HPB.out.2; have := HZ2.out; omega)).trans (HB2.out pb HPB.out.2)) K1.out
          have HM2 := Lib.hid (show putAt x.parts k data m ++ [⟨k, data⟩] = putAt x.parts k data (m + 1) from (List.append_nil _).symm.trans HM.out)
          go_wp2_with fail
          clear e0v e1v
          first
          | exact ⟨⟨m + 1, by go_num, by rw [decide_eq_true (by omega)], by omega, Lib.hid (by rw [← HM2.out]; exact HAc2.out), HBc2⟩, by simp [intOf]; omega⟩
          | exact ⟨⟨_, _, _, _, _, _, _, _, _, _, _, _, _, _, _, _, _, _, _, _, _, _, _, _, _, _, _, _, _, _, _, _, _, _, _, _, _, _, _, _, ⟨m + 1, by go_num, by rw [decide_eq_true (by omega)], by omega, Lib.hid (by rw [← HM2.out]; exact HAc2.out), HBc2⟩, rfl⟩, by simp [intOf]; omega⟩
        · skip
          have hne : (e.comp == k) = false := by simp [hek]
          have HM := Lib.hid (show putAt x.parts k data m ++ [⟨k, data⟩] ++ [e] = putAt x.parts k data (m + 1) from by have := HM0.out; rw [if_neg hek] at this; exact this)
          clear hek
          have e0v := cell_same ((HBR.out.block pb (by have := HPB.out.2; have := HZ2.out; omega)).trans (HB2.out pb HPB.out.2)) K0.out
          have e1v := cell_same ((HBR.out.block pb (by have := HPB.out.2; have := HZ2.out; omega)).trans (HB2.out pb HPB.out.2)) K1.out
          go_wp2_with (with_reducible refine stopOne rfl ?_)
          refine Lib.hid ?_
          clear e0v e1v
          refine wpList_snoc (e := 135) (base := w2.heap.size) (Q := Lo Q w) (r := rPart) rfl rfl _ _ 131 _ rfl rfl rfl (.agg #[.int .i64 0, .slice none 0 0]) 2 32 Try.underlying131 infoPt rfl (by decide) rfl _ (putAt x.parts k data m) HA.out (⟨k, data⟩) _ (by exact rfl) (rPart_agg (x := ⟨k, data⟩) HKW.out (HDL.out.keep fun b hb _ => ⟨⟨hb, fun h => by have h1 := (Rep.acc_own HA.out b h).1; have h2 := hb.2; have := HZ2.out; omega⟩, (show wr.heap[b]? = W0.heap[b]? from ((HBR).out.block b (by have := hb.2; have := HZ2.out; omega)).trans (HB2.out b hb.2))⟩)) (by exact rfl) (by exact rfl) (by have := HLX.out; have := HPK.out; have := (right_facts HOK.out.conf).1; unfold maxLen; omega) (by have := HLX.out; have := HPK.out; have := (right_facts HOK.out.conf).1; omega) HBR.out.size ?_
          intro s3 x3 hacc3 hgr3 hat3
          have HAc3 := Lib.hid hacc3
          have HBc3 := Lib.hid (Rep.acc_below HA.out HBR.out hgr3 HBR.out.size)
          clear hacc3 hgr3 hat3
          have e0v := cell_same ((HBc3.out.block pb (by have := HPB.out.2; have := HZ2.out; omega)).trans (HB2.out pb HPB.out.2)) K0.out
          have e1v := cell_same ((HBc3.out.block pb (by have := HPB.out.2; have := HZ2.out; omega)).trans (HB2.out pb HPB.out.2)) K1.out
          have HLX := Lib.hid (show (putAt x.parts k data m ++ [(⟨k, data⟩ : DPart)]).length ≤ x.parts.length + 2 by rw [List.length_append, List.length_singleton]; have := HLX.out; omega)
          go_wp2_with (with_reducible refine stopOne rfl ?_)
          refine Lib.hid ?_
          clear e0v e1v
          refine wpList_snoc (e := 135) (base := w2.heap.size) (Q := Lo Q w) (r := rPart) rfl rfl _ _ 131 _ rfl rfl rfl (.agg #[.int .i64 0, .slice none 0 0]) 2 32 Try.underlying131 infoPt rfl (by decide) rfl _ (putAt x.parts k data m ++ [(⟨k, data⟩ : DPart)]) HAc3.out (e) _ (by exact rfl) (rPart_agg (x := e) H0.out (HSL.out.keep fun b hb _ => ⟨⟨hb, fun h => by have h1 := (Rep.acc_own HAc3.out b h).1; have h2 := hb.2; have := HZ2.out; omega⟩, (show x3.heap[b]? = W0.heap[b]? from ((HBc3).out.block b (by have := hb.2; have := HZ2.out; omega)).trans (HB2.out b hb.2))⟩)) (by exact rfl) (by exact rfl) (by have := HLX.out; have := HPK.out; have := (right_facts HOK.out.conf).1; unfold maxLen; omega) (by have := HLX.out; have := HPK.out; have := (right_facts HOK.out.conf).1; omega) HBc3.out.size ?_
          intro s4 x4 hacc4 hgr4 hat4
          have HAc4 := Lib.hid hacc4
          have HBc4 := Lib.hid (Rep.acc_below HAc3.out HBc3.out hgr4 HBc3.out.size)
          clear hacc4 hgr4 hat4
          go_wp2_with fail
          first
          | exact ⟨⟨m + 1, by go_num, by rw [decide_eq_true (by omega)], by omega, Lib.hid (by rw [← HM.out]; exact HAc4.out), HBc4⟩, by simp [intOf]; omega⟩
          | exact ⟨⟨_, _, _, _, _, _, _, _, _, _, _, _, _, _, _, _, _, _, _, _, _, _, _, _, _, _, _, _, _, _, _, _, _, _, _, _, _, _, _, _, ⟨m + 1, by go_num, by rw [decide_eq_true (by omega)], by omega, Lib.hid (by rw [← HM.out]; exact HAc4.out), HBc4⟩, rfl⟩, by simp [intOf]; omega⟩
      · skip
        have HM0 := Lib.hid (putAt_behind (k := k) (b := data) HEK.out (by rw [HQ.out]; exact hmq))
        have hd : decide (q < m) = true := decide_eq_true (by omega)
        rw [hd]
        clear hd hstop hbef
        by_cases hek : e.comp = k
        · skip
          have hne : (e.comp == k) = true := by simp [hek]
          have HM := Lib.hid (show putAt x.parts k data m ++ [] = putAt x.parts k data (m + 1) from by have := HM0.out; rw [if_pos hek] at this; exact this)
          clear hek
          have e0v := cell_same ((HBR.out.block pb (by have := HPB.out.2; have := HZ2.out; omega)).trans (HB2.out pb HPB.out.2)) K0.out
          have e1v := cell_same ((HBR.out.block pb (by have := HPB.out.2; have := HZ2.out; omega)).trans (HB2.out pb HPB.out.2)) K1.out
          have HM2 := Lib.hid (show putAt x.parts k data m = putAt x.parts k data (m + 1) from (List.append_nil _).symm.trans HM.out)
          go_wp2_with fail
          clear e0v e1v
          first
          | exact ⟨⟨m + 1, by go_num, by rw [decide_eq_true (by omega)], by omega, Lib.hid (by rw [← HM2.out]; exact HA.out), HBR⟩, by simp [intOf]; omega⟩
          | exact ⟨⟨_, _, _, _, _, _, _, _, _, _, _, _, _, _, _, _, _, _, _, _, _, _, _, _, _, _, _, _, _, _, _, _, _, _, _, _, _, _, _, _, ⟨m + 1, by go_num, by rw [decide_eq_true (by omega)], by omega, Lib.hid (by rw [← HM2.out]; exact HA.out), HBR⟩, rfl⟩, by simp [intOf]; omega⟩
        · skip
          have hne : (e.comp == k) = false := by simp [hek]
          have HM := Lib.hid (show putAt x.parts k data m ++ [e] = putAt x.parts k data (m + 1) from by have := HM0.out; rw [if_neg hek] at this; exact this)
          clear hek
          have e0v := cell_same ((HBR.out.block pb (by have := HPB.out.2; have := HZ2.out; omega)).trans (HB2.out pb HPB.out.2)) K0.out
          have e1v := cell_same ((HBR.out.block pb (by have := HPB.out.2; have := HZ2.out; omega)).trans (HB2.out pb HPB.out.2)) K1.out
          go_wp2_with (with_reducible refine stopOne rfl ?_)
          refine Lib.hid ?_
          clear e0v e1v
          refine wpList_snoc (e := 135) (base := w2.heap.size) (Q := Lo Q w) (r := rPart) rfl rfl _ _ 131 _ rfl rfl rfl (.agg #[.int .i64 0, .slice none 0 0]) 2 32 Try.underlying131 infoPt rfl (by decide) rfl _ (putAt x.parts k data m) HA.out (e) _ (by exact rfl) (rPart_agg (x := e) H0.out (HSL.out.keep fun b hb _ => ⟨⟨hb, fun h => by have h1 := (Rep.acc_own HA.out b h).1; have h2 := hb.2; have := HZ2.out; omega⟩, (show wr.heap[b]? = W0.heap[b]? from ((HBR).out.block b (by have := hb.2; have := HZ2.out; omega)).trans (HB2.out b hb.2))⟩)) (by exact rfl) (by exact rfl) (by have := HLX.out; have := HPK.out; have := (right_facts HOK.out.conf).1; unfold maxLen; omega) (by have := HLX.out; have := HPK.out; have := (right_facts HOK.out.conf).1; omega) HBR.out.size ?_
          intro s5 x5 hacc5 hgr5 hat5
          have HAc5 := Lib.hid hacc5
          have HBc5 := Lib.hid (Rep.acc_below HA.out HBR.out hgr5 HBR.out.size)
          clear hacc5 hgr5 hat5
          go_wp2_with fail
          first
          | exact ⟨⟨m + 1, by go_num, by rw [decide_eq_true (by omega)], by omega, Lib.hid (by rw [← HM.out]; exact HAc5.out), HBc5⟩, by simp [intOf]; omega⟩
          | exact ⟨⟨_, _, _, _, _, _, _, _, _, _, _, _, _, _, _, _, _, _, _, _, _, _, _, _, _, _, _, _, _, _, _, _, _, _, _, _, _, _, _, _, ⟨m + 1, by go_num, by rw [decide_eq_true (by omega)], by omega, Lib.hid (by rw [← HM.out]; exact HAc5.out), HBc5⟩, rfl⟩, by simp [intOf]; omega⟩
    · obtain rfl : m = x.parts.length := by omega
      by_cases hqe : q = x.parts.length
      · skip
        have hd : decide (q < x.parts.length) = false := decide_eq_false (by omega)
        rw [hd]
        clear hd
        have HM := Lib.hid (putAt_last (b := data) (k := k) (l := x.parts) (by rw [HQ.out]; exact hqe))
        clear hqe
        go_wp2_with (with_reducible refine stopOne rfl ?_)
        refine Lib.hid ?_
        refine wpList_snoc (e := 135) (base := w2.heap.size) (Q := Lo Q w) (r := rPart) rfl rfl _ _ 131 _ rfl rfl rfl (.agg #[.int .i64 0, .slice none 0 0]) 2 32 Try.underlying131 infoPt rfl (by decide) rfl _ (putAt x.parts k data x.parts.length) HA.out (⟨k, data⟩) _ (by exact rfl) (rPart_agg (x := ⟨k, data⟩) HKW.out (HDL.out.keep fun b hb _ => ⟨⟨hb, fun h => by have h1 := (Rep.acc_own HA.out b h).1; have h2 := hb.2; have := HZ2.out; omega⟩, (show wr.heap[b]? = W0.heap[b]? from ((HBR).out.block b (by have := hb.2; have := HZ2.out; omega)).trans (HB2.out b hb.2))⟩)) (by exact rfl) (by exact rfl) (by have := HLX.out; have := HPK.out; have := (right_facts HOK.out.conf).1; unfold maxLen; omega) (by have := HLX.out; have := HPK.out; have := (right_facts HOK.out.conf).1; omega) HBR.out.size ?_
        intro s6 x6 hacc6 hgr6 hat6
        have HAc6 := Lib.hid hacc6
        have HBc6 := Lib.hid (Rep.acc_below HA.out HBR.out hgr6 HBR.out.size)
        clear hacc6 hgr6 hat6
        have HAE := Lib.hid (show rPart.acc 135 w2.heap.size (Lo Q w) x6 s6 (putPart x.parts k data) by rw [← HM.out]; exact HAc6.out)
        obtain ⟨A9, c9, rfl, _, _⟩ := Rep.acc_form HAE.out
        obtain ⟨ps, hps⟩ : ∃ ps, putPart x.parts k data = ps := ⟨_, rfl⟩
        rw [hps] at HAE HE ⊢
        clear hps HM HLX
        have S61 := Lib.hid (show Only (Box w 4) w2 x6 from Only.of_below HBc6.out)
        have O61 := Lib.hid (O2.out.trans S61.out)
        have R0_61 := Lib.hid (row_call HBc6.out R0_2.out)
        have R1_61 := Lib.hid (row_call HBc6.out R1_2.out)
        have R2_61 := Lib.hid (row_call HBc6.out R2_2.out)
        have R3_61 := Lib.hid (row_call HBc6.out R3_2.out)
        have Vc_61 := Lib.hid (val_only Vc_2.out S61.out)
        have Vs_61 := Lib.hid (val_only Vs_2.out S61.out)
        have HEV := Lib.hid (show rEnt.val (In Q w 4) x6 (.agg #[.int .i64 id.index, .int .i64 id.gen, .slice A9 ps.length c9]) ⟨id, ps⟩ from by
          have w0 := HW0.out
          have w1 := HW1.out
          rw [HID.out] at w0 w1
          exact rEnt_agg (x := ⟨id, ps⟩) w0 w1 (sl_of (Rep.val_mono (fun b hb _ => hb.elim Lo.inn (fun h => .inr (by have h1 := (Rep.acc_own HAE.out b h).1; have := HZ2.out; omega))) (Rep.acc_val HAE.out))))
        have q0_0 := cl5 R0_61.out
        have q1_0 := cl3 R1_61.out
        have q2_0 := cl2 R2_61.out
        have q3_0 := cl3 R3_61.out
        go_wp2_with fail
        clear q0_0 q1_0 q2_0 q3_0
        refine (rwith_calls Vs_61.out HEV.out HIL.out (by have := HSM.out; omega)).mono ?_
        rintro e u9 ⟨z9, rfl, hz9, hb⟩
        obtain ⟨D1, e1, D2, e2, D3, e3, rfl, _⟩ := rState_val hz9
        have S62 := Lib.hid (show Only (Box w 4) x6 u9 from Only.of_below hb)
        have O62 := Lib.hid (O61.out.trans S62.out)
        have R0_62 := Lib.hid (row_call hb R0_61.out)
        have R1_62 := Lib.hid (row_call hb R1_61.out)
        have R2_62 := Lib.hid (row_call hb R2_61.out)
        have R3_62 := Lib.hid (row_call hb R3_61.out)
        have Vc_62 := Lib.hid (val_only Vc_61.out S62.out)
        have Vs_62 := Lib.hid (val_only Vs_61.out S62.out)
        have Vz_62 := Lib.hid (val_new (w := w) (n := 4) hz9 (by have := O61.out.size; have := HZ.out; omega))
        clear hb hz9
        dsimp only at Vz_62 ⊢
        obtain ⟨es, hes⟩ : ∃ es, s.ents.set i ⟨id, ps⟩ = es := ⟨_, rfl⟩
        rw [hes] at Vz_62 HE ⊢
        clear hes
        have q0_0 := rw5 R0_62.out
        have q1_0 := rw3 R1_62.out
        have q2_0 := rw2 R2_62.out
        have q3_0 := rw3 R3_62.out
        go_wp2_with fail
        clear q0_0 q1_0 q2_0 q3_0
        refine nm_post (fun w9 hnm => ?_)
        have S63 := Lib.hid (show Only (Box w 4) u9 w9 from (by rw [hnm]; exact (((Only.refl (Box w 4) u9).put ⟨by omega, by omega⟩).put ⟨by omega, by omega⟩).put ⟨by omega, by omega⟩))
        have O63 := Lib.hid (O62.out.trans S63.out)
        have R0_63 := Lib.hid (row_nm hnm (row_other (row_other (row_other (R0_62.out) (by omega)) (by omega)) (by omega)))
        have R1_63 := Lib.hid (row_nm hnm (row_other (row_other (row_other (R1_62.out) (by omega)) (by omega)) (by omega)))
        have R2_63 := Lib.hid (row_nm hnm (row_other (row_other (row_other (R2_62.out) (by omega)) (by omega)) (by omega)))
        have R3_63 := Lib.hid (show w9.heap[w.heap.size + 1 + 1 + 1]? = some (.cells #[.slice D1 s.gens.length e1, .slice D2 s.free.length e2, .slice D3 es.length e3] 75 (0, 0)) from (by rw [hnm]; exact heap_setRow (heap_setRow (heap_setRow (R3_62.out)))))
        have Vc_63 := Lib.hid (val_only Vc_62.out S63.out)
        have Vs_63 := Lib.hid (val_only Vs_62.out S63.out)
        have Vz_63 := Lib.hid (val_only Vz_62.out S63.out)
        clear hnm
        have q3_0 := cl3 R3_63.out
        refine ⟨rfl, .tuple #[.agg #[.slice D1 s.gens.length e1, .slice D2 s.free.length e2, .slice D3 es.length e3], .int .i64 0], by simp only [results, hfr]; go_simp, ?_⟩
        clear q3_0
        rw [HE.out]
        exact ⟨_, rfl, val_out Vz_63.out, Only.fin HB0.out O63.out⟩
      · skip
        have hd : decide (q < x.parts.length) = true := decide_eq_true (by omega)
        rw [hd]
        clear hd
        have HM := Lib.hid (putAt_end (b := data) (k := k) (l := x.parts) (by rw [HQ.out]; omega))
        clear hqe
        have HAE := Lib.hid (show rPart.acc 135 w2.heap.size (Lo Q w) wr _ (putPart x.parts k data) by rw [← HM.out]; exact HA.out)
        obtain ⟨A9, c9, rfl, _, _⟩ := Rep.acc_form HAE.out
        obtain ⟨ps, hps⟩ : ∃ ps, putPart x.parts k data = ps := ⟨_, rfl⟩
        rw [hps] at HAE HE ⊢
        clear hps HM HLX
        have S71 := Lib.hid (show Only (Box w 4) w2 wr from Only.of_below HBR.out)
        have O71 := Lib.hid (O2.out.trans S71.out)
        have R0_71 := Lib.hid (row_call HBR.out R0_2.out)
        have R1_71 := Lib.hid (row_call HBR.out R1_2.out)
        have R2_71 := Lib.hid (row_call HBR.out R2_2.out)
        have R3_71 := Lib.hid (row_call HBR.out R3_2.out)
        have Vc_71 := Lib.hid (val_only Vc_2.out S71.out)
        have Vs_71 := Lib.hid (val_only Vs_2.out S71.out)
        have HEV := Lib.hid (show rEnt.val (In Q w 4) wr (.agg #[.int .i64 id.index, .int .i64 id.gen, .slice A9 ps.length c9]) ⟨id, ps⟩ from by
          have w0 := HW0.out
          have w1 := HW1.out
          rw [HID.out] at w0 w1
          exact rEnt_agg (x := ⟨id, ps⟩) w0 w1 (sl_of (Rep.val_mono (fun b hb _ => hb.elim Lo.inn (fun h => .inr (by have h1 := (Rep.acc_own HAE.out b h).1; have := HZ2.out; omega))) (Rep.acc_val HAE.out))))
        have q0_0 := cl5 R0_71.out
        have q1_0 := cl3 R1_71.out
        have q2_0 := cl2 R2_71.out
        have q3_0 := cl3 R3_71.out
        go_wp2_with fail
        clear q0_0 q1_0 q2_0 q3_0
        refine (rwith_calls Vs_71.out HEV.out HIL.out (by have := HSM.out; omega)).mono ?_
        rintro e u9 ⟨z9, rfl, hz9, hb⟩
        obtain ⟨D1, e1, D2, e2, D3, e3, rfl, _⟩ := rState_val hz9
        have S72 := Lib.hid (show Only (Box w 4) wr u9 from Only.of_below hb)
        have O72 := Lib.hid (O71.out.trans S72.out)
        have R0_72 := Lib.hid (row_call hb R0_71.out)
        have R1_72 := Lib.hid (row_call hb R1_71.out)
        have R2_72 := Lib.hid (row_call hb R2_71.out)
        have R3_72 := Lib.hid (row_call hb R3_71.out)
        have Vc_72 := Lib.hid (val_only Vc_71.out S72.out)
        have Vs_72 := Lib.hid (val_only Vs_71.out S72.out)
        have Vz_72 := Lib.hid (val_new (w := w) (n := 4) hz9 (by have := O71.out.size; have := HZ.out; omega))
        clear hb hz9
        dsimp only at Vz_72 ⊢
        obtain ⟨es, hes⟩ : ∃ es, s.ents.set i ⟨id, ps⟩ = es := ⟨_, rfl⟩
        rw [hes] at Vz_72 HE ⊢
        clear hes
        have q0_0 := rw5 R0_72.out
        have q1_0 := rw3 R1_72.out
        have q2_0 := rw2 R2_72.out
        have q3_0 := rw3 R3_72.out
        go_wp2_with fail
        clear q0_0 q1_0 q2_0 q3_0
        refine nm_post (fun w9 hnm => ?_)
        have S73 := Lib.hid (show Only (Box w 4) u9 w9 from (by rw [hnm]; exact (((Only.refl (Box w 4) u9).put ⟨by omega, by omega⟩).put ⟨by omega, by omega⟩).put ⟨by omega, by omega⟩))
        have O73 := Lib.hid (O72.out.trans S73.out)
        have R0_73 := Lib.hid (row_nm hnm (row_other (row_other (row_other (R0_72.out) (by omega)) (by omega)) (by omega)))
        have R1_73 := Lib.hid (row_nm hnm (row_other (row_other (row_other (R1_72.out) (by omega)) (by omega)) (by omega)))
        have R2_73 := Lib.hid (row_nm hnm (row_other (row_other (row_other (R2_72.out) (by omega)) (by omega)) (by omega)))
        have R3_73 := Lib.hid (show w9.heap[w.heap.size + 1 + 1 + 1]? = some (.cells #[.slice D1 s.gens.length e1, .slice D2 s.free.length e2, .slice D3 es.length e3] 75 (0, 0)) from (by rw [hnm]; exact heap_setRow (heap_setRow (heap_setRow (R3_72.out)))))
        have Vc_73 := Lib.hid (val_only Vc_72.out S73.out)
        have Vs_73 := Lib.hid (val_only Vs_72.out S73.out)
        have Vz_73 := Lib.hid (val_only Vz_72.out S73.out)
        clear hnm
        have q3_0 := cl3 R3_73.out
        refine ⟨rfl, .tuple #[.agg #[.slice D1 s.gens.length e1, .slice D2 s.free.length e2, .slice D3 es.length e3], .int .i64 0], by simp only [results, hfr]; go_simp, ?_⟩
        clear q3_0
        rw [HE.out]
        exact ⟨_, rfl, val_out Vz_73.out, Only.fin HB0.out O73.out⟩
end Go.Proofs.Yteljibjbndpncaa
