/- Texts on which the proofs stand: MRemove. No condition is laid on any input. -/
import Derived.Test.YteljibjbndpncaaJsG13
import Derived.Test.YteljibjbndpncaaJsG17
namespace Go.Proofs.Yteljibjbndpncaa
open Go.RowKit

theorem frozen_same {W W' : World} {b o : Nat} {z : Bool} (h : W'.heap[b]? = W.heap[b]?) (r : W.frozen? ⟨b, o, none⟩ = z) : W'.frozen? ⟨b, o, none⟩ = z := by
  simpa [World.frozen?, h] using r
/-- An entity of a state of the call's own: where its parts lie. -/
theorem own_part {B z i : Nat} {W : World} {s : DState} {vg vf : Value} {A : Option Addr} {n c : Nat} {cl : Nat → Option Nat} {raws : List (DID × Value)} {x : DEnt} (h : StOwn B W s vg vf (.slice A n c) z cl raws) (hx : s.ents[i]? = some x) :
    ∃ gb Ap cp, A = some ⟨gb, 0, none⟩ ∧ B ≤ gb ∧ cl gb = none ∧ W.cell? ⟨gb, i * 3 + 2, none⟩ = some (.slice Ap x.parts.length cp) ∧ (∀ j, W.frozen? ⟨gb, j, none⟩ = false) ∧ PartOwn W z cl i (.slice Ap x.parts.length cp) x.parts := by
  obtain ⟨vp, hr, hp⟩ := h.ents.part i x hx
  obtain ⟨Ap, cp, rfl, _, _⟩ := Rep.acc_form hp.acc
  obtain ⟨gb, gcap, es, he, hlow, hlt, _, _, hrd, hcell, hfz⟩ := acc_get h.ents.acc hr
  have hA : A = some ⟨gb, 0, none⟩ := by injection he
  obtain ⟨_, rfl, _, _⟩ := hrd
  refine ⟨gb, Ap, cp, hA, Nat.le_trans h.low hlow, h.ents.own gb (by rw [hA]; rfl), hcell 2 _ rfl, hfz, hp⟩

set_option maxRecDepth 100000 in
set_option maxHeartbeats 4000000 in
/-- model.Remove -/
theorem mremove_calls {Q : Nat → Prop} {w : World} {vc v : Value} {c : DConf} {s : DState} {id : DID} {k : Int} (hc : rConf.val Q w vc c) (hx : rState.val Q w v s) (hok : StOk c s) :
    Calls Try.prog 181 #[vc, v, .agg #[.int .i64 id.index, .int .i64 id.gen], .int .i64 k] w (MStepped w (removeS c s id k)) := by
  have HC := Lib.hid hc
  have HX := Lib.hid hx
  have HOK := Lib.hid hok
  have HSM := Lib.hid hok.small
  obtain ⟨A, cap, rfl, _⟩ := rConf_val hc
  obtain ⟨A1, c1, A2, c2, A3, c3, rfl, _⟩ := rState_val hx
  have hfr : Try.f181.results = #[.cell 8 75, .tmp 9] := rfl
  clear hc hx hok
  obtain ⟨W0, hW0⟩ : ∃ W, ((((w.alloc (.cells #[.int .i64 c.log, .int .i64 c.pages, .int .i64 c.entities, .int .i64 c.gens, .slice A c.comps.length cap] 49)).alloc (.cells #[.slice A1 s.gens.length c1, .slice A2 s.free.length c2, .slice A3 s.ents.length c3] 75)).alloc (.cells #[.int .i64 id.index, .int .i64 id.gen] 114)).alloc (.cells #[.slice none 0 0, .slice none 0 0, .slice none 0 0] 75)) = W := ⟨_, rfl⟩
  have hz0 : W0.heap.size = w.heap.size + 4 := by rw [← hW0]; simp
  have hb0 : Below w.heap.size w W0 := by rw [← hW0]; exact ((((Below.refl _ _).alloc (Nat.le_refl _) _).alloc (by first | (simp; done) | (simp; omega)) _).alloc (by first | (simp; done) | (simp; omega)) _).alloc (by first | (simp; done) | (simp; omega)) _
  have HZ := Lib.hid hz0
  have HB0 := Lib.hid hb0
  have R0_0 := Lib.hid (show W0.heap[w.heap.size]? = some (.cells #[.int .i64 c.log, .int .i64 c.pages, .int .i64 c.entities, .int .i64 c.gens, .slice A c.comps.length cap] 49 (0, 0)) by rw [← hW0]; exact alloc_old (alloc_old (alloc_old (alloc_at rfl))))
  have R1_0 := Lib.hid (show W0.heap[w.heap.size + 1]? = some (.cells #[.slice A1 s.gens.length c1, .slice A2 s.free.length c2, .slice A3 s.ents.length c3] 75 (0, 0)) by rw [← hW0]; exact alloc_old (alloc_old (alloc_at (by simp))))
  have R2_0 := Lib.hid (show W0.heap[w.heap.size + 1 + 1]? = some (.cells #[.int .i64 id.index, .int .i64 id.gen] 114 (0, 0)) by rw [← hW0]; exact alloc_old (alloc_at (by simp)))
  have R3_0 := Lib.hid (show W0.heap[w.heap.size + 1 + 1 + 1]? = some (.cells #[.slice none 0 0, .slice none 0 0, .slice none 0 0] 75 (0, 0)) by rw [← hW0]; exact alloc_at (by simp))
  have O0 := Lib.hid (Only.refl (Box w 4) W0)
  have Vc_0 := Lib.hid (show rConf.val (In Q w 4) W0 (.agg #[.int .i64 c.log, .int .i64 c.pages, .int .i64 c.entities, .int .i64 c.gens, .slice A c.comps.length cap]) c from val_in HC.out hb0)
  have Vs_0 := Lib.hid (show rState.val (In Q w 4) W0 (.agg #[.slice A1 s.gens.length c1, .slice A2 s.free.length c2, .slice A3 s.ents.length c3]) s from val_in HX.out hb0)
  rcases hp : placeOf s.ents id with _ | i
  case none =>
    have HE := Lib.hid (show removeS c s id k = (s, 5) by unfold removeS; rw [hp])
    have HN := Lib.hid (show namedS c s id k = (0, 0, 5) by unfold namedS; rw [hp])
    clear hp
    clear hz0 hb0
    have q0_0 := rw5 R0_0.out
    have q1_0 := rw3 R1_0.out
    have q2_0 := rw2 R2_0.out
    have q3_0 := rw3 R3_0.out
    go_enter Try.func181, Try.ntmps181
    go_wp2_with fail
    try rw [hW0]
    clear hW0
    try go_wp2_with fail
    clear q0_0 q1_0 q2_0 q3_0
    refine (mclone_calls Vs_0.out HOK.out.tiny).mono ?_
    rintro e w1 ⟨A4, c4, A5, c5, A6, c6, z, cl, raws, rfl, hb, hown, hzl⟩
    have S1 := Lib.hid (show Only (Box w 4) W0 w1 from Only.of_below hb)
    have O1 := Lib.hid (O0.out.trans S1.out)
    have R0_1 := Lib.hid (row_call hb R0_0.out)
    have R1_1 := Lib.hid (row_call hb R1_0.out)
    have R2_1 := Lib.hid (row_call hb R2_0.out)
    have R3_1 := Lib.hid (row_call hb R3_0.out)
    have Vc_1 := Lib.hid (val_only Vc_0.out S1.out)
    have Vs_1 := Lib.hid (val_only Vs_0.out S1.out)
    have HM1 := Lib.hid hown
    have HZL := Lib.hid hzl
    clear hb hown hzl
    have q0_0 := rw5 R0_1.out
    have q1_0 := rw3 R1_1.out
    have q2_0 := rw2 R2_1.out
    have q3_0 := rw3 R3_1.out
    go_wp2_with fail
    clear q0_0 q1_0 q2_0 q3_0
    refine nm_calls (fun w2 hnm => ?_)
    have S2 := Lib.hid (show Only (Box w 4) w1 w2 from (by rw [hnm]; exact (((Only.refl (Box w 4) w1).put ⟨by omega, by omega⟩).put ⟨by omega, by omega⟩).put ⟨by omega, by omega⟩))
    have O2 := Lib.hid (O1.out.trans S2.out)
    have R0_2 := Lib.hid (row_nm hnm (row_other (row_other (row_other (R0_1.out) (by omega)) (by omega)) (by omega)))
    have R1_2 := Lib.hid (show w2.heap[w.heap.size + 1]? = some (.cells #[.slice A4 s.gens.length c4, .slice A5 s.free.length c5, .slice A6 s.ents.length c6] 75 (0, 0)) from (by rw [hnm]; exact heap_setRow (heap_setRow (heap_setRow (R1_1.out)))))
    have R2_2 := Lib.hid (row_nm hnm (row_other (row_other (row_other (R2_1.out) (by omega)) (by omega)) (by omega)))
    have R3_2 := Lib.hid (row_nm hnm (row_other (row_other (row_other (R3_1.out) (by omega)) (by omega)) (by omega)))
    have Vc_2 := Lib.hid (val_only Vc_1.out S2.out)
    have Vs_2 := Lib.hid (val_only Vs_1.out S2.out)
    clear hnm
    have HM2 := Lib.hid (HM1.out.keep (fun b hb hl => S2.out.block b hl (by unfold Box; have := HZ.out; omega)))
    have HZ2 := Lib.hid (Nat.le_trans HZL.out S2.out.size)
    refine (mnamed_calls (k := k) (id := id) Vc_2.out (Rep.val_mono (fun b hb _ => .inr (by have := HZ.out; omega)) HM2.out.mid.loose.val) HOK.out.up).mono ?_
    rintro e w3 ⟨rfl, hb⟩
    rw [HN.out]
    dsimp only
    have S3 := Lib.hid (show Only (Box w 4) w2 w3 from Only.of_below hb)
    have O3 := Lib.hid (O2.out.trans S3.out)
    have R0_3 := Lib.hid (row_call hb R0_2.out)
    have R1_3 := Lib.hid (row_call hb R1_2.out)
    have R2_3 := Lib.hid (row_call hb R2_2.out)
    have R3_3 := Lib.hid (row_call hb R3_2.out)
    have Vc_3 := Lib.hid (val_only Vc_2.out S3.out)
    have Vs_3 := Lib.hid (val_only Vs_2.out S3.out)
    clear hb
    have HM3 := Lib.hid (HM2.out.keep (fun b hb hl => S3.out.block b hl (by unfold Box; have := HZ.out; omega)))
    have HZ3 := Lib.hid (Nat.le_trans HZ2.out S3.out.size)
    have q0_0 := rw5 R0_3.out
    have q1_0 := rw3 R1_3.out
    have q2_0 := rw2 R2_3.out
    have q3_0 := rw3 R3_3.out
    go_wp2_with fail
    clear q0_0 q1_0 q2_0 q3_0
    refine nm_post (fun w8 hnm => ?_)
    have S4 := Lib.hid (show Only (Box w 4) w3 w8 from (by rw [hnm]; exact (((Only.refl (Box w 4) w3).put ⟨by omega, by omega⟩).put ⟨by omega, by omega⟩).put ⟨by omega, by omega⟩))
    have O4 := Lib.hid (O3.out.trans S4.out)
    have R0_4 := Lib.hid (row_nm hnm (row_other (row_other (row_other (R0_3.out) (by omega)) (by omega)) (by omega)))
    have R1_4 := Lib.hid (row_nm hnm (row_other (row_other (row_other (R1_3.out) (by omega)) (by omega)) (by omega)))
    have R2_4 := Lib.hid (row_nm hnm (row_other (row_other (row_other (R2_3.out) (by omega)) (by omega)) (by omega)))
    have R3_4 := Lib.hid (show w8.heap[w.heap.size + 1 + 1 + 1]? = some (.cells #[.slice A4 s.gens.length c4, .slice A5 s.free.length c5, .slice A6 s.ents.length c6] 75 (0, 0)) from (by rw [hnm]; exact heap_setRow (heap_setRow (heap_setRow (R3_3.out)))))
    have Vc_4 := Lib.hid (val_only Vc_3.out S4.out)
    have Vs_4 := Lib.hid (val_only Vs_3.out S4.out)
    clear hnm
    have HM4 := Lib.hid (HM3.out.keep (fun b hb hl => S4.out.block b hl (by unfold Box; have := HZ.out; omega)))
    have HZ4 := Lib.hid (Nat.le_trans HZ3.out S4.out.size)
    have q3_0 := cl3 R3_4.out
    refine ⟨rfl, .tuple #[.agg #[.slice A4 s.gens.length c4, .slice A5 s.free.length c5, .slice A6 s.ents.length c6], .int .i64 5], by simp only [results, hfr]; go_simp, ?_⟩
    clear q3_0
    rw [HE.out]
    exact ⟨_, rfl, (Rep.val_mono (fun b hb _ => by have := HZ.out; omega) HM4.out.mid.loose.val), Only.fin HB0.out O4.out⟩
  rcases hs : compSize c k with _ | n
  case none =>
    have HE := Lib.hid (show removeS c s id k = (s, 6) by unfold removeS; rw [hp]; dsimp only; rw [hs])
    have HN := Lib.hid (show namedS c s id k = (0, 0, 6) by unfold namedS; rw [hp]; dsimp only; rw [hs])
    clear hp hs
    clear hz0 hb0
    have q0_0 := rw5 R0_0.out
    have q1_0 := rw3 R1_0.out
    have q2_0 := rw2 R2_0.out
    have q3_0 := rw3 R3_0.out
    go_enter Try.func181, Try.ntmps181
    go_wp2_with fail
    try rw [hW0]
    clear hW0
    try go_wp2_with fail
    clear q0_0 q1_0 q2_0 q3_0
    refine (mclone_calls Vs_0.out HOK.out.tiny).mono ?_
    rintro e w1 ⟨A4, c4, A5, c5, A6, c6, z, cl, raws, rfl, hb, hown, hzl⟩
    have S1 := Lib.hid (show Only (Box w 4) W0 w1 from Only.of_below hb)
    have O1 := Lib.hid (O0.out.trans S1.out)
    have R0_1 := Lib.hid (row_call hb R0_0.out)
    have R1_1 := Lib.hid (row_call hb R1_0.out)
    have R2_1 := Lib.hid (row_call hb R2_0.out)
    have R3_1 := Lib.hid (row_call hb R3_0.out)
    have Vc_1 := Lib.hid (val_only Vc_0.out S1.out)
    have Vs_1 := Lib.hid (val_only Vs_0.out S1.out)
    have HM1 := Lib.hid hown
    have HZL := Lib.hid hzl
    clear hb hown hzl
    have q0_0 := rw5 R0_1.out
    have q1_0 := rw3 R1_1.out
    have q2_0 := rw2 R2_1.out
    have q3_0 := rw3 R3_1.out
    go_wp2_with fail
    clear q0_0 q1_0 q2_0 q3_0
    refine nm_calls (fun w2 hnm => ?_)
    have S2 := Lib.hid (show Only (Box w 4) w1 w2 from (by rw [hnm]; exact (((Only.refl (Box w 4) w1).put ⟨by omega, by omega⟩).put ⟨by omega, by omega⟩).put ⟨by omega, by omega⟩))
    have O2 := Lib.hid (O1.out.trans S2.out)
    have R0_2 := Lib.hid (row_nm hnm (row_other (row_other (row_other (R0_1.out) (by omega)) (by omega)) (by omega)))
    have R1_2 := Lib.hid (show w2.heap[w.heap.size + 1]? = some (.cells #[.slice A4 s.gens.length c4, .slice A5 s.free.length c5, .slice A6 s.ents.length c6] 75 (0, 0)) from (by rw [hnm]; exact heap_setRow (heap_setRow (heap_setRow (R1_1.out)))))
    have R2_2 := Lib.hid (row_nm hnm (row_other (row_other (row_other (R2_1.out) (by omega)) (by omega)) (by omega)))
    have R3_2 := Lib.hid (row_nm hnm (row_other (row_other (row_other (R3_1.out) (by omega)) (by omega)) (by omega)))
    have Vc_2 := Lib.hid (val_only Vc_1.out S2.out)
    have Vs_2 := Lib.hid (val_only Vs_1.out S2.out)
    clear hnm
    have HM2 := Lib.hid (HM1.out.keep (fun b hb hl => S2.out.block b hl (by unfold Box; have := HZ.out; omega)))
    have HZ2 := Lib.hid (Nat.le_trans HZL.out S2.out.size)
    refine (mnamed_calls (k := k) (id := id) Vc_2.out (Rep.val_mono (fun b hb _ => .inr (by have := HZ.out; omega)) HM2.out.mid.loose.val) HOK.out.up).mono ?_
    rintro e w3 ⟨rfl, hb⟩
    rw [HN.out]
    dsimp only
    have S3 := Lib.hid (show Only (Box w 4) w2 w3 from Only.of_below hb)
    have O3 := Lib.hid (O2.out.trans S3.out)
    have R0_3 := Lib.hid (row_call hb R0_2.out)
    have R1_3 := Lib.hid (row_call hb R1_2.out)
    have R2_3 := Lib.hid (row_call hb R2_2.out)
    have R3_3 := Lib.hid (row_call hb R3_2.out)
    have Vc_3 := Lib.hid (val_only Vc_2.out S3.out)
    have Vs_3 := Lib.hid (val_only Vs_2.out S3.out)
    clear hb
    have HM3 := Lib.hid (HM2.out.keep (fun b hb hl => S3.out.block b hl (by unfold Box; have := HZ.out; omega)))
    have HZ3 := Lib.hid (Nat.le_trans HZ2.out S3.out.size)
    have q0_0 := rw5 R0_3.out
    have q1_0 := rw3 R1_3.out
    have q2_0 := rw2 R2_3.out
    have q3_0 := rw3 R3_3.out
    go_wp2_with fail
    clear q0_0 q1_0 q2_0 q3_0
    refine nm_post (fun w8 hnm => ?_)
    have S4 := Lib.hid (show Only (Box w 4) w3 w8 from (by rw [hnm]; exact (((Only.refl (Box w 4) w3).put ⟨by omega, by omega⟩).put ⟨by omega, by omega⟩).put ⟨by omega, by omega⟩))
    have O4 := Lib.hid (O3.out.trans S4.out)
    have R0_4 := Lib.hid (row_nm hnm (row_other (row_other (row_other (R0_3.out) (by omega)) (by omega)) (by omega)))
    have R1_4 := Lib.hid (row_nm hnm (row_other (row_other (row_other (R1_3.out) (by omega)) (by omega)) (by omega)))
    have R2_4 := Lib.hid (row_nm hnm (row_other (row_other (row_other (R2_3.out) (by omega)) (by omega)) (by omega)))
    have R3_4 := Lib.hid (show w8.heap[w.heap.size + 1 + 1 + 1]? = some (.cells #[.slice A4 s.gens.length c4, .slice A5 s.free.length c5, .slice A6 s.ents.length c6] 75 (0, 0)) from (by rw [hnm]; exact heap_setRow (heap_setRow (heap_setRow (R3_3.out)))))
    have Vc_4 := Lib.hid (val_only Vc_3.out S4.out)
    have Vs_4 := Lib.hid (val_only Vs_3.out S4.out)
    clear hnm
    have HM4 := Lib.hid (HM3.out.keep (fun b hb hl => S4.out.block b hl (by unfold Box; have := HZ.out; omega)))
    have HZ4 := Lib.hid (Nat.le_trans HZ3.out S4.out.size)
    have q3_0 := cl3 R3_4.out
    refine ⟨rfl, .tuple #[.agg #[.slice A4 s.gens.length c4, .slice A5 s.free.length c5, .slice A6 s.ents.length c6], .int .i64 6], by simp only [results, hfr]; go_simp, ?_⟩
    clear q3_0
    rw [HE.out]
    exact ⟨_, rfl, (Rep.val_mono (fun b hb _ => by have := HZ.out; omega) HM4.out.mid.loose.val), Only.fin HB0.out O4.out⟩
  have HN := Lib.hid (show namedS c s id k = ((i : Int), n, 0) by unfold namedS; rw [hp]; dsimp only; rw [hs])
  obtain ⟨x, hx, hid⟩ := placeOf_some hp
  have HXI := Lib.hid hx
  have HPU := Lib.hid (HOK.out.parts x (List.mem_of_getElem? hx)).up
  have HPK := Lib.hid (HOK.out.parts x (List.mem_of_getElem? hx)).len
  have hil : (i : Int) < s.ents.length := by have := (List.getElem?_eq_some_iff.1 hx).1; omega
  rcases hpt : partOf x.parts k with _ | j
  case none =>
    have HE := Lib.hid (show removeS c s id k = (s, 8) by unfold removeS; rw [hp]; dsimp only; rw [hs]; dsimp only; rw [hx]; dsimp only [Option.map_some, Option.getD_some]; rw [hpt])
    have HPT := Lib.hid (part_none hpt)
    clear hp hs hx hid hpt
    clear hz0 hb0
    have q0_0 := rw5 R0_0.out
    have q1_0 := rw3 R1_0.out
    have q2_0 := rw2 R2_0.out
    have q3_0 := rw3 R3_0.out
    go_enter Try.func181, Try.ntmps181
    go_wp2_with fail
    try rw [hW0]
    clear hW0
    try go_wp2_with fail
    clear q0_0 q1_0 q2_0 q3_0
    refine (mclone_calls Vs_0.out HOK.out.tiny).mono ?_
    rintro e w1 ⟨A4, c4, A5, c5, A6, c6, z, cl, raws, rfl, hb, hown, hzl⟩
    have S1 := Lib.hid (show Only (Box w 4) W0 w1 from Only.of_below hb)
    have O1 := Lib.hid (O0.out.trans S1.out)
    have R0_1 := Lib.hid (row_call hb R0_0.out)
    have R1_1 := Lib.hid (row_call hb R1_0.out)
    have R2_1 := Lib.hid (row_call hb R2_0.out)
    have R3_1 := Lib.hid (row_call hb R3_0.out)
    have Vc_1 := Lib.hid (val_only Vc_0.out S1.out)
    have Vs_1 := Lib.hid (val_only Vs_0.out S1.out)
    have HM1 := Lib.hid hown
    have HZL := Lib.hid hzl
    clear hb hown hzl
    have q0_0 := rw5 R0_1.out
    have q1_0 := rw3 R1_1.out
    have q2_0 := rw2 R2_1.out
    have q3_0 := rw3 R3_1.out
    go_wp2_with fail
    clear q0_0 q1_0 q2_0 q3_0
    refine nm_calls (fun w2 hnm => ?_)
    have S2 := Lib.hid (show Only (Box w 4) w1 w2 from (by rw [hnm]; exact (((Only.refl (Box w 4) w1).put ⟨by omega, by omega⟩).put ⟨by omega, by omega⟩).put ⟨by omega, by omega⟩))
    have O2 := Lib.hid (O1.out.trans S2.out)
    have R0_2 := Lib.hid (row_nm hnm (row_other (row_other (row_other (R0_1.out) (by omega)) (by omega)) (by omega)))
    have R1_2 := Lib.hid (show w2.heap[w.heap.size + 1]? = some (.cells #[.slice A4 s.gens.length c4, .slice A5 s.free.length c5, .slice A6 s.ents.length c6] 75 (0, 0)) from (by rw [hnm]; exact heap_setRow (heap_setRow (heap_setRow (R1_1.out)))))
    have R2_2 := Lib.hid (row_nm hnm (row_other (row_other (row_other (R2_1.out) (by omega)) (by omega)) (by omega)))
    have R3_2 := Lib.hid (row_nm hnm (row_other (row_other (row_other (R3_1.out) (by omega)) (by omega)) (by omega)))
    have Vc_2 := Lib.hid (val_only Vc_1.out S2.out)
    have Vs_2 := Lib.hid (val_only Vs_1.out S2.out)
    clear hnm
    have HM2 := Lib.hid (HM1.out.keep (fun b hb hl => S2.out.block b hl (by unfold Box; have := HZ.out; omega)))
    have HZ2 := Lib.hid (Nat.le_trans HZL.out S2.out.size)
    refine (mnamed_calls (k := k) (id := id) Vc_2.out (Rep.val_mono (fun b hb _ => .inr (by have := HZ.out; omega)) HM2.out.mid.loose.val) HOK.out.up).mono ?_
    rintro e w3 ⟨rfl, hb⟩
    rw [HN.out]
    dsimp only
    have S3 := Lib.hid (show Only (Box w 4) w2 w3 from Only.of_below hb)
    have O3 := Lib.hid (O2.out.trans S3.out)
    have R0_3 := Lib.hid (row_call hb R0_2.out)
    have R1_3 := Lib.hid (row_call hb R1_2.out)
    have R2_3 := Lib.hid (row_call hb R2_2.out)
    have R3_3 := Lib.hid (row_call hb R3_2.out)
    have Vc_3 := Lib.hid (val_only Vc_2.out S3.out)
    have Vs_3 := Lib.hid (val_only Vs_2.out S3.out)
    clear hb
    have HM3 := Lib.hid (HM2.out.keep (fun b hb hl => S3.out.block b hl (by unfold Box; have := HZ.out; omega)))
    have HZ3 := Lib.hid (Nat.le_trans HZ2.out S3.out.size)
    obtain ⟨gb, Ap, cp, hA, hgb, hgc, hgv, hgf, hpo⟩ := own_part HM3.out HXI.out
    subst hA
    have HGB := Lib.hid hgb
    have HGC := Lib.hid hgc
    have HVP := Lib.hid (show ∀ b, (.slice Ap x.parts.length cp : Value).ownBlock = some b → W0.heap.size ≤ b from fun b e => Nat.le_trans HM3.out.low (hpo.low b e).1)
    have HGV := Lib.hid (show ¬ (.slice Ap x.parts.length cp : Value).ownBlock = some gb from fun e => by have := hpo.own gb e; rw [hgc] at this; cases this)
    have HPO3 := Lib.hid hpo
    have HK3 := Lib.hid hgv
    have HF3 := Lib.hid hgf
    clear hgb hgc hgf hpo
    have q0_0 := rw5 R0_3.out
    have q1_0 := rw3 R1_3.out
    have q2_0 := rw2 R2_3.out
    have q3_0 := rw3 R3_3.out
    go_wp2_with fail
    clear hgv
    clear q0_0 q1_0 q2_0 q3_0
    refine (mpart_calls (k := k) HPO3.out.val).mono ?_
    rintro e w4 ⟨rfl, hb⟩
    rw [HPT.out]
    have HK4 := Lib.hid (cell_call hb HK3.out)
    have HF4 := Lib.hid (show ∀ j, w4.frozen? ⟨gb, j, none⟩ = false from fun j => frozen_same (hb.block gb (cell_bound HK3.out)) (HF3.out j))
    have HPO4 := Lib.hid (HPO3.out.keep (W' := w4) (fun _ _ h => h) (fun b hb2 _ => hb.block b hb2))
    have S4 := Lib.hid (show Only (Box w 4) w3 w4 from Only.of_below hb)
    have O4 := Lib.hid (O3.out.trans S4.out)
    have R0_4 := Lib.hid (row_call hb R0_3.out)
    have R1_4 := Lib.hid (row_call hb R1_3.out)
    have R2_4 := Lib.hid (row_call hb R2_3.out)
    have R3_4 := Lib.hid (row_call hb R3_3.out)
    have Vc_4 := Lib.hid (val_only Vc_3.out S4.out)
    have Vs_4 := Lib.hid (val_only Vs_3.out S4.out)
    clear hb
    have HM4 := Lib.hid (HM3.out.keep (fun b hb hl => S4.out.block b hl (by unfold Box; have := HZ.out; omega)))
    have HZ4 := Lib.hid (Nat.le_trans HZ3.out S4.out.size)
    have q0_0 := rw5 R0_4.out
    have q1_0 := rw3 R1_4.out
    have q2_0 := rw2 R2_4.out
    have q3_0 := rw3 R3_4.out
    go_wp2_with fail
    clear q0_0 q1_0 q2_0 q3_0
    refine nm_post (fun w8 hnm => ?_)
    have S5 := Lib.hid (show Only (Box w 4) w4 w8 from (by rw [hnm]; exact (((Only.refl (Box w 4) w4).put ⟨by omega, by omega⟩).put ⟨by omega, by omega⟩).put ⟨by omega, by omega⟩))
    have O5 := Lib.hid (O4.out.trans S5.out)
    have R0_5 := Lib.hid (row_nm hnm (row_other (row_other (row_other (R0_4.out) (by omega)) (by omega)) (by omega)))
    have R1_5 := Lib.hid (row_nm hnm (row_other (row_other (row_other (R1_4.out) (by omega)) (by omega)) (by omega)))
    have R2_5 := Lib.hid (row_nm hnm (row_other (row_other (row_other (R2_4.out) (by omega)) (by omega)) (by omega)))
    have R3_5 := Lib.hid (show w8.heap[w.heap.size + 1 + 1 + 1]? = some (.cells #[.slice A4 s.gens.length c4, .slice A5 s.free.length c5, .slice (some ⟨gb, 0, none⟩) s.ents.length c6] 75 (0, 0)) from (by rw [hnm]; exact heap_setRow (heap_setRow (heap_setRow (R3_4.out)))))
    have Vc_5 := Lib.hid (val_only Vc_4.out S5.out)
    have Vs_5 := Lib.hid (val_only Vs_4.out S5.out)
    clear hnm
    have HM5 := Lib.hid (HM4.out.keep (fun b hb hl => S5.out.block b hl (by unfold Box; have := HZ.out; omega)))
    have HZ5 := Lib.hid (Nat.le_trans HZ4.out S5.out.size)
    have q3_0 := cl3 R3_5.out
    refine ⟨rfl, .tuple #[.agg #[.slice A4 s.gens.length c4, .slice A5 s.free.length c5, .slice (some ⟨gb, 0, none⟩) s.ents.length c6], .int .i64 8], by simp only [results, hfr]; go_simp, ?_⟩
    clear q3_0
    rw [HE.out]
    exact ⟨_, rfl, (Rep.val_mono (fun b hb _ => by have := HZ.out; omega) HM5.out.mid.loose.val), Only.fin HB0.out O5.out⟩
  obtain ⟨ps, hps⟩ : ∃ ps, x.parts.eraseIdx j = ps := ⟨_, rfl⟩
  have HPS := Lib.hid hps
  have HE := Lib.hid (show removeS c s id k = (⟨s.gens, s.free, s.ents.set i ⟨x.id, ps⟩⟩, 0) by unfold removeS; rw [hp]; dsimp only; rw [hs]; dsimp only; rw [hx]; dsimp only [Option.map_some, Option.getD_some]; rw [hpt]; dsimp only; rw [modify_set hx, hps])
  have HPT := Lib.hid (part_some HPU.out hpt)
  obtain ⟨_, hjx, _⟩ := partOf_some hpt
  have HJL := Lib.hid (List.getElem?_eq_some_iff.1 hjx).1
  have iw : IntKind.i64.wrap ((j : Int) + 1) = (j : Int) + 1 := IntWalk.i64_in _ ⟨by omega, by have := HJL.out; have := HPK.out; have := (right_facts HOK.out.conf).1; omega⟩
  clear hp hs hx hid hpt hps hjx
  clear hz0 hb0
  have q0_0 := rw5 R0_0.out
  have q1_0 := rw3 R1_0.out
  have q2_0 := rw2 R2_0.out
  have q3_0 := rw3 R3_0.out
  go_enter Try.func181, Try.ntmps181
  go_wp2_with fail
  try rw [hW0]
  clear hW0
  try go_wp2_with fail
  clear q0_0 q1_0 q2_0 q3_0
  refine (mclone_calls Vs_0.out HOK.out.tiny).mono ?_
  rintro e w1 ⟨A4, c4, A5, c5, A6, c6, z, cl, raws, rfl, hb, hown, hzl⟩
  have S1 := Lib.hid (show Only (Box w 4) W0 w1 from Only.of_below hb)
  have O1 := Lib.hid (O0.out.trans S1.out)
  have R0_1 := Lib.hid (row_call hb R0_0.out)
  have R1_1 := Lib.hid (row_call hb R1_0.out)
  have R2_1 := Lib.hid (row_call hb R2_0.out)
  have R3_1 := Lib.hid (row_call hb R3_0.out)
  have Vc_1 := Lib.hid (val_only Vc_0.out S1.out)
  have Vs_1 := Lib.hid (val_only Vs_0.out S1.out)
  have HM1 := Lib.hid hown
  have HZL := Lib.hid hzl
  clear hb hown hzl
  have q0_0 := rw5 R0_1.out
  have q1_0 := rw3 R1_1.out
  have q2_0 := rw2 R2_1.out
  have q3_0 := rw3 R3_1.out
  go_wp2_with fail
  clear q0_0 q1_0 q2_0 q3_0
  refine nm_calls (fun w2 hnm => ?_)
  have S2 := Lib.hid (show Only (Box w 4) w1 w2 from (by rw [hnm]; exact (((Only.refl (Box w 4) w1).put ⟨by omega, by omega⟩).put ⟨by omega, by omega⟩).put ⟨by omega, by omega⟩))
  have O2 := Lib.hid (O1.out.trans S2.out)
  have R0_2 := Lib.hid (row_nm hnm (row_other (row_other (row_other (R0_1.out) (by omega)) (by omega)) (by omega)))
  have R1_2 := Lib.hid (show w2.heap[w.heap.size + 1]? = some (.cells #[.slice A4 s.gens.length c4, .slice A5 s.free.length c5, .slice A6 s.ents.length c6] 75 (0, 0)) from (by rw [hnm]; exact heap_setRow (heap_setRow (heap_setRow (R1_1.out)))))
  have R2_2 := Lib.hid (row_nm hnm (row_other (row_other (row_other (R2_1.out) (by omega)) (by omega)) (by omega)))
  have R3_2 := Lib.hid (row_nm hnm (row_other (row_other (row_other (R3_1.out) (by omega)) (by omega)) (by omega)))
  have Vc_2 := Lib.hid (val_only Vc_1.out S2.out)
  have Vs_2 := Lib.hid (val_only Vs_1.out S2.out)
  clear hnm
  have HM2 := Lib.hid (HM1.out.keep (fun b hb hl => S2.out.block b hl (by unfold Box; have := HZ.out; omega)))
  have HZ2 := Lib.hid (Nat.le_trans HZL.out S2.out.size)
  refine (mnamed_calls (k := k) (id := id) Vc_2.out (Rep.val_mono (fun b hb _ => .inr (by have := HZ.out; omega)) HM2.out.mid.loose.val) HOK.out.up).mono ?_
  rintro e w3 ⟨rfl, hb⟩
  rw [HN.out]
  dsimp only
  have S3 := Lib.hid (show Only (Box w 4) w2 w3 from Only.of_below hb)
  have O3 := Lib.hid (O2.out.trans S3.out)
  have R0_3 := Lib.hid (row_call hb R0_2.out)
  have R1_3 := Lib.hid (row_call hb R1_2.out)
  have R2_3 := Lib.hid (row_call hb R2_2.out)
  have R3_3 := Lib.hid (row_call hb R3_2.out)
  have Vc_3 := Lib.hid (val_only Vc_2.out S3.out)
  have Vs_3 := Lib.hid (val_only Vs_2.out S3.out)
  clear hb
  have HM3 := Lib.hid (HM2.out.keep (fun b hb hl => S3.out.block b hl (by unfold Box; have := HZ.out; omega)))
  have HZ3 := Lib.hid (Nat.le_trans HZ2.out S3.out.size)
  obtain ⟨gb, Ap, cp, hA, hgb, hgc, hgv, hgf, hpo⟩ := own_part HM3.out HXI.out
  subst hA
  have HGB := Lib.hid hgb
  have HGC := Lib.hid hgc
  have HVP := Lib.hid (show ∀ b, (.slice Ap x.parts.length cp : Value).ownBlock = some b → W0.heap.size ≤ b from fun b e => Nat.le_trans HM3.out.low (hpo.low b e).1)
  have HGV := Lib.hid (show ¬ (.slice Ap x.parts.length cp : Value).ownBlock = some gb from fun e => by have := hpo.own gb e; rw [hgc] at this; cases this)
  have HPO3 := Lib.hid hpo
  have HK3 := Lib.hid hgv
  have HF3 := Lib.hid hgf
  clear hgb hgc hgf hpo
  have q0_0 := rw5 R0_3.out
  have q1_0 := rw3 R1_3.out
  have q2_0 := rw2 R2_3.out
  have q3_0 := rw3 R3_3.out
  go_wp2_with fail
  clear hgv
  clear q0_0 q1_0 q2_0 q3_0
  refine (mpart_calls (k := k) HPO3.out.val).mono ?_
  rintro e w4 ⟨rfl, hb⟩
  rw [HPT.out.1, HPT.out.2]
  have HK4 := Lib.hid (cell_call hb HK3.out)
  have HF4 := Lib.hid (show ∀ j, w4.frozen? ⟨gb, j, none⟩ = false from fun j => frozen_same (hb.block gb (cell_bound HK3.out)) (HF3.out j))
  have HPO4 := Lib.hid (HPO3.out.keep (W' := w4) (fun _ _ h => h) (fun b hb2 _ => hb.block b hb2))
  have S4 := Lib.hid (show Only (Box w 4) w3 w4 from Only.of_below hb)
  have O4 := Lib.hid (O3.out.trans S4.out)
  have R0_4 := Lib.hid (row_call hb R0_3.out)
  have R1_4 := Lib.hid (row_call hb R1_3.out)
  have R2_4 := Lib.hid (row_call hb R2_3.out)
  have R3_4 := Lib.hid (row_call hb R3_3.out)
  have Vc_4 := Lib.hid (val_only Vc_3.out S4.out)
  have Vs_4 := Lib.hid (val_only Vs_3.out S4.out)
  clear hb
  have HM4 := Lib.hid (HM3.out.keep (fun b hb hl => S4.out.block b hl (by unfold Box; have := HZ.out; omega)))
  have HZ4 := Lib.hid (Nat.le_trans HZ3.out S4.out.size)
  have q0_0 := rw5 R0_4.out
  have q1_0 := rw3 R1_4.out
  have q2_0 := rw2 R2_4.out
  have q3_0 := rw3 R3_4.out
  go_wp2_with fail
  clear q0_0 q1_0 q2_0 q3_0
  refine wp_region_tail (S := fun W => Only (fun b => (.slice Ap x.parts.length cp : Value).ownBlock = some b) w4 W) (T := [15]) (by kernel_rfl) ((Only.refl _ _).drw) (fun s0 => ?_)
  obtain ⟨u0, hu0⟩ : ∃ V, V = w4.drew := ⟨_, rfl⟩
  rw [← hu0] at s0 ⊢
  have t0 : Only (fun b => (.slice Ap x.parts.length cp : Value).ownBlock = some b) w4 u0 := s0
  have HPOu := Lib.hid (HPO4.out.keep (W' := u0) (fun _ _ h => h) (fun b hb2 _ => by rw [hu0]; rfl))
  clear hu0 s0
  refine tkTV (i := 0) (v := .pointer (some ⟨w.heap.size + 1, 2, none⟩)) rfl t0 ?_
  go_simp
  refine tkT (i := 1) (v := .slice (some ⟨gb, 0, none⟩) s.ents.length c6) rfl (Or.inl ⟨by rfl, fun w' h => by have e := row_only (h : Only (fun b => (.slice Ap x.parts.length cp : Value).ownBlock = some b) w4 w') R1_4.out (fun e => by have := HVP.out _ e; have := HZ.out; omega); have e0 := cell_row e 0; have e1 := cell_row e 1; have e2 := cell_row e 2; go_simp⟩) t0 ?_
  go_simp
  refine tkTV (i := 2) (v := .int .i64 i) rfl t0 ?_
  go_simp
  refine tkTV (i := 3) (v := .pointer (some ⟨w.heap.size + 1, 2, none⟩)) rfl t0 ?_
  go_simp
  refine tkT (i := 4) (v := .slice (some ⟨gb, 0, none⟩) s.ents.length c6) rfl (Or.inl ⟨by rfl, fun w' h => by have e := row_only (h : Only (fun b => (.slice Ap x.parts.length cp : Value).ownBlock = some b) w4 w') R1_4.out (fun e => by have := HVP.out _ e; have := HZ.out; omega); have e0 := cell_row e 0; have e1 := cell_row e 1; have e2 := cell_row e 2; go_simp⟩) t0 ?_
  go_simp
  refine tkTV (i := 5) (v := .int .i64 i) rfl t0 ?_
  go_simp
  refine tkTV (i := 6) (v := .pointer (some ⟨gb, i * 3, none⟩)) rfl t0 ?_
  go_simp
  refine tkTV (i := 7) (v := .pointer (some ⟨gb, i * 3 + 2, none⟩)) rfl t0 ?_
  go_simp
  refine tkT (i := 8) (v := .slice Ap x.parts.length cp) rfl (Or.inl ⟨by rfl, fun w' h => by have e := cell_only (h : Only (fun b => (.slice Ap x.parts.length cp : Value).ownBlock = some b) w4 w') HGV.out HK4.out; go_simp⟩) t0 ?_
  go_simp
  refine tkTV (i := 9) (v := .int .i64 j) rfl t0 ?_
  go_simp
  refine tkTV (i := 10) (v := .int .i64 j) rfl t0 ?_
  go_simp
  refine tkTV (i := 11) (v := .int .i64 ((j : Int) + 1)) rfl t0 ?_
  go_simp
  refine wpAnyT_one (i := 12) rfl (by kernel_rfl) rfl (fun K hK => ?_)
  go_simp
  refine (delPart_calls HPOu.out.acc HJL.out).mono ?_
  rintro e u1 ⟨v', rfl, hwb, hacc, ho⟩
  have t1 : Only (fun b => (.slice Ap x.parts.length cp : Value).ownBlock = some b) w4 u1 := t0.trans ho
  rw [HPS.out] at hacc
  obtain ⟨A7, c7, rfl, _, _⟩ := Rep.acc_form hacc
  have HPV := Lib.hid (show rPart.list.val (fun b => cl b = some i ∨ w4.heap.size ≤ b) u1 (.slice A7 ps.length c7) ps from Rep.val_mono (fun b hb _ => .inl (hb.elim (fun h => h) (fun e => HPOu.out.own b (hwb ▸ e)))) (Rep.acc_val hacc))
  refine hK _ _ ⟨t1, ?_⟩
  clear hK K ho hwb hacc
  go_simp
  refine tkTV (i := 13) (v := .pointer (some ⟨gb, i * 3, none⟩)) rfl t1 ?_
  go_simp
  refine tkTV (i := 14) (v := .pointer (some ⟨gb, i * 3 + 2, none⟩)) rfl t1 ?_
  go_simp
  have hgs : u1.heap[gb]? = w4.heap[gb]? := t1.block gb (cell_bound HK4.out) HGV.out
  have q0 := cell_same hgs HK4.out
  have z0 := frozen_same hgs (HF4.out (i * 3 + 2))
  refine wpAnyT_last (i := 15) rfl (by kernel_rfl) rfl (fun K hK => ?_)
  go_simp
  refine hK _ _ ?_
  clear hK K q0 z0 hgs
  refine nm_anyT (fun w6 hnm => ?_)
  have HL6 := Lib.hid (show StLoose W0.heap.size w6 ⟨s.gens, s.free, s.ents.set i ⟨x.id, ps⟩⟩ (.slice A4 s.gens.length c4) (.slice A5 s.free.length c5) (.slice (some ⟨gb, 0, none⟩) s.ents.length c6) z by rw [hnm]; exact HM4.out.set HXI.out rfl (fun b hb hc => t1.block b hb (fun e => hc (HPO4.out.own b e))) HPV.out)
  have HO6 := Lib.hid (show Only (fun b => (.slice Ap x.parts.length cp : Value).ownBlock = some b ∨ b = gb) w4 w6 by rw [hnm]; exact (t1.wid (fun b h => .inl h)).put (.inr rfl))
  have HZ6 := Lib.hid (Nat.le_trans HZ4.out HO6.out.size)
  have HOW6 := Lib.hid (show ∀ b, ((.slice Ap x.parts.length cp : Value).ownBlock = some b ∨ b = gb) → W0.heap.size ≤ b from fun b h => h.elim (HVP.out b) (fun e => by rw [e]; exact HGB.out))
  clear hnm t0 t1
  refine wpAnyT_done (by kernel_rfl) ?_ _
  have O5 := Lib.hid (only_over O4.out HO6.out HOW6.out)
  have R0_5 := Lib.hid (row_only HO6.out R0_4.out (fun e => by have := HOW6.out _ e; have := HZ.out; omega))
  have R1_5 := Lib.hid (row_only HO6.out R1_4.out (fun e => by have := HOW6.out _ e; have := HZ.out; omega))
  have R2_5 := Lib.hid (row_only HO6.out R2_4.out (fun e => by have := HOW6.out _ e; have := HZ.out; omega))
  have R3_5 := Lib.hid (row_only HO6.out R3_4.out (fun e => by have := HOW6.out _ e; have := HZ.out; omega))
  have q0_0 := rw5 R0_5.out
  have q1_0 := rw3 R1_5.out
  have q2_0 := rw2 R2_5.out
  have q3_0 := rw3 R3_5.out
  go_wp2_with fail
  clear q0_0 q1_0 q2_0 q3_0
  refine nm_post (fun w9 hnm => ?_)
  have S6 := Lib.hid (show Only (Box w 4) w6 w9 from (by rw [hnm]; exact (((Only.refl (Box w 4) w6).put ⟨by omega, by omega⟩).put ⟨by omega, by omega⟩).put ⟨by omega, by omega⟩))
  have O6 := Lib.hid (O5.out.trans S6.out)
  have R0_6 := Lib.hid (row_nm hnm (row_other (row_other (row_other (R0_5.out) (by omega)) (by omega)) (by omega)))
  have R1_6 := Lib.hid (row_nm hnm (row_other (row_other (row_other (R1_5.out) (by omega)) (by omega)) (by omega)))
  have R2_6 := Lib.hid (row_nm hnm (row_other (row_other (row_other (R2_5.out) (by omega)) (by omega)) (by omega)))
  have R3_6 := Lib.hid (show w9.heap[w.heap.size + 1 + 1 + 1]? = some (.cells #[.slice A4 s.gens.length c4, .slice A5 s.free.length c5, .slice (some ⟨gb, 0, none⟩) s.ents.length c6] 75 (0, 0)) from (by rw [hnm]; exact heap_setRow (heap_setRow (heap_setRow (R3_5.out)))))
  clear hnm
  have HM6 := Lib.hid (HL6.out.keep (fun b hb hl => S6.out.block b hl (by unfold Box; have := HZ.out; omega)))
  have HZ6 := Lib.hid (Nat.le_trans HZ6.out S6.out.size)
  have q3_0 := cl3 R3_6.out
  refine ⟨rfl, .tuple #[.agg #[.slice A4 s.gens.length c4, .slice A5 s.free.length c5, .slice (some ⟨gb, 0, none⟩) s.ents.length c6], .int .i64 0], by simp only [results, hfr]; go_simp, ?_⟩
  clear q3_0
  rw [HE.out]
  exact ⟨_, rfl, (Rep.val_mono (fun b hb _ => by have := HZ.out; omega) HM6.out.val), Only.fin HB0.out O6.out⟩
end Go.Proofs.Yteljibjbndpncaa
