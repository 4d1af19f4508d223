/- Texts on which the proofs stand: Right12g, Much12, AuditStates, LiftAuditStates. No condition is laid on any input. -/
import Derived.Test.YthkepjhfeeohdaaGreatDoorAuG5
namespace Go.Proofs.YthkepjhfeeohdaaGreatDoor
open Go.RowKit

set_option maxRecDepth 100000 in
set_option maxHeartbeats 4000000 in
/-- ref12.Right -/
theorem right12g_calls {Q Q' : Nat → Prop} {w : World} {u v : Value} {c : DConf} {s : DState} (hu : rConf.val Q w u c) (hx : rState.val Q' w v s) (he : s.ents.length ≤ 1000) (hp : ∀ e ∈ s.ents, e.parts.length ≤ 1000) :
    Calls Tryz.prog 10 #[u, v] w fun e w' => e = .returned (.bool (rightB c s)) ∧ Below w.heap.size w w' := by
  have HPL := Lib.hid hp
  obtain ⟨A, cap, rfl, _, _, we, wg, _, _, _⟩ := rConf_val hu
  obtain ⟨A1, c1, A2, c2, A3, c3, rfl, sg, sf, se⟩ := rState_val hx
  have HU := Lib.hid hu
  have HSG := Lib.hid sg.val
  have HSF := Lib.hid sf.val
  have HIV := Lib.hid (show rIds.val Q' w (.agg #[.int .i64 c.entities, .int .i64 c.gens, .slice A1 s.gens.length c1, .slice A2 s.free.length c2]) (idsOf c s) from rIds_agg (x := idsOf c s) we wg sg sf)
  have hc3 := se.1
  have hc3m := se.2.1
  unfold maxLen at hc3m
  have HSE := Lib.hid se.2.2
  clear hu hx sg sf se hp we wg
  obtain ⟨W0, hW0⟩ : ∃ W, ((w.alloc (.cells #[.int .i64 c.log, .int .i64 c.pages, .int .i64 c.entities, .int .i64 c.gens, .slice A c.comps.length cap] 24)).alloc (.cells #[.slice A1 s.gens.length c1, .slice A2 s.free.length c2, .slice A3 s.ents.length c3] 28)) = W := ⟨_, rfl⟩
  have hz0 : W0.heap.size = w.heap.size + 2 := by rw [← hW0]; simp
  have hb0 : Below w.heap.size w W0 := by rw [← hW0]; exact ((Below.refl _ _).alloc (Nat.le_refl _) _).alloc (by first | (simp; done) | (simp; omega)) _
  have HZ := Lib.hid hz0
  have HB0 := Lib.hid hb0
  have R0_0 := Lib.hid (show W0.heap[w.heap.size]? = some (.cells #[.int .i64 c.log, .int .i64 c.pages, .int .i64 c.entities, .int .i64 c.gens, .slice A c.comps.length cap] 24 (0, 0)) by rw [← hW0]; exact alloc_old (alloc_at rfl))
  have R1_0 := Lib.hid (show W0.heap[w.heap.size + 1]? = some (.cells #[.slice A1 s.gens.length c1, .slice A2 s.free.length c2, .slice A3 s.ents.length c3] 28 (0, 0)) by rw [← hW0]; exact alloc_at (by simp))
  have O0 := Lib.hid (Only.refl (Box w 2) W0)
  have Vc_0 := Lib.hid (show rConf.val (In Q w 2) W0 (.agg #[.int .i64 c.log, .int .i64 c.pages, .int .i64 c.entities, .int .i64 c.gens, .slice A c.comps.length cap]) c from val_in HU.out hb0)
  have Vg_0 := Lib.hid (show (Rep.int .i64).list.val (In Q' w 2) W0 (.slice A1 s.gens.length c1) s.gens from val_in HSG.out hb0)
  have Vf_0 := Lib.hid (show (Rep.int .i64).list.val (In Q' w 2) W0 (.slice A2 s.free.length c2) s.free from val_in HSF.out hb0)
  have Vi_0 := Lib.hid (show rIds.val (In Q' w 2) W0 (.agg #[.int .i64 c.entities, .int .i64 c.gens, .slice A1 s.gens.length c1, .slice A2 s.free.length c2]) (idsOf c s) from val_in HIV.out hb0)
  have Ae_0 := Lib.hid (show rEnt.At (In Q' w 2) W0 A3 s.ents from at_in HSE.out hb0)
  clear hz0 hb0
  obtain ⟨q0_0, z0_0, q0_1, z0_1, q0_2, z0_2, q0_3, z0_3, q0_4, z0_4⟩ := rw5 R0_0.out
  obtain ⟨q1_0, z1_0, q1_1, z1_1, q1_2, z1_2⟩ := rw3 R1_0.out
  go_enter Tryz.func10, Tryz.ntmps10
  go_wp2_with fail
  try rw [hW0]
  clear hW0
  try go_wp2_with fail
  clear q0_0 z0_0 q0_1 z0_1 q0_2 z0_2 q0_3 z0_3 q0_4 z0_4 q1_0 z1_0 q1_1 z1_1 q1_2 z1_2
  refine (right_calls Vc_0.out).mono ?_
  rintro e w1 ⟨rfl, hb⟩
  have S1 := Lib.hid (show Only (Box w 2) W0 w1 from Only.of_below hb)
  have O1 := Lib.hid (O0.out.trans S1.out)
  have R0_1 := Lib.hid (row_call hb R0_0.out)
  have R1_1 := Lib.hid (row_call hb R1_0.out)
  have Vc_1 := Lib.hid (val_only Vc_0.out S1.out)
  have Vg_1 := Lib.hid (val_only Vg_0.out S1.out)
  have Vf_1 := Lib.hid (val_only Vf_0.out S1.out)
  have Vi_1 := Lib.hid (val_only Vi_0.out S1.out)
  have Ae_1 := Lib.hid (at_only Ae_0.out S1.out)
  clear hb
  cases hr : confRight c with
  | false =>
    have HE := Lib.hid (rightB_no (c := c) (s := s) (fun h => by rw [h.1] at hr; cases hr))
    clear hr
    obtain ⟨q0_0, z0_0, q0_1, z0_1, q0_2, z0_2, q0_3, z0_3, q0_4, z0_4⟩ := rw5 R0_1.out
    obtain ⟨q1_0, z1_0, q1_1, z1_1, q1_2, z1_2⟩ := rw3 R1_1.out
    go_wp2_with fail
    clear q0_0 z0_0 q0_1 z0_1 q0_2 z0_2 q0_3 z0_3 q0_4 z0_4 q1_0 z1_0 q1_1 z1_1 q1_2 z1_2
    go_ret
    exact ⟨by rw [HE.out]; try rfl, Only.fin HB0.out O1.out⟩
  | true =>
    have HR := Lib.hid hr
    clear hr
    obtain ⟨q0_0, z0_0, q0_1, z0_1, q0_2, z0_2, q0_3, z0_3, q0_4, z0_4⟩ := rw5 R0_1.out
    obtain ⟨q1_0, z1_0, q1_1, z1_1, q1_2, z1_2⟩ := rw3 R1_1.out
    go_wp2_with fail
    clear q0_0 z0_0 q0_1 z0_1 q0_2 z0_2 q0_3 z0_3 q0_4 z0_4 q1_0 z1_0 q1_1 z1_1 q1_2 z1_2
    refine (loadAny_calls Vg_1.out Vf_1.out HR.out).mono ?_
    rintro e w2 ⟨hans, hb⟩
    have S2 := Lib.hid (show Only (Box w 2) w1 w2 from Only.of_below hb)
    have O2 := Lib.hid (O1.out.trans S2.out)
    have R0_2 := Lib.hid (row_call hb R0_1.out)
    have R1_2 := Lib.hid (row_call hb R1_1.out)
    have Vc_2 := Lib.hid (val_only Vc_1.out S2.out)
    have Vg_2 := Lib.hid (val_only Vg_1.out S2.out)
    have Vf_2 := Lib.hid (val_only Vf_1.out S2.out)
    have Vi_2 := Lib.hid (val_only Vi_1.out S2.out)
    have Ae_2 := Lib.hid (at_only Ae_1.out S2.out)
    clear hb
    rcases hans with ⟨hlo, rfl⟩ | ⟨hno, rfl⟩
    · skip
      have HLO := Lib.hid hlo
      have HGL := Lib.hid (show s.gens.length ≤ 100000 by have := hlo.many; have := (right_facts HR.out).1; omega)
      clear hlo
      have k1 : (w2.alloc (.cells #[.int .i64 c.entities, .int .i64 c.gens, .slice A1 s.gens.length c1, .slice A2 s.free.length c2] 61)).heap[w.heap.size]? = some (.cells #[.int .i64 c.log, .int .i64 c.pages, .int .i64 c.entities, .int .i64 c.gens, .slice A c.comps.length cap] 24 (0, 0)) := alloc_old (R0_2.out)
      obtain ⟨k1_0, l1_0, k1_1, l1_1, k1_2, l1_2, k1_3, l1_3, k1_4, l1_4⟩ := rw5 k1
      clear k1
      have k2 : (w2.alloc (.cells #[.int .i64 c.entities, .int .i64 c.gens, .slice A1 s.gens.length c1, .slice A2 s.free.length c2] 61)).heap[w.heap.size + 1]? = some (.cells #[.slice A1 s.gens.length c1, .slice A2 s.free.length c2, .slice A3 s.ents.length c3] 28 (0, 0)) := alloc_old (R1_2.out)
      obtain ⟨k2_0, l2_0, k2_1, l2_1, k2_2, l2_2⟩ := rw3 k2
      clear k2
      have k3 : (w2.alloc (.cells #[.int .i64 c.entities, .int .i64 c.gens, .slice A1 s.gens.length c1, .slice A2 s.free.length c2] 61)).heap[w2.heap.size]? = some (.cells #[.int .i64 c.entities, .int .i64 c.gens, .slice A1 s.gens.length c1, .slice A2 s.free.length c2] 61 (0, 0)) := alloc_at rfl
      obtain ⟨k3_0, l3_0, k3_1, l3_1, k3_2, l3_2, k3_3, l3_3⟩ := rw4 k3
      clear k3
      obtain ⟨q0_0, z0_0, q0_1, z0_1, q0_2, z0_2, q0_3, z0_3, q0_4, z0_4⟩ := rw5 R0_2.out
      obtain ⟨q1_0, z1_0, q1_1, z1_1, q1_2, z1_2⟩ := rw3 R1_2.out
      go_wp2_with fail
      clear k1_0 l1_0 k1_1 l1_1 k1_2 l1_2 k1_3 l1_3 k1_4 l1_4 k2_0 l2_0 k2_1 l2_1 k2_2 l2_2 k3_0 l3_0 k3_1 l3_1 k3_2 l3_2 k3_3 l3_3 q0_0 z0_0 q0_1 z0_1 q0_2 z0_2 q0_3 z0_3 q0_4 z0_4 q1_0 z1_0 q1_1 z1_1 q1_2 z1_2
      refine nm_code (fun w3 hnm => ?_)
      have HF1 := Lib.hid (show w.heap.size + 2 ≤ w2.heap.size by have := O2.out.size; have := HZ.out; omega)
      have S3 := Lib.hid (show Only (Box w 2) w2 w3 from (by rw [hnm]; exact (Only.refl (Box w 2) w2).alloc _))
      have O3 := Lib.hid (O2.out.trans S3.out)
      have R0_3 := Lib.hid (row_nm hnm (alloc_old (R0_2.out)))
      have R1_3 := Lib.hid (row_nm hnm (alloc_old (R1_2.out)))
      have Rw2_heap_size_3 := Lib.hid (show w3.heap[w2.heap.size]? = some (.cells #[.int .i64 c.entities, .int .i64 c.gens, .slice A1 s.gens.length c1, .slice A2 s.free.length c2] 61 (0, 0)) from (by rw [hnm]; exact alloc_at rfl))
      have Vc_3 := Lib.hid (val_only Vc_2.out S3.out)
      have Vg_3 := Lib.hid (val_only Vg_2.out S3.out)
      have Vf_3 := Lib.hid (val_only Vf_2.out S3.out)
      have Vi_3 := Lib.hid (val_only Vi_2.out S3.out)
      have Ae_3 := Lib.hid (at_only Ae_2.out S3.out)
      clear hnm
      go_loopw [7, 8] (fun u7 i wr => ∃ j k : Nat, i = .int .i64 j ∧ u7 = .int .i64 k ∧ j ≤ s.gens.length ∧ Hid (Seen12 c s j k) ∧ Hid (Below w3.heap.size w3 wr)) (fun _ i _ => s.gens.length - (intOf i).toNat)
      case atStart => exact ⟨0, 0, rfl, rfl, Nat.zero_le _, Lib.hid (Seen12.zero c s), Lib.hid (Below.refl _ _)⟩
      case round =>
          obtain ⟨j, k, rfl, rfl, hj, HSN, HBR⟩ := hrel
          have hkl := HSN.out.le
          have S4 := Lib.hid (show Only (Box w 2) w3 wr from Only.of_below HBR.out)
          have O4 := Lib.hid (O3.out.trans S4.out)
          have R0_4 := Lib.hid (row_call HBR.out R0_3.out)
          have R1_4 := Lib.hid (row_call HBR.out R1_3.out)
          have Rw2_heap_size_4 := Lib.hid (row_call HBR.out Rw2_heap_size_3.out)
          have Vc_4 := Lib.hid (val_only Vc_3.out S4.out)
          have Vg_4 := Lib.hid (val_only Vg_3.out S4.out)
          have Vf_4 := Lib.hid (val_only Vf_3.out S4.out)
          have Vi_4 := Lib.hid (val_only Vi_3.out S4.out)
          have Ae_4 := Lib.hid (at_only Ae_3.out S4.out)
          by_cases hlt : (j : Int) < s.gens.length
          · skip
            obtain ⟨q0_0, z0_0, q0_1, z0_1, q0_2, z0_2, q0_3, z0_3, q0_4, z0_4⟩ := rw5 R0_4.out
            obtain ⟨q1_0, z1_0, q1_1, z1_1, q1_2, z1_2⟩ := rw3 R1_4.out
            obtain ⟨qn0_0, zn0_0, qn0_1, zn0_1, qn0_2, zn0_2, qn0_3, zn0_3⟩ := rw4 Rw2_heap_size_4.out
            go_wp2_with fail
            clear q0_0 z0_0 q0_1 z0_1 q0_2 z0_2 q0_3 z0_3 q0_4 z0_4 q1_0 z1_0 q1_1 z1_1 q1_2 z1_2 qn0_0 zn0_0 qn0_1 zn0_1 qn0_2 zn0_2 qn0_3 zn0_3
            refine (at_calls (i := (j : Int)) Vi_4.out).mono ?_
            rintro e w4 ⟨rfl, hb⟩
            have HB4 := Lib.hid (HBR.out.trans (hb.mono HBR.out.size))
            have S5 := Lib.hid (show Only (Box w 2) wr w4 from Only.of_below hb)
            have O5 := Lib.hid (O4.out.trans S5.out)
            have R0_5 := Lib.hid (row_call hb R0_4.out)
            have R1_5 := Lib.hid (row_call hb R1_4.out)
            have Rw2_heap_size_5 := Lib.hid (row_call hb Rw2_heap_size_4.out)
            have Vc_5 := Lib.hid (val_only Vc_4.out S5.out)
            have Vg_5 := Lib.hid (val_only Vg_4.out S5.out)
            have Vf_5 := Lib.hid (val_only Vf_4.out S5.out)
            have Vi_5 := Lib.hid (val_only Vi_4.out S5.out)
            have Ae_5 := Lib.hid (at_only Ae_4.out S5.out)
            clear hb
            rw [atI_alive]
            cases ha : aliveB c s (j : Nat) with
            | false =>
              rw [if_neg (by decide)]
              have HAL := Lib.hid ha
              clear ha
              dsimp only [Option.getD_none, Option.isSome_none]
              have HSX := Lib.hid (show Seen12 c s (j + 1) k from HSN.out.dead HAL.out)
              have hgl := HGL.out
              have iw : IntKind.i64.wrap ((j : Int) + 1) = (j : Int) + 1 := IntWalk.i64_in _ ⟨by omega, by omega⟩
              obtain ⟨q0_0, z0_0, q0_1, z0_1, q0_2, z0_2, q0_3, z0_3, q0_4, z0_4⟩ := rw5 R0_5.out
              obtain ⟨q1_0, z1_0, q1_1, z1_1, q1_2, z1_2⟩ := rw3 R1_5.out
              obtain ⟨qn0_0, zn0_0, qn0_1, zn0_1, qn0_2, zn0_2, qn0_3, zn0_3⟩ := rw4 Rw2_heap_size_5.out
              go_wp2_with fail
              clear q0_0 z0_0 q0_1 z0_1 q0_2 z0_2 q0_3 z0_3 q0_4 z0_4 q1_0 z1_0 q1_1 z1_1 q1_2 z1_2 qn0_0 zn0_0 qn0_1 zn0_1 qn0_2 zn0_2 qn0_3 zn0_3
              exact ⟨⟨j + 1, k, by go_num, by go_num, by omega, HSX, Lib.hid (HB4.out.trans (((Below.refl _ _).alloc (Nat.le_refl _) _).mono HB4.out.size))⟩, by simp [intOf]; omega⟩
            | true =>
              rw [if_pos rfl]
              have HAL := Lib.hid ha
              clear ha
              dsimp only [Option.getD_some, Option.isSome_some]
              obtain ⟨g, hg⟩ : ∃ g, s.gens.getD (j : Int).toNat 0 = g := ⟨_, rfl⟩
              rw [hg]
              have HG9 := Lib.hid (show idAt s j = ⟨j, g⟩ by unfold idAt; rw [← hg]; rfl)
              clear hg
              have k4 : (w4.alloc (.cells #[.int .i64 j, .int .i64 g] 40)).heap[w.heap.size]? = some (.cells #[.int .i64 c.log, .int .i64 c.pages, .int .i64 c.entities, .int .i64 c.gens, .slice A c.comps.length cap] 24 (0, 0)) := alloc_old (R0_5.out)
              obtain ⟨k4_0, l4_0, k4_1, l4_1, k4_2, l4_2, k4_3, l4_3, k4_4, l4_4⟩ := rw5 k4
              clear k4
              have k5 : (w4.alloc (.cells #[.int .i64 j, .int .i64 g] 40)).heap[w.heap.size + 1]? = some (.cells #[.slice A1 s.gens.length c1, .slice A2 s.free.length c2, .slice A3 s.ents.length c3] 28 (0, 0)) := alloc_old (R1_5.out)
              obtain ⟨k5_0, l5_0, k5_1, l5_1, k5_2, l5_2⟩ := rw3 k5
              clear k5
              have k6 : (w4.alloc (.cells #[.int .i64 j, .int .i64 g] 40)).heap[w2.heap.size]? = some (.cells #[.int .i64 c.entities, .int .i64 c.gens, .slice A1 s.gens.length c1, .slice A2 s.free.length c2] 61 (0, 0)) := alloc_old (Rw2_heap_size_5.out)
              obtain ⟨k6_0, l6_0, k6_1, l6_1, k6_2, l6_2, k6_3, l6_3⟩ := rw4 k6
              clear k6
              have k7 : (w4.alloc (.cells #[.int .i64 j, .int .i64 g] 40)).heap[w4.heap.size]? = some (.cells #[.int .i64 j, .int .i64 g] 40 (0, 0)) := alloc_at rfl
              obtain ⟨k7_0, l7_0, k7_1, l7_1⟩ := rw2 k7
              clear k7
              obtain ⟨q0_0, z0_0, q0_1, z0_1, q0_2, z0_2, q0_3, z0_3, q0_4, z0_4⟩ := rw5 R0_5.out
              obtain ⟨q1_0, z1_0, q1_1, z1_1, q1_2, z1_2⟩ := rw3 R1_5.out
              obtain ⟨qn0_0, zn0_0, qn0_1, zn0_1, qn0_2, zn0_2, qn0_3, zn0_3⟩ := rw4 Rw2_heap_size_5.out
              go_wp2_with fail
              clear k4_0 l4_0 k4_1 l4_1 k4_2 l4_2 k4_3 l4_3 k4_4 l4_4 k5_0 l5_0 k5_1 l5_1 k5_2 l5_2 k6_0 l6_0 k6_1 l6_1 k6_2 l6_2 k6_3 l6_3 k7_0 l7_0 k7_1 l7_1 q0_0 z0_0 q0_1 z0_1 q0_2 z0_2 q0_3 z0_3 q0_4 z0_4 q1_0 z1_0 q1_1 z1_1 q1_2 z1_2 qn0_0 zn0_0 qn0_1 zn0_1 qn0_2 zn0_2 qn0_3 zn0_3
              refine nm_region (fun w5 hnm => ?_)
              have HF2 := Lib.hid (show w.heap.size + 2 ≤ w4.heap.size by have := O5.out.size; have := HZ.out; omega)
              have S6 := Lib.hid (show Only (Box w 2) w4 w5 from (by rw [hnm]; exact (Only.refl (Box w 2) w4).alloc _))
              have O6 := Lib.hid (O5.out.trans S6.out)
              have R0_6 := Lib.hid (row_nm hnm (alloc_old (R0_5.out)))
              have R1_6 := Lib.hid (row_nm hnm (alloc_old (R1_5.out)))
              have Rw2_heap_size_6 := Lib.hid (row_nm hnm (alloc_old (Rw2_heap_size_5.out)))
              have Rw4_heap_size_6 := Lib.hid (show w5.heap[w4.heap.size]? = some (.cells #[.int .i64 j, .int .i64 g] 40 (0, 0)) from (by rw [hnm]; exact alloc_at rfl))
              have Vc_6 := Lib.hid (val_only Vc_5.out S6.out)
              have Vg_6 := Lib.hid (val_only Vg_5.out S6.out)
              have Vf_6 := Lib.hid (val_only Vf_5.out S6.out)
              have Vi_6 := Lib.hid (val_only Vi_5.out S6.out)
              have Ae_6 := Lib.hid (at_only Ae_5.out S6.out)
              have HB5 := Lib.hid (show Below w3.heap.size w3 w5 by rw [hnm]; exact HB4.out.trans (((Below.refl _ _).alloc (Nat.le_refl _) _).mono HB4.out.size))
              clear hnm
              by_cases hkn : (k : Int) = s.ents.length
              · skip
                have HE := Lib.hid (rightB_no (HSN.out.full HAL.out (by omega) (by omega)))
                have bkn : ((k : Int) == (s.ents.length : Int)) = true := by simp [hkn]
                clear hkn
                refine wp_region_held_drew (S := fun W => Below w5.heap.size w5 W) (by kernel_rfl) ((Below.refl _ _).drew) (fun s0 => ?_)
                obtain ⟨v1, hv0⟩ : ∃ V, V = w5.drew := ⟨_, rfl⟩
                rw [← hv0] at s0 ⊢
                have t1 : Below w5.heap.size w5 v1 := s0
                clear hv0 s0
                refine tkHV (i := 0) (v := .int .i64 k) rfl t1 ?_
                go_simp
                refine tkHV (i := 1) (v := .pointer (some ⟨w.heap.size + 1, 2, none⟩)) rfl t1 ?_
                go_simp
                refine tkH (i := 2) (v := .slice A3 s.ents.length c3) rfl (Or.inl ⟨by rfl, fun w' h => by have e := row_call (h : Below w5.heap.size w5 w') R1_6.out; have e0 := cell_row e 0; have e1 := cell_row e 1; have e2 := cell_row e 2; go_simp⟩) t1 ?_
                go_simp
                refine tkHV (i := 3) (v := .int .i64 s.ents.length) rfl t1 ?_
                go_simp
                refine tkHV (i := 4) (v := .bool true) rfl t1 ?_
                go_simp
                refine tkHV (i := 5) (v := .bool true) rfl t1 ?_
                go_simp
                refine tkH (i := 6) (v := undef) rfl (Or.inr ⟨by rfl, rfl⟩) t1 ?_
                go_simp
                refine tkH (i := 7) (v := undef) rfl (Or.inr ⟨by rfl, rfl⟩) t1 ?_
                go_simp
                refine tkH (i := 8) (v := undef) rfl (Or.inr ⟨by rfl, rfl⟩) t1 ?_
                go_simp
                refine tkH (i := 9) (v := undef) rfl (Or.inr ⟨by rfl, rfl⟩) t1 ?_
                go_simp
                refine tkH (i := 10) (v := undef) rfl (Or.inr ⟨by rfl, rfl⟩) t1 ?_
                go_simp
                refine tkH (i := 11) (v := undef) rfl (Or.inr ⟨by rfl, rfl⟩) t1 ?_
                go_simp
                refine tkH (i := 12) (v := undef) rfl (Or.inr ⟨by rfl, rfl⟩) t1 ?_
                go_simp
                refine tkH (i := 13) (v := undef) rfl (Or.inr ⟨by rfl, rfl⟩) t1 ?_
                go_simp
                refine tkHV (i := 14) (v := .bool true) rfl t1 ?_
                go_simp
                refine wpAnyH_done (by kernel_rfl) ?_ _
                have S7 := Lib.hid (show Only (Box w 2) w5 v1 from Only.of_below t1)
                have O7 := Lib.hid (O6.out.trans S7.out)
                have R0_7 := Lib.hid (row_call t1 R0_6.out)
                have R1_7 := Lib.hid (row_call t1 R1_6.out)
                have Rw2_heap_size_7 := Lib.hid (row_call t1 Rw2_heap_size_6.out)
                have Rw4_heap_size_7 := Lib.hid (row_call t1 Rw4_heap_size_6.out)
                have Vc_7 := Lib.hid (val_only Vc_6.out S7.out)
                have Vg_7 := Lib.hid (val_only Vg_6.out S7.out)
                have Vf_7 := Lib.hid (val_only Vf_6.out S7.out)
                have Vi_7 := Lib.hid (val_only Vi_6.out S7.out)
                have Ae_7 := Lib.hid (at_only Ae_6.out S7.out)
                obtain ⟨q0_0, z0_0, q0_1, z0_1, q0_2, z0_2, q0_3, z0_3, q0_4, z0_4⟩ := rw5 R0_7.out
                obtain ⟨q1_0, z1_0, q1_1, z1_1, q1_2, z1_2⟩ := rw3 R1_7.out
                obtain ⟨qn0_0, zn0_0, qn0_1, zn0_1, qn0_2, zn0_2, qn0_3, zn0_3⟩ := rw4 Rw2_heap_size_7.out
                obtain ⟨qn1_0, zn1_0, qn1_1, zn1_1⟩ := rw2 Rw4_heap_size_7.out
                go_wp2_with fail
                clear q0_0 z0_0 q0_1 z0_1 q0_2 z0_2 q0_3 z0_3 q0_4 z0_4 q1_0 z1_0 q1_1 z1_1 q1_2 z1_2 qn0_0 zn0_0 qn0_1 zn0_1 qn0_2 zn0_2 qn0_3 zn0_3 qn1_0 zn1_0 qn1_1 zn1_1
                go_ret
                exact ⟨by rw [HE.out]; try rfl, Only.fin HB0.out O7.out⟩
              · skip
                have bkn : ((k : Int) == (s.ents.length : Int)) = false := beq_eq_false_iff_ne.2 hkn
                have hkl2 : (k : Int) < s.ents.length := by omega
                obtain ⟨e, hee⟩ : ∃ e, s.ents[k]? = some e := ⟨_, List.getElem?_eq_getElem (by omega)⟩
                obtain ⟨eb, eo, Ap, cp, hA3, _, e0, e1, e2, _, _, hsp⟩ := rEnt_at Ae_6.out hee
                subst hA3
                have HEE := Lib.hid hee
                have HPV := Lib.hid hsp.val
                have HPP := Lib.hid (HPL.out e (List.mem_of_getElem? hee))
                have p1 := hsp.1
                have p2 := hsp.2.1
                unfold maxLen at p2
                have K0 := Lib.hid e0
                have K1 := Lib.hid e1
                have K2 := Lib.hid e2
                clear hee hsp e0 e1 e2 hkn
                by_cases hid : e.id = idAt s j
                · skip
                  have HID := Lib.hid hid
                  rw [HG9.out] at hid
                  have hid0 : e.id.index = (j : Int) := by rw [hid]
                  have hid1 : e.id.gen = g := by rw [hid]
                  rw [hid0] at K0
                  rw [hid1] at K1
                  clear hid hid0 hid1
                  refine wp_region_held_drew (S := fun W => Below w5.heap.size w5 W) (by kernel_rfl) ((Below.refl _ _).drew) (fun s0 => ?_)
                  obtain ⟨v1, hv0⟩ : ∃ V, V = w5.drew := ⟨_, rfl⟩
                  rw [← hv0] at s0 ⊢
                  have t1 : Below w5.heap.size w5 v1 := s0
                  clear hv0 s0
                  refine tkHV (i := 0) (v := .int .i64 k) rfl t1 ?_
                  go_simp
                  refine tkHV (i := 1) (v := .pointer (some ⟨w.heap.size + 1, 2, none⟩)) rfl t1 ?_
                  go_simp
                  refine tkH (i := 2) (v := .slice (some ⟨eb, eo, none⟩) s.ents.length c3) rfl (Or.inl ⟨by rfl, fun w' h => by have e := row_call (h : Below w5.heap.size w5 w') R1_6.out; have e0 := cell_row e 0; have e1 := cell_row e 1; have e2 := cell_row e 2; go_simp⟩) t1 ?_
                  go_simp
                  refine tkHV (i := 3) (v := .int .i64 s.ents.length) rfl t1 ?_
                  go_simp
                  refine tkHV (i := 4) (v := .bool false) rfl t1 ?_
                  go_simp
                  refine tkHV (i := 5) (v := .bool false) rfl t1 ?_
                  go_simp
                  refine tkHV (i := 6) (v := .pointer (some ⟨w.heap.size + 1, 2, none⟩)) rfl t1 ?_
                  go_simp
                  refine tkH (i := 7) (v := .slice (some ⟨eb, eo, none⟩) s.ents.length c3) rfl (Or.inl ⟨by rfl, fun w' h => by have e := row_call (h : Below w5.heap.size w5 w') R1_6.out; have e0 := cell_row e 0; have e1 := cell_row e 1; have e2 := cell_row e 2; go_simp⟩) t1 ?_
                  go_simp
                  refine tkHV (i := 8) (v := .int .i64 k) rfl t1 ?_
                  go_simp
                  refine tkHV (i := 9) (v := .pointer (some ⟨eb, eo + k * 3, none⟩)) rfl t1 ?_
                  go_simp
                  refine tkHV (i := 10) (v := .pointer (some ⟨eb, eo + k * 3, none⟩)) rfl t1 ?_
                  go_simp
                  refine tkH (i := 11) (v := .agg #[.int .i64 j, .int .i64 g]) rfl (Or.inl ⟨by rfl, fun w' h => by have e0 := cell_call (h : Below w5.heap.size w5 w') K0.out; have e1 := cell_call (h : Below w5.heap.size w5 w') K1.out; go_simp⟩) t1 ?_
                  go_simp
                  refine tkH (i := 12) (v := .agg #[.int .i64 j, .int .i64 g]) rfl (Or.inl ⟨by rfl, fun w' h => by have e := row_call (h : Below w5.heap.size w5 w') Rw4_heap_size_6.out; have e0 := cell_row e 0; have e1 := cell_row e 1; go_simp⟩) t1 ?_
                  go_simp
                  refine tkHV (i := 13) (v := .bool false) rfl t1 ?_
                  go_simp
                  refine tkHV (i := 14) (v := .bool false) rfl t1 ?_
                  go_simp
                  refine wpAnyH_done (by kernel_rfl) ?_ _
                  have S7 := Lib.hid (show Only (Box w 2) w5 v1 from Only.of_below t1)
                  have O7 := Lib.hid (O6.out.trans S7.out)
                  have R0_7 := Lib.hid (row_call t1 R0_6.out)
                  have R1_7 := Lib.hid (row_call t1 R1_6.out)
                  have Rw2_heap_size_7 := Lib.hid (row_call t1 Rw2_heap_size_6.out)
                  have Rw4_heap_size_7 := Lib.hid (row_call t1 Rw4_heap_size_6.out)
                  have Vc_7 := Lib.hid (val_only Vc_6.out S7.out)
                  have Vg_7 := Lib.hid (val_only Vg_6.out S7.out)
                  have Vf_7 := Lib.hid (val_only Vf_6.out S7.out)
                  have Vi_7 := Lib.hid (val_only Vi_6.out S7.out)
                  have Ae_7 := Lib.hid (at_only Ae_6.out S7.out)
                  have hv := (show Below w5.heap.size w5 v1 from t1)
                  have HBV := Lib.hid (HB5.out.trans (hv.mono HB5.out.size))
                  have k2 := cell_call hv K2.out
                  have HPV2 := Lib.hid (show rPart.list.val (fun _ => True) v1 (.slice Ap e.parts.length cp) e.parts from val_keepT HPV.out hv)
                  clear hv bkn
                  obtain ⟨q0_0, z0_0, q0_1, z0_1, q0_2, z0_2, q0_3, z0_3, q0_4, z0_4⟩ := rw5 R0_7.out
                  obtain ⟨q1_0, z1_0, q1_1, z1_1, q1_2, z1_2⟩ := rw3 R1_7.out
                  obtain ⟨qn0_0, zn0_0, qn0_1, zn0_1, qn0_2, zn0_2, qn0_3, zn0_3⟩ := rw4 Rw2_heap_size_7.out
                  obtain ⟨qn1_0, zn1_0, qn1_1, zn1_1⟩ := rw2 Rw4_heap_size_7.out
                  go_wp2_with fail
                  clear k2
                  clear q0_0 z0_0 q0_1 z0_1 q0_2 z0_2 q0_3 z0_3 q0_4 z0_4 q1_0 z1_0 q1_1 z1_1 q1_2 z1_2 qn0_0 zn0_0 qn0_1 zn0_1 qn0_2 zn0_2 qn0_3 zn0_3 qn1_0 zn1_0 qn1_1 zn1_1
                  go_loopw [12, 13, 14] (fun i _ _ wz => ∃ m : Nat, i = .int .i64 m ∧ m ≤ e.parts.length ∧ Hid (firstE (partE c e.parts) m = 0) ∧ Hid (Below v1.heap.size v1 wz)) (fun i _ _ _ => e.parts.length - (intOf i).toNat)
                  case atStart => exact ⟨0, rfl, Nat.zero_le _, Lib.hid rfl, Lib.hid (Below.refl _ _)⟩
                  case round =>
                    rename World => wz
                    obtain ⟨m, rfl, hm, HKZ, HBZ⟩ := hrel
                    have HBZW := Lib.hid (HBV.out.trans (HBZ.out.mono HBV.out.size))
                    have hpk := HPP.out
                    have S8 := Lib.hid (show Only (Box w 2) v1 wz from Only.of_below HBZ.out)
                    have O8 := Lib.hid (O7.out.trans S8.out)
                    have R0_8 := Lib.hid (row_call HBZ.out R0_7.out)
                    have R1_8 := Lib.hid (row_call HBZ.out R1_7.out)
                    have Rw2_heap_size_8 := Lib.hid (row_call HBZ.out Rw2_heap_size_7.out)
                    have Rw4_heap_size_8 := Lib.hid (row_call HBZ.out Rw4_heap_size_7.out)
                    have Vc_8 := Lib.hid (val_only Vc_7.out S8.out)
                    have Vg_8 := Lib.hid (val_only Vg_7.out S8.out)
                    have Vf_8 := Lib.hid (val_only Vf_7.out S8.out)
                    have Vi_8 := Lib.hid (val_only Vi_7.out S8.out)
                    have Ae_8 := Lib.hid (at_only Ae_7.out S8.out)
                    by_cases hltm : (m : Int) < e.parts.length
                    · skip
                      obtain ⟨x, hxm⟩ : ∃ x, e.parts[m]? = some x := ⟨_, List.getElem?_eq_getElem (by omega)⟩
                      have HXM := Lib.hid hxm
                      obtain ⟨pb, po, Ad, cd, rfl, _, d0, d1, _, sd⟩ := rPart_at (sl_of (val_keepT HPV2.out HBZ.out)).2.2 hxm
                      have s1 := sd.1
                      have s2 := sd.2.1
                      unfold maxLen at s2
                      have D0 := Lib.hid d0
                      have D1 := Lib.hid d1
                      clear hxm d0 d1 sd
                      obtain ⟨q0_0, z0_0, q0_1, z0_1, q0_2, z0_2, q0_3, z0_3, q0_4, z0_4⟩ := rw5 R0_8.out
                      obtain ⟨q1_0, z1_0, q1_1, z1_1, q1_2, z1_2⟩ := rw3 R1_8.out
                      obtain ⟨qn0_0, zn0_0, qn0_1, zn0_1, qn0_2, zn0_2, qn0_3, zn0_3⟩ := rw4 Rw2_heap_size_8.out
                      obtain ⟨qn1_0, zn1_0, qn1_1, zn1_1⟩ := rw2 Rw4_heap_size_8.out
                      go_wp2_with fail
                      clear q0_0 z0_0 q0_1 z0_1 q0_2 z0_2 q0_3 z0_3 q0_4 z0_4 q1_0 z1_0 q1_1 z1_1 q1_2 z1_2 qn0_0 zn0_0 qn0_1 zn0_1 qn0_2 zn0_2 qn0_3 zn0_3 qn1_0 zn1_0 qn1_1 zn1_1
                      cases hcs : compSize c x.comp with
                      | none =>
                        have HCS := Lib.hid hcs
                        have HE := Lib.hid (rightB_no (parts_bad (List.mem_of_getElem? HEE.out) (partsE_bad HKZ.out (by rw [partE_none HXM.out hcs]; decide) (by omega))))
                        clear hcs
                        refine wp_region_held_drew (S := fun W => Below wz.heap.size wz W) (by kernel_rfl) ((Below.refl _ _).drew) (fun s0 => ?_)
                        obtain ⟨v2, hv0⟩ : ∃ V, V = wz.drew := ⟨_, rfl⟩
                        rw [← hv0] at s0 ⊢
                        have t2 : Below wz.heap.size wz v2 := s0
                        clear hv0 s0
                        refine tkH (i := 0) (v := .agg #[.int .i64 c.log, .int .i64 c.pages, .int .i64 c.entities, .int .i64 c.gens, .slice A c.comps.length cap]) rfl (Or.inl ⟨by rfl, fun w' h => by have e := row_call (h : Below wz.heap.size wz w') R0_8.out; have e0 := cell_row e 0; have e1 := cell_row e 1; have e2 := cell_row e 2; have e3 := cell_row e 3; have e4 := cell_row e 4; go_simp⟩) t2 ?_
                        go_simp
                        refine tkHV (i := 1) (v := .slice (some ⟨pb, po, none⟩) e.parts.length cp) rfl t2 ?_
                        go_simp
                        refine tkHV (i := 2) (v := .int .i64 m) rfl t2 ?_
                        go_simp
                        refine tkHV (i := 3) (v := .pointer (some ⟨pb, po + m * 2, none⟩)) rfl t2 ?_
                        go_simp
                        refine tkHV (i := 4) (v := .pointer (some ⟨pb, po + m * 2, none⟩)) rfl t2 ?_
                        go_simp
                        refine tkH (i := 5) (v := .int .i64 x.comp) rfl (Or.inl ⟨by rfl, fun w' h => by have e := cell_call (h : Below wz.heap.size wz w') D0.out; go_simp⟩) t2 ?_
                        go_simp
                        refine wpAnyH_all (rs := [6]) (by kernel_rfl) (by simp) ?_
                        intro i hi
                        obtain rfl : i = 6 := by simpa using hi
                        clear hi
                        refine wpOp_step rfl (fun K hK => ?_)
                        go_simp
                        refine (rsize_calls (k := x.comp) (val_only Vc_8.out (Only.of_below t2))).mono ?_
                        rintro e9 v3 ⟨rfl, hb⟩
                        rw [HCS.out]
                        dsimp only [Option.getD_some, Option.isSome_some, Option.getD_none, Option.isSome_none]
                        have t3 : Below wz.heap.size wz v3 := Below.trans t2 (hb.mono (Below.size t2))
                        refine hK _ _ ⟨t3, ?_⟩
                        clear hb
                        clear hK K
                        refine tkHV (i := 7) (v := .tuple #[.int .i64 0, .bool false]) rfl t3 ?_
                        go_simp
                        refine tkHV (i := 8) (v := .int .i64 0) rfl t3 ?_
                        go_simp
                        refine tkHV (i := 9) (v := .bool false) rfl t3 ?_
                        go_simp
                        refine tkHV (i := 10) (v := .int .i64 0) rfl t3 ?_
                        go_simp
                        refine tkHV (i := 11) (v := .bool false) rfl t3 ?_
                        go_simp
                        refine wpAnyH_done (by kernel_rfl) ?_ _
                        have S9 := Lib.hid (show Only (Box w 2) wz v3 from Only.of_below t3)
                        have O9 := Lib.hid (O8.out.trans S9.out)
                        have R0_9 := Lib.hid (row_call t3 R0_8.out)
                        have R1_9 := Lib.hid (row_call t3 R1_8.out)
                        have Rw2_heap_size_9 := Lib.hid (row_call t3 Rw2_heap_size_8.out)
                        have Rw4_heap_size_9 := Lib.hid (row_call t3 Rw4_heap_size_8.out)
                        have Vc_9 := Lib.hid (val_only Vc_8.out S9.out)
                        have Vg_9 := Lib.hid (val_only Vg_8.out S9.out)
                        have Vf_9 := Lib.hid (val_only Vf_8.out S9.out)
                        have Vi_9 := Lib.hid (val_only Vi_8.out S9.out)
                        have Ae_9 := Lib.hid (at_only Ae_8.out S9.out)
                        have hv := (show Below wz.heap.size wz v3 from t3)
                        have HBV8 := Lib.hid (HBZ.out.trans (hv.mono HBZ.out.size))
                        have D0' := Lib.hid (cell_call hv D0.out)
                        have D1' := Lib.hid (cell_call hv D1.out)
                        clear hv
                        obtain ⟨q0_0, z0_0, q0_1, z0_1, q0_2, z0_2, q0_3, z0_3, q0_4, z0_4⟩ := rw5 R0_9.out
                        obtain ⟨q1_0, z1_0, q1_1, z1_1, q1_2, z1_2⟩ := rw3 R1_9.out
                        obtain ⟨qn0_0, zn0_0, qn0_1, zn0_1, qn0_2, zn0_2, qn0_3, zn0_3⟩ := rw4 Rw2_heap_size_9.out
                        obtain ⟨qn1_0, zn1_0, qn1_1, zn1_1⟩ := rw2 Rw4_heap_size_9.out
                        try go_wp2_with fail
                        clear q0_0 z0_0 q0_1 z0_1 q0_2 z0_2 q0_3 z0_3 q0_4 z0_4 q1_0 z1_0 q1_1 z1_1 q1_2 z1_2 qn0_0 zn0_0 qn0_1 zn0_1 qn0_2 zn0_2 qn0_3 zn0_3 qn1_0 zn1_0 qn1_1 zn1_1
                        refine wp_region_held_drew (S := fun W => Below v3.heap.size v3 W) (by kernel_rfl) ((Below.refl _ _).drew) (fun s0 => ?_)
                        obtain ⟨v4, hv0⟩ : ∃ V, V = v3.drew := ⟨_, rfl⟩
                        rw [← hv0] at s0 ⊢
                        have t4 : Below v3.heap.size v3 v4 := s0
                        clear hv0 s0
                        refine tkHV (i := 0) (v := .bool false) rfl t4 ?_
                        go_simp
                        refine tkHV (i := 1) (v := .bool true) rfl t4 ?_
                        go_simp
                        refine tkHV (i := 2) (v := .bool true) rfl t4 ?_
                        go_simp
                        refine tkH (i := 3) (v := undef) rfl (Or.inr ⟨by rfl, rfl⟩) t4 ?_
                        go_simp
                        refine tkH (i := 4) (v := undef) rfl (Or.inr ⟨by rfl, rfl⟩) t4 ?_
                        go_simp
                        refine tkH (i := 5) (v := undef) rfl (Or.inr ⟨by rfl, rfl⟩) t4 ?_
                        go_simp
                        refine tkH (i := 6) (v := undef) rfl (Or.inr ⟨by rfl, rfl⟩) t4 ?_
                        go_simp
                        refine tkH (i := 7) (v := undef) rfl (Or.inr ⟨by rfl, rfl⟩) t4 ?_
                        go_simp
                        refine tkH (i := 8) (v := undef) rfl (Or.inr ⟨by rfl, rfl⟩) t4 ?_
                        go_simp
                        refine tkH (i := 9) (v := undef) rfl (Or.inr ⟨by rfl, rfl⟩) t4 ?_
                        go_simp
                        refine tkH (i := 10) (v := undef) rfl (Or.inr ⟨by rfl, rfl⟩) t4 ?_
                        go_simp
                        refine tkHV (i := 11) (v := .bool true) rfl t4 ?_
                        go_simp
                        refine tkHV (i := 12) (v := .bool true) rfl t4 ?_
                        go_simp
                        refine tkH (i := 13) (v := undef) rfl (Or.inr ⟨by rfl, rfl⟩) t4 ?_
                        go_simp
                        refine tkH (i := 14) (v := undef) rfl (Or.inr ⟨by rfl, rfl⟩) t4 ?_
                        go_simp
                        refine tkH (i := 15) (v := undef) rfl (Or.inr ⟨by rfl, rfl⟩) t4 ?_
                        go_simp
                        refine tkH (i := 16) (v := undef) rfl (Or.inr ⟨by rfl, rfl⟩) t4 ?_
                        go_simp
                        refine tkH (i := 17) (v := undef) rfl (Or.inr ⟨by rfl, rfl⟩) t4 ?_
                        go_simp
                        refine tkH (i := 18) (v := undef) rfl (Or.inr ⟨by rfl, rfl⟩) t4 ?_
                        go_simp
                        refine tkH (i := 19) (v := undef) rfl (Or.inr ⟨by rfl, rfl⟩) t4 ?_
                        go_simp
                        refine tkH (i := 20) (v := undef) rfl (Or.inr ⟨by rfl, rfl⟩) t4 ?_
                        go_simp
                        refine tkH (i := 21) (v := undef) rfl (Or.inr ⟨by rfl, rfl⟩) t4 ?_
                        go_simp
                        refine tkH (i := 22) (v := undef) rfl (Or.inr ⟨by rfl, rfl⟩) t4 ?_
                        go_simp
                        refine tkH (i := 23) (v := undef) rfl (Or.inr ⟨by rfl, rfl⟩) t4 ?_
                        go_simp
                        refine tkH (i := 24) (v := undef) rfl (Or.inr ⟨by rfl, rfl⟩) t4 ?_
                        go_simp
                        refine tkH (i := 25) (v := undef) rfl (Or.inr ⟨by rfl, rfl⟩) t4 ?_
                        go_simp
                        refine tkH (i := 26) (v := undef) rfl (Or.inr ⟨by rfl, rfl⟩) t4 ?_
                        go_simp
                        refine tkH (i := 27) (v := undef) rfl (Or.inr ⟨by rfl, rfl⟩) t4 ?_
                        go_simp
                        refine tkH (i := 28) (v := undef) rfl (Or.inr ⟨by rfl, rfl⟩) t4 ?_
                        go_simp
                        refine tkHV (i := 29) (v := .bool true) rfl t4 ?_
                        go_simp
                        refine wpAnyH_done (by kernel_rfl) ?_ _
                        have S10 := Lib.hid (show Only (Box w 2) v3 v4 from Only.of_below t4)
                        have O10 := Lib.hid (O9.out.trans S10.out)
                        have R0_10 := Lib.hid (row_call t4 R0_9.out)
                        have R1_10 := Lib.hid (row_call t4 R1_9.out)
                        have Rw2_heap_size_10 := Lib.hid (row_call t4 Rw2_heap_size_9.out)
                        have Rw4_heap_size_10 := Lib.hid (row_call t4 Rw4_heap_size_9.out)
                        have Vc_10 := Lib.hid (val_only Vc_9.out S10.out)
                        have Vg_10 := Lib.hid (val_only Vg_9.out S10.out)
                        have Vf_10 := Lib.hid (val_only Vf_9.out S10.out)
                        have Vi_10 := Lib.hid (val_only Vi_9.out S10.out)
                        have Ae_10 := Lib.hid (at_only Ae_9.out S10.out)
                        obtain ⟨q0_0, z0_0, q0_1, z0_1, q0_2, z0_2, q0_3, z0_3, q0_4, z0_4⟩ := rw5 R0_10.out
                        obtain ⟨q1_0, z1_0, q1_1, z1_1, q1_2, z1_2⟩ := rw3 R1_10.out
                        obtain ⟨qn0_0, zn0_0, qn0_1, zn0_1, qn0_2, zn0_2, qn0_3, zn0_3⟩ := rw4 Rw2_heap_size_10.out
                        obtain ⟨qn1_0, zn1_0, qn1_1, zn1_1⟩ := rw2 Rw4_heap_size_10.out
                        go_wp2_with fail
                        clear q0_0 z0_0 q0_1 z0_1 q0_2 z0_2 q0_3 z0_3 q0_4 z0_4 q1_0 z1_0 q1_1 z1_1 q1_2 z1_2 qn0_0 zn0_0 qn0_1 zn0_1 qn0_2 zn0_2 qn0_3 zn0_3 qn1_0 zn1_0 qn1_1 zn1_1
                        go_ret
                        exact ⟨by rw [HE.out]; try rfl, Only.fin HB0.out O10.out⟩
                      | some n =>
                        have HCS := Lib.hid hcs
                        clear hcs
                        refine wp_region_held_drew (S := fun W => Below wz.heap.size wz W) (by kernel_rfl) ((Below.refl _ _).drew) (fun s0 => ?_)
                        obtain ⟨v2, hv0⟩ : ∃ V, V = wz.drew := ⟨_, rfl⟩
                        rw [← hv0] at s0 ⊢
                        have t2 : Below wz.heap.size wz v2 := s0
                        clear hv0 s0
                        refine tkH (i := 0) (v := .agg #[.int .i64 c.log, .int .i64 c.pages, .int .i64 c.entities, .int .i64 c.gens, .slice A c.comps.length cap]) rfl (Or.inl ⟨by rfl, fun w' h => by have e := row_call (h : Below wz.heap.size wz w') R0_8.out; have e0 := cell_row e 0; have e1 := cell_row e 1; have e2 := cell_row e 2; have e3 := cell_row e 3; have e4 := cell_row e 4; go_simp⟩) t2 ?_
                        go_simp
                        refine tkHV (i := 1) (v := .slice (some ⟨pb, po, none⟩) e.parts.length cp) rfl t2 ?_
                        go_simp
                        refine tkHV (i := 2) (v := .int .i64 m) rfl t2 ?_
                        go_simp
                        refine tkHV (i := 3) (v := .pointer (some ⟨pb, po + m * 2, none⟩)) rfl t2 ?_
                        go_simp
                        refine tkHV (i := 4) (v := .pointer (some ⟨pb, po + m * 2, none⟩)) rfl t2 ?_
                        go_simp
                        refine tkH (i := 5) (v := .int .i64 x.comp) rfl (Or.inl ⟨by rfl, fun w' h => by have e := cell_call (h : Below wz.heap.size wz w') D0.out; go_simp⟩) t2 ?_
                        go_simp
                        refine wpAnyH_all (rs := [6]) (by kernel_rfl) (by simp) ?_
                        intro i hi
                        obtain rfl : i = 6 := by simpa using hi
                        clear hi
                        refine wpOp_step rfl (fun K hK => ?_)
                        go_simp
                        refine (rsize_calls (k := x.comp) (val_only Vc_8.out (Only.of_below t2))).mono ?_
                        rintro e9 v3 ⟨rfl, hb⟩
                        rw [HCS.out]
                        dsimp only [Option.getD_some, Option.isSome_some, Option.getD_none, Option.isSome_none]
                        have t3 : Below wz.heap.size wz v3 := Below.trans t2 (hb.mono (Below.size t2))
                        refine hK _ _ ⟨t3, ?_⟩
                        clear hb
                        clear hK K
                        refine tkHV (i := 7) (v := .tuple #[.int .i64 n, .bool true]) rfl t3 ?_
                        go_simp
                        refine tkHV (i := 8) (v := .int .i64 n) rfl t3 ?_
                        go_simp
                        refine tkHV (i := 9) (v := .bool true) rfl t3 ?_
                        go_simp
                        refine tkHV (i := 10) (v := .int .i64 n) rfl t3 ?_
                        go_simp
                        refine tkHV (i := 11) (v := .bool true) rfl t3 ?_
                        go_simp
                        refine wpAnyH_done (by kernel_rfl) ?_ _
                        have S9 := Lib.hid (show Only (Box w 2) wz v3 from Only.of_below t3)
                        have O9 := Lib.hid (O8.out.trans S9.out)
                        have R0_9 := Lib.hid (row_call t3 R0_8.out)
                        have R1_9 := Lib.hid (row_call t3 R1_8.out)
                        have Rw2_heap_size_9 := Lib.hid (row_call t3 Rw2_heap_size_8.out)
                        have Rw4_heap_size_9 := Lib.hid (row_call t3 Rw4_heap_size_8.out)
                        have Vc_9 := Lib.hid (val_only Vc_8.out S9.out)
                        have Vg_9 := Lib.hid (val_only Vg_8.out S9.out)
                        have Vf_9 := Lib.hid (val_only Vf_8.out S9.out)
                        have Vi_9 := Lib.hid (val_only Vi_8.out S9.out)
                        have Ae_9 := Lib.hid (at_only Ae_8.out S9.out)
                        have hv := (show Below wz.heap.size wz v3 from t3)
                        have HBV8 := Lib.hid (HBZ.out.trans (hv.mono HBZ.out.size))
                        have D0' := Lib.hid (cell_call hv D0.out)
                        have D1' := Lib.hid (cell_call hv D1.out)
                        clear hv
                        obtain ⟨q0_0, z0_0, q0_1, z0_1, q0_2, z0_2, q0_3, z0_3, q0_4, z0_4⟩ := rw5 R0_9.out
                        obtain ⟨q1_0, z1_0, q1_1, z1_1, q1_2, z1_2⟩ := rw3 R1_9.out
                        obtain ⟨qn0_0, zn0_0, qn0_1, zn0_1, qn0_2, zn0_2, qn0_3, zn0_3⟩ := rw4 Rw2_heap_size_9.out
                        obtain ⟨qn1_0, zn1_0, qn1_1, zn1_1⟩ := rw2 Rw4_heap_size_9.out
                        try go_wp2_with fail
                        clear q0_0 z0_0 q0_1 z0_1 q0_2 z0_2 q0_3 z0_3 q0_4 z0_4 q1_0 z1_0 q1_1 z1_1 q1_2 z1_2 qn0_0 zn0_0 qn0_1 zn0_1 qn0_2 zn0_2 qn0_3 zn0_3 qn1_0 zn1_0 qn1_1 zn1_1
                        by_cases hnl : n = (x.data.length : Int)
                        · skip
                          subst hnl
                          rcases m with _ | mp
                          · skip
                            have hne0 : ¬ e.parts.length = 0 := by omega
                            have HOK := Lib.hid (show firstE (partE c e.parts) (0 + 1) = 0 by rw [firstE_next HKZ.out]; exact partE_ok HXM.out HCS.out (fun h => absurd h.1 (by decide)))
                            refine wp_region_held_drew (S := fun W => Below v3.heap.size v3 W) (by kernel_rfl) ((Below.refl _ _).drew) (fun s0 => ?_)
                            obtain ⟨v4, hv0⟩ : ∃ V, V = v3.drew := ⟨_, rfl⟩
                            rw [← hv0] at s0 ⊢
                            have t4 : Below v3.heap.size v3 v4 := s0
                            clear hv0 s0
                            refine tkHV (i := 0) (v := .bool true) rfl t4 ?_
                            go_simp
                            refine tkHV (i := 1) (v := .bool false) rfl t4 ?_
                            go_simp
                            refine tkHV (i := 2) (v := .bool false) rfl t4 ?_
                            go_simp
                            refine tkHV (i := 3) (v := .int .i64 x.data.length) rfl t4 ?_
                            go_simp
                            refine tkHV (i := 4) (v := .slice (some ⟨pb, po, none⟩) e.parts.length cp) rfl t4 ?_
                            go_simp
                            refine tkHV (i := 5) (v := .int .i64 0) rfl t4 ?_
                            go_simp
                            refine tkHV (i := 6) (v := .pointer (some ⟨pb, po, none⟩)) rfl t4 ?_
                            go_simp
                            refine tkHV (i := 7) (v := .pointer (some ⟨pb, po + 1, none⟩)) rfl t4 ?_
                            go_simp
                            refine tkH (i := 8) (v := .slice Ad x.data.length cd) rfl (Or.inl ⟨by rfl, fun w' h => by have e := cell_call (h : Below v3.heap.size v3 w') D1'.out; rw [Nat.zero_mul, Nat.add_zero] at e; go_simp⟩) t4 ?_
                            go_simp
                            refine tkHV (i := 9) (v := .int .i64 x.data.length) rfl t4 ?_
                            go_simp
                            refine tkHV (i := 10) (v := .bool false) rfl t4 ?_
                            go_simp
                            refine tkHV (i := 11) (v := .bool false) rfl t4 ?_
                            go_simp
                            refine tkHV (i := 12) (v := .bool false) rfl t4 ?_
                            go_simp
                            refine tkHV (i := 13) (v := .int .i64 0) rfl t4 ?_
                            go_simp
                            refine tkHV (i := 14) (v := .bool false) rfl t4 ?_
                            go_simp
                            refine tkHV (i := 15) (v := .bool false) rfl t4 ?_
                            go_simp
                            refine tkH (i := 16) (v := undef) rfl (Or.inr ⟨by rfl, rfl⟩) t4 ?_
                            go_simp
                            refine tkH (i := 17) (v := undef) rfl (Or.inr ⟨by rfl, rfl⟩) t4 ?_
                            go_simp
                            refine tkH (i := 18) (v := undef) rfl (Or.inr ⟨by rfl, rfl⟩) t4 ?_
                            go_simp
                            refine tkH (i := 19) (v := undef) rfl (Or.inr ⟨by rfl, rfl⟩) t4 ?_
                            go_simp
                            refine tkH (i := 20) (v := undef) rfl (Or.inr ⟨by rfl, rfl⟩) t4 ?_
                            go_simp
                            refine tkH (i := 21) (v := undef) rfl (Or.inr ⟨by rfl, rfl⟩) t4 ?_
                            go_simp
                            refine tkH (i := 22) (v := undef) rfl (Or.inr ⟨by rfl, rfl⟩) t4 ?_
                            go_simp
                            refine tkH (i := 23) (v := undef) rfl (Or.inr ⟨by rfl, rfl⟩) t4 ?_
                            go_simp
                            refine tkH (i := 24) (v := undef) rfl (Or.inr ⟨by rfl, rfl⟩) t4 ?_
                            go_simp
                            refine tkH (i := 25) (v := undef) rfl (Or.inr ⟨by rfl, rfl⟩) t4 ?_
                            go_simp
                            refine tkH (i := 26) (v := undef) rfl (Or.inr ⟨by rfl, rfl⟩) t4 ?_
                            go_simp
                            refine tkH (i := 27) (v := undef) rfl (Or.inr ⟨by rfl, rfl⟩) t4 ?_
                            go_simp
                            refine tkHV (i := 28) (v := .bool false) rfl t4 ?_
                            go_simp
                            refine tkHV (i := 29) (v := .bool false) rfl t4 ?_
                            go_simp
                            refine wpAnyH_done (by kernel_rfl) ?_ _
                            have S10 := Lib.hid (show Only (Box w 2) v3 v4 from Only.of_below t4)
                            have O10 := Lib.hid (O9.out.trans S10.out)
                            have R0_10 := Lib.hid (row_call t4 R0_9.out)
                            have R1_10 := Lib.hid (row_call t4 R1_9.out)
                            have Rw2_heap_size_10 := Lib.hid (row_call t4 Rw2_heap_size_9.out)
                            have Rw4_heap_size_10 := Lib.hid (row_call t4 Rw4_heap_size_9.out)
                            have Vc_10 := Lib.hid (val_only Vc_9.out S10.out)
                            have Vg_10 := Lib.hid (val_only Vg_9.out S10.out)
                            have Vf_10 := Lib.hid (val_only Vf_9.out S10.out)
                            have Vi_10 := Lib.hid (val_only Vi_9.out S10.out)
                            have Ae_10 := Lib.hid (at_only Ae_9.out S10.out)
                            have hv9 := (show Below v3.heap.size v3 v4 from t4)
                            have HBV9 := Lib.hid (HBV8.out.trans (hv9.mono HBV8.out.size))
                            clear hv9
                            have iw2 : IntKind.i64.wrap ((0 : Int) + 1) = (0 : Int) + 1 := IntWalk.i64_in _ ⟨by omega, by omega⟩
                            obtain ⟨q0_0, z0_0, q0_1, z0_1, q0_2, z0_2, q0_3, z0_3, q0_4, z0_4⟩ := rw5 R0_10.out
                            obtain ⟨q1_0, z1_0, q1_1, z1_1, q1_2, z1_2⟩ := rw3 R1_10.out
                            obtain ⟨qn0_0, zn0_0, qn0_1, zn0_1, qn0_2, zn0_2, qn0_3, zn0_3⟩ := rw4 Rw2_heap_size_10.out
                            obtain ⟨qn1_0, zn1_0, qn1_1, zn1_1⟩ := rw2 Rw4_heap_size_10.out
                            go_wp2_with fail
                            exact ⟨⟨0 + 1, by go_num, by omega, HOK, HBV9⟩, by simp [intOf]; omega⟩
                          · skip
                            obtain ⟨y, hym⟩ : ∃ y, e.parts[mp]? = some y := ⟨_, List.getElem?_eq_getElem (by omega)⟩
                            have HPC := Lib.hid (prev_comp hym)
                            obtain ⟨pb2, po2, _, _, hpp, _, d2, _, _, _⟩ := rPart_at (sl_of (val_keepT HPV2.out HBV8.out)).2.2 hym
                            obtain ⟨rfl, rfl⟩ : pb = pb2 ∧ po = po2 := by injection hpp with h; injection h with h1 h2; exact ⟨h1, h2⟩
                            have D2 := Lib.hid d2
                            have iw : IntKind.i64.wrap ((mp : Int) + 1 - 1) = (mp : Int) := by rw [show (mp : Int) + 1 - 1 = (mp : Int) by omega]; exact IntWalk.i64_in _ ⟨by omega, by omega⟩
                            have iw3 : IntKind.i64.wrap (mp : Int) = (mp : Int) := IntWalk.i64_in _ ⟨by omega, by omega⟩
                            have hmp1 : (mp : Int) + 1 < e.parts.length := by omega
                            have hmp2 : (mp : Int) < e.parts.length := by omega
                            clear hym hpp d2
                            by_cases hyx : x.comp ≤ y.comp
                            · skip
                              have HE := Lib.hid (rightB_no (parts_bad (List.mem_of_getElem? HEE.out) (partsE_bad HKZ.out (partE_bad HXM.out (.inr ⟨by omega, by rw [HPC.out]; exact hyx⟩)) (by omega))))
                              refine wp_region_held_drew (S := fun W => Below v3.heap.size v3 W) (by kernel_rfl) ((Below.refl _ _).drew) (fun s0 => ?_)
                              obtain ⟨v4, hv0⟩ : ∃ V, V = v3.drew := ⟨_, rfl⟩
                              rw [← hv0] at s0 ⊢
                              have t4 : Below v3.heap.size v3 v4 := s0
                              clear hv0 s0
                              refine tkHV (i := 0) (v := .bool true) rfl t4 ?_
                              go_simp
                              refine tkHV (i := 1) (v := .bool false) rfl t4 ?_
                              go_simp
                              refine tkHV (i := 2) (v := .bool false) rfl t4 ?_
                              go_simp
                              refine tkHV (i := 3) (v := .int .i64 x.data.length) rfl t4 ?_
                              go_simp
                              refine tkHV (i := 4) (v := .slice (some ⟨pb, po, none⟩) e.parts.length cp) rfl t4 ?_
                              go_simp
                              refine tkHV (i := 5) (v := .int .i64 (mp + 1)) rfl t4 ?_
                              go_simp
                              refine tkHV (i := 6) (v := .pointer (some ⟨pb, po + (mp + 1) * 2, none⟩)) rfl t4 ?_
                              go_simp
                              refine tkHV (i := 7) (v := .pointer (some ⟨pb, po + (mp + 1) * 2 + 1, none⟩)) rfl t4 ?_
                              go_simp
                              refine tkH (i := 8) (v := .slice Ad x.data.length cd) rfl (Or.inl ⟨by rfl, fun w' h => by have e := cell_call (h : Below v3.heap.size v3 w') D1'.out; go_simp⟩) t4 ?_
                              go_simp
                              refine tkHV (i := 9) (v := .int .i64 x.data.length) rfl t4 ?_
                              go_simp
                              refine tkHV (i := 10) (v := .bool false) rfl t4 ?_
                              go_simp
                              refine tkHV (i := 11) (v := .bool false) rfl t4 ?_
                              go_simp
                              refine tkHV (i := 12) (v := .bool false) rfl t4 ?_
                              go_simp
                              refine tkHV (i := 13) (v := .int .i64 (mp + 1)) rfl t4 ?_
                              go_simp
                              refine tkHV (i := 14) (v := .bool true) rfl t4 ?_
                              go_simp
                              refine tkHV (i := 15) (v := .bool true) rfl t4 ?_
                              go_simp
                              refine tkHV (i := 16) (v := .slice (some ⟨pb, po, none⟩) e.parts.length cp) rfl t4 ?_
                              go_simp
                              refine tkHV (i := 17) (v := .int .i64 (mp + 1)) rfl t4 ?_
                              go_simp
                              refine tkHV (i := 18) (v := .pointer (some ⟨pb, po + (mp + 1) * 2, none⟩)) rfl t4 ?_
                              go_simp
                              refine tkHV (i := 19) (v := .pointer (some ⟨pb, po + (mp + 1) * 2, none⟩)) rfl t4 ?_
                              go_simp
                              refine tkH (i := 20) (v := .int .i64 x.comp) rfl (Or.inl ⟨by rfl, fun w' h => by have e := cell_call (h : Below v3.heap.size v3 w') D0'.out; go_simp⟩) t4 ?_
                              go_simp
                              refine tkHV (i := 21) (v := .slice (some ⟨pb, po, none⟩) e.parts.length cp) rfl t4 ?_
                              go_simp
                              refine tkHV (i := 22) (v := .int .i64 (mp + 1)) rfl t4 ?_
                              go_simp
                              refine tkHV (i := 23) (v := .int .i64 mp) rfl t4 ?_
                              go_simp
                              refine tkHV (i := 24) (v := .pointer (some ⟨pb, po + mp * 2, none⟩)) rfl t4 ?_
                              go_simp
                              refine tkHV (i := 25) (v := .pointer (some ⟨pb, po + mp * 2, none⟩)) rfl t4 ?_
                              go_simp
                              refine tkH (i := 26) (v := .int .i64 y.comp) rfl (Or.inl ⟨by rfl, fun w' h => by have e := cell_call (h : Below v3.heap.size v3 w') D2.out; go_simp⟩) t4 ?_
                              go_simp
                              refine tkHV (i := 27) (v := .bool true) rfl t4 ?_
                              go_simp
                              refine tkHV (i := 28) (v := .bool true) rfl t4 ?_
                              go_simp
                              refine tkHV (i := 29) (v := .bool true) rfl t4 ?_
                              go_simp
                              refine wpAnyH_done (by kernel_rfl) ?_ _
                              have S10 := Lib.hid (show Only (Box w 2) v3 v4 from Only.of_below t4)
                              have O10 := Lib.hid (O9.out.trans S10.out)
                              have R0_10 := Lib.hid (row_call t4 R0_9.out)
                              have R1_10 := Lib.hid (row_call t4 R1_9.out)
                              have Rw2_heap_size_10 := Lib.hid (row_call t4 Rw2_heap_size_9.out)
                              have Rw4_heap_size_10 := Lib.hid (row_call t4 Rw4_heap_size_9.out)
                              have Vc_10 := Lib.hid (val_only Vc_9.out S10.out)
                              have Vg_10 := Lib.hid (val_only Vg_9.out S10.out)
                              have Vf_10 := Lib.hid (val_only Vf_9.out S10.out)
                              have Vi_10 := Lib.hid (val_only Vi_9.out S10.out)
                              have Ae_10 := Lib.hid (at_only Ae_9.out S10.out)
                              obtain ⟨q0_0, z0_0, q0_1, z0_1, q0_2, z0_2, q0_3, z0_3, q0_4, z0_4⟩ := rw5 R0_10.out
                              obtain ⟨q1_0, z1_0, q1_1, z1_1, q1_2, z1_2⟩ := rw3 R1_10.out
                              obtain ⟨qn0_0, zn0_0, qn0_1, zn0_1, qn0_2, zn0_2, qn0_3, zn0_3⟩ := rw4 Rw2_heap_size_10.out
                              obtain ⟨qn1_0, zn1_0, qn1_1, zn1_1⟩ := rw2 Rw4_heap_size_10.out
                              go_wp2_with fail
                              clear q0_0 z0_0 q0_1 z0_1 q0_2 z0_2 q0_3 z0_3 q0_4 z0_4 q1_0 z1_0 q1_1 z1_1 q1_2 z1_2 qn0_0 zn0_0 qn0_1 zn0_1 qn0_2 zn0_2 qn0_3 zn0_3 qn1_0 zn1_0 qn1_1 zn1_1
                              go_ret
                              exact ⟨by rw [HE.out]; try rfl, Only.fin HB0.out O10.out⟩
                            · skip
                              have HOK := Lib.hid (show firstE (partE c e.parts) (mp + 1 + 1) = 0 by rw [firstE_next HKZ.out]; exact partE_ok HXM.out HCS.out (fun h => by have := h.2; rw [HPC.out] at this; omega))
                              refine wp_region_held_drew (S := fun W => Below v3.heap.size v3 W) (by kernel_rfl) ((Below.refl _ _).drew) (fun s0 => ?_)
                              obtain ⟨v4, hv0⟩ : ∃ V, V = v3.drew := ⟨_, rfl⟩
                              rw [← hv0] at s0 ⊢
                              have t4 : Below v3.heap.size v3 v4 := s0
                              clear hv0 s0
                              refine tkHV (i := 0) (v := .bool true) rfl t4 ?_
                              go_simp
                              refine tkHV (i := 1) (v := .bool false) rfl t4 ?_
                              go_simp
                              refine tkHV (i := 2) (v := .bool false) rfl t4 ?_
                              go_simp
                              refine tkHV (i := 3) (v := .int .i64 x.data.length) rfl t4 ?_
                              go_simp
                              refine tkHV (i := 4) (v := .slice (some ⟨pb, po, none⟩) e.parts.length cp) rfl t4 ?_
                              go_simp
                              refine tkHV (i := 5) (v := .int .i64 (mp + 1)) rfl t4 ?_
                              go_simp
                              refine tkHV (i := 6) (v := .pointer (some ⟨pb, po + (mp + 1) * 2, none⟩)) rfl t4 ?_
                              go_simp
                              refine tkHV (i := 7) (v := .pointer (some ⟨pb, po + (mp + 1) * 2 + 1, none⟩)) rfl t4 ?_
                              go_simp
                              refine tkH (i := 8) (v := .slice Ad x.data.length cd) rfl (Or.inl ⟨by rfl, fun w' h => by have e := cell_call (h : Below v3.heap.size v3 w') D1'.out; go_simp⟩) t4 ?_
                              go_simp
                              refine tkHV (i := 9) (v := .int .i64 x.data.length) rfl t4 ?_
                              go_simp
                              refine tkHV (i := 10) (v := .bool false) rfl t4 ?_
                              go_simp
                              refine tkHV (i := 11) (v := .bool false) rfl t4 ?_
                              go_simp
                              refine tkHV (i := 12) (v := .bool false) rfl t4 ?_
                              go_simp
                              refine tkHV (i := 13) (v := .int .i64 (mp + 1)) rfl t4 ?_
                              go_simp
                              refine tkHV (i := 14) (v := .bool true) rfl t4 ?_
                              go_simp
                              refine tkHV (i := 15) (v := .bool true) rfl t4 ?_
                              go_simp
                              refine tkHV (i := 16) (v := .slice (some ⟨pb, po, none⟩) e.parts.length cp) rfl t4 ?_
                              go_simp
                              refine tkHV (i := 17) (v := .int .i64 (mp + 1)) rfl t4 ?_
                              go_simp
                              refine tkHV (i := 18) (v := .pointer (some ⟨pb, po + (mp + 1) * 2, none⟩)) rfl t4 ?_
                              go_simp
                              refine tkHV (i := 19) (v := .pointer (some ⟨pb, po + (mp + 1) * 2, none⟩)) rfl t4 ?_
                              go_simp
                              refine tkH (i := 20) (v := .int .i64 x.comp) rfl (Or.inl ⟨by rfl, fun w' h => by have e := cell_call (h : Below v3.heap.size v3 w') D0'.out; go_simp⟩) t4 ?_
                              go_simp
                              refine tkHV (i := 21) (v := .slice (some ⟨pb, po, none⟩) e.parts.length cp) rfl t4 ?_
                              go_simp
                              refine tkHV (i := 22) (v := .int .i64 (mp + 1)) rfl t4 ?_
                              go_simp
                              refine tkHV (i := 23) (v := .int .i64 mp) rfl t4 ?_
                              go_simp
                              refine tkHV (i := 24) (v := .pointer (some ⟨pb, po + mp * 2, none⟩)) rfl t4 ?_
                              go_simp
                              refine tkHV (i := 25) (v := .pointer (some ⟨pb, po + mp * 2, none⟩)) rfl t4 ?_
                              go_simp
                              refine tkH (i := 26) (v := .int .i64 y.comp) rfl (Or.inl ⟨by rfl, fun w' h => by have e := cell_call (h : Below v3.heap.size v3 w') D2.out; go_simp⟩) t4 ?_
                              go_simp
                              refine tkHV (i := 27) (v := .bool false) rfl t4 ?_
                              go_simp
                              refine tkHV (i := 28) (v := .bool false) rfl t4 ?_
                              go_simp
                              refine tkHV (i := 29) (v := .bool false) rfl t4 ?_
                              go_simp
                              refine wpAnyH_done (by kernel_rfl) ?_ _
                              have S10 := Lib.hid (show Only (Box w 2) v3 v4 from Only.of_below t4)
                              have O10 := Lib.hid (O9.out.trans S10.out)
                              have R0_10 := Lib.hid (row_call t4 R0_9.out)
                              have R1_10 := Lib.hid (row_call t4 R1_9.out)
                              have Rw2_heap_size_10 := Lib.hid (row_call t4 Rw2_heap_size_9.out)
                              have Rw4_heap_size_10 := Lib.hid (row_call t4 Rw4_heap_size_9.out)
                              have Vc_10 := Lib.hid (val_only Vc_9.out S10.out)
                              have Vg_10 := Lib.hid (val_only Vg_9.out S10.out)
                              have Vf_10 := Lib.hid (val_only Vf_9.out S10.out)
                              have Vi_10 := Lib.hid (val_only Vi_9.out S10.out)
                              have Ae_10 := Lib.hid (at_only Ae_9.out S10.out)
                              have hv9 := (show Below v3.heap.size v3 v4 from t4)
                              have HBV9 := Lib.hid (HBV8.out.trans (hv9.mono HBV8.out.size))
                              clear hv9
                              have iw2 : IntKind.i64.wrap (((mp : Int) + 1) + 1) = ((mp : Int) + 1) + 1 := IntWalk.i64_in _ ⟨by omega, by omega⟩
                              obtain ⟨q0_0, z0_0, q0_1, z0_1, q0_2, z0_2, q0_3, z0_3, q0_4, z0_4⟩ := rw5 R0_10.out
                              obtain ⟨q1_0, z1_0, q1_1, z1_1, q1_2, z1_2⟩ := rw3 R1_10.out
                              obtain ⟨qn0_0, zn0_0, qn0_1, zn0_1, qn0_2, zn0_2, qn0_3, zn0_3⟩ := rw4 Rw2_heap_size_10.out
                              obtain ⟨qn1_0, zn1_0, qn1_1, zn1_1⟩ := rw2 Rw4_heap_size_10.out
                              go_wp2_with fail
                              exact ⟨⟨mp + 1 + 1, by go_num, by omega, HOK, HBV9⟩, by simp [intOf]; omega⟩
                        · skip
                          have HE := Lib.hid (rightB_no (parts_bad (List.mem_of_getElem? HEE.out) (partsE_bad HKZ.out (partE_bad HXM.out (.inl (fun h => hnl (by rw [HCS.out] at h; exact Option.some.inj h)))) (by omega))))
                          have bnl : (n != (x.data.length : Int)) = true := by simp [hnl]
                          refine wp_region_held_drew (S := fun W => Below v3.heap.size v3 W) (by kernel_rfl) ((Below.refl _ _).drew) (fun s0 => ?_)
                          obtain ⟨v4, hv0⟩ : ∃ V, V = v3.drew := ⟨_, rfl⟩
                          rw [← hv0] at s0 ⊢
                          have t4 : Below v3.heap.size v3 v4 := s0
                          clear hv0 s0
                          refine tkHV (i := 0) (v := .bool true) rfl t4 ?_
                          go_simp
                          refine tkHV (i := 1) (v := .bool false) rfl t4 ?_
                          go_simp
                          refine tkHV (i := 2) (v := .bool false) rfl t4 ?_
                          go_simp
                          refine tkHV (i := 3) (v := .int .i64 n) rfl t4 ?_
                          go_simp
                          refine tkHV (i := 4) (v := .slice (some ⟨pb, po, none⟩) e.parts.length cp) rfl t4 ?_
                          go_simp
                          refine tkHV (i := 5) (v := .int .i64 m) rfl t4 ?_
                          go_simp
                          refine tkHV (i := 6) (v := .pointer (some ⟨pb, po + m * 2, none⟩)) rfl t4 ?_
                          go_simp
                          refine tkHV (i := 7) (v := .pointer (some ⟨pb, po + m * 2 + 1, none⟩)) rfl t4 ?_
                          go_simp
                          refine tkH (i := 8) (v := .slice Ad x.data.length cd) rfl (Or.inl ⟨by rfl, fun w' h => by have e := cell_call (h : Below v3.heap.size v3 w') D1'.out; go_simp⟩) t4 ?_
                          go_simp
                          refine tkHV (i := 9) (v := .int .i64 x.data.length) rfl t4 ?_
                          go_simp
                          refine tkHV (i := 10) (v := .bool true) rfl t4 ?_
                          go_simp
                          refine tkHV (i := 11) (v := .bool true) rfl t4 ?_
                          go_simp
                          refine tkHV (i := 12) (v := .bool true) rfl t4 ?_
                          go_simp
                          refine tkH (i := 13) (v := undef) rfl (Or.inr ⟨by rfl, rfl⟩) t4 ?_
                          go_simp
                          refine tkH (i := 14) (v := undef) rfl (Or.inr ⟨by rfl, rfl⟩) t4 ?_
                          go_simp
                          refine tkH (i := 15) (v := undef) rfl (Or.inr ⟨by rfl, rfl⟩) t4 ?_
                          go_simp
                          refine tkH (i := 16) (v := undef) rfl (Or.inr ⟨by rfl, rfl⟩) t4 ?_
                          go_simp
                          refine tkH (i := 17) (v := undef) rfl (Or.inr ⟨by rfl, rfl⟩) t4 ?_
                          go_simp
                          refine tkH (i := 18) (v := undef) rfl (Or.inr ⟨by rfl, rfl⟩) t4 ?_
                          go_simp
                          refine tkH (i := 19) (v := undef) rfl (Or.inr ⟨by rfl, rfl⟩) t4 ?_
                          go_simp
                          refine tkH (i := 20) (v := undef) rfl (Or.inr ⟨by rfl, rfl⟩) t4 ?_
                          go_simp
                          refine tkH (i := 21) (v := undef) rfl (Or.inr ⟨by rfl, rfl⟩) t4 ?_
                          go_simp
                          refine tkH (i := 22) (v := undef) rfl (Or.inr ⟨by rfl, rfl⟩) t4 ?_
                          go_simp
                          refine tkH (i := 23) (v := undef) rfl (Or.inr ⟨by rfl, rfl⟩) t4 ?_
                          go_simp
                          refine tkH (i := 24) (v := undef) rfl (Or.inr ⟨by rfl, rfl⟩) t4 ?_
                          go_simp
                          refine tkH (i := 25) (v := undef) rfl (Or.inr ⟨by rfl, rfl⟩) t4 ?_
                          go_simp
                          refine tkH (i := 26) (v := undef) rfl (Or.inr ⟨by rfl, rfl⟩) t4 ?_
                          go_simp
                          refine tkH (i := 27) (v := undef) rfl (Or.inr ⟨by rfl, rfl⟩) t4 ?_
                          go_simp
                          refine tkH (i := 28) (v := undef) rfl (Or.inr ⟨by rfl, rfl⟩) t4 ?_
                          go_simp
                          refine tkHV (i := 29) (v := .bool true) rfl t4 ?_
                          go_simp
                          refine wpAnyH_done (by kernel_rfl) ?_ _
                          have S10 := Lib.hid (show Only (Box w 2) v3 v4 from Only.of_below t4)
                          have O10 := Lib.hid (O9.out.trans S10.out)
                          have R0_10 := Lib.hid (row_call t4 R0_9.out)
                          have R1_10 := Lib.hid (row_call t4 R1_9.out)
                          have Rw2_heap_size_10 := Lib.hid (row_call t4 Rw2_heap_size_9.out)
                          have Rw4_heap_size_10 := Lib.hid (row_call t4 Rw4_heap_size_9.out)
                          have Vc_10 := Lib.hid (val_only Vc_9.out S10.out)
                          have Vg_10 := Lib.hid (val_only Vg_9.out S10.out)
                          have Vf_10 := Lib.hid (val_only Vf_9.out S10.out)
                          have Vi_10 := Lib.hid (val_only Vi_9.out S10.out)
                          have Ae_10 := Lib.hid (at_only Ae_9.out S10.out)
                          obtain ⟨q0_0, z0_0, q0_1, z0_1, q0_2, z0_2, q0_3, z0_3, q0_4, z0_4⟩ := rw5 R0_10.out
                          obtain ⟨q1_0, z1_0, q1_1, z1_1, q1_2, z1_2⟩ := rw3 R1_10.out
                          obtain ⟨qn0_0, zn0_0, qn0_1, zn0_1, qn0_2, zn0_2, qn0_3, zn0_3⟩ := rw4 Rw2_heap_size_10.out
                          obtain ⟨qn1_0, zn1_0, qn1_1, zn1_1⟩ := rw2 Rw4_heap_size_10.out
                          go_wp2_with fail
                          clear q0_0 z0_0 q0_1 z0_1 q0_2 z0_2 q0_3 z0_3 q0_4 z0_4 q1_0 z1_0 q1_1 z1_1 q1_2 z1_2 qn0_0 zn0_0 qn0_1 zn0_1 qn0_2 zn0_2 qn0_3 zn0_3 qn1_0 zn1_0 qn1_1 zn1_1
                          go_ret
                          exact ⟨by rw [HE.out]; try rfl, Only.fin HB0.out O10.out⟩
                    · obtain rfl : m = e.parts.length := by omega
                      have HSX := Lib.hid (show Seen12 c s (j + 1) (k + 1) from HSN.out.next HAL.out HEE.out HID.out HKZ.out)
                      have hgl := HGL.out
                      have iw : IntKind.i64.wrap ((j : Int) + 1) = (j : Int) + 1 := IntWalk.i64_in _ ⟨by omega, by omega⟩
                      have iw2 : IntKind.i64.wrap ((k : Int) + 1) = (k : Int) + 1 := IntWalk.i64_in _ ⟨by omega, by omega⟩
                      obtain ⟨q0_0, z0_0, q0_1, z0_1, q0_2, z0_2, q0_3, z0_3, q0_4, z0_4⟩ := rw5 R0_8.out
                      obtain ⟨q1_0, z1_0, q1_1, z1_1, q1_2, z1_2⟩ := rw3 R1_8.out
                      obtain ⟨qn0_0, zn0_0, qn0_1, zn0_1, qn0_2, zn0_2, qn0_3, zn0_3⟩ := rw4 Rw2_heap_size_8.out
                      obtain ⟨qn1_0, zn1_0, qn1_1, zn1_1⟩ := rw2 Rw4_heap_size_8.out
                      go_wp2_with fail
                      clear q0_0 z0_0 q0_1 z0_1 q0_2 z0_2 q0_3 z0_3 q0_4 z0_4 q1_0 z1_0 q1_1 z1_1 q1_2 z1_2 qn0_0 zn0_0 qn0_1 zn0_1 qn0_2 zn0_2 qn0_3 zn0_3 qn1_0 zn1_0 qn1_1 zn1_1
                      exact ⟨⟨j + 1, k + 1, by go_num, by go_num, by omega, HSX, HBZW⟩, by simp [intOf]; omega⟩
                · skip
                  have HE := Lib.hid (rightB_no (HSN.out.other HAL.out (by omega) HEE.out hid))
                  rw [HG9.out] at hid
                  have bid : ¬ (e.id.index = (j : Int) ∧ e.id.gen = g) := fun h => hid (by cases he : e.id; rw [he] at h; dsimp only at h; rw [h.1, h.2])
                  clear hid
                  refine wp_region_held_drew (S := fun W => Below w5.heap.size w5 W) (by kernel_rfl) ((Below.refl _ _).drew) (fun s0 => ?_)
                  obtain ⟨v1, hv0⟩ : ∃ V, V = w5.drew := ⟨_, rfl⟩
                  rw [← hv0] at s0 ⊢
                  have t1 : Below w5.heap.size w5 v1 := s0
                  clear hv0 s0
                  refine tkHV (i := 0) (v := .int .i64 k) rfl t1 ?_
                  go_simp
                  refine tkHV (i := 1) (v := .pointer (some ⟨w.heap.size + 1, 2, none⟩)) rfl t1 ?_
                  go_simp
                  refine tkH (i := 2) (v := .slice (some ⟨eb, eo, none⟩) s.ents.length c3) rfl (Or.inl ⟨by rfl, fun w' h => by have e := row_call (h : Below w5.heap.size w5 w') R1_6.out; have e0 := cell_row e 0; have e1 := cell_row e 1; have e2 := cell_row e 2; go_simp⟩) t1 ?_
                  go_simp
                  refine tkHV (i := 3) (v := .int .i64 s.ents.length) rfl t1 ?_
                  go_simp
                  refine tkHV (i := 4) (v := .bool false) rfl t1 ?_
                  go_simp
                  refine tkHV (i := 5) (v := .bool false) rfl t1 ?_
                  go_simp
                  refine tkHV (i := 6) (v := .pointer (some ⟨w.heap.size + 1, 2, none⟩)) rfl t1 ?_
                  go_simp
                  refine tkH (i := 7) (v := .slice (some ⟨eb, eo, none⟩) s.ents.length c3) rfl (Or.inl ⟨by rfl, fun w' h => by have e := row_call (h : Below w5.heap.size w5 w') R1_6.out; have e0 := cell_row e 0; have e1 := cell_row e 1; have e2 := cell_row e 2; go_simp⟩) t1 ?_
                  go_simp
                  refine tkHV (i := 8) (v := .int .i64 k) rfl t1 ?_
                  go_simp
                  refine tkHV (i := 9) (v := .pointer (some ⟨eb, eo + k * 3, none⟩)) rfl t1 ?_
                  go_simp
                  refine tkHV (i := 10) (v := .pointer (some ⟨eb, eo + k * 3, none⟩)) rfl t1 ?_
                  go_simp
                  refine tkH (i := 11) (v := .agg #[.int .i64 e.id.index, .int .i64 e.id.gen]) rfl (Or.inl ⟨by rfl, fun w' h => by have e0 := cell_call (h : Below w5.heap.size w5 w') K0.out; have e1 := cell_call (h : Below w5.heap.size w5 w') K1.out; go_simp⟩) t1 ?_
                  go_simp
                  refine tkH (i := 12) (v := .agg #[.int .i64 j, .int .i64 g]) rfl (Or.inl ⟨by rfl, fun w' h => by have e := row_call (h : Below w5.heap.size w5 w') Rw4_heap_size_6.out; have e0 := cell_row e 0; have e1 := cell_row e 1; go_simp⟩) t1 ?_
                  go_simp
                  refine tkHV (i := 13) (v := .bool true) rfl t1 ?_
                  go_simp
                  refine tkHV (i := 14) (v := .bool true) rfl t1 ?_
                  go_simp
                  refine wpAnyH_done (by kernel_rfl) ?_ _
                  have S7 := Lib.hid (show Only (Box w 2) w5 v1 from Only.of_below t1)
                  have O7 := Lib.hid (O6.out.trans S7.out)
                  have R0_7 := Lib.hid (row_call t1 R0_6.out)
                  have R1_7 := Lib.hid (row_call t1 R1_6.out)
                  have Rw2_heap_size_7 := Lib.hid (row_call t1 Rw2_heap_size_6.out)
                  have Rw4_heap_size_7 := Lib.hid (row_call t1 Rw4_heap_size_6.out)
                  have Vc_7 := Lib.hid (val_only Vc_6.out S7.out)
                  have Vg_7 := Lib.hid (val_only Vg_6.out S7.out)
                  have Vf_7 := Lib.hid (val_only Vf_6.out S7.out)
                  have Vi_7 := Lib.hid (val_only Vi_6.out S7.out)
                  have Ae_7 := Lib.hid (at_only Ae_6.out S7.out)
                  obtain ⟨q0_0, z0_0, q0_1, z0_1, q0_2, z0_2, q0_3, z0_3, q0_4, z0_4⟩ := rw5 R0_7.out
                  obtain ⟨q1_0, z1_0, q1_1, z1_1, q1_2, z1_2⟩ := rw3 R1_7.out
                  obtain ⟨qn0_0, zn0_0, qn0_1, zn0_1, qn0_2, zn0_2, qn0_3, zn0_3⟩ := rw4 Rw2_heap_size_7.out
                  obtain ⟨qn1_0, zn1_0, qn1_1, zn1_1⟩ := rw2 Rw4_heap_size_7.out
                  go_wp2_with fail
                  clear q0_0 z0_0 q0_1 z0_1 q0_2 z0_2 q0_3 z0_3 q0_4 z0_4 q1_0 z1_0 q1_1 z1_1 q1_2 z1_2 qn0_0 zn0_0 qn0_1 zn0_1 qn0_2 zn0_2 qn0_3 zn0_3 qn1_0 zn1_0 qn1_1 zn1_1
                  go_ret
                  exact ⟨by rw [HE.out]; try rfl, Only.fin HB0.out O7.out⟩
          · obtain rfl : j = s.gens.length := by omega
            by_cases hkn : (k : Int) = s.ents.length
            · skip
              have HE := Lib.hid (rightB_yes (HSN.out.all HR.out HLO.out (by omega)))
              have bkn : ((k : Int) == (s.ents.length : Int)) = true := by simp [hkn]
              clear hkn
              obtain ⟨q0_0, z0_0, q0_1, z0_1, q0_2, z0_2, q0_3, z0_3, q0_4, z0_4⟩ := rw5 R0_4.out
              obtain ⟨q1_0, z1_0, q1_1, z1_1, q1_2, z1_2⟩ := rw3 R1_4.out
              obtain ⟨qn0_0, zn0_0, qn0_1, zn0_1, qn0_2, zn0_2, qn0_3, zn0_3⟩ := rw4 Rw2_heap_size_4.out
              go_wp2_with fail
              clear q0_0 z0_0 q0_1 z0_1 q0_2 z0_2 q0_3 z0_3 q0_4 z0_4 q1_0 z1_0 q1_1 z1_1 q1_2 z1_2 qn0_0 zn0_0 qn0_1 zn0_1 qn0_2 zn0_2 qn0_3 zn0_3
              go_ret
              exact ⟨by rw [HE.out]; try rfl, Only.fin HB0.out O4.out⟩
            · skip
              have HE := Lib.hid (rightB_no (HSN.out.less (by omega)))
              have bkn : ((k : Int) == (s.ents.length : Int)) = false := beq_eq_false_iff_ne.2 hkn
              clear hkn
              obtain ⟨q0_0, z0_0, q0_1, z0_1, q0_2, z0_2, q0_3, z0_3, q0_4, z0_4⟩ := rw5 R0_4.out
              obtain ⟨q1_0, z1_0, q1_1, z1_1, q1_2, z1_2⟩ := rw3 R1_4.out
              obtain ⟨qn0_0, zn0_0, qn0_1, zn0_1, qn0_2, zn0_2, qn0_3, zn0_3⟩ := rw4 Rw2_heap_size_4.out
              go_wp2_with fail
              clear q0_0 z0_0 q0_1 z0_1 q0_2 z0_2 q0_3 z0_3 q0_4 z0_4 q1_0 z1_0 q1_1 z1_1 q1_2 z1_2 qn0_0 zn0_0 qn0_1 zn0_1 qn0_2 zn0_2 qn0_3 zn0_3
              go_ret
              exact ⟨by rw [HE.out]; try rfl, Only.fin HB0.out O4.out⟩
    · skip
      have HE := Lib.hid (rightB_no (c := c) (s := s) (fun h => hno h.2.1))
      have k1 : (w2.alloc (.cells #[.int .i64 0, .int .i64 0, .slice none 0 0, .slice none 0 0] 61)).heap[w.heap.size]? = some (.cells #[.int .i64 c.log, .int .i64 c.pages, .int .i64 c.entities, .int .i64 c.gens, .slice A c.comps.length cap] 24 (0, 0)) := alloc_old (R0_2.out)
      obtain ⟨k1_0, l1_0, k1_1, l1_1, k1_2, l1_2, k1_3, l1_3, k1_4, l1_4⟩ := rw5 k1
      clear k1
      have k2 : (w2.alloc (.cells #[.int .i64 0, .int .i64 0, .slice none 0 0, .slice none 0 0] 61)).heap[w.heap.size + 1]? = some (.cells #[.slice A1 s.gens.length c1, .slice A2 s.free.length c2, .slice A3 s.ents.length c3] 28 (0, 0)) := alloc_old (R1_2.out)
      obtain ⟨k2_0, l2_0, k2_1, l2_1, k2_2, l2_2⟩ := rw3 k2
      clear k2
      have k3 : (w2.alloc (.cells #[.int .i64 0, .int .i64 0, .slice none 0 0, .slice none 0 0] 61)).heap[w2.heap.size]? = some (.cells #[.int .i64 0, .int .i64 0, .slice none 0 0, .slice none 0 0] 61 (0, 0)) := alloc_at rfl
      obtain ⟨k3_0, l3_0, k3_1, l3_1, k3_2, l3_2, k3_3, l3_3⟩ := rw4 k3
      clear k3
      obtain ⟨q0_0, z0_0, q0_1, z0_1, q0_2, z0_2, q0_3, z0_3, q0_4, z0_4⟩ := rw5 R0_2.out
      obtain ⟨q1_0, z1_0, q1_1, z1_1, q1_2, z1_2⟩ := rw3 R1_2.out
      go_wp2_with fail
      clear k1_0 l1_0 k1_1 l1_1 k1_2 l1_2 k1_3 l1_3 k1_4 l1_4 k2_0 l2_0 k2_1 l2_1 k2_2 l2_2 k3_0 l3_0 k3_1 l3_1 k3_2 l3_2 k3_3 l3_3 q0_0 z0_0 q0_1 z0_1 q0_2 z0_2 q0_3 z0_3 q0_4 z0_4 q1_0 z1_0 q1_1 z1_1 q1_2 z1_2
      go_ret
      exact ⟨by rw [HE.out]; try rfl, (Only.fin HB0.out O2.out).alloc (Below.size (Only.fin HB0.out O2.out)) _⟩
end Go.Proofs.YthkepjhfeeohdaaGreatDoor
namespace Go.Proofs.YthkepjhfeeohdaaGreatDoor
open Go.RowKit

def MuchSt (w : World) (s : DState) (e : Ending) (w' : World) : Prop := ∃ r : Bool, e = .returned (.bool r) ∧ (r = false → s.ents.length ≤ 60 ∧ ∀ e ∈ s.ents, e.parts.length ≤ 40) ∧ Below w.heap.size w w'
theorem MuchSt.yes {w w' : World} {s : DState} (h : Below w.heap.size w w') : MuchSt w s (.returned (.bool true)) w' := ⟨true, rfl, (fun h => (by cases h)), h⟩

set_option maxRecDepth 100000 in
set_option maxHeartbeats 1000000 in
/-- ref12.Much -/
theorem muchSt_calls {Q : Nat → Prop} {w : World} {v : Value} {s : DState} (hx : rState.val Q w v s) :
    Calls Tryz.prog 5 #[v] w (MuchSt w s) := by
  obtain ⟨A1, c1, A2, c2, A3, c3, rfl, sg, sf, se⟩ := rState_val hx
  obtain ⟨W2, hW2⟩ : ∃ W2, w.alloc (.cells #[.slice A1 s.gens.length c1, .slice A2 s.free.length c2, .slice A3 s.ents.length c3] 28) = W2 := ⟨_, rfl⟩
  have hb2 : Below w.heap.size w W2 := by rw [← hW2]; exact (Below.refl _ _).alloc (Nat.le_refl _) _
  have e0 : W2.cell? ⟨w.heap.size, 0, none⟩ = some (.slice A1 s.gens.length c1) := by rw [← hW2]; simp
  have e1 : W2.cell? ⟨w.heap.size, 1, none⟩ = some (.slice A2 s.free.length c2) := by rw [← hW2]; simp
  have e2 : W2.cell? ⟨w.heap.size, 2, none⟩ = some (.slice A3 s.ents.length c3) := by rw [← hW2]; simp
  have hc3 := se.1
  have hc4 := se.2.1
  have hg1 := sg.1
  have hg2 := sg.2.1
  have hf1 := sf.1
  have hf2 := sf.2.1
  unfold maxLen at hc4 hg2 hf2
  have HS := Lib.hid (se.below hb2 fun _ _ h => h.lt)
  have HB2 := Lib.hid hb2
  clear hx sg sf se hb2
  go_enter Tryz.func5, Tryz.ntmps5
  go_wp2_with fail
  try rw [hW2]
  clear hW2
  go_wp2_with fail
  go_loop [3] (fun i => ∃ k : Nat, i = .int .i64 k ∧ k ≤ s.ents.length ∧ k ≤ 70 ∧ Hid (∀ (j : Nat) (x : DEnt), j < k → s.ents[j]? = some x → x.parts.length ≤ 40)) (fun i => s.ents.length - (intOf i).toNat)
  case atStart => exact ⟨0, rfl, by omega, by omega, Lib.hid fun j x hj _ => by omega⟩
  case round =>
    obtain ⟨k, rfl, hk, hk7, HB⟩ := hrel
    by_cases hlt : (k : Int) < s.ents.length
    · by_cases h70 : (k : Int) < 70
      · have hk' : k < s.ents.length := by omega
        obtain ⟨b, off, A6, c6, rfl, _, d0, d1, d2, _, _, sp⟩ := rEnt_at HS.out.2.2 (List.getElem?_eq_getElem hk')
        have hp1 := sp.1
        have hp2 := sp.2.1
        unfold maxLen at hp2
        have HP := Lib.hid sp
        have HX := Lib.hid (show s.ents[k]? = some s.ents[k] from List.getElem?_eq_getElem hk')
        generalize s.ents[k] = x at *
        clear sp
        by_cases h40 : (40 : Int) < x.parts.length
        · go_wp2_with fail
          go_ret
          exact MuchSt.yes HB2.out
        · have HN := Lib.hid (show ∀ (j : Nat) (y : DEnt), j < k + 1 → s.ents[j]? = some y → y.parts.length ≤ 40 from fun j y hj hy => by
            rcases Nat.lt_or_ge j k with h | h
            · exact HB.out j y h hy
            · have : j = k := by omega
              subst this
              have := HX.out
              rw [hy] at this
              rw [Option.some.inj this]
              omega)
          go_wp2_with fail
          go_loop [4] (fun i => ∃ j : Nat, i = .int .i64 j ∧ j ≤ x.parts.length) (fun i => x.parts.length - (intOf i).toNat)
          case atStart => exact ⟨0, rfl, by omega⟩
          case round =>
            obtain ⟨j, rfl, hj⟩ := hrel
            by_cases hlt2 : (j : Int) < x.parts.length
            · have hj' : j < x.parts.length := by omega
              obtain ⟨b', off', A7, c7, rfl, _, q0, q1, _, sd⟩ := rPart_at HP.out.2.2 (List.getElem?_eq_getElem hj')
              have hd1 := sd.1
              have hd2 := sd.2.1
              unfold maxLen at hd2
              generalize x.parts[j] = y at *
              clear sd
              by_cases h200 : (200 : Int) < y.data.length
              · go_wp2_with fail
                go_ret
                exact MuchSt.yes HB2.out
              · go_wp2_with fail
                go_round
                case rel => exact ⟨j + 1, by go_num, by omega⟩
                case measure => simp [intOf]; omega
            · go_wp2_with fail
              exact ⟨⟨k + 1, by go_num, by omega, by omega, HN⟩, by simp [intOf]; omega⟩
      · have h60 : (60 : Int) < s.ents.length := by omega
        by_cases g1 : (60 : Int) < s.gens.length
        · go_wp2_with fail
          go_ret
          exact MuchSt.yes HB2.out
        · by_cases g2 : (60 : Int) < s.free.length
          · go_wp2_with fail
            go_ret
            exact MuchSt.yes HB2.out
          · go_wp2_with fail
            go_ret
            exact MuchSt.yes HB2.out
    · by_cases g1 : (60 : Int) < s.gens.length
      · go_wp2_with fail
        go_ret
        exact MuchSt.yes HB2.out
      · by_cases g2 : (60 : Int) < s.free.length
        · go_wp2_with fail
          go_ret
          exact MuchSt.yes HB2.out
        · by_cases g3 : (60 : Int) < s.ents.length
          · go_wp2_with fail
            go_ret
            exact MuchSt.yes HB2.out
          · go_wp2_with fail
            go_ret
            refine ⟨false, rfl, fun _ => ⟨by omega, fun e he => ?_⟩, HB2.out⟩
            obtain ⟨j, hj, rfl⟩ := List.getElem_of_mem he
            exact HB.out j _ (by omega) (List.getElem?_eq_getElem hj)

end Go.Proofs.YthkepjhfeeohdaaGreatDoor
namespace Go.Proofs.YthkepjhfeeohdaaGreatDoor
open Go.RowKit

theorem audit_rightB (c : DConf) (s : DState) : (auditS c s == 0) = rightB c s := by
  by_cases h : auditS c s = 0
  · rw [rightB_yes ((audit_right c s).1 h), h]; rfl
  · rw [rightB_no (fun hr => h ((audit_right c s).2 hr))]; simpa using h

set_option maxRecDepth 100000 in
set_option maxHeartbeats 2000000 in
/-- law34.AuditStates -/
theorem auditStates_calls {Q Q' : Nat → Prop} {w : World} {u v : Value} {c : DConf} {s : DState} (hu : rConf.val Q w u c) (hx : rState.val Q' w v s) :
    Calls Tryz.prog 3 #[u, v] w fun e w' => e = .returned (.bool true) ∧ Below w.heap.size w w' := by
  obtain ⟨A, cap, rfl, _, _, _, _, _, _, _⟩ := rConf_val hu
  obtain ⟨A1, c1, A2, c2, A3, c3, rfl, _, _, _⟩ := rState_val hx
  have HU := Lib.hid hu
  have HX := Lib.hid hx
  clear hu hx
  obtain ⟨W0, hW0⟩ : ∃ W, ((w.alloc (.cells #[.int .i64 c.log, .int .i64 c.pages, .int .i64 c.entities, .int .i64 c.gens, .slice A c.comps.length cap] 24)).alloc (.cells #[.slice A1 s.gens.length c1, .slice A2 s.free.length c2, .slice A3 s.ents.length c3] 28)) = W := ⟨_, rfl⟩
  have hz0 : W0.heap.size = w.heap.size + 2 := by rw [← hW0]; simp
  have hb0 : Below w.heap.size w W0 := by rw [← hW0]; exact ((Below.refl _ _).alloc (Nat.le_refl _) _).alloc (by first | (simp; done) | (simp; omega)) _
  have HZ := Lib.hid hz0
  have HB0 := Lib.hid hb0
  have R0_0 := Lib.hid (show W0.heap[w.heap.size]? = some (.cells #[.int .i64 c.log, .int .i64 c.pages, .int .i64 c.entities, .int .i64 c.gens, .slice A c.comps.length cap] 24 (0, 0)) by rw [← hW0]; exact alloc_old (alloc_at rfl))
  have R1_0 := Lib.hid (show W0.heap[w.heap.size + 1]? = some (.cells #[.slice A1 s.gens.length c1, .slice A2 s.free.length c2, .slice A3 s.ents.length c3] 28 (0, 0)) by rw [← hW0]; exact alloc_at (by simp))
  have O0 := Lib.hid (Only.refl (Box w 2) W0)
  have Vc_0 := Lib.hid (show rConf.val (In Q w 2) W0 (.agg #[.int .i64 c.log, .int .i64 c.pages, .int .i64 c.entities, .int .i64 c.gens, .slice A c.comps.length cap]) c from val_in HU.out hb0)
  have Vs_0 := Lib.hid (show rState.val (In Q' w 2) W0 (.agg #[.slice A1 s.gens.length c1, .slice A2 s.free.length c2, .slice A3 s.ents.length c3]) s from val_in HX.out hb0)
  clear hz0 hb0
  obtain ⟨q0_0, z0_0, q0_1, z0_1, q0_2, z0_2, q0_3, z0_3, q0_4, z0_4⟩ := rw5 R0_0.out
  obtain ⟨q1_0, z1_0, q1_1, z1_1, q1_2, z1_2⟩ := rw3 R1_0.out
  go_enter Tryz.func3, Tryz.ntmps3
  go_wp2_with fail
  try rw [hW0]
  clear hW0
  try go_wp2_with fail
  clear q0_0 z0_0 q0_1 z0_1 q0_2 z0_2 q0_3 z0_3 q0_4 z0_4 q1_0 z1_0 q1_1 z1_1 q1_2 z1_2
  refine (much_calls Vc_0.out).mono ?_
  rintro e w1 ⟨rfl, hb⟩
  have S1 := Lib.hid (show Only (Box w 2) W0 w1 from Only.of_below hb)
  have O1 := Lib.hid (O0.out.trans S1.out)
  have R0_1 := Lib.hid (row_call hb R0_0.out)
  have R1_1 := Lib.hid (row_call hb R1_0.out)
  have Vc_1 := Lib.hid (val_only Vc_0.out S1.out)
  have Vs_1 := Lib.hid (val_only Vs_0.out S1.out)
  clear hb
  cases hm : muchConf c with
  | true =>
    clear hm
    obtain ⟨q0_0, z0_0, q0_1, z0_1, q0_2, z0_2, q0_3, z0_3, q0_4, z0_4⟩ := rw5 R0_1.out
    obtain ⟨q1_0, z1_0, q1_1, z1_1, q1_2, z1_2⟩ := rw3 R1_1.out
    go_wp2_with fail
    clear q0_0 z0_0 q0_1 z0_1 q0_2 z0_2 q0_3 z0_3 q0_4 z0_4 q1_0 z1_0 q1_1 z1_1 q1_2 z1_2
    refine (live34_calls _).mono ?_
    rintro e wl ⟨rfl, hb⟩
    have S2 := Lib.hid (show Only (Box w 2) w1 wl from Only.of_below hb)
    have O2 := Lib.hid (O1.out.trans S2.out)
    have R0_2 := Lib.hid (row_call hb R0_1.out)
    have R1_2 := Lib.hid (row_call hb R1_1.out)
    have Vc_2 := Lib.hid (val_only Vc_1.out S2.out)
    have Vs_2 := Lib.hid (val_only Vs_1.out S2.out)
    clear hb
    obtain ⟨q0_0, z0_0, q0_1, z0_1, q0_2, z0_2, q0_3, z0_3, q0_4, z0_4⟩ := rw5 R0_2.out
    obtain ⟨q1_0, z1_0, q1_1, z1_1, q1_2, z1_2⟩ := rw3 R1_2.out
    go_wp2_with fail
    clear q0_0 z0_0 q0_1 z0_1 q0_2 z0_2 q0_3 z0_3 q0_4 z0_4 q1_0 z1_0 q1_1 z1_1 q1_2 z1_2
    go_ret
    exact ⟨rfl, Only.fin HB0.out O2.out⟩
  | false =>
    clear hm
    obtain ⟨q0_0, z0_0, q0_1, z0_1, q0_2, z0_2, q0_3, z0_3, q0_4, z0_4⟩ := rw5 R0_1.out
    obtain ⟨q1_0, z1_0, q1_1, z1_1, q1_2, z1_2⟩ := rw3 R1_1.out
    go_wp2_with fail
    clear q0_0 z0_0 q0_1 z0_1 q0_2 z0_2 q0_3 z0_3 q0_4 z0_4 q1_0 z1_0 q1_1 z1_1 q1_2 z1_2
    refine (muchSt_calls Vs_1.out).mono ?_
    rintro e w2 ⟨r, rfl, hr, hb⟩
    have S2 := Lib.hid (show Only (Box w 2) w1 w2 from Only.of_below hb)
    have O2 := Lib.hid (O1.out.trans S2.out)
    have R0_2 := Lib.hid (row_call hb R0_1.out)
    have R1_2 := Lib.hid (row_call hb R1_1.out)
    have Vc_2 := Lib.hid (val_only Vc_1.out S2.out)
    have Vs_2 := Lib.hid (val_only Vs_1.out S2.out)
    clear hb
    cases r with
    | true =>
      clear hr
      obtain ⟨q0_0, z0_0, q0_1, z0_1, q0_2, z0_2, q0_3, z0_3, q0_4, z0_4⟩ := rw5 R0_2.out
      obtain ⟨q1_0, z1_0, q1_1, z1_1, q1_2, z1_2⟩ := rw3 R1_2.out
      go_wp2_with fail
      clear q0_0 z0_0 q0_1 z0_1 q0_2 z0_2 q0_3 z0_3 q0_4 z0_4 q1_0 z1_0 q1_1 z1_1 q1_2 z1_2
      refine (live34_calls _).mono ?_
      rintro e wl ⟨rfl, hb⟩
      have S3 := Lib.hid (show Only (Box w 2) w2 wl from Only.of_below hb)
      have O3 := Lib.hid (O2.out.trans S3.out)
      have R0_3 := Lib.hid (row_call hb R0_2.out)
      have R1_3 := Lib.hid (row_call hb R1_2.out)
      have Vc_3 := Lib.hid (val_only Vc_2.out S3.out)
      have Vs_3 := Lib.hid (val_only Vs_2.out S3.out)
      clear hb
      obtain ⟨q0_0, z0_0, q0_1, z0_1, q0_2, z0_2, q0_3, z0_3, q0_4, z0_4⟩ := rw5 R0_3.out
      obtain ⟨q1_0, z1_0, q1_1, z1_1, q1_2, z1_2⟩ := rw3 R1_3.out
      go_wp2_with fail
      clear q0_0 z0_0 q0_1 z0_1 q0_2 z0_2 q0_3 z0_3 q0_4 z0_4 q1_0 z1_0 q1_1 z1_1 q1_2 z1_2
      go_ret
      exact ⟨rfl, Only.fin HB0.out O3.out⟩
    | false =>
      have HB := Lib.hid (hr rfl)
      have HE1 := Lib.hid (show s.ents.length ≤ 1000 from Nat.le_trans HB.out.1 (by decide))
      have HE2 := Lib.hid (show ∀ e ∈ s.ents, e.parts.length ≤ 1000 from fun e he => Nat.le_trans (HB.out.2 e he) (by decide))
      clear hr
      obtain ⟨q0_0, z0_0, q0_1, z0_1, q0_2, z0_2, q0_3, z0_3, q0_4, z0_4⟩ := rw5 R0_2.out
      obtain ⟨q1_0, z1_0, q1_1, z1_1, q1_2, z1_2⟩ := rw3 R1_2.out
      go_wp2_with fail
      clear q0_0 z0_0 q0_1 z0_1 q0_2 z0_2 q0_3 z0_3 q0_4 z0_4 q1_0 z1_0 q1_1 z1_1 q1_2 z1_2
      refine (cstate_calls Vc_2.out Vs_2.out HE1.out HE2.out).mono ?_
      rintro e w3 ⟨rfl, hb⟩
      have S3 := Lib.hid (show Only (Box w 2) w2 w3 from Only.of_below hb)
      have O3 := Lib.hid (O2.out.trans S3.out)
      have R0_3 := Lib.hid (row_call hb R0_2.out)
      have R1_3 := Lib.hid (row_call hb R1_2.out)
      have Vc_3 := Lib.hid (val_only Vc_2.out S3.out)
      have Vs_3 := Lib.hid (val_only Vs_2.out S3.out)
      clear hb
      obtain ⟨k, hk⟩ : ∃ k, auditS c s = k := ⟨_, rfl⟩
      have HK := Lib.hid hk
      rw [hk]
      clear hk
      obtain ⟨q0_0, z0_0, q0_1, z0_1, q0_2, z0_2, q0_3, z0_3, q0_4, z0_4⟩ := rw5 R0_3.out
      obtain ⟨q1_0, z1_0, q1_1, z1_1, q1_2, z1_2⟩ := rw3 R1_3.out
      go_wp2_with fail
      clear q0_0 z0_0 q0_1 z0_1 q0_2 z0_2 q0_3 z0_3 q0_4 z0_4 q1_0 z1_0 q1_1 z1_1 q1_2 z1_2
      refine (code34 _ _).mono ?_
      rintro e w4 ⟨rfl, hw⟩
      obtain rfl := hw.symm
      clear hw
      obtain ⟨q0_0, z0_0, q0_1, z0_1, q0_2, z0_2, q0_3, z0_3, q0_4, z0_4⟩ := rw5 R0_3.out
      obtain ⟨q1_0, z1_0, q1_1, z1_1, q1_2, z1_2⟩ := rw3 R1_3.out
      go_wp2_with fail
      clear q0_0 z0_0 q0_1 z0_1 q0_2 z0_2 q0_3 z0_3 q0_4 z0_4 q1_0 z1_0 q1_1 z1_1 q1_2 z1_2
      refine (rstate34_calls Vc_3.out Vs_3.out HE1.out HE2.out).mono ?_
      rintro e w5 ⟨rfl, hb⟩
      have S4 := Lib.hid (show Only (Box w 2) w3 w5 from Only.of_below hb)
      have O4 := Lib.hid (O3.out.trans S4.out)
      have R0_4 := Lib.hid (row_call hb R0_3.out)
      have R1_4 := Lib.hid (row_call hb R1_3.out)
      have Vc_4 := Lib.hid (val_only Vc_3.out S4.out)
      have Vs_4 := Lib.hid (val_only Vs_3.out S4.out)
      clear hb
      rw [HK.out]
      obtain ⟨q0_0, z0_0, q0_1, z0_1, q0_2, z0_2, q0_3, z0_3, q0_4, z0_4⟩ := rw5 R0_4.out
      obtain ⟨q1_0, z1_0, q1_1, z1_1, q1_2, z1_2⟩ := rw3 R1_4.out
      go_wp2_with fail
      clear q0_0 z0_0 q0_1 z0_1 q0_2 z0_2 q0_3 z0_3 q0_4 z0_4 q1_0 z1_0 q1_1 z1_1 q1_2 z1_2
      refine (right12g_calls Vc_4.out Vs_4.out HE1.out HE2.out).mono ?_
      rintro e w6 ⟨rfl, hb⟩
      have S5 := Lib.hid (show Only (Box w 2) w5 w6 from Only.of_below hb)
      have O5 := Lib.hid (O4.out.trans S5.out)
      have R0_5 := Lib.hid (row_call hb R0_4.out)
      have R1_5 := Lib.hid (row_call hb R1_4.out)
      have Vc_5 := Lib.hid (val_only Vc_4.out S5.out)
      have Vs_5 := Lib.hid (val_only Vs_4.out S5.out)
      clear hb
      rw [← audit_rightB, HK.out]
      obtain ⟨q0_0, z0_0, q0_1, z0_1, q0_2, z0_2, q0_3, z0_3, q0_4, z0_4⟩ := rw5 R0_5.out
      obtain ⟨q1_0, z1_0, q1_1, z1_1, q1_2, z1_2⟩ := rw3 R1_5.out
      go_wp2_with fail
      clear q0_0 z0_0 q0_1 z0_1 q0_2 z0_2 q0_3 z0_3 q0_4 z0_4 q1_0 z1_0 q1_1 z1_1 q1_2 z1_2
      refine (live34_calls _).mono ?_
      rintro e wl ⟨rfl, hb⟩
      have S6 := Lib.hid (show Only (Box w 2) w6 wl from Only.of_below hb)
      have O6 := Lib.hid (O5.out.trans S6.out)
      have R0_6 := Lib.hid (row_call hb R0_5.out)
      have R1_6 := Lib.hid (row_call hb R1_5.out)
      have Vc_6 := Lib.hid (val_only Vc_5.out S6.out)
      have Vs_6 := Lib.hid (val_only Vs_5.out S6.out)
      clear hb
      obtain ⟨q0_0, z0_0, q0_1, z0_1, q0_2, z0_2, q0_3, z0_3, q0_4, z0_4⟩ := rw5 R0_6.out
      obtain ⟨q1_0, z1_0, q1_1, z1_1, q1_2, z1_2⟩ := rw3 R1_6.out
      go_wp2_with fail
      clear q0_0 z0_0 q0_1 z0_1 q0_2 z0_2 q0_3 z0_3 q0_4 z0_4 q1_0 z1_0 q1_1 z1_1 q1_2 z1_2
      go_ret
      exact ⟨rfl, Only.fin HB0.out O6.out⟩
end Go.Proofs.YthkepjhfeeohdaaGreatDoor
namespace Go.Proofs.YthkepjhfeeohdaaGreatDoor.AuditStatesLaw
open Go.ChangeShapes Go.WideShapes Go.ChangeAt Go.RowKit

set_option maxRecDepth 100000 in
theorem lifted (os : Os) (started : os.Started) (H : Type) (enc : TypeId × Value → H) :
    ReturnsInHanded {} Tryz.checked os 3 .any (fun w args => (Rows.auditStatesSpec.pre enc Tryz.prog Tryz.f3 Rows.auditStatesRow.domain false w args ∧ laidMetH Tryz.prog laid34 w) ∧ sizedMet enc Tryz.prog Tryz.f3 (OpenSpec.ofChange Rows.auditStatesSpec) false w args)
      (Rows.auditStatesSpec.post enc Tryz.prog Tryz.f3 false true false false) := by
  refine lift_laid34 (C := Tryz.checked) (X := fun w => laidMetH Tryz.prog laid34 w) (fun _ _ hh h => h.of_heap hh) own started (by kernel_rfl) Tryz.func3
    (ChangeSpec.witness_shaped (enc := enc) (C := Tryz.checked) (os := os) (X := fun w _ => laidMetH Tryz.prog laid34 w) false (World.laidAll Tryz.prog os laid34) #[.agg #[.int .i64 0, .int .i64 0, .int .i64 0, .int .i64 0, .slice none 0 0], .agg #[.slice none 0 0, .slice none 0 0, .slice none 0 0]] 8 (World.laidAll_os _ _ _) (shaped34 os _) (by kernel_rfl) (by kernel_rfl) (by kernel_rfl) (door34 os _)) ?_
  intro W base args ds gs before hval0 hW _ _
  have hval : ∀ (j : Nat) t v, Tryz.f3.params[j]? = some t → args[j]? = some v → Value.okWide Tryz.prog W .any base t v := hval0
  have hW' := hW
  obtain ⟨p, q, hA0, hV, rfl, _, _⟩ := hW
  have hA : DataW.TrodAll enc Tryz.prog W 0 (fun _ => true) true Tryz.f3.params.toList args.toList ds p := hA0
  rw [Tryz.params3] at hA hval
  have hA2 := hA
  obtain ⟨v0, vs0, d0, ds0, p0, q0, hargs, rfl, rfl, h0, r0⟩ := trodAll_cons hA
  obtain ⟨v1, vs1, d1, ds1, p1, q1, rfl, rfl, rfl, h1, r1⟩ := trodAll_cons r0
  obtain ⟨rfl, rfl, rfl⟩ := trodAll_nil r1
  obtain rfl : args = #[v0, v1] := by cases args; simp_all
  obtain ⟨rfl, rfl⟩ := trodVars_none hV
  obtain ⟨y0, k0⟩ := Rep.opens of_Conf (Rep.wrap_agg Tryz.underlying24 (fun _ => rfl)) (hval 0 24 v0 rfl rfl) h0
  obtain ⟨y1, k1⟩ := Rep.opens of_State (Rep.wrap_agg Tryz.underlying28 (fun _ => rfl)) (hval 1 28 v1 rfl rfl) h1
  refine (auditStates_calls k0 k1).mono fun e W' ⟨he, bel⟩ => ?_
  subst he
  exact ⟨_, rfl, _, _, _, [], _, [], hW', trodAll_mk1 (shut_bool Tryz.underlying4 _), trodAll_below laidOut bel (of_decide_eq_true (by kernel_rfl)) hA2, rfl, bel.frame _, fun h => by cases h⟩

end AuditStatesLaw
end Go.Proofs.YthkepjhfeeohdaaGreatDoor
