/- Texts on which the proofs stand: RState34. No condition is laid on any input. -/
import Derived.Test.YthkepjhfeeohdaaGreatDoorAuG4
namespace Go.Proofs.YthkepjhfeeohdaaGreatDoor
open Go.RowKit

set_option maxRecDepth 100000 in
set_option maxHeartbeats 4000000 in
/-- ref34.State -/
theorem rstate34_calls {Q Q' : Nat → Prop} {w : World} {u v : Value} {c : DConf} {s : DState} (hu : rConf.val Q w u c) (hx : rState.val Q' w v s) (he : s.ents.length ≤ 1000) (hp : ∀ e ∈ s.ents, e.parts.length ≤ 1000) :
    Calls Tryz.prog 9 #[u, v] w fun e w' => e = .returned (.int .i64 (auditS c s)) ∧ Below w.heap.size w w' := by
  have HPL := Lib.hid hp
  obtain ⟨A, cap, rfl, _, _, we, wg, _, _, _⟩ := rConf_val hu
  obtain ⟨A1, c1, A2, c2, A3, c3, rfl, sg, sf, se⟩ := rState_val hx
  have HU := Lib.hid hu
  have HSG := Lib.hid sg.val
  have HSF := Lib.hid sf.val
  have HIV := Lib.hid (show rIds.val Q' w (.agg #[.int .i64 c.entities, .int .i64 c.gens, .slice A1 s.gens.length c1, .slice A2 s.free.length c2]) (idsOf c s) from rIds_agg (x := idsOf c s) we wg sg sf)
  have hc3 := se.1
  have hc3m := se.2.1
  unfold maxLen at hc3m
  have HSE := Lib.hid se.2.2
  clear hu hx sg sf se hp we wg
  obtain ⟨W0, hW0⟩ : ∃ W, ((w.alloc (.cells #[.int .i64 c.log, .int .i64 c.pages, .int .i64 c.entities, .int .i64 c.gens, .slice A c.comps.length cap] 24)).alloc (.cells #[.slice A1 s.gens.length c1, .slice A2 s.free.length c2, .slice A3 s.ents.length c3] 28)) = W := ⟨_, rfl⟩
  have hz0 : W0.heap.size = w.heap.size + 2 := by rw [← hW0]; simp
  have hb0 : Below w.heap.size w W0 := by rw [← hW0]; exact ((Below.refl _ _).alloc (Nat.le_refl _) _).alloc (by first | (simp; done) | (simp; omega)) _
  have HZ := Lib.hid hz0
  have HB0 := Lib.hid hb0
  have R0_0 := Lib.hid (show W0.heap[w.heap.size]? = some (.cells #[.int .i64 c.log, .int .i64 c.pages, .int .i64 c.entities, .int .i64 c.gens, .slice A c.comps.length cap] 24 (0, 0)) by rw [← hW0]; exact alloc_old (alloc_at rfl))
  have R1_0 := Lib.hid (show W0.heap[w.heap.size + 1]? = some (.cells #[.slice A1 s.gens.length c1, .slice A2 s.free.length c2, .slice A3 s.ents.length c3] 28 (0, 0)) by rw [← hW0]; exact alloc_at (by simp))
  have O0 := Lib.hid (Only.refl (Box w 2) W0)
  have Vc_0 := Lib.hid (show rConf.val (In Q w 2) W0 (.agg #[.int .i64 c.log, .int .i64 c.pages, .int .i64 c.entities, .int .i64 c.gens, .slice A c.comps.length cap]) c from val_in HU.out hb0)
  have Vg_0 := Lib.hid (show (Rep.int .i64).list.val (In Q' w 2) W0 (.slice A1 s.gens.length c1) s.gens from val_in HSG.out hb0)
  have Vf_0 := Lib.hid (show (Rep.int .i64).list.val (In Q' w 2) W0 (.slice A2 s.free.length c2) s.free from val_in HSF.out hb0)
  have Vi_0 := Lib.hid (show rIds.val (In Q' w 2) W0 (.agg #[.int .i64 c.entities, .int .i64 c.gens, .slice A1 s.gens.length c1, .slice A2 s.free.length c2]) (idsOf c s) from val_in HIV.out hb0)
  have Ae_0 := Lib.hid (show rEnt.At (In Q' w 2) W0 A3 s.ents from at_in HSE.out hb0)
  clear hz0 hb0
  obtain ⟨q0_0, z0_0, q0_1, z0_1, q0_2, z0_2, q0_3, z0_3, q0_4, z0_4⟩ := rw5 R0_0.out
  obtain ⟨q1_0, z1_0, q1_1, z1_1, q1_2, z1_2⟩ := rw3 R1_0.out
  go_enter Tryz.func9, Tryz.ntmps9
  go_wp2_with fail
  try rw [hW0]
  clear hW0
  try go_wp2_with fail
  clear q0_0 z0_0 q0_1 z0_1 q0_2 z0_2 q0_3 z0_3 q0_4 z0_4 q1_0 z1_0 q1_1 z1_1 q1_2 z1_2
  refine (right_calls Vc_0.out).mono ?_
  rintro e w1 ⟨rfl, hb⟩
  have S1 := Lib.hid (show Only (Box w 2) W0 w1 from Only.of_below hb)
  have O1 := Lib.hid (O0.out.trans S1.out)
  have R0_1 := Lib.hid (row_call hb R0_0.out)
  have R1_1 := Lib.hid (row_call hb R1_0.out)
  have Vc_1 := Lib.hid (val_only Vc_0.out S1.out)
  have Vg_1 := Lib.hid (val_only Vg_0.out S1.out)
  have Vf_1 := Lib.hid (val_only Vf_0.out S1.out)
  have Vi_1 := Lib.hid (val_only Vi_0.out S1.out)
  have Ae_1 := Lib.hid (at_only Ae_0.out S1.out)
  clear hb
  cases hr : confRight c with
  | false =>
    have HE := Lib.hid (audit_1 (s := s) hr)
    clear hr
    obtain ⟨q0_0, z0_0, q0_1, z0_1, q0_2, z0_2, q0_3, z0_3, q0_4, z0_4⟩ := rw5 R0_1.out
    obtain ⟨q1_0, z1_0, q1_1, z1_1, q1_2, z1_2⟩ := rw3 R1_1.out
    go_wp2_with fail
    clear q0_0 z0_0 q0_1 z0_1 q0_2 z0_2 q0_3 z0_3 q0_4 z0_4 q1_0 z1_0 q1_1 z1_1 q1_2 z1_2
    go_ret
    exact ⟨by rw [HE.out]; rfl, Only.fin HB0.out O1.out⟩
  | true =>
    have HR := Lib.hid hr
    clear hr
    obtain ⟨q0_0, z0_0, q0_1, z0_1, q0_2, z0_2, q0_3, z0_3, q0_4, z0_4⟩ := rw5 R0_1.out
    obtain ⟨q1_0, z1_0, q1_1, z1_1, q1_2, z1_2⟩ := rw3 R1_1.out
    go_wp2_with fail
    clear q0_0 z0_0 q0_1 z0_1 q0_2 z0_2 q0_3 z0_3 q0_4 z0_4 q1_0 z1_0 q1_1 z1_1 q1_2 z1_2
    refine (loadAny_calls Vg_1.out Vf_1.out HR.out).mono ?_
    rintro e w2 ⟨hans, hb⟩
    have S2 := Lib.hid (show Only (Box w 2) w1 w2 from Only.of_below hb)
    have O2 := Lib.hid (O1.out.trans S2.out)
    have R0_2 := Lib.hid (row_call hb R0_1.out)
    have R1_2 := Lib.hid (row_call hb R1_1.out)
    have Vc_2 := Lib.hid (val_only Vc_1.out S2.out)
    have Vg_2 := Lib.hid (val_only Vg_1.out S2.out)
    have Vf_2 := Lib.hid (val_only Vf_1.out S2.out)
    have Vi_2 := Lib.hid (val_only Vi_1.out S2.out)
    have Ae_2 := Lib.hid (at_only Ae_1.out S2.out)
    clear hb
    rcases hans with ⟨hlo, rfl⟩ | ⟨hno, rfl⟩
    · skip
      have HLO := Lib.hid hlo
      obtain ⟨m, hm⟩ : ∃ m, (alives c s s.gens.length).length = m := ⟨_, rfl⟩
      have HM := Lib.hid hm
      clear hm hlo
      have k1 : (w2.alloc (.cells #[.int .i64 c.entities, .int .i64 c.gens, .slice A1 s.gens.length c1, .slice A2 s.free.length c2] 61)).heap[w.heap.size]? = some (.cells #[.int .i64 c.log, .int .i64 c.pages, .int .i64 c.entities, .int .i64 c.gens, .slice A c.comps.length cap] 24 (0, 0)) := alloc_old (R0_2.out)
      obtain ⟨k1_0, l1_0, k1_1, l1_1, k1_2, l1_2, k1_3, l1_3, k1_4, l1_4⟩ := rw5 k1
      clear k1
      have k2 : (w2.alloc (.cells #[.int .i64 c.entities, .int .i64 c.gens, .slice A1 s.gens.length c1, .slice A2 s.free.length c2] 61)).heap[w.heap.size + 1]? = some (.cells #[.slice A1 s.gens.length c1, .slice A2 s.free.length c2, .slice A3 s.ents.length c3] 28 (0, 0)) := alloc_old (R1_2.out)
      obtain ⟨k2_0, l2_0, k2_1, l2_1, k2_2, l2_2⟩ := rw3 k2
      clear k2
      have k3 : (w2.alloc (.cells #[.int .i64 c.entities, .int .i64 c.gens, .slice A1 s.gens.length c1, .slice A2 s.free.length c2] 61)).heap[w2.heap.size]? = some (.cells #[.int .i64 c.entities, .int .i64 c.gens, .slice A1 s.gens.length c1, .slice A2 s.free.length c2] 61 (0, 0)) := alloc_at rfl
      obtain ⟨k3_0, l3_0, k3_1, l3_1, k3_2, l3_2, k3_3, l3_3⟩ := rw4 k3
      clear k3
      obtain ⟨q0_0, z0_0, q0_1, z0_1, q0_2, z0_2, q0_3, z0_3, q0_4, z0_4⟩ := rw5 R0_2.out
      obtain ⟨q1_0, z1_0, q1_1, z1_1, q1_2, z1_2⟩ := rw3 R1_2.out
      go_wp2_with fail
      clear k1_0 l1_0 k1_1 l1_1 k1_2 l1_2 k1_3 l1_3 k1_4 l1_4 k2_0 l2_0 k2_1 l2_1 k2_2 l2_2 k3_0 l3_0 k3_1 l3_1 k3_2 l3_2 k3_3 l3_3 q0_0 z0_0 q0_1 z0_1 q0_2 z0_2 q0_3 z0_3 q0_4 z0_4 q1_0 z1_0 q1_1 z1_1 q1_2 z1_2
      refine nm_region (fun w3 hnm => ?_)
      have HF1 := Lib.hid (show w.heap.size + 2 ≤ w2.heap.size by have := O2.out.size; have := HZ.out; omega)
      have S3 := Lib.hid (show Only (Box w 2) w2 w3 from (by rw [hnm]; exact (Only.refl (Box w 2) w2).alloc _))
      have O3 := Lib.hid (O2.out.trans S3.out)
      have R0_3 := Lib.hid (row_nm hnm (alloc_old (R0_2.out)))
      have R1_3 := Lib.hid (row_nm hnm (alloc_old (R1_2.out)))
      have Rw2_heap_size_3 := Lib.hid (show w3.heap[w2.heap.size]? = some (.cells #[.int .i64 c.entities, .int .i64 c.gens, .slice A1 s.gens.length c1, .slice A2 s.free.length c2] 61 (0, 0)) from (by rw [hnm]; exact alloc_at rfl))
      have Vc_3 := Lib.hid (val_only Vc_2.out S3.out)
      have Vg_3 := Lib.hid (val_only Vg_2.out S3.out)
      have Vf_3 := Lib.hid (val_only Vf_2.out S3.out)
      have Vi_3 := Lib.hid (val_only Vi_2.out S3.out)
      have Ae_3 := Lib.hid (at_only Ae_2.out S3.out)
      clear hnm
      by_cases hcn : m = s.ents.length
      · skip
        have HCN := Lib.hid hcn
        have bcn : ((m : Int) != (s.ents.length : Int)) = false := by simp [hcn]
        clear hcn
        refine wp_region_held_drew (S := fun W => Below w3.heap.size w3 W) (by kernel_rfl) ((Below.refl _ _).drew) (fun s0 => ?_)
        obtain ⟨v1, hv0⟩ : ∃ V, V = w3.drew := ⟨_, rfl⟩
        rw [← hv0] at s0 ⊢
        have t1 : Below w3.heap.size w3 v1 := s0
        clear hv0 s0
        refine tkH (i := 0) (v := .agg #[.int .i64 c.entities, .int .i64 c.gens, .slice A1 s.gens.length c1, .slice A2 s.free.length c2]) rfl (Or.inl ⟨by rfl, fun w' h => by have e := row_call (h : Below w3.heap.size w3 w') Rw2_heap_size_3.out; have e0 := cell_row e 0; have e1 := cell_row e 1; have e2 := cell_row e 2; have e3 := cell_row e 3; go_simp⟩) t1 ?_
        go_simp
        refine tkHV (i := 2) (v := .pointer (some ⟨w.heap.size + 1, 2, none⟩)) rfl t1 ?_
        go_simp
        refine tkH (i := 3) (v := .slice A3 s.ents.length c3) rfl (Or.inl ⟨by rfl, fun w' h => by have e := row_call (h : Below w3.heap.size w3 w') R1_3.out; have e0 := cell_row e 0; have e1 := cell_row e 1; have e2 := cell_row e 2; go_simp⟩) t1 ?_
        go_simp
        refine tkHV (i := 4) (v := .int .i64 s.ents.length) rfl t1 ?_
        go_simp
        refine wpAnyH_all (rs := [1]) (by kernel_rfl) (by simp) ?_
        intro i hi
        obtain rfl : i = 1 := by simpa using hi
        clear hi
        refine wpOp_step rfl (fun K hK => ?_)
        go_simp
        refine (rcount06_calls (val_only Vi_3.out (Only.of_below t1))).mono ?_
        rintro e v2 ⟨rfl, hb⟩
        rw [HM.out]
        have t2 : Below w3.heap.size w3 v2 := Below.trans t1 (hb.mono (Below.size t1))
        refine hK _ _ ⟨t2, ?_⟩
        clear hb
        clear hK K
        refine tkHV (i := 5) (v := .bool false) rfl t2 ?_
        go_simp
        refine wpAnyH_done (by kernel_rfl) ?_ _
        have S4 := Lib.hid (show Only (Box w 2) w3 v2 from Only.of_below t2)
        have O4 := Lib.hid (O3.out.trans S4.out)
        have R0_4 := Lib.hid (row_call t2 R0_3.out)
        have R1_4 := Lib.hid (row_call t2 R1_3.out)
        have Rw2_heap_size_4 := Lib.hid (row_call t2 Rw2_heap_size_3.out)
        have Vc_4 := Lib.hid (val_only Vc_3.out S4.out)
        have Vg_4 := Lib.hid (val_only Vg_3.out S4.out)
        have Vf_4 := Lib.hid (val_only Vf_3.out S4.out)
        have Vi_4 := Lib.hid (val_only Vi_3.out S4.out)
        have Ae_4 := Lib.hid (at_only Ae_3.out S4.out)
        clear bcn
        obtain ⟨q0_0, z0_0, q0_1, z0_1, q0_2, z0_2, q0_3, z0_3, q0_4, z0_4⟩ := rw5 R0_4.out
        obtain ⟨q1_0, z1_0, q1_1, z1_1, q1_2, z1_2⟩ := rw3 R1_4.out
        obtain ⟨qn0_0, zn0_0, qn0_1, zn0_1, qn0_2, zn0_2, qn0_3, zn0_3⟩ := rw4 Rw2_heap_size_4.out
        go_wp2_with fail
        clear q0_0 z0_0 q0_1 z0_1 q0_2 z0_2 q0_3 z0_3 q0_4 z0_4 q1_0 z1_0 q1_1 z1_1 q1_2 z1_2 qn0_0 zn0_0 qn0_1 zn0_1 qn0_2 zn0_2 qn0_3 zn0_3
        go_loopw [7] (fun i wr => ∃ j : Nat, i = .int .i64 j ∧ j ≤ s.ents.length ∧ Hid (firstE (entE c s) j = 0) ∧ Hid (Below v2.heap.size v2 wr)) (fun i _ => s.ents.length - (intOf i).toNat)
        case atStart => exact ⟨0, rfl, Nat.zero_le _, Lib.hid rfl, Lib.hid (Below.refl _ _)⟩
        case round =>
          obtain ⟨j, rfl, hj, HFZ, HBR⟩ := hrel
          have S5 := Lib.hid (show Only (Box w 2) v2 wr from Only.of_below HBR.out)
          have O5 := Lib.hid (O4.out.trans S5.out)
          have R0_5 := Lib.hid (row_call HBR.out R0_4.out)
          have R1_5 := Lib.hid (row_call HBR.out R1_4.out)
          have Rw2_heap_size_5 := Lib.hid (row_call HBR.out Rw2_heap_size_4.out)
          have Vc_5 := Lib.hid (val_only Vc_4.out S5.out)
          have Vg_5 := Lib.hid (val_only Vg_4.out S5.out)
          have Vf_5 := Lib.hid (val_only Vf_4.out S5.out)
          have Vi_5 := Lib.hid (val_only Vi_4.out S5.out)
          have Ae_5 := Lib.hid (at_only Ae_4.out S5.out)
          by_cases hlt : (j : Int) < s.ents.length
          · skip
            obtain ⟨e, hee⟩ : ∃ e, s.ents[j]? = some e := ⟨_, List.getElem?_eq_getElem (by omega)⟩
            obtain ⟨eb, eo, Ap, cp, hA3, _, e0, e1, e2, _, _, hsp⟩ := rEnt_at Ae_5.out hee
            subst hA3
            have HEE := Lib.hid hee
            have HPV := Lib.hid hsp.val
            have HPP := Lib.hid (HPL.out e (List.mem_of_getElem? hee))
            have p1 := hsp.1
            have p2 := hsp.2.1
            unfold maxLen at p2
            have HQ := Lib.hid (show ∀ V, Below wr.heap.size wr V → ∀ y (k : Nat), s.ents[k]? = some y → World.cell? V ⟨eb, eo + k * 3, none⟩ = some (.int .i64 y.id.index) ∧ World.cell? V ⟨eb, eo + k * 3 + 1, none⟩ = some (.int .i64 y.id.gen) from fun V hv y k hy => by
              obtain ⟨b2, off2, _, _, he2, _, g0, g1, _⟩ := rEnt_at (at_only Ae_5.out (Only.of_below hv)) hy
              obtain ⟨rfl, rfl⟩ : eb = b2 ∧ eo = off2 := by simpa using he2
              exact ⟨g0, g1⟩)
            have K2 := Lib.hid e2
            clear hee hsp e0 e1 e2
            obtain ⟨q0_0, z0_0, q0_1, z0_1, q0_2, z0_2, q0_3, z0_3, q0_4, z0_4⟩ := rw5 R0_5.out
            obtain ⟨q1_0, z1_0, q1_1, z1_1, q1_2, z1_2⟩ := rw3 R1_5.out
            obtain ⟨qn0_0, zn0_0, qn0_1, zn0_1, qn0_2, zn0_2, qn0_3, zn0_3⟩ := rw4 Rw2_heap_size_5.out
            go_wp2_with fail
            clear q0_0 z0_0 q0_1 z0_1 q0_2 z0_2 q0_3 z0_3 q0_4 z0_4 q1_0 z1_0 q1_1 z1_1 q1_2 z1_2 qn0_0 zn0_0 qn0_1 zn0_1 qn0_2 zn0_2 qn0_3 zn0_3
            cases hlv : liveB c s e.id with
            | false =>
              have HLV := Lib.hid (show decide (atI (idsOf c s) e.id.index = some e.id) = false by rw [alive_live, hlv])
              have HE := Lib.hid (show auditS c s = 5 by rw [audit_ent HR.out HLO.out (by rw [HM.out, HCN.out])]; exact firstE_stop (by rw [firstE_next HFZ.out, entE_bad HEE.out (fun h => by rw [hlv] at h; cases h.1)]) (by decide) s.ents.length (by omega))
              clear hlv
              refine wp_region_held_drew (S := fun W => Below wr.heap.size wr W) (by kernel_rfl) ((Below.refl _ _).drew) (fun s0 => ?_)
              obtain ⟨v3, hv0⟩ : ∃ V, V = wr.drew := ⟨_, rfl⟩
              rw [← hv0] at s0 ⊢
              have t3 : Below wr.heap.size wr v3 := s0
              clear hv0 s0
              refine tkH (i := 0) (v := .agg #[.int .i64 c.entities, .int .i64 c.gens, .slice A1 s.gens.length c1, .slice A2 s.free.length c2]) rfl (Or.inl ⟨by rfl, fun w' h => by have e := row_call (h : Below wr.heap.size wr w') Rw2_heap_size_5.out; have e0 := cell_row e 0; have e1 := cell_row e 1; have e2 := cell_row e 2; have e3 := cell_row e 3; go_simp⟩) t3 ?_
              go_simp
              refine tkHV (i := 1) (v := .pointer (some ⟨w.heap.size + 1, 2, none⟩)) rfl t3 ?_
              go_simp
              refine tkH (i := 2) (v := .slice (some ⟨eb, eo, none⟩) s.ents.length c3) rfl (Or.inl ⟨by rfl, fun w' h => by have e := row_call (h : Below wr.heap.size wr w') R1_5.out; have e0 := cell_row e 0; have e1 := cell_row e 1; have e2 := cell_row e 2; go_simp⟩) t3 ?_
              go_simp
              refine tkHV (i := 3) (v := .int .i64 j) rfl t3 ?_
              go_simp
              refine tkHV (i := 4) (v := .pointer (some ⟨eb, eo + j * 3, none⟩)) rfl t3 ?_
              go_simp
              refine tkHV (i := 5) (v := .pointer (some ⟨eb, eo + j * 3, none⟩)) rfl t3 ?_
              go_simp
              refine tkH (i := 6) (v := .agg #[.int .i64 e.id.index, .int .i64 e.id.gen]) rfl (Or.inl ⟨by rfl, fun w' h => by have e := HQ.out w' (h : Below wr.heap.size wr w') _ _ HEE.out; have e0 := e.1; have e1 := e.2; go_simp⟩) t3 ?_
              go_simp
              refine wpAnyH_all (rs := [7]) (by kernel_rfl) (by simp) ?_
              intro i hi
              obtain rfl : i = 7 := by simpa using hi
              clear hi
              refine wpOp_step rfl (fun K hK => ?_)
              go_simp
              refine (alive_calls (d := e.id) (val_only Vi_5.out (Only.of_below t3))).mono ?_
              rintro e9 v4 ⟨rfl, hb⟩
              rw [HLV.out]
              have t4 : Below wr.heap.size wr v4 := Below.trans t3 (hb.mono (Below.size t3))
              refine hK _ _ ⟨t4, ?_⟩
              clear hb
              clear hK K
              refine tkHV (i := 8) (v := .bool true) rfl t4 ?_
              go_simp
              refine tkHV (i := 9) (v := .bool true) rfl t4 ?_
              go_simp
              refine tkH (i := 10) (v := undef) rfl (Or.inr ⟨by rfl, rfl⟩) t4 ?_
              go_simp
              refine tkH (i := 11) (v := undef) rfl (Or.inr ⟨by rfl, rfl⟩) t4 ?_
              go_simp
              refine tkH (i := 12) (v := undef) rfl (Or.inr ⟨by rfl, rfl⟩) t4 ?_
              go_simp
              refine tkH (i := 13) (v := undef) rfl (Or.inr ⟨by rfl, rfl⟩) t4 ?_
              go_simp
              refine tkH (i := 14) (v := undef) rfl (Or.inr ⟨by rfl, rfl⟩) t4 ?_
              go_simp
              refine tkH (i := 15) (v := undef) rfl (Or.inr ⟨by rfl, rfl⟩) t4 ?_
              go_simp
              refine tkH (i := 16) (v := undef) rfl (Or.inr ⟨by rfl, rfl⟩) t4 ?_
              go_simp
              refine tkH (i := 17) (v := undef) rfl (Or.inr ⟨by rfl, rfl⟩) t4 ?_
              go_simp
              refine tkH (i := 18) (v := undef) rfl (Or.inr ⟨by rfl, rfl⟩) t4 ?_
              go_simp
              refine tkH (i := 19) (v := undef) rfl (Or.inr ⟨by rfl, rfl⟩) t4 ?_
              go_simp
              refine tkH (i := 20) (v := undef) rfl (Or.inr ⟨by rfl, rfl⟩) t4 ?_
              go_simp
              refine tkH (i := 21) (v := undef) rfl (Or.inr ⟨by rfl, rfl⟩) t4 ?_
              go_simp
              refine tkH (i := 22) (v := undef) rfl (Or.inr ⟨by rfl, rfl⟩) t4 ?_
              go_simp
              refine tkH (i := 23) (v := undef) rfl (Or.inr ⟨by rfl, rfl⟩) t4 ?_
              go_simp
              refine tkH (i := 24) (v := undef) rfl (Or.inr ⟨by rfl, rfl⟩) t4 ?_
              go_simp
              refine tkH (i := 25) (v := undef) rfl (Or.inr ⟨by rfl, rfl⟩) t4 ?_
              go_simp
              refine tkH (i := 26) (v := undef) rfl (Or.inr ⟨by rfl, rfl⟩) t4 ?_
              go_simp
              refine tkH (i := 27) (v := undef) rfl (Or.inr ⟨by rfl, rfl⟩) t4 ?_
              go_simp
              refine tkH (i := 28) (v := undef) rfl (Or.inr ⟨by rfl, rfl⟩) t4 ?_
              go_simp
              refine tkH (i := 29) (v := undef) rfl (Or.inr ⟨by rfl, rfl⟩) t4 ?_
              go_simp
              refine tkHV (i := 30) (v := .bool true) rfl t4 ?_
              go_simp
              refine wpAnyH_done (by kernel_rfl) ?_ _
              have S6 := Lib.hid (show Only (Box w 2) wr v4 from Only.of_below t4)
              have O6 := Lib.hid (O5.out.trans S6.out)
              have R0_6 := Lib.hid (row_call t4 R0_5.out)
              have R1_6 := Lib.hid (row_call t4 R1_5.out)
              have Rw2_heap_size_6 := Lib.hid (row_call t4 Rw2_heap_size_5.out)
              have Vc_6 := Lib.hid (val_only Vc_5.out S6.out)
              have Vg_6 := Lib.hid (val_only Vg_5.out S6.out)
              have Vf_6 := Lib.hid (val_only Vf_5.out S6.out)
              have Vi_6 := Lib.hid (val_only Vi_5.out S6.out)
              have Ae_6 := Lib.hid (at_only Ae_5.out S6.out)
              obtain ⟨q0_0, z0_0, q0_1, z0_1, q0_2, z0_2, q0_3, z0_3, q0_4, z0_4⟩ := rw5 R0_6.out
              obtain ⟨q1_0, z1_0, q1_1, z1_1, q1_2, z1_2⟩ := rw3 R1_6.out
              obtain ⟨qn0_0, zn0_0, qn0_1, zn0_1, qn0_2, zn0_2, qn0_3, zn0_3⟩ := rw4 Rw2_heap_size_6.out
              go_wp2_with fail
              clear q0_0 z0_0 q0_1 z0_1 q0_2 z0_2 q0_3 z0_3 q0_4 z0_4 q1_0 z1_0 q1_1 z1_1 q1_2 z1_2 qn0_0 zn0_0 qn0_1 zn0_1 qn0_2 zn0_2 qn0_3 zn0_3
              go_ret
              exact ⟨by rw [HE.out]; rfl, Only.fin HB0.out O6.out⟩
            | true =>
              have HLV := Lib.hid (show decide (atI (idsOf c s) e.id.index = some e.id) = true by rw [alive_live, hlv])
              have HLB := Lib.hid hlv
              clear hlv
              rcases j with _ | n
              · skip
                have HEQ := Lib.hid (show entE c s 0 = partsE c e.parts from entE_parts HEE.out ⟨HLB.out, fun h => absurd h (by decide)⟩)
                have hne0 : ¬ s.ents.length = 0 := by omega
                refine wp_region_held_drew (S := fun W => Below wr.heap.size wr W) (by kernel_rfl) ((Below.refl _ _).drew) (fun s0 => ?_)
                obtain ⟨v3, hv0⟩ : ∃ V, V = wr.drew := ⟨_, rfl⟩
                rw [← hv0] at s0 ⊢
                have t3 : Below wr.heap.size wr v3 := s0
                clear hv0 s0
                refine tkH (i := 0) (v := .agg #[.int .i64 c.entities, .int .i64 c.gens, .slice A1 s.gens.length c1, .slice A2 s.free.length c2]) rfl (Or.inl ⟨by rfl, fun w' h => by have e := row_call (h : Below wr.heap.size wr w') Rw2_heap_size_5.out; have e0 := cell_row e 0; have e1 := cell_row e 1; have e2 := cell_row e 2; have e3 := cell_row e 3; go_simp⟩) t3 ?_
                go_simp
                refine tkHV (i := 1) (v := .pointer (some ⟨w.heap.size + 1, 2, none⟩)) rfl t3 ?_
                go_simp
                refine tkH (i := 2) (v := .slice (some ⟨eb, eo, none⟩) s.ents.length c3) rfl (Or.inl ⟨by rfl, fun w' h => by have e := row_call (h : Below wr.heap.size wr w') R1_5.out; have e0 := cell_row e 0; have e1 := cell_row e 1; have e2 := cell_row e 2; go_simp⟩) t3 ?_
                go_simp
                refine tkHV (i := 3) (v := .int .i64 0) rfl t3 ?_
                go_simp
                refine tkHV (i := 4) (v := .pointer (some ⟨eb, eo, none⟩)) rfl t3 ?_
                go_simp
                refine tkHV (i := 5) (v := .pointer (some ⟨eb, eo, none⟩)) rfl t3 ?_
                go_simp
                refine tkH (i := 6) (v := .agg #[.int .i64 e.id.index, .int .i64 e.id.gen]) rfl (Or.inl ⟨by rfl, fun w' h => by have e := HQ.out w' (h : Below wr.heap.size wr w') _ _ HEE.out; have e0 := e.1; have e1 := e.2; rw [Nat.zero_mul, Nat.add_zero] at e0 e1; go_simp⟩) t3 ?_
                go_simp
                refine wpAnyH_all (rs := [7]) (by kernel_rfl) (by simp) ?_
                intro i hi
                obtain rfl : i = 7 := by simpa using hi
                clear hi
                refine wpOp_step rfl (fun K hK => ?_)
                go_simp
                refine (alive_calls (d := e.id) (val_only Vi_5.out (Only.of_below t3))).mono ?_
                rintro e9 v4 ⟨rfl, hb⟩
                rw [HLV.out]
                have t4 : Below wr.heap.size wr v4 := Below.trans t3 (hb.mono (Below.size t3))
                refine hK _ _ ⟨t4, ?_⟩
                clear hb
                clear hK K
                refine tkHV (i := 8) (v := .bool false) rfl t4 ?_
                go_simp
                refine tkHV (i := 9) (v := .bool false) rfl t4 ?_
                go_simp
                refine tkHV (i := 10) (v := .int .i64 0) rfl t4 ?_
                go_simp
                refine tkHV (i := 11) (v := .bool false) rfl t4 ?_
                go_simp
                refine tkHV (i := 12) (v := .bool false) rfl t4 ?_
                go_simp
                refine tkH (i := 13) (v := undef) rfl (Or.inr ⟨by rfl, rfl⟩) t4 ?_
                go_simp
                refine tkH (i := 14) (v := undef) rfl (Or.inr ⟨by rfl, rfl⟩) t4 ?_
                go_simp
                refine tkH (i := 15) (v := undef) rfl (Or.inr ⟨by rfl, rfl⟩) t4 ?_
                go_simp
                refine tkH (i := 16) (v := undef) rfl (Or.inr ⟨by rfl, rfl⟩) t4 ?_
                go_simp
                refine tkH (i := 17) (v := undef) rfl (Or.inr ⟨by rfl, rfl⟩) t4 ?_
                go_simp
                refine tkH (i := 18) (v := undef) rfl (Or.inr ⟨by rfl, rfl⟩) t4 ?_
                go_simp
                refine tkH (i := 19) (v := undef) rfl (Or.inr ⟨by rfl, rfl⟩) t4 ?_
                go_simp
                refine tkH (i := 20) (v := undef) rfl (Or.inr ⟨by rfl, rfl⟩) t4 ?_
                go_simp
                refine tkH (i := 21) (v := undef) rfl (Or.inr ⟨by rfl, rfl⟩) t4 ?_
                go_simp
                refine tkH (i := 22) (v := undef) rfl (Or.inr ⟨by rfl, rfl⟩) t4 ?_
                go_simp
                refine tkH (i := 23) (v := undef) rfl (Or.inr ⟨by rfl, rfl⟩) t4 ?_
                go_simp
                refine tkH (i := 24) (v := undef) rfl (Or.inr ⟨by rfl, rfl⟩) t4 ?_
                go_simp
                refine tkH (i := 25) (v := undef) rfl (Or.inr ⟨by rfl, rfl⟩) t4 ?_
                go_simp
                refine tkH (i := 26) (v := undef) rfl (Or.inr ⟨by rfl, rfl⟩) t4 ?_
                go_simp
                refine tkH (i := 27) (v := undef) rfl (Or.inr ⟨by rfl, rfl⟩) t4 ?_
                go_simp
                refine tkH (i := 28) (v := undef) rfl (Or.inr ⟨by rfl, rfl⟩) t4 ?_
                go_simp
                refine tkHV (i := 29) (v := .bool false) rfl t4 ?_
                go_simp
                refine tkHV (i := 30) (v := .bool false) rfl t4 ?_
                go_simp
                refine wpAnyH_done (by kernel_rfl) ?_ _
                have S6 := Lib.hid (show Only (Box w 2) wr v4 from Only.of_below t4)
                have O6 := Lib.hid (O5.out.trans S6.out)
                have R0_6 := Lib.hid (row_call t4 R0_5.out)
                have R1_6 := Lib.hid (row_call t4 R1_5.out)
                have Rw2_heap_size_6 := Lib.hid (row_call t4 Rw2_heap_size_5.out)
                have Vc_6 := Lib.hid (val_only Vc_5.out S6.out)
                have Vg_6 := Lib.hid (val_only Vg_5.out S6.out)
                have Vf_6 := Lib.hid (val_only Vf_5.out S6.out)
                have Vi_6 := Lib.hid (val_only Vi_5.out S6.out)
                have Ae_6 := Lib.hid (at_only Ae_5.out S6.out)
                have HBV := Lib.hid (show Below v2.heap.size v2 v4 from HBR.out.trans ((show Below wr.heap.size wr v4 from t4).mono HBR.out.size))
                have k2 := cell_call (show Below wr.heap.size wr v4 from t4) K2.out
                rw [Nat.zero_mul, Nat.add_zero] at k2
                have HPV2 := Lib.hid (show rPart.list.val (fun _ => True) v4 (.slice Ap e.parts.length cp) e.parts from val_keepT HPV.out (show Below wr.heap.size wr v4 from t4))
                obtain ⟨q0_0, z0_0, q0_1, z0_1, q0_2, z0_2, q0_3, z0_3, q0_4, z0_4⟩ := rw5 R0_6.out
                obtain ⟨q1_0, z1_0, q1_1, z1_1, q1_2, z1_2⟩ := rw3 R1_6.out
                obtain ⟨qn0_0, zn0_0, qn0_1, zn0_1, qn0_2, zn0_2, qn0_3, zn0_3⟩ := rw4 Rw2_heap_size_6.out
                go_wp2_with fail
                clear k2
                clear q0_0 z0_0 q0_1 z0_1 q0_2 z0_2 q0_3 z0_3 q0_4 z0_4 q1_0 z1_0 q1_1 z1_1 q1_2 z1_2 qn0_0 zn0_0 qn0_1 zn0_1 qn0_2 zn0_2 qn0_3 zn0_3
                go_loopw [9, 10, 11] (fun i _ _ wz => ∃ k : Nat, i = .int .i64 k ∧ k ≤ e.parts.length ∧ Hid (firstE (partE c e.parts) k = 0) ∧ Hid (Below v4.heap.size v4 wz)) (fun i _ _ _ => e.parts.length - (intOf i).toNat)
                case atStart => exact ⟨0, rfl, Nat.zero_le _, Lib.hid rfl, Lib.hid (Below.refl _ _)⟩
                case round =>
                  rename World => wz
                  obtain ⟨m2, rfl, hk, HKZ, HBZ⟩ := hrel
                  have hpk := HPP.out
                  have S7 := Lib.hid (show Only (Box w 2) v4 wz from Only.of_below HBZ.out)
                  have O7 := Lib.hid (O6.out.trans S7.out)
                  have R0_7 := Lib.hid (row_call HBZ.out R0_6.out)
                  have R1_7 := Lib.hid (row_call HBZ.out R1_6.out)
                  have Rw2_heap_size_7 := Lib.hid (row_call HBZ.out Rw2_heap_size_6.out)
                  have Vc_7 := Lib.hid (val_only Vc_6.out S7.out)
                  have Vg_7 := Lib.hid (val_only Vg_6.out S7.out)
                  have Vf_7 := Lib.hid (val_only Vf_6.out S7.out)
                  have Vi_7 := Lib.hid (val_only Vi_6.out S7.out)
                  have Ae_7 := Lib.hid (at_only Ae_6.out S7.out)
                  by_cases hltk : (m2 : Int) < e.parts.length
                  · skip
                    obtain ⟨x, hxk⟩ : ∃ x, e.parts[m2]? = some x := ⟨_, List.getElem?_eq_getElem (by omega)⟩
                    obtain ⟨pb, po, Ad, cd, rfl, _, d0, d1, _, sd⟩ := rPart_at (sl_of (val_keepT HPV2.out HBZ.out)).2.2 hxk
                    have HXM := Lib.hid hxk
                    have s1 := sd.1
                    have s2 := sd.2.1
                    unfold maxLen at s2
                    have D0 := Lib.hid d0
                    have D1 := Lib.hid d1
                    clear hxk d0 d1 sd
                    obtain ⟨q0_0, z0_0, q0_1, z0_1, q0_2, z0_2, q0_3, z0_3, q0_4, z0_4⟩ := rw5 R0_7.out
                    obtain ⟨q1_0, z1_0, q1_1, z1_1, q1_2, z1_2⟩ := rw3 R1_7.out
                    obtain ⟨qn0_0, zn0_0, qn0_1, zn0_1, qn0_2, zn0_2, qn0_3, zn0_3⟩ := rw4 Rw2_heap_size_7.out
                    go_wp2_with fail
                    clear q0_0 z0_0 q0_1 z0_1 q0_2 z0_2 q0_3 z0_3 q0_4 z0_4 q1_0 z1_0 q1_1 z1_1 q1_2 z1_2 qn0_0 zn0_0 qn0_1 zn0_1 qn0_2 zn0_2 qn0_3 zn0_3
                    cases hcs : compSize c x.comp with
                    | none =>
                      have HCS := Lib.hid hcs
                      clear hcs
                      refine wp_region_held_drew (S := fun W => Below wz.heap.size wz W) (by kernel_rfl) ((Below.refl _ _).drew) (fun s0 => ?_)
                      obtain ⟨v5, hv0⟩ : ∃ V, V = wz.drew := ⟨_, rfl⟩
                      rw [← hv0] at s0 ⊢
                      have t5 : Below wz.heap.size wz v5 := s0
                      clear hv0 s0
                      refine tkH (i := 0) (v := .agg #[.int .i64 c.log, .int .i64 c.pages, .int .i64 c.entities, .int .i64 c.gens, .slice A c.comps.length cap]) rfl (Or.inl ⟨by rfl, fun w' h => by have e := row_call (h : Below wz.heap.size wz w') R0_7.out; have e0 := cell_row e 0; have e1 := cell_row e 1; have e2 := cell_row e 2; have e3 := cell_row e 3; have e4 := cell_row e 4; go_simp⟩) t5 ?_
                      go_simp
                      refine tkHV (i := 1) (v := .slice (some ⟨pb, po, none⟩) e.parts.length cp) rfl t5 ?_
                      go_simp
                      refine tkHV (i := 2) (v := .int .i64 m2) rfl t5 ?_
                      go_simp
                      refine tkHV (i := 3) (v := .pointer (some ⟨pb, po + m2 * 2, none⟩)) rfl t5 ?_
                      go_simp
                      refine tkHV (i := 4) (v := .pointer (some ⟨pb, po + m2 * 2, none⟩)) rfl t5 ?_
                      go_simp
                      refine tkH (i := 5) (v := .int .i64 x.comp) rfl (Or.inl ⟨by rfl, fun w' h => by have e := cell_call (h : Below wz.heap.size wz w') D0.out; go_simp⟩) t5 ?_
                      go_simp
                      refine wpAnyH_all (rs := [6]) (by kernel_rfl) (by simp) ?_
                      intro i hi
                      obtain rfl : i = 6 := by simpa using hi
                      clear hi
                      refine wpOp_step rfl (fun K hK => ?_)
                      go_simp
                      refine (rsize_calls (k := x.comp) (val_only Vc_7.out (Only.of_below t5))).mono ?_
                      rintro e9 v6 ⟨rfl, hb⟩
                      rw [HCS.out]
                      dsimp only [Option.getD_some, Option.isSome_some, Option.getD_none, Option.isSome_none]
                      have t6 : Below wz.heap.size wz v6 := Below.trans t5 (hb.mono (Below.size t5))
                      refine hK _ _ ⟨t6, ?_⟩
                      clear hb
                      clear hK K
                      refine tkHV (i := 7) (v := .tuple #[.int .i64 0, .bool false]) rfl t6 ?_
                      go_simp
                      refine tkHV (i := 8) (v := .int .i64 0) rfl t6 ?_
                      go_simp
                      refine tkHV (i := 9) (v := .bool false) rfl t6 ?_
                      go_simp
                      refine tkHV (i := 10) (v := .int .i64 0) rfl t6 ?_
                      go_simp
                      refine tkHV (i := 11) (v := .bool false) rfl t6 ?_
                      go_simp
                      refine wpAnyH_done (by kernel_rfl) ?_ _
                      have S8 := Lib.hid (show Only (Box w 2) wz v6 from Only.of_below t6)
                      have O8 := Lib.hid (O7.out.trans S8.out)
                      have R0_8 := Lib.hid (row_call t6 R0_7.out)
                      have R1_8 := Lib.hid (row_call t6 R1_7.out)
                      have Rw2_heap_size_8 := Lib.hid (row_call t6 Rw2_heap_size_7.out)
                      have Vc_8 := Lib.hid (val_only Vc_7.out S8.out)
                      have Vg_8 := Lib.hid (val_only Vg_7.out S8.out)
                      have Vf_8 := Lib.hid (val_only Vf_7.out S8.out)
                      have Vi_8 := Lib.hid (val_only Vi_7.out S8.out)
                      have Ae_8 := Lib.hid (at_only Ae_7.out S8.out)
                      have hv := (show Below wz.heap.size wz v6 from t6)
                      have HBV8 := Lib.hid (HBZ.out.trans (hv.mono HBZ.out.size))
                      have D0' := Lib.hid (cell_call hv D0.out)
                      have D1' := Lib.hid (cell_call hv D1.out)
                      clear hv
                      obtain ⟨q0_0, z0_0, q0_1, z0_1, q0_2, z0_2, q0_3, z0_3, q0_4, z0_4⟩ := rw5 R0_8.out
                      obtain ⟨q1_0, z1_0, q1_1, z1_1, q1_2, z1_2⟩ := rw3 R1_8.out
                      obtain ⟨qn0_0, zn0_0, qn0_1, zn0_1, qn0_2, zn0_2, qn0_3, zn0_3⟩ := rw4 Rw2_heap_size_8.out
                      try go_wp2_with fail
                      clear q0_0 z0_0 q0_1 z0_1 q0_2 z0_2 q0_3 z0_3 q0_4 z0_4 q1_0 z1_0 q1_1 z1_1 q1_2 z1_2 qn0_0 zn0_0 qn0_1 zn0_1 qn0_2 zn0_2 qn0_3 zn0_3
                      refine wp_region_held_drew (S := fun W => Below v6.heap.size v6 W) (by kernel_rfl) ((Below.refl _ _).drew) (fun s0 => ?_)
                      obtain ⟨v7, hv0⟩ : ∃ V, V = v6.drew := ⟨_, rfl⟩
                      rw [← hv0] at s0 ⊢
                      have t7 : Below v6.heap.size v6 v7 := s0
                      clear hv0 s0
                      refine tkHV (i := 0) (v := .bool false) rfl t7 ?_
                      go_simp
                      refine tkHV (i := 1) (v := .bool true) rfl t7 ?_
                      go_simp
                      refine tkHV (i := 2) (v := .bool true) rfl t7 ?_
                      go_simp
                      refine tkH (i := 3) (v := undef) rfl (Or.inr ⟨by rfl, rfl⟩) t7 ?_
                      go_simp
                      refine tkH (i := 4) (v := undef) rfl (Or.inr ⟨by rfl, rfl⟩) t7 ?_
                      go_simp
                      refine tkH (i := 5) (v := undef) rfl (Or.inr ⟨by rfl, rfl⟩) t7 ?_
                      go_simp
                      refine tkH (i := 6) (v := undef) rfl (Or.inr ⟨by rfl, rfl⟩) t7 ?_
                      go_simp
                      refine tkH (i := 7) (v := undef) rfl (Or.inr ⟨by rfl, rfl⟩) t7 ?_
                      go_simp
                      refine tkH (i := 8) (v := undef) rfl (Or.inr ⟨by rfl, rfl⟩) t7 ?_
                      go_simp
                      refine tkH (i := 9) (v := undef) rfl (Or.inr ⟨by rfl, rfl⟩) t7 ?_
                      go_simp
                      refine tkH (i := 10) (v := undef) rfl (Or.inr ⟨by rfl, rfl⟩) t7 ?_
                      go_simp
                      refine tkH (i := 11) (v := undef) rfl (Or.inr ⟨by rfl, rfl⟩) t7 ?_
                      go_simp
                      refine tkH (i := 12) (v := undef) rfl (Or.inr ⟨by rfl, rfl⟩) t7 ?_
                      go_simp
                      refine tkH (i := 13) (v := undef) rfl (Or.inr ⟨by rfl, rfl⟩) t7 ?_
                      go_simp
                      refine tkH (i := 14) (v := undef) rfl (Or.inr ⟨by rfl, rfl⟩) t7 ?_
                      go_simp
                      refine tkH (i := 15) (v := undef) rfl (Or.inr ⟨by rfl, rfl⟩) t7 ?_
                      go_simp
                      refine tkH (i := 16) (v := undef) rfl (Or.inr ⟨by rfl, rfl⟩) t7 ?_
                      go_simp
                      refine tkH (i := 17) (v := undef) rfl (Or.inr ⟨by rfl, rfl⟩) t7 ?_
                      go_simp
                      refine tkH (i := 18) (v := undef) rfl (Or.inr ⟨by rfl, rfl⟩) t7 ?_
                      go_simp
                      refine tkHV (i := 19) (v := .bool true) rfl t7 ?_
                      go_simp
                      refine wpAnyH_done (by kernel_rfl) ?_ _
                      have S9 := Lib.hid (show Only (Box w 2) v6 v7 from Only.of_below t7)
                      have O9 := Lib.hid (O8.out.trans S9.out)
                      have R0_9 := Lib.hid (row_call t7 R0_8.out)
                      have R1_9 := Lib.hid (row_call t7 R1_8.out)
                      have Rw2_heap_size_9 := Lib.hid (row_call t7 Rw2_heap_size_8.out)
                      have Vc_9 := Lib.hid (val_only Vc_8.out S9.out)
                      have Vg_9 := Lib.hid (val_only Vg_8.out S9.out)
                      have Vf_9 := Lib.hid (val_only Vf_8.out S9.out)
                      have Vi_9 := Lib.hid (val_only Vi_8.out S9.out)
                      have Ae_9 := Lib.hid (at_only Ae_8.out S9.out)
                      have HE := Lib.hid (show auditS c s = 6 by rw [audit_ent HR.out HLO.out (by rw [HM.out, HCN.out])]; exact firstE_stop (j := 0 + 1) (by rw [firstE_next HFZ.out, HEQ.out]; exact firstE_stop (j := m2 + 1) (by rw [firstE_next HKZ.out, partE_none HXM.out HCS.out]) (by decide) e.parts.length (by omega)) (by decide) s.ents.length (by omega))
                      obtain ⟨q0_0, z0_0, q0_1, z0_1, q0_2, z0_2, q0_3, z0_3, q0_4, z0_4⟩ := rw5 R0_9.out
                      obtain ⟨q1_0, z1_0, q1_1, z1_1, q1_2, z1_2⟩ := rw3 R1_9.out
                      obtain ⟨qn0_0, zn0_0, qn0_1, zn0_1, qn0_2, zn0_2, qn0_3, zn0_3⟩ := rw4 Rw2_heap_size_9.out
                      go_wp2_with fail
                      clear q0_0 z0_0 q0_1 z0_1 q0_2 z0_2 q0_3 z0_3 q0_4 z0_4 q1_0 z1_0 q1_1 z1_1 q1_2 z1_2 qn0_0 zn0_0 qn0_1 zn0_1 qn0_2 zn0_2 qn0_3 zn0_3
                      go_ret
                      exact ⟨by rw [HE.out]; rfl, Only.fin HB0.out O9.out⟩
                    | some q =>
                      have HCS := Lib.hid hcs
                      clear hcs
                      refine wp_region_held_drew (S := fun W => Below wz.heap.size wz W) (by kernel_rfl) ((Below.refl _ _).drew) (fun s0 => ?_)
                      obtain ⟨v5, hv0⟩ : ∃ V, V = wz.drew := ⟨_, rfl⟩
                      rw [← hv0] at s0 ⊢
                      have t5 : Below wz.heap.size wz v5 := s0
                      clear hv0 s0
                      refine tkH (i := 0) (v := .agg #[.int .i64 c.log, .int .i64 c.pages, .int .i64 c.entities, .int .i64 c.gens, .slice A c.comps.length cap]) rfl (Or.inl ⟨by rfl, fun w' h => by have e := row_call (h : Below wz.heap.size wz w') R0_7.out; have e0 := cell_row e 0; have e1 := cell_row e 1; have e2 := cell_row e 2; have e3 := cell_row e 3; have e4 := cell_row e 4; go_simp⟩) t5 ?_
                      go_simp
                      refine tkHV (i := 1) (v := .slice (some ⟨pb, po, none⟩) e.parts.length cp) rfl t5 ?_
                      go_simp
                      refine tkHV (i := 2) (v := .int .i64 m2) rfl t5 ?_
                      go_simp
                      refine tkHV (i := 3) (v := .pointer (some ⟨pb, po + m2 * 2, none⟩)) rfl t5 ?_
                      go_simp
                      refine tkHV (i := 4) (v := .pointer (some ⟨pb, po + m2 * 2, none⟩)) rfl t5 ?_
                      go_simp
                      refine tkH (i := 5) (v := .int .i64 x.comp) rfl (Or.inl ⟨by rfl, fun w' h => by have e := cell_call (h : Below wz.heap.size wz w') D0.out; go_simp⟩) t5 ?_
                      go_simp
                      refine wpAnyH_all (rs := [6]) (by kernel_rfl) (by simp) ?_
                      intro i hi
                      obtain rfl : i = 6 := by simpa using hi
                      clear hi
                      refine wpOp_step rfl (fun K hK => ?_)
                      go_simp
                      refine (rsize_calls (k := x.comp) (val_only Vc_7.out (Only.of_below t5))).mono ?_
                      rintro e9 v6 ⟨rfl, hb⟩
                      rw [HCS.out]
                      dsimp only [Option.getD_some, Option.isSome_some, Option.getD_none, Option.isSome_none]
                      have t6 : Below wz.heap.size wz v6 := Below.trans t5 (hb.mono (Below.size t5))
                      refine hK _ _ ⟨t6, ?_⟩
                      clear hb
                      clear hK K
                      refine tkHV (i := 7) (v := .tuple #[.int .i64 q, .bool true]) rfl t6 ?_
                      go_simp
                      refine tkHV (i := 8) (v := .int .i64 q) rfl t6 ?_
                      go_simp
                      refine tkHV (i := 9) (v := .bool true) rfl t6 ?_
                      go_simp
                      refine tkHV (i := 10) (v := .int .i64 q) rfl t6 ?_
                      go_simp
                      refine tkHV (i := 11) (v := .bool true) rfl t6 ?_
                      go_simp
                      refine wpAnyH_done (by kernel_rfl) ?_ _
                      have S8 := Lib.hid (show Only (Box w 2) wz v6 from Only.of_below t6)
                      have O8 := Lib.hid (O7.out.trans S8.out)
                      have R0_8 := Lib.hid (row_call t6 R0_7.out)
                      have R1_8 := Lib.hid (row_call t6 R1_7.out)
                      have Rw2_heap_size_8 := Lib.hid (row_call t6 Rw2_heap_size_7.out)
                      have Vc_8 := Lib.hid (val_only Vc_7.out S8.out)
                      have Vg_8 := Lib.hid (val_only Vg_7.out S8.out)
                      have Vf_8 := Lib.hid (val_only Vf_7.out S8.out)
                      have Vi_8 := Lib.hid (val_only Vi_7.out S8.out)
                      have Ae_8 := Lib.hid (at_only Ae_7.out S8.out)
                      have hv := (show Below wz.heap.size wz v6 from t6)
                      have HBV8 := Lib.hid (HBZ.out.trans (hv.mono HBZ.out.size))
                      have D0' := Lib.hid (cell_call hv D0.out)
                      have D1' := Lib.hid (cell_call hv D1.out)
                      clear hv
                      obtain ⟨q0_0, z0_0, q0_1, z0_1, q0_2, z0_2, q0_3, z0_3, q0_4, z0_4⟩ := rw5 R0_8.out
                      obtain ⟨q1_0, z1_0, q1_1, z1_1, q1_2, z1_2⟩ := rw3 R1_8.out
                      obtain ⟨qn0_0, zn0_0, qn0_1, zn0_1, qn0_2, zn0_2, qn0_3, zn0_3⟩ := rw4 Rw2_heap_size_8.out
                      try go_wp2_with fail
                      clear q0_0 z0_0 q0_1 z0_1 q0_2 z0_2 q0_3 z0_3 q0_4 z0_4 q1_0 z1_0 q1_1 z1_1 q1_2 z1_2 qn0_0 zn0_0 qn0_1 zn0_1 qn0_2 zn0_2 qn0_3 zn0_3
                      rcases m2 with _ | mp
                      · skip
                        have hne0 : ¬ e.parts.length = 0 := by omega
                        refine wp_region_held_drew (S := fun W => Below v6.heap.size v6 W) (by kernel_rfl) ((Below.refl _ _).drew) (fun s0 => ?_)
                        obtain ⟨v7, hv0⟩ : ∃ V, V = v6.drew := ⟨_, rfl⟩
                        rw [← hv0] at s0 ⊢
                        have t7 : Below v6.heap.size v6 v7 := s0
                        clear hv0 s0
                        refine tkHV (i := 0) (v := .bool true) rfl t7 ?_
                        go_simp
                        refine tkHV (i := 1) (v := .bool false) rfl t7 ?_
                        go_simp
                        refine tkHV (i := 2) (v := .bool false) rfl t7 ?_
                        go_simp
                        refine tkHV (i := 3) (v := .int .i64 0) rfl t7 ?_
                        go_simp
                        refine tkHV (i := 4) (v := .bool false) rfl t7 ?_
                        go_simp
                        refine tkHV (i := 5) (v := .bool false) rfl t7 ?_
                        go_simp
                        refine tkH (i := 6) (v := undef) rfl (Or.inr ⟨by rfl, rfl⟩) t7 ?_
                        go_simp
                        refine tkH (i := 7) (v := undef) rfl (Or.inr ⟨by rfl, rfl⟩) t7 ?_
                        go_simp
                        refine tkH (i := 8) (v := undef) rfl (Or.inr ⟨by rfl, rfl⟩) t7 ?_
                        go_simp
                        refine tkH (i := 9) (v := undef) rfl (Or.inr ⟨by rfl, rfl⟩) t7 ?_
                        go_simp
                        refine tkH (i := 10) (v := undef) rfl (Or.inr ⟨by rfl, rfl⟩) t7 ?_
                        go_simp
                        refine tkH (i := 11) (v := undef) rfl (Or.inr ⟨by rfl, rfl⟩) t7 ?_
                        go_simp
                        refine tkH (i := 12) (v := undef) rfl (Or.inr ⟨by rfl, rfl⟩) t7 ?_
                        go_simp
                        refine tkH (i := 13) (v := undef) rfl (Or.inr ⟨by rfl, rfl⟩) t7 ?_
                        go_simp
                        refine tkH (i := 14) (v := undef) rfl (Or.inr ⟨by rfl, rfl⟩) t7 ?_
                        go_simp
                        refine tkH (i := 15) (v := undef) rfl (Or.inr ⟨by rfl, rfl⟩) t7 ?_
                        go_simp
                        refine tkH (i := 16) (v := undef) rfl (Or.inr ⟨by rfl, rfl⟩) t7 ?_
                        go_simp
                        refine tkH (i := 17) (v := undef) rfl (Or.inr ⟨by rfl, rfl⟩) t7 ?_
                        go_simp
                        refine tkHV (i := 18) (v := .bool false) rfl t7 ?_
                        go_simp
                        refine tkHV (i := 19) (v := .bool false) rfl t7 ?_
                        go_simp
                        refine wpAnyH_done (by kernel_rfl) ?_ _
                        have S9 := Lib.hid (show Only (Box w 2) v6 v7 from Only.of_below t7)
                        have O9 := Lib.hid (O8.out.trans S9.out)
                        have R0_9 := Lib.hid (row_call t7 R0_8.out)
                        have R1_9 := Lib.hid (row_call t7 R1_8.out)
                        have Rw2_heap_size_9 := Lib.hid (row_call t7 Rw2_heap_size_8.out)
                        have Vc_9 := Lib.hid (val_only Vc_8.out S9.out)
                        have Vg_9 := Lib.hid (val_only Vg_8.out S9.out)
                        have Vf_9 := Lib.hid (val_only Vf_8.out S9.out)
                        have Vi_9 := Lib.hid (val_only Vi_8.out S9.out)
                        have Ae_9 := Lib.hid (at_only Ae_8.out S9.out)
                        have hv9 := (show Below v6.heap.size v6 v7 from t7)
                        have HBV9 := Lib.hid (HBV8.out.trans (hv9.mono HBV8.out.size))
                        have d1 := cell_call hv9 D1'.out
                        rw [Nat.zero_mul, Nat.add_zero] at d1
                        clear hv9
                        by_cases hql : q = (x.data.length : Int)
                        · skip
                          subst hql
                          have HOK := Lib.hid (show firstE (partE c e.parts) (0 + 1) = 0 by rw [firstE_next HKZ.out]; exact partE_ok HXM.out HCS.out (fun h => absurd h.1 (by decide)))
                          have iw2 : IntKind.i64.wrap ((0 : Int) + 1) = (0 : Int) + 1 := IntWalk.i64_in _ ⟨by omega, by omega⟩
                          obtain ⟨q0_0, z0_0, q0_1, z0_1, q0_2, z0_2, q0_3, z0_3, q0_4, z0_4⟩ := rw5 R0_9.out
                          obtain ⟨q1_0, z1_0, q1_1, z1_1, q1_2, z1_2⟩ := rw3 R1_9.out
                          obtain ⟨qn0_0, zn0_0, qn0_1, zn0_1, qn0_2, zn0_2, qn0_3, zn0_3⟩ := rw4 Rw2_heap_size_9.out
                          go_wp2_with fail
                          clear q0_0 z0_0 q0_1 z0_1 q0_2 z0_2 q0_3 z0_3 q0_4 z0_4 q1_0 z1_0 q1_1 z1_1 q1_2 z1_2 qn0_0 zn0_0 qn0_1 zn0_1 qn0_2 zn0_2 qn0_3 zn0_3
                          exact ⟨⟨0 + 1, by go_num, by omega, HOK, HBV9⟩, by simp [intOf]; omega⟩
                        · skip
                          have bql : (q != (x.data.length : Int)) = true := by simp [hql]
                          have HE := Lib.hid (show auditS c s = 7 by rw [audit_ent HR.out HLO.out (by rw [HM.out, HCN.out])]; exact firstE_stop (j := 0 + 1) (by rw [firstE_next HFZ.out, HEQ.out]; exact firstE_stop (j := 0 + 1) (by rw [firstE_next HKZ.out, partE_size HXM.out HCS.out (fun h => absurd h.1 (by decide)), if_neg hql]) (by decide) e.parts.length (by omega)) (by decide) s.ents.length (by omega))
                          clear hql
                          obtain ⟨q0_0, z0_0, q0_1, z0_1, q0_2, z0_2, q0_3, z0_3, q0_4, z0_4⟩ := rw5 R0_9.out
                          obtain ⟨q1_0, z1_0, q1_1, z1_1, q1_2, z1_2⟩ := rw3 R1_9.out
                          obtain ⟨qn0_0, zn0_0, qn0_1, zn0_1, qn0_2, zn0_2, qn0_3, zn0_3⟩ := rw4 Rw2_heap_size_9.out
                          go_wp2_with fail
                          clear q0_0 z0_0 q0_1 z0_1 q0_2 z0_2 q0_3 z0_3 q0_4 z0_4 q1_0 z1_0 q1_1 z1_1 q1_2 z1_2 qn0_0 zn0_0 qn0_1 zn0_1 qn0_2 zn0_2 qn0_3 zn0_3
                          go_ret
                          exact ⟨by rw [HE.out]; rfl, Only.fin HB0.out O9.out⟩
                      · skip
                        obtain ⟨y, hym⟩ : ∃ y, e.parts[mp]? = some y := ⟨_, List.getElem?_eq_getElem (by omega)⟩
                        have HPC := Lib.hid (prev_comp hym)
                        obtain ⟨pb2, po2, _, _, hpp, _, d2, _, _, _⟩ := rPart_at (sl_of (val_keepT HPV2.out HBV8.out)).2.2 hym
                        obtain ⟨rfl, rfl⟩ : pb = pb2 ∧ po = po2 := by injection hpp with h; injection h with h1 h2; exact ⟨h1, h2⟩
                        have D2 := Lib.hid d2
                        have iw : IntKind.i64.wrap ((mp : Int) + 1 - 1) = (mp : Int) := by rw [show (mp : Int) + 1 - 1 = (mp : Int) by omega]; exact IntWalk.i64_in _ ⟨by omega, by omega⟩
                        have iw3 : IntKind.i64.wrap (mp : Int) = (mp : Int) := IntWalk.i64_in _ ⟨by omega, by omega⟩
                        have hmp1 : (mp : Int) + 1 < e.parts.length := by omega
                        have hmp2 : (mp : Int) < e.parts.length := by omega
                        clear hym hpp d2
                        by_cases hyx : x.comp ≤ y.comp
                        · skip
                          refine wp_region_held_drew (S := fun W => Below v6.heap.size v6 W) (by kernel_rfl) ((Below.refl _ _).drew) (fun s0 => ?_)
                          obtain ⟨v7, hv0⟩ : ∃ V, V = v6.drew := ⟨_, rfl⟩
                          rw [← hv0] at s0 ⊢
                          have t7 : Below v6.heap.size v6 v7 := s0
                          clear hv0 s0
                          refine tkHV (i := 0) (v := .bool true) rfl t7 ?_
                          go_simp
                          refine tkHV (i := 1) (v := .bool false) rfl t7 ?_
                          go_simp
                          refine tkHV (i := 2) (v := .bool false) rfl t7 ?_
                          go_simp
                          refine tkHV (i := 3) (v := .int .i64 (mp + 1)) rfl t7 ?_
                          go_simp
                          refine tkHV (i := 4) (v := .bool true) rfl t7 ?_
                          go_simp
                          refine tkHV (i := 5) (v := .bool true) rfl t7 ?_
                          go_simp
                          refine tkHV (i := 6) (v := .slice (some ⟨pb, po, none⟩) e.parts.length cp) rfl t7 ?_
                          go_simp
                          refine tkHV (i := 7) (v := .int .i64 (mp + 1)) rfl t7 ?_
                          go_simp
                          refine tkHV (i := 8) (v := .pointer (some ⟨pb, po + (mp + 1) * 2, none⟩)) rfl t7 ?_
                          go_simp
                          refine tkHV (i := 9) (v := .pointer (some ⟨pb, po + (mp + 1) * 2, none⟩)) rfl t7 ?_
                          go_simp
                          refine tkH (i := 10) (v := .int .i64 x.comp) rfl (Or.inl ⟨by rfl, fun w' h => by have e := cell_call (h : Below v6.heap.size v6 w') D0'.out; go_simp⟩) t7 ?_
                          go_simp
                          refine tkHV (i := 11) (v := .slice (some ⟨pb, po, none⟩) e.parts.length cp) rfl t7 ?_
                          go_simp
                          refine tkHV (i := 12) (v := .int .i64 (mp + 1)) rfl t7 ?_
                          go_simp
                          refine tkHV (i := 13) (v := .int .i64 mp) rfl t7 ?_
                          go_simp
                          refine tkHV (i := 14) (v := .pointer (some ⟨pb, po + mp * 2, none⟩)) rfl t7 ?_
                          go_simp
                          refine tkHV (i := 15) (v := .pointer (some ⟨pb, po + mp * 2, none⟩)) rfl t7 ?_
                          go_simp
                          refine tkH (i := 16) (v := .int .i64 y.comp) rfl (Or.inl ⟨by rfl, fun w' h => by have e := cell_call (h : Below v6.heap.size v6 w') D2.out; go_simp⟩) t7 ?_
                          go_simp
                          refine tkHV (i := 17) (v := .bool true) rfl t7 ?_
                          go_simp
                          refine tkHV (i := 18) (v := .bool true) rfl t7 ?_
                          go_simp
                          refine tkHV (i := 19) (v := .bool true) rfl t7 ?_
                          go_simp
                          refine wpAnyH_done (by kernel_rfl) ?_ _
                          have S9 := Lib.hid (show Only (Box w 2) v6 v7 from Only.of_below t7)
                          have O9 := Lib.hid (O8.out.trans S9.out)
                          have R0_9 := Lib.hid (row_call t7 R0_8.out)
                          have R1_9 := Lib.hid (row_call t7 R1_8.out)
                          have Rw2_heap_size_9 := Lib.hid (row_call t7 Rw2_heap_size_8.out)
                          have Vc_9 := Lib.hid (val_only Vc_8.out S9.out)
                          have Vg_9 := Lib.hid (val_only Vg_8.out S9.out)
                          have Vf_9 := Lib.hid (val_only Vf_8.out S9.out)
                          have Vi_9 := Lib.hid (val_only Vi_8.out S9.out)
                          have Ae_9 := Lib.hid (at_only Ae_8.out S9.out)
                          have HE := Lib.hid (show auditS c s = 6 by rw [audit_ent HR.out HLO.out (by rw [HM.out, HCN.out])]; exact firstE_stop (j := 0 + 1) (by rw [firstE_next HFZ.out, HEQ.out]; exact firstE_stop (j := (mp + 1) + 1) (by rw [firstE_next HKZ.out, partE_low HXM.out HCS.out ⟨by omega, by rw [HPC.out]; exact hyx⟩]) (by decide) e.parts.length (by omega)) (by decide) s.ents.length (by omega))
                          obtain ⟨q0_0, z0_0, q0_1, z0_1, q0_2, z0_2, q0_3, z0_3, q0_4, z0_4⟩ := rw5 R0_9.out
                          obtain ⟨q1_0, z1_0, q1_1, z1_1, q1_2, z1_2⟩ := rw3 R1_9.out
                          obtain ⟨qn0_0, zn0_0, qn0_1, zn0_1, qn0_2, zn0_2, qn0_3, zn0_3⟩ := rw4 Rw2_heap_size_9.out
                          go_wp2_with fail
                          clear q0_0 z0_0 q0_1 z0_1 q0_2 z0_2 q0_3 z0_3 q0_4 z0_4 q1_0 z1_0 q1_1 z1_1 q1_2 z1_2 qn0_0 zn0_0 qn0_1 zn0_1 qn0_2 zn0_2 qn0_3 zn0_3
                          go_ret
                          exact ⟨by rw [HE.out]; rfl, Only.fin HB0.out O9.out⟩
                        · skip
                          refine wp_region_held_drew (S := fun W => Below v6.heap.size v6 W) (by kernel_rfl) ((Below.refl _ _).drew) (fun s0 => ?_)
                          obtain ⟨v7, hv0⟩ : ∃ V, V = v6.drew := ⟨_, rfl⟩
                          rw [← hv0] at s0 ⊢
                          have t7 : Below v6.heap.size v6 v7 := s0
                          clear hv0 s0
                          refine tkHV (i := 0) (v := .bool true) rfl t7 ?_
                          go_simp
                          refine tkHV (i := 1) (v := .bool false) rfl t7 ?_
                          go_simp
                          refine tkHV (i := 2) (v := .bool false) rfl t7 ?_
                          go_simp
                          refine tkHV (i := 3) (v := .int .i64 (mp + 1)) rfl t7 ?_
                          go_simp
                          refine tkHV (i := 4) (v := .bool true) rfl t7 ?_
                          go_simp
                          refine tkHV (i := 5) (v := .bool true) rfl t7 ?_
                          go_simp
                          refine tkHV (i := 6) (v := .slice (some ⟨pb, po, none⟩) e.parts.length cp) rfl t7 ?_
                          go_simp
                          refine tkHV (i := 7) (v := .int .i64 (mp + 1)) rfl t7 ?_
                          go_simp
                          refine tkHV (i := 8) (v := .pointer (some ⟨pb, po + (mp + 1) * 2, none⟩)) rfl t7 ?_
                          go_simp
                          refine tkHV (i := 9) (v := .pointer (some ⟨pb, po + (mp + 1) * 2, none⟩)) rfl t7 ?_
                          go_simp
                          refine tkH (i := 10) (v := .int .i64 x.comp) rfl (Or.inl ⟨by rfl, fun w' h => by have e := cell_call (h : Below v6.heap.size v6 w') D0'.out; go_simp⟩) t7 ?_
                          go_simp
                          refine tkHV (i := 11) (v := .slice (some ⟨pb, po, none⟩) e.parts.length cp) rfl t7 ?_
                          go_simp
                          refine tkHV (i := 12) (v := .int .i64 (mp + 1)) rfl t7 ?_
                          go_simp
                          refine tkHV (i := 13) (v := .int .i64 mp) rfl t7 ?_
                          go_simp
                          refine tkHV (i := 14) (v := .pointer (some ⟨pb, po + mp * 2, none⟩)) rfl t7 ?_
                          go_simp
                          refine tkHV (i := 15) (v := .pointer (some ⟨pb, po + mp * 2, none⟩)) rfl t7 ?_
                          go_simp
                          refine tkH (i := 16) (v := .int .i64 y.comp) rfl (Or.inl ⟨by rfl, fun w' h => by have e := cell_call (h : Below v6.heap.size v6 w') D2.out; go_simp⟩) t7 ?_
                          go_simp
                          refine tkHV (i := 17) (v := .bool false) rfl t7 ?_
                          go_simp
                          refine tkHV (i := 18) (v := .bool false) rfl t7 ?_
                          go_simp
                          refine tkHV (i := 19) (v := .bool false) rfl t7 ?_
                          go_simp
                          refine wpAnyH_done (by kernel_rfl) ?_ _
                          have S9 := Lib.hid (show Only (Box w 2) v6 v7 from Only.of_below t7)
                          have O9 := Lib.hid (O8.out.trans S9.out)
                          have R0_9 := Lib.hid (row_call t7 R0_8.out)
                          have R1_9 := Lib.hid (row_call t7 R1_8.out)
                          have Rw2_heap_size_9 := Lib.hid (row_call t7 Rw2_heap_size_8.out)
                          have Vc_9 := Lib.hid (val_only Vc_8.out S9.out)
                          have Vg_9 := Lib.hid (val_only Vg_8.out S9.out)
                          have Vf_9 := Lib.hid (val_only Vf_8.out S9.out)
                          have Vi_9 := Lib.hid (val_only Vi_8.out S9.out)
                          have Ae_9 := Lib.hid (at_only Ae_8.out S9.out)
                          have hv9 := (show Below v6.heap.size v6 v7 from t7)
                          have HBV9 := Lib.hid (HBV8.out.trans (hv9.mono HBV8.out.size))
                          have d1 := cell_call hv9 D1'.out
                          clear hv9
                          by_cases hql : q = (x.data.length : Int)
                          · skip
                            subst hql
                            have HOK := Lib.hid (show firstE (partE c e.parts) ((mp + 1) + 1) = 0 by rw [firstE_next HKZ.out]; exact partE_ok HXM.out HCS.out (fun h => by have := h.2; rw [HPC.out] at this; omega))
                            have iw2 : IntKind.i64.wrap (((mp : Int) + 1) + 1) = ((mp : Int) + 1) + 1 := IntWalk.i64_in _ ⟨by omega, by omega⟩
                            obtain ⟨q0_0, z0_0, q0_1, z0_1, q0_2, z0_2, q0_3, z0_3, q0_4, z0_4⟩ := rw5 R0_9.out
                            obtain ⟨q1_0, z1_0, q1_1, z1_1, q1_2, z1_2⟩ := rw3 R1_9.out
                            obtain ⟨qn0_0, zn0_0, qn0_1, zn0_1, qn0_2, zn0_2, qn0_3, zn0_3⟩ := rw4 Rw2_heap_size_9.out
                            go_wp2_with fail
                            clear q0_0 z0_0 q0_1 z0_1 q0_2 z0_2 q0_3 z0_3 q0_4 z0_4 q1_0 z1_0 q1_1 z1_1 q1_2 z1_2 qn0_0 zn0_0 qn0_1 zn0_1 qn0_2 zn0_2 qn0_3 zn0_3
                            exact ⟨⟨(mp + 1) + 1, by go_num, by omega, HOK, HBV9⟩, by simp [intOf]; omega⟩
                          · skip
                            have bql : (q != (x.data.length : Int)) = true := by simp [hql]
                            have HE := Lib.hid (show auditS c s = 7 by rw [audit_ent HR.out HLO.out (by rw [HM.out, HCN.out])]; exact firstE_stop (j := 0 + 1) (by rw [firstE_next HFZ.out, HEQ.out]; exact firstE_stop (j := (mp + 1) + 1) (by rw [firstE_next HKZ.out, partE_size HXM.out HCS.out (fun h => by have := h.2; rw [HPC.out] at this; omega), if_neg hql]) (by decide) e.parts.length (by omega)) (by decide) s.ents.length (by omega))
                            clear hql
                            obtain ⟨q0_0, z0_0, q0_1, z0_1, q0_2, z0_2, q0_3, z0_3, q0_4, z0_4⟩ := rw5 R0_9.out
                            obtain ⟨q1_0, z1_0, q1_1, z1_1, q1_2, z1_2⟩ := rw3 R1_9.out
                            obtain ⟨qn0_0, zn0_0, qn0_1, zn0_1, qn0_2, zn0_2, qn0_3, zn0_3⟩ := rw4 Rw2_heap_size_9.out
                            go_wp2_with fail
                            clear q0_0 z0_0 q0_1 z0_1 q0_2 z0_2 q0_3 z0_3 q0_4 z0_4 q1_0 z1_0 q1_1 z1_1 q1_2 z1_2 qn0_0 zn0_0 qn0_1 zn0_1 qn0_2 zn0_2 qn0_3 zn0_3
                            go_ret
                            exact ⟨by rw [HE.out]; rfl, Only.fin HB0.out O9.out⟩
                  · obtain rfl : m2 = e.parts.length := by omega
                    have HF9 := Lib.hid (show firstE (entE c s) (0 + 1) = 0 by rw [firstE_next HFZ.out, HEQ.out]; exact HKZ.out)
                    have iw : IntKind.i64.wrap ((0 : Int) + 1) = (0 : Int) + 1 := IntWalk.i64_in _ ⟨by omega, by omega⟩
                    obtain ⟨q0_0, z0_0, q0_1, z0_1, q0_2, z0_2, q0_3, z0_3, q0_4, z0_4⟩ := rw5 R0_7.out
                    obtain ⟨q1_0, z1_0, q1_1, z1_1, q1_2, z1_2⟩ := rw3 R1_7.out
                    obtain ⟨qn0_0, zn0_0, qn0_1, zn0_1, qn0_2, zn0_2, qn0_3, zn0_3⟩ := rw4 Rw2_heap_size_7.out
                    go_wp2_with fail
                    exact ⟨⟨0 + 1, by go_num, by omega, HF9, Lib.hid (HBV.out.trans (HBZ.out.mono HBV.out.size))⟩, by simp [intOf]; omega⟩
              · skip
                obtain ⟨y, hy⟩ : ∃ y, s.ents[n]? = some y := ⟨_, List.getElem?_eq_getElem (by omega)⟩
                have HYY := Lib.hid hy
                have HPI := Lib.hid (prev_index hy)
                have iw3 : IntKind.i64.wrap ((n : Int) + 1 - 1) = (n : Int) := by rw [show (n : Int) + 1 - 1 = (n : Int) by omega]; exact IntWalk.i64_in _ ⟨by omega, by omega⟩
                have iw4 : IntKind.i64.wrap (n : Int) = (n : Int) := IntWalk.i64_in _ ⟨by omega, by omega⟩
                have hmp1 : (n : Int) + 1 < s.ents.length := by omega
                have hmp2 : (n : Int) < s.ents.length := by omega
                have hmne : (0 : Int) < (n : Int) + 1 := by omega
                clear hy
                by_cases hyx : y.id.index < e.id.index
                · skip
                  have HEQ := Lib.hid (show entE c s (n + 1) = partsE c e.parts from entE_parts HEE.out ⟨HLB.out, fun _ => by rw [HPI.out]; exact hyx⟩)
                  refine wp_region_held_drew (S := fun W => Below wr.heap.size wr W) (by kernel_rfl) ((Below.refl _ _).drew) (fun s0 => ?_)
                  obtain ⟨v3, hv0⟩ : ∃ V, V = wr.drew := ⟨_, rfl⟩
                  rw [← hv0] at s0 ⊢
                  have t3 : Below wr.heap.size wr v3 := s0
                  clear hv0 s0
                  refine tkH (i := 0) (v := .agg #[.int .i64 c.entities, .int .i64 c.gens, .slice A1 s.gens.length c1, .slice A2 s.free.length c2]) rfl (Or.inl ⟨by rfl, fun w' h => by have e := row_call (h : Below wr.heap.size wr w') Rw2_heap_size_5.out; have e0 := cell_row e 0; have e1 := cell_row e 1; have e2 := cell_row e 2; have e3 := cell_row e 3; go_simp⟩) t3 ?_
                  go_simp
                  refine tkHV (i := 1) (v := .pointer (some ⟨w.heap.size + 1, 2, none⟩)) rfl t3 ?_
                  go_simp
                  refine tkH (i := 2) (v := .slice (some ⟨eb, eo, none⟩) s.ents.length c3) rfl (Or.inl ⟨by rfl, fun w' h => by have e := row_call (h : Below wr.heap.size wr w') R1_5.out; have e0 := cell_row e 0; have e1 := cell_row e 1; have e2 := cell_row e 2; go_simp⟩) t3 ?_
                  go_simp
                  refine tkHV (i := 3) (v := .int .i64 (n + 1)) rfl t3 ?_
                  go_simp
                  refine tkHV (i := 4) (v := .pointer (some ⟨eb, eo + (n + 1) * 3, none⟩)) rfl t3 ?_
                  go_simp
                  refine tkHV (i := 5) (v := .pointer (some ⟨eb, eo + (n + 1) * 3, none⟩)) rfl t3 ?_
                  go_simp
                  refine tkH (i := 6) (v := .agg #[.int .i64 e.id.index, .int .i64 e.id.gen]) rfl (Or.inl ⟨by rfl, fun w' h => by have e := HQ.out w' (h : Below wr.heap.size wr w') _ _ HEE.out; have e0 := e.1; have e1 := e.2; go_simp⟩) t3 ?_
                  go_simp
                  refine wpAnyH_all (rs := [7]) (by kernel_rfl) (by simp) ?_
                  intro i hi
                  obtain rfl : i = 7 := by simpa using hi
                  clear hi
                  refine wpOp_step rfl (fun K hK => ?_)
                  go_simp
                  refine (alive_calls (d := e.id) (val_only Vi_5.out (Only.of_below t3))).mono ?_
                  rintro e9 v4 ⟨rfl, hb⟩
                  rw [HLV.out]
                  have t4 : Below wr.heap.size wr v4 := Below.trans t3 (hb.mono (Below.size t3))
                  refine hK _ _ ⟨t4, ?_⟩
                  clear hb
                  clear hK K
                  refine tkHV (i := 8) (v := .bool false) rfl t4 ?_
                  go_simp
                  refine tkHV (i := 9) (v := .bool false) rfl t4 ?_
                  go_simp
                  refine tkHV (i := 10) (v := .int .i64 (n + 1)) rfl t4 ?_
                  go_simp
                  refine tkHV (i := 11) (v := .bool true) rfl t4 ?_
                  go_simp
                  refine tkHV (i := 12) (v := .bool true) rfl t4 ?_
                  go_simp
                  refine tkHV (i := 13) (v := .pointer (some ⟨w.heap.size + 1, 2, none⟩)) rfl t4 ?_
                  go_simp
                  refine tkH (i := 14) (v := .slice (some ⟨eb, eo, none⟩) s.ents.length c3) rfl (Or.inl ⟨by rfl, fun w' h => by have e := row_call (h : Below wr.heap.size wr w') R1_5.out; have e0 := cell_row e 0; have e1 := cell_row e 1; have e2 := cell_row e 2; go_simp⟩) t4 ?_
                  go_simp
                  refine tkHV (i := 15) (v := .int .i64 (n + 1)) rfl t4 ?_
                  go_simp
                  refine tkHV (i := 16) (v := .pointer (some ⟨eb, eo + (n + 1) * 3, none⟩)) rfl t4 ?_
                  go_simp
                  refine tkHV (i := 17) (v := .pointer (some ⟨eb, eo + (n + 1) * 3, none⟩)) rfl t4 ?_
                  go_simp
                  refine tkHV (i := 18) (v := .pointer (some ⟨eb, eo + (n + 1) * 3, none⟩)) rfl t4 ?_
                  go_simp
                  refine tkH (i := 19) (v := .int .i64 e.id.index) rfl (Or.inl ⟨by rfl, fun w' h => by have e := HQ.out w' (h : Below wr.heap.size wr w') _ _ HEE.out; have e0 := e.1; have e1 := e.2; go_simp⟩) t4 ?_
                  go_simp
                  refine tkHV (i := 20) (v := .pointer (some ⟨w.heap.size + 1, 2, none⟩)) rfl t4 ?_
                  go_simp
                  refine tkH (i := 21) (v := .slice (some ⟨eb, eo, none⟩) s.ents.length c3) rfl (Or.inl ⟨by rfl, fun w' h => by have e := row_call (h : Below wr.heap.size wr w') R1_5.out; have e0 := cell_row e 0; have e1 := cell_row e 1; have e2 := cell_row e 2; go_simp⟩) t4 ?_
                  go_simp
                  refine tkHV (i := 22) (v := .int .i64 (n + 1)) rfl t4 ?_
                  go_simp
                  refine tkHV (i := 23) (v := .int .i64 n) rfl t4 ?_
                  go_simp
                  refine tkHV (i := 24) (v := .pointer (some ⟨eb, eo + n * 3, none⟩)) rfl t4 ?_
                  go_simp
                  refine tkHV (i := 25) (v := .pointer (some ⟨eb, eo + n * 3, none⟩)) rfl t4 ?_
                  go_simp
                  refine tkHV (i := 26) (v := .pointer (some ⟨eb, eo + n * 3, none⟩)) rfl t4 ?_
                  go_simp
                  refine tkH (i := 27) (v := .int .i64 y.id.index) rfl (Or.inl ⟨by rfl, fun w' h => by have e := HQ.out w' (h : Below wr.heap.size wr w') _ _ HYY.out; have e0 := e.1; have e1 := e.2; go_simp⟩) t4 ?_
                  go_simp
                  refine tkHV (i := 28) (v := .bool false) rfl t4 ?_
                  go_simp
                  refine tkHV (i := 29) (v := .bool false) rfl t4 ?_
                  go_simp
                  refine tkHV (i := 30) (v := .bool false) rfl t4 ?_
                  go_simp
                  refine wpAnyH_done (by kernel_rfl) ?_ _
                  have S6 := Lib.hid (show Only (Box w 2) wr v4 from Only.of_below t4)
                  have O6 := Lib.hid (O5.out.trans S6.out)
                  have R0_6 := Lib.hid (row_call t4 R0_5.out)
                  have R1_6 := Lib.hid (row_call t4 R1_5.out)
                  have Rw2_heap_size_6 := Lib.hid (row_call t4 Rw2_heap_size_5.out)
                  have Vc_6 := Lib.hid (val_only Vc_5.out S6.out)
                  have Vg_6 := Lib.hid (val_only Vg_5.out S6.out)
                  have Vf_6 := Lib.hid (val_only Vf_5.out S6.out)
                  have Vi_6 := Lib.hid (val_only Vi_5.out S6.out)
                  have Ae_6 := Lib.hid (at_only Ae_5.out S6.out)
                  have HBV := Lib.hid (show Below v2.heap.size v2 v4 from HBR.out.trans ((show Below wr.heap.size wr v4 from t4).mono HBR.out.size))
                  have k2 := cell_call (show Below wr.heap.size wr v4 from t4) K2.out
                  have HPV2 := Lib.hid (show rPart.list.val (fun _ => True) v4 (.slice Ap e.parts.length cp) e.parts from val_keepT HPV.out (show Below wr.heap.size wr v4 from t4))
                  obtain ⟨q0_0, z0_0, q0_1, z0_1, q0_2, z0_2, q0_3, z0_3, q0_4, z0_4⟩ := rw5 R0_6.out
                  obtain ⟨q1_0, z1_0, q1_1, z1_1, q1_2, z1_2⟩ := rw3 R1_6.out
                  obtain ⟨qn0_0, zn0_0, qn0_1, zn0_1, qn0_2, zn0_2, qn0_3, zn0_3⟩ := rw4 Rw2_heap_size_6.out
                  go_wp2_with fail
                  clear k2
                  clear q0_0 z0_0 q0_1 z0_1 q0_2 z0_2 q0_3 z0_3 q0_4 z0_4 q1_0 z1_0 q1_1 z1_1 q1_2 z1_2 qn0_0 zn0_0 qn0_1 zn0_1 qn0_2 zn0_2 qn0_3 zn0_3
                  go_loopw [9, 10, 11] (fun i _ _ wz => ∃ k : Nat, i = .int .i64 k ∧ k ≤ e.parts.length ∧ Hid (firstE (partE c e.parts) k = 0) ∧ Hid (Below v4.heap.size v4 wz)) (fun i _ _ _ => e.parts.length - (intOf i).toNat)
                  case atStart => exact ⟨0, rfl, Nat.zero_le _, Lib.hid rfl, Lib.hid (Below.refl _ _)⟩
                  case round =>
                    rename World => wz
                    obtain ⟨m2, rfl, hk, HKZ, HBZ⟩ := hrel
                    have hpk := HPP.out
                    have S7 := Lib.hid (show Only (Box w 2) v4 wz from Only.of_below HBZ.out)
                    have O7 := Lib.hid (O6.out.trans S7.out)
                    have R0_7 := Lib.hid (row_call HBZ.out R0_6.out)
                    have R1_7 := Lib.hid (row_call HBZ.out R1_6.out)
                    have Rw2_heap_size_7 := Lib.hid (row_call HBZ.out Rw2_heap_size_6.out)
                    have Vc_7 := Lib.hid (val_only Vc_6.out S7.out)
                    have Vg_7 := Lib.hid (val_only Vg_6.out S7.out)
                    have Vf_7 := Lib.hid (val_only Vf_6.out S7.out)
                    have Vi_7 := Lib.hid (val_only Vi_6.out S7.out)
                    have Ae_7 := Lib.hid (at_only Ae_6.out S7.out)
                    by_cases hltk : (m2 : Int) < e.parts.length
                    · skip
                      obtain ⟨x, hxk⟩ : ∃ x, e.parts[m2]? = some x := ⟨_, List.getElem?_eq_getElem (by omega)⟩
                      obtain ⟨pb, po, Ad, cd, rfl, _, d0, d1, _, sd⟩ := rPart_at (sl_of (val_keepT HPV2.out HBZ.out)).2.2 hxk
                      have HXM := Lib.hid hxk
                      have s1 := sd.1
                      have s2 := sd.2.1
                      unfold maxLen at s2
                      have D0 := Lib.hid d0
                      have D1 := Lib.hid d1
                      clear hxk d0 d1 sd
                      obtain ⟨q0_0, z0_0, q0_1, z0_1, q0_2, z0_2, q0_3, z0_3, q0_4, z0_4⟩ := rw5 R0_7.out
                      obtain ⟨q1_0, z1_0, q1_1, z1_1, q1_2, z1_2⟩ := rw3 R1_7.out
                      obtain ⟨qn0_0, zn0_0, qn0_1, zn0_1, qn0_2, zn0_2, qn0_3, zn0_3⟩ := rw4 Rw2_heap_size_7.out
                      go_wp2_with fail
                      clear q0_0 z0_0 q0_1 z0_1 q0_2 z0_2 q0_3 z0_3 q0_4 z0_4 q1_0 z1_0 q1_1 z1_1 q1_2 z1_2 qn0_0 zn0_0 qn0_1 zn0_1 qn0_2 zn0_2 qn0_3 zn0_3
                      cases hcs : compSize c x.comp with
                      | none =>
                        have HCS := Lib.hid hcs
                        clear hcs
                        refine wp_region_held_drew (S := fun W => Below wz.heap.size wz W) (by kernel_rfl) ((Below.refl _ _).drew) (fun s0 => ?_)
                        obtain ⟨v5, hv0⟩ : ∃ V, V = wz.drew := ⟨_, rfl⟩
                        rw [← hv0] at s0 ⊢
                        have t5 : Below wz.heap.size wz v5 := s0
                        clear hv0 s0
                        refine tkH (i := 0) (v := .agg #[.int .i64 c.log, .int .i64 c.pages, .int .i64 c.entities, .int .i64 c.gens, .slice A c.comps.length cap]) rfl (Or.inl ⟨by rfl, fun w' h => by have e := row_call (h : Below wz.heap.size wz w') R0_7.out; have e0 := cell_row e 0; have e1 := cell_row e 1; have e2 := cell_row e 2; have e3 := cell_row e 3; have e4 := cell_row e 4; go_simp⟩) t5 ?_
                        go_simp
                        refine tkHV (i := 1) (v := .slice (some ⟨pb, po, none⟩) e.parts.length cp) rfl t5 ?_
                        go_simp
                        refine tkHV (i := 2) (v := .int .i64 m2) rfl t5 ?_
                        go_simp
                        refine tkHV (i := 3) (v := .pointer (some ⟨pb, po + m2 * 2, none⟩)) rfl t5 ?_
                        go_simp
                        refine tkHV (i := 4) (v := .pointer (some ⟨pb, po + m2 * 2, none⟩)) rfl t5 ?_
                        go_simp
                        refine tkH (i := 5) (v := .int .i64 x.comp) rfl (Or.inl ⟨by rfl, fun w' h => by have e := cell_call (h : Below wz.heap.size wz w') D0.out; go_simp⟩) t5 ?_
                        go_simp
                        refine wpAnyH_all (rs := [6]) (by kernel_rfl) (by simp) ?_
                        intro i hi
                        obtain rfl : i = 6 := by simpa using hi
                        clear hi
                        refine wpOp_step rfl (fun K hK => ?_)
                        go_simp
                        refine (rsize_calls (k := x.comp) (val_only Vc_7.out (Only.of_below t5))).mono ?_
                        rintro e9 v6 ⟨rfl, hb⟩
                        rw [HCS.out]
                        dsimp only [Option.getD_some, Option.isSome_some, Option.getD_none, Option.isSome_none]
                        have t6 : Below wz.heap.size wz v6 := Below.trans t5 (hb.mono (Below.size t5))
                        refine hK _ _ ⟨t6, ?_⟩
                        clear hb
                        clear hK K
                        refine tkHV (i := 7) (v := .tuple #[.int .i64 0, .bool false]) rfl t6 ?_
                        go_simp
                        refine tkHV (i := 8) (v := .int .i64 0) rfl t6 ?_
                        go_simp
                        refine tkHV (i := 9) (v := .bool false) rfl t6 ?_
                        go_simp
                        refine tkHV (i := 10) (v := .int .i64 0) rfl t6 ?_
                        go_simp
                        refine tkHV (i := 11) (v := .bool false) rfl t6 ?_
                        go_simp
                        refine wpAnyH_done (by kernel_rfl) ?_ _
                        have S8 := Lib.hid (show Only (Box w 2) wz v6 from Only.of_below t6)
                        have O8 := Lib.hid (O7.out.trans S8.out)
                        have R0_8 := Lib.hid (row_call t6 R0_7.out)
                        have R1_8 := Lib.hid (row_call t6 R1_7.out)
                        have Rw2_heap_size_8 := Lib.hid (row_call t6 Rw2_heap_size_7.out)
                        have Vc_8 := Lib.hid (val_only Vc_7.out S8.out)
                        have Vg_8 := Lib.hid (val_only Vg_7.out S8.out)
                        have Vf_8 := Lib.hid (val_only Vf_7.out S8.out)
                        have Vi_8 := Lib.hid (val_only Vi_7.out S8.out)
                        have Ae_8 := Lib.hid (at_only Ae_7.out S8.out)
                        have hv := (show Below wz.heap.size wz v6 from t6)
                        have HBV8 := Lib.hid (HBZ.out.trans (hv.mono HBZ.out.size))
                        have D0' := Lib.hid (cell_call hv D0.out)
                        have D1' := Lib.hid (cell_call hv D1.out)
                        clear hv
                        obtain ⟨q0_0, z0_0, q0_1, z0_1, q0_2, z0_2, q0_3, z0_3, q0_4, z0_4⟩ := rw5 R0_8.out
                        obtain ⟨q1_0, z1_0, q1_1, z1_1, q1_2, z1_2⟩ := rw3 R1_8.out
                        obtain ⟨qn0_0, zn0_0, qn0_1, zn0_1, qn0_2, zn0_2, qn0_3, zn0_3⟩ := rw4 Rw2_heap_size_8.out
                        try go_wp2_with fail
                        clear q0_0 z0_0 q0_1 z0_1 q0_2 z0_2 q0_3 z0_3 q0_4 z0_4 q1_0 z1_0 q1_1 z1_1 q1_2 z1_2 qn0_0 zn0_0 qn0_1 zn0_1 qn0_2 zn0_2 qn0_3 zn0_3
                        refine wp_region_held_drew (S := fun W => Below v6.heap.size v6 W) (by kernel_rfl) ((Below.refl _ _).drew) (fun s0 => ?_)
                        obtain ⟨v7, hv0⟩ : ∃ V, V = v6.drew := ⟨_, rfl⟩
                        rw [← hv0] at s0 ⊢
                        have t7 : Below v6.heap.size v6 v7 := s0
                        clear hv0 s0
                        refine tkHV (i := 0) (v := .bool false) rfl t7 ?_
                        go_simp
                        refine tkHV (i := 1) (v := .bool true) rfl t7 ?_
                        go_simp
                        refine tkHV (i := 2) (v := .bool true) rfl t7 ?_
                        go_simp
                        refine tkH (i := 3) (v := undef) rfl (Or.inr ⟨by rfl, rfl⟩) t7 ?_
                        go_simp
                        refine tkH (i := 4) (v := undef) rfl (Or.inr ⟨by rfl, rfl⟩) t7 ?_
                        go_simp
                        refine tkH (i := 5) (v := undef) rfl (Or.inr ⟨by rfl, rfl⟩) t7 ?_
                        go_simp
                        refine tkH (i := 6) (v := undef) rfl (Or.inr ⟨by rfl, rfl⟩) t7 ?_
                        go_simp
                        refine tkH (i := 7) (v := undef) rfl (Or.inr ⟨by rfl, rfl⟩) t7 ?_
                        go_simp
                        refine tkH (i := 8) (v := undef) rfl (Or.inr ⟨by rfl, rfl⟩) t7 ?_
                        go_simp
                        refine tkH (i := 9) (v := undef) rfl (Or.inr ⟨by rfl, rfl⟩) t7 ?_
                        go_simp
                        refine tkH (i := 10) (v := undef) rfl (Or.inr ⟨by rfl, rfl⟩) t7 ?_
                        go_simp
                        refine tkH (i := 11) (v := undef) rfl (Or.inr ⟨by rfl, rfl⟩) t7 ?_
                        go_simp
                        refine tkH (i := 12) (v := undef) rfl (Or.inr ⟨by rfl, rfl⟩) t7 ?_
                        go_simp
                        refine tkH (i := 13) (v := undef) rfl (Or.inr ⟨by rfl, rfl⟩) t7 ?_
                        go_simp
                        refine tkH (i := 14) (v := undef) rfl (Or.inr ⟨by rfl, rfl⟩) t7 ?_
                        go_simp
                        refine tkH (i := 15) (v := undef) rfl (Or.inr ⟨by rfl, rfl⟩) t7 ?_
                        go_simp
                        refine tkH (i := 16) (v := undef) rfl (Or.inr ⟨by rfl, rfl⟩) t7 ?_
                        go_simp
                        refine tkH (i := 17) (v := undef) rfl (Or.inr ⟨by rfl, rfl⟩) t7 ?_
                        go_simp
                        refine tkH (i := 18) (v := undef) rfl (Or.inr ⟨by rfl, rfl⟩) t7 ?_
                        go_simp
                        refine tkHV (i := 19) (v := .bool true) rfl t7 ?_
                        go_simp
                        refine wpAnyH_done (by kernel_rfl) ?_ _
                        have S9 := Lib.hid (show Only (Box w 2) v6 v7 from Only.of_below t7)
                        have O9 := Lib.hid (O8.out.trans S9.out)
                        have R0_9 := Lib.hid (row_call t7 R0_8.out)
                        have R1_9 := Lib.hid (row_call t7 R1_8.out)
                        have Rw2_heap_size_9 := Lib.hid (row_call t7 Rw2_heap_size_8.out)
                        have Vc_9 := Lib.hid (val_only Vc_8.out S9.out)
                        have Vg_9 := Lib.hid (val_only Vg_8.out S9.out)
                        have Vf_9 := Lib.hid (val_only Vf_8.out S9.out)
                        have Vi_9 := Lib.hid (val_only Vi_8.out S9.out)
                        have Ae_9 := Lib.hid (at_only Ae_8.out S9.out)
                        have HE := Lib.hid (show auditS c s = 6 by rw [audit_ent HR.out HLO.out (by rw [HM.out, HCN.out])]; exact firstE_stop (j := (n + 1) + 1) (by rw [firstE_next HFZ.out, HEQ.out]; exact firstE_stop (j := m2 + 1) (by rw [firstE_next HKZ.out, partE_none HXM.out HCS.out]) (by decide) e.parts.length (by omega)) (by decide) s.ents.length (by omega))
                        obtain ⟨q0_0, z0_0, q0_1, z0_1, q0_2, z0_2, q0_3, z0_3, q0_4, z0_4⟩ := rw5 R0_9.out
                        obtain ⟨q1_0, z1_0, q1_1, z1_1, q1_2, z1_2⟩ := rw3 R1_9.out
                        obtain ⟨qn0_0, zn0_0, qn0_1, zn0_1, qn0_2, zn0_2, qn0_3, zn0_3⟩ := rw4 Rw2_heap_size_9.out
                        go_wp2_with fail
                        clear q0_0 z0_0 q0_1 z0_1 q0_2 z0_2 q0_3 z0_3 q0_4 z0_4 q1_0 z1_0 q1_1 z1_1 q1_2 z1_2 qn0_0 zn0_0 qn0_1 zn0_1 qn0_2 zn0_2 qn0_3 zn0_3
                        go_ret
                        exact ⟨by rw [HE.out]; rfl, Only.fin HB0.out O9.out⟩
                      | some q =>
                        have HCS := Lib.hid hcs
                        clear hcs
                        refine wp_region_held_drew (S := fun W => Below wz.heap.size wz W) (by kernel_rfl) ((Below.refl _ _).drew) (fun s0 => ?_)
                        obtain ⟨v5, hv0⟩ : ∃ V, V = wz.drew := ⟨_, rfl⟩
                        rw [← hv0] at s0 ⊢
                        have t5 : Below wz.heap.size wz v5 := s0
                        clear hv0 s0
                        refine tkH (i := 0) (v := .agg #[.int .i64 c.log, .int .i64 c.pages, .int .i64 c.entities, .int .i64 c.gens, .slice A c.comps.length cap]) rfl (Or.inl ⟨by rfl, fun w' h => by have e := row_call (h : Below wz.heap.size wz w') R0_7.out; have e0 := cell_row e 0; have e1 := cell_row e 1; have e2 := cell_row e 2; have e3 := cell_row e 3; have e4 := cell_row e 4; go_simp⟩) t5 ?_
                        go_simp
                        refine tkHV (i := 1) (v := .slice (some ⟨pb, po, none⟩) e.parts.length cp) rfl t5 ?_
                        go_simp
                        refine tkHV (i := 2) (v := .int .i64 m2) rfl t5 ?_
                        go_simp
                        refine tkHV (i := 3) (v := .pointer (some ⟨pb, po + m2 * 2, none⟩)) rfl t5 ?_
                        go_simp
                        refine tkHV (i := 4) (v := .pointer (some ⟨pb, po + m2 * 2, none⟩)) rfl t5 ?_
                        go_simp
                        refine tkH (i := 5) (v := .int .i64 x.comp) rfl (Or.inl ⟨by rfl, fun w' h => by have e := cell_call (h : Below wz.heap.size wz w') D0.out; go_simp⟩) t5 ?_
                        go_simp
                        refine wpAnyH_all (rs := [6]) (by kernel_rfl) (by simp) ?_
                        intro i hi
                        obtain rfl : i = 6 := by simpa using hi
                        clear hi
                        refine wpOp_step rfl (fun K hK => ?_)
                        go_simp
                        refine (rsize_calls (k := x.comp) (val_only Vc_7.out (Only.of_below t5))).mono ?_
                        rintro e9 v6 ⟨rfl, hb⟩
                        rw [HCS.out]
                        dsimp only [Option.getD_some, Option.isSome_some, Option.getD_none, Option.isSome_none]
                        have t6 : Below wz.heap.size wz v6 := Below.trans t5 (hb.mono (Below.size t5))
                        refine hK _ _ ⟨t6, ?_⟩
                        clear hb
                        clear hK K
                        refine tkHV (i := 7) (v := .tuple #[.int .i64 q, .bool true]) rfl t6 ?_
                        go_simp
                        refine tkHV (i := 8) (v := .int .i64 q) rfl t6 ?_
                        go_simp
                        refine tkHV (i := 9) (v := .bool true) rfl t6 ?_
                        go_simp
                        refine tkHV (i := 10) (v := .int .i64 q) rfl t6 ?_
                        go_simp
                        refine tkHV (i := 11) (v := .bool true) rfl t6 ?_
                        go_simp
                        refine wpAnyH_done (by kernel_rfl) ?_ _
                        have S8 := Lib.hid (show Only (Box w 2) wz v6 from Only.of_below t6)
                        have O8 := Lib.hid (O7.out.trans S8.out)
                        have R0_8 := Lib.hid (row_call t6 R0_7.out)
                        have R1_8 := Lib.hid (row_call t6 R1_7.out)
                        have Rw2_heap_size_8 := Lib.hid (row_call t6 Rw2_heap_size_7.out)
                        have Vc_8 := Lib.hid (val_only Vc_7.out S8.out)
                        have Vg_8 := Lib.hid (val_only Vg_7.out S8.out)
                        have Vf_8 := Lib.hid (val_only Vf_7.out S8.out)
                        have Vi_8 := Lib.hid (val_only Vi_7.out S8.out)
                        have Ae_8 := Lib.hid (at_only Ae_7.out S8.out)
                        have hv := (show Below wz.heap.size wz v6 from t6)
                        have HBV8 := Lib.hid (HBZ.out.trans (hv.mono HBZ.out.size))
                        have D0' := Lib.hid (cell_call hv D0.out)
                        have D1' := Lib.hid (cell_call hv D1.out)
                        clear hv
                        obtain ⟨q0_0, z0_0, q0_1, z0_1, q0_2, z0_2, q0_3, z0_3, q0_4, z0_4⟩ := rw5 R0_8.out
                        obtain ⟨q1_0, z1_0, q1_1, z1_1, q1_2, z1_2⟩ := rw3 R1_8.out
                        obtain ⟨qn0_0, zn0_0, qn0_1, zn0_1, qn0_2, zn0_2, qn0_3, zn0_3⟩ := rw4 Rw2_heap_size_8.out
                        try go_wp2_with fail
                        clear q0_0 z0_0 q0_1 z0_1 q0_2 z0_2 q0_3 z0_3 q0_4 z0_4 q1_0 z1_0 q1_1 z1_1 q1_2 z1_2 qn0_0 zn0_0 qn0_1 zn0_1 qn0_2 zn0_2 qn0_3 zn0_3
                        rcases m2 with _ | mp
                        · skip
                          have hne0 : ¬ e.parts.length = 0 := by omega
                          refine wp_region_held_drew (S := fun W => Below v6.heap.size v6 W) (by kernel_rfl) ((Below.refl _ _).drew) (fun s0 => ?_)
                          obtain ⟨v7, hv0⟩ : ∃ V, V = v6.drew := ⟨_, rfl⟩
                          rw [← hv0] at s0 ⊢
                          have t7 : Below v6.heap.size v6 v7 := s0
                          clear hv0 s0
                          refine tkHV (i := 0) (v := .bool true) rfl t7 ?_
                          go_simp
                          refine tkHV (i := 1) (v := .bool false) rfl t7 ?_
                          go_simp
                          refine tkHV (i := 2) (v := .bool false) rfl t7 ?_
                          go_simp
                          refine tkHV (i := 3) (v := .int .i64 0) rfl t7 ?_
                          go_simp
                          refine tkHV (i := 4) (v := .bool false) rfl t7 ?_
                          go_simp
                          refine tkHV (i := 5) (v := .bool false) rfl t7 ?_
                          go_simp
                          refine tkH (i := 6) (v := undef) rfl (Or.inr ⟨by rfl, rfl⟩) t7 ?_
                          go_simp
                          refine tkH (i := 7) (v := undef) rfl (Or.inr ⟨by rfl, rfl⟩) t7 ?_
                          go_simp
                          refine tkH (i := 8) (v := undef) rfl (Or.inr ⟨by rfl, rfl⟩) t7 ?_
                          go_simp
                          refine tkH (i := 9) (v := undef) rfl (Or.inr ⟨by rfl, rfl⟩) t7 ?_
                          go_simp
                          refine tkH (i := 10) (v := undef) rfl (Or.inr ⟨by rfl, rfl⟩) t7 ?_
                          go_simp
                          refine tkH (i := 11) (v := undef) rfl (Or.inr ⟨by rfl, rfl⟩) t7 ?_
                          go_simp
                          refine tkH (i := 12) (v := undef) rfl (Or.inr ⟨by rfl, rfl⟩) t7 ?_
                          go_simp
                          refine tkH (i := 13) (v := undef) rfl (Or.inr ⟨by rfl, rfl⟩) t7 ?_
                          go_simp
                          refine tkH (i := 14) (v := undef) rfl (Or.inr ⟨by rfl, rfl⟩) t7 ?_
                          go_simp
                          refine tkH (i := 15) (v := undef) rfl (Or.inr ⟨by rfl, rfl⟩) t7 ?_
                          go_simp
                          refine tkH (i := 16) (v := undef) rfl (Or.inr ⟨by rfl, rfl⟩) t7 ?_
                          go_simp
                          refine tkH (i := 17) (v := undef) rfl (Or.inr ⟨by rfl, rfl⟩) t7 ?_
                          go_simp
                          refine tkHV (i := 18) (v := .bool false) rfl t7 ?_
                          go_simp
                          refine tkHV (i := 19) (v := .bool false) rfl t7 ?_
                          go_simp
                          refine wpAnyH_done (by kernel_rfl) ?_ _
                          have S9 := Lib.hid (show Only (Box w 2) v6 v7 from Only.of_below t7)
                          have O9 := Lib.hid (O8.out.trans S9.out)
                          have R0_9 := Lib.hid (row_call t7 R0_8.out)
                          have R1_9 := Lib.hid (row_call t7 R1_8.out)
                          have Rw2_heap_size_9 := Lib.hid (row_call t7 Rw2_heap_size_8.out)
                          have Vc_9 := Lib.hid (val_only Vc_8.out S9.out)
                          have Vg_9 := Lib.hid (val_only Vg_8.out S9.out)
                          have Vf_9 := Lib.hid (val_only Vf_8.out S9.out)
                          have Vi_9 := Lib.hid (val_only Vi_8.out S9.out)
                          have Ae_9 := Lib.hid (at_only Ae_8.out S9.out)
                          have hv9 := (show Below v6.heap.size v6 v7 from t7)
                          have HBV9 := Lib.hid (HBV8.out.trans (hv9.mono HBV8.out.size))
                          have d1 := cell_call hv9 D1'.out
                          rw [Nat.zero_mul, Nat.add_zero] at d1
                          clear hv9
                          by_cases hql : q = (x.data.length : Int)
                          · skip
                            subst hql
                            have HOK := Lib.hid (show firstE (partE c e.parts) (0 + 1) = 0 by rw [firstE_next HKZ.out]; exact partE_ok HXM.out HCS.out (fun h => absurd h.1 (by decide)))
                            have iw2 : IntKind.i64.wrap ((0 : Int) + 1) = (0 : Int) + 1 := IntWalk.i64_in _ ⟨by omega, by omega⟩
                            obtain ⟨q0_0, z0_0, q0_1, z0_1, q0_2, z0_2, q0_3, z0_3, q0_4, z0_4⟩ := rw5 R0_9.out
                            obtain ⟨q1_0, z1_0, q1_1, z1_1, q1_2, z1_2⟩ := rw3 R1_9.out
                            obtain ⟨qn0_0, zn0_0, qn0_1, zn0_1, qn0_2, zn0_2, qn0_3, zn0_3⟩ := rw4 Rw2_heap_size_9.out
                            go_wp2_with fail
                            clear q0_0 z0_0 q0_1 z0_1 q0_2 z0_2 q0_3 z0_3 q0_4 z0_4 q1_0 z1_0 q1_1 z1_1 q1_2 z1_2 qn0_0 zn0_0 qn0_1 zn0_1 qn0_2 zn0_2 qn0_3 zn0_3
                            exact ⟨⟨0 + 1, by go_num, by omega, HOK, HBV9⟩, by simp [intOf]; omega⟩
                          · skip
                            have bql : (q != (x.data.length : Int)) = true := by simp [hql]
                            have HE := Lib.hid (show auditS c s = 7 by rw [audit_ent HR.out HLO.out (by rw [HM.out, HCN.out])]; exact firstE_stop (j := (n + 1) + 1) (by rw [firstE_next HFZ.out, HEQ.out]; exact firstE_stop (j := 0 + 1) (by rw [firstE_next HKZ.out, partE_size HXM.out HCS.out (fun h => absurd h.1 (by decide)), if_neg hql]) (by decide) e.parts.length (by omega)) (by decide) s.ents.length (by omega))
                            clear hql
                            obtain ⟨q0_0, z0_0, q0_1, z0_1, q0_2, z0_2, q0_3, z0_3, q0_4, z0_4⟩ := rw5 R0_9.out
                            obtain ⟨q1_0, z1_0, q1_1, z1_1, q1_2, z1_2⟩ := rw3 R1_9.out
                            obtain ⟨qn0_0, zn0_0, qn0_1, zn0_1, qn0_2, zn0_2, qn0_3, zn0_3⟩ := rw4 Rw2_heap_size_9.out
                            go_wp2_with fail
                            clear q0_0 z0_0 q0_1 z0_1 q0_2 z0_2 q0_3 z0_3 q0_4 z0_4 q1_0 z1_0 q1_1 z1_1 q1_2 z1_2 qn0_0 zn0_0 qn0_1 zn0_1 qn0_2 zn0_2 qn0_3 zn0_3
                            go_ret
                            exact ⟨by rw [HE.out]; rfl, Only.fin HB0.out O9.out⟩
                        · skip
                          obtain ⟨y, hym⟩ : ∃ y, e.parts[mp]? = some y := ⟨_, List.getElem?_eq_getElem (by omega)⟩
                          have HPC := Lib.hid (prev_comp hym)
                          obtain ⟨pb2, po2, _, _, hpp, _, d2, _, _, _⟩ := rPart_at (sl_of (val_keepT HPV2.out HBV8.out)).2.2 hym
                          obtain ⟨rfl, rfl⟩ : pb = pb2 ∧ po = po2 := by injection hpp with h; injection h with h1 h2; exact ⟨h1, h2⟩
                          have D2 := Lib.hid d2
                          have iw : IntKind.i64.wrap ((mp : Int) + 1 - 1) = (mp : Int) := by rw [show (mp : Int) + 1 - 1 = (mp : Int) by omega]; exact IntWalk.i64_in _ ⟨by omega, by omega⟩
                          have iw3 : IntKind.i64.wrap (mp : Int) = (mp : Int) := IntWalk.i64_in _ ⟨by omega, by omega⟩
                          have hmp1 : (mp : Int) + 1 < e.parts.length := by omega
                          have hmp2 : (mp : Int) < e.parts.length := by omega
                          clear hym hpp d2
                          by_cases hyx : x.comp ≤ y.comp
                          · skip
                            refine wp_region_held_drew (S := fun W => Below v6.heap.size v6 W) (by kernel_rfl) ((Below.refl _ _).drew) (fun s0 => ?_)
                            obtain ⟨v7, hv0⟩ : ∃ V, V = v6.drew := ⟨_, rfl⟩
                            rw [← hv0] at s0 ⊢
                            have t7 : Below v6.heap.size v6 v7 := s0
                            clear hv0 s0
                            refine tkHV (i := 0) (v := .bool true) rfl t7 ?_
                            go_simp
                            refine tkHV (i := 1) (v := .bool false) rfl t7 ?_
                            go_simp
                            refine tkHV (i := 2) (v := .bool false) rfl t7 ?_
                            go_simp
                            refine tkHV (i := 3) (v := .int .i64 (mp + 1)) rfl t7 ?_
                            go_simp
                            refine tkHV (i := 4) (v := .bool true) rfl t7 ?_
                            go_simp
                            refine tkHV (i := 5) (v := .bool true) rfl t7 ?_
                            go_simp
                            refine tkHV (i := 6) (v := .slice (some ⟨pb, po, none⟩) e.parts.length cp) rfl t7 ?_
                            go_simp
                            refine tkHV (i := 7) (v := .int .i64 (mp + 1)) rfl t7 ?_
                            go_simp
                            refine tkHV (i := 8) (v := .pointer (some ⟨pb, po + (mp + 1) * 2, none⟩)) rfl t7 ?_
                            go_simp
                            refine tkHV (i := 9) (v := .pointer (some ⟨pb, po + (mp + 1) * 2, none⟩)) rfl t7 ?_
                            go_simp
                            refine tkH (i := 10) (v := .int .i64 x.comp) rfl (Or.inl ⟨by rfl, fun w' h => by have e := cell_call (h : Below v6.heap.size v6 w') D0'.out; go_simp⟩) t7 ?_
                            go_simp
                            refine tkHV (i := 11) (v := .slice (some ⟨pb, po, none⟩) e.parts.length cp) rfl t7 ?_
                            go_simp
                            refine tkHV (i := 12) (v := .int .i64 (mp + 1)) rfl t7 ?_
                            go_simp
                            refine tkHV (i := 13) (v := .int .i64 mp) rfl t7 ?_
                            go_simp
                            refine tkHV (i := 14) (v := .pointer (some ⟨pb, po + mp * 2, none⟩)) rfl t7 ?_
                            go_simp
                            refine tkHV (i := 15) (v := .pointer (some ⟨pb, po + mp * 2, none⟩)) rfl t7 ?_
                            go_simp
                            refine tkH (i := 16) (v := .int .i64 y.comp) rfl (Or.inl ⟨by rfl, fun w' h => by have e := cell_call (h : Below v6.heap.size v6 w') D2.out; go_simp⟩) t7 ?_
                            go_simp
                            refine tkHV (i := 17) (v := .bool true) rfl t7 ?_
                            go_simp
                            refine tkHV (i := 18) (v := .bool true) rfl t7 ?_
                            go_simp
                            refine tkHV (i := 19) (v := .bool true) rfl t7 ?_
                            go_simp
                            refine wpAnyH_done (by kernel_rfl) ?_ _
                            have S9 := Lib.hid (show Only (Box w 2) v6 v7 from Only.of_below t7)
                            have O9 := Lib.hid (O8.out.trans S9.out)
                            have R0_9 := Lib.hid (row_call t7 R0_8.out)
                            have R1_9 := Lib.hid (row_call t7 R1_8.out)
                            have Rw2_heap_size_9 := Lib.hid (row_call t7 Rw2_heap_size_8.out)
                            have Vc_9 := Lib.hid (val_only Vc_8.out S9.out)
                            have Vg_9 := Lib.hid (val_only Vg_8.out S9.out)
                            have Vf_9 := Lib.hid (val_only Vf_8.out S9.out)
                            have Vi_9 := Lib.hid (val_only Vi_8.out S9.out)
                            have Ae_9 := Lib.hid (at_only Ae_8.out S9.out)
                            have HE := Lib.hid (show auditS c s = 6 by rw [audit_ent HR.out HLO.out (by rw [HM.out, HCN.out])]; exact firstE_stop (j := (n + 1) + 1) (by rw [firstE_next HFZ.out, HEQ.out]; exact firstE_stop (j := (mp + 1) + 1) (by rw [firstE_next HKZ.out, partE_low HXM.out HCS.out ⟨by omega, by rw [HPC.out]; exact hyx⟩]) (by decide) e.parts.length (by omega)) (by decide) s.ents.length (by omega))
                            obtain ⟨q0_0, z0_0, q0_1, z0_1, q0_2, z0_2, q0_3, z0_3, q0_4, z0_4⟩ := rw5 R0_9.out
                            obtain ⟨q1_0, z1_0, q1_1, z1_1, q1_2, z1_2⟩ := rw3 R1_9.out
                            obtain ⟨qn0_0, zn0_0, qn0_1, zn0_1, qn0_2, zn0_2, qn0_3, zn0_3⟩ := rw4 Rw2_heap_size_9.out
                            go_wp2_with fail
                            clear q0_0 z0_0 q0_1 z0_1 q0_2 z0_2 q0_3 z0_3 q0_4 z0_4 q1_0 z1_0 q1_1 z1_1 q1_2 z1_2 qn0_0 zn0_0 qn0_1 zn0_1 qn0_2 zn0_2 qn0_3 zn0_3
                            go_ret
                            exact ⟨by rw [HE.out]; rfl, Only.fin HB0.out O9.out⟩
                          · skip
                            refine wp_region_held_drew (S := fun W => Below v6.heap.size v6 W) (by kernel_rfl) ((Below.refl _ _).drew) (fun s0 => ?_)
                            obtain ⟨v7, hv0⟩ : ∃ V, V = v6.drew := ⟨_, rfl⟩
                            rw [← hv0] at s0 ⊢
                            have t7 : Below v6.heap.size v6 v7 := s0
                            clear hv0 s0
                            refine tkHV (i := 0) (v := .bool true) rfl t7 ?_
                            go_simp
                            refine tkHV (i := 1) (v := .bool false) rfl t7 ?_
                            go_simp
                            refine tkHV (i := 2) (v := .bool false) rfl t7 ?_
                            go_simp
                            refine tkHV (i := 3) (v := .int .i64 (mp + 1)) rfl t7 ?_
                            go_simp
                            refine tkHV (i := 4) (v := .bool true) rfl t7 ?_
                            go_simp
                            refine tkHV (i := 5) (v := .bool true) rfl t7 ?_
                            go_simp
                            refine tkHV (i := 6) (v := .slice (some ⟨pb, po, none⟩) e.parts.length cp) rfl t7 ?_
                            go_simp
                            refine tkHV (i := 7) (v := .int .i64 (mp + 1)) rfl t7 ?_
                            go_simp
                            refine tkHV (i := 8) (v := .pointer (some ⟨pb, po + (mp + 1) * 2, none⟩)) rfl t7 ?_
                            go_simp
                            refine tkHV (i := 9) (v := .pointer (some ⟨pb, po + (mp + 1) * 2, none⟩)) rfl t7 ?_
                            go_simp
                            refine tkH (i := 10) (v := .int .i64 x.comp) rfl (Or.inl ⟨by rfl, fun w' h => by have e := cell_call (h : Below v6.heap.size v6 w') D0'.out; go_simp⟩) t7 ?_
                            go_simp
                            refine tkHV (i := 11) (v := .slice (some ⟨pb, po, none⟩) e.parts.length cp) rfl t7 ?_
                            go_simp
                            refine tkHV (i := 12) (v := .int .i64 (mp + 1)) rfl t7 ?_
                            go_simp
                            refine tkHV (i := 13) (v := .int .i64 mp) rfl t7 ?_
                            go_simp
                            refine tkHV (i := 14) (v := .pointer (some ⟨pb, po + mp * 2, none⟩)) rfl t7 ?_
                            go_simp
                            refine tkHV (i := 15) (v := .pointer (some ⟨pb, po + mp * 2, none⟩)) rfl t7 ?_
                            go_simp
                            refine tkH (i := 16) (v := .int .i64 y.comp) rfl (Or.inl ⟨by rfl, fun w' h => by have e := cell_call (h : Below v6.heap.size v6 w') D2.out; go_simp⟩) t7 ?_
                            go_simp
                            refine tkHV (i := 17) (v := .bool false) rfl t7 ?_
                            go_simp
                            refine tkHV (i := 18) (v := .bool false) rfl t7 ?_
                            go_simp
                            refine tkHV (i := 19) (v := .bool false) rfl t7 ?_
                            go_simp
                            refine wpAnyH_done (by kernel_rfl) ?_ _
                            have S9 := Lib.hid (show Only (Box w 2) v6 v7 from Only.of_below t7)
                            have O9 := Lib.hid (O8.out.trans S9.out)
                            have R0_9 := Lib.hid (row_call t7 R0_8.out)
                            have R1_9 := Lib.hid (row_call t7 R1_8.out)
                            have Rw2_heap_size_9 := Lib.hid (row_call t7 Rw2_heap_size_8.out)
                            have Vc_9 := Lib.hid (val_only Vc_8.out S9.out)
                            have Vg_9 := Lib.hid (val_only Vg_8.out S9.out)
                            have Vf_9 := Lib.hid (val_only Vf_8.out S9.out)
                            have Vi_9 := Lib.hid (val_only Vi_8.out S9.out)
                            have Ae_9 := Lib.hid (at_only Ae_8.out S9.out)
                            have hv9 := (show Below v6.heap.size v6 v7 from t7)
                            have HBV9 := Lib.hid (HBV8.out.trans (hv9.mono HBV8.out.size))
                            have d1 := cell_call hv9 D1'.out
                            clear hv9
                            by_cases hql : q = (x.data.length : Int)
                            · skip
                              subst hql
                              have HOK := Lib.hid (show firstE (partE c e.parts) ((mp + 1) + 1) = 0 by rw [firstE_next HKZ.out]; exact partE_ok HXM.out HCS.out (fun h => by have := h.2; rw [HPC.out] at this; omega))
                              have iw2 : IntKind.i64.wrap (((mp : Int) + 1) + 1) = ((mp : Int) + 1) + 1 := IntWalk.i64_in _ ⟨by omega, by omega⟩
                              obtain ⟨q0_0, z0_0, q0_1, z0_1, q0_2, z0_2, q0_3, z0_3, q0_4, z0_4⟩ := rw5 R0_9.out
                              obtain ⟨q1_0, z1_0, q1_1, z1_1, q1_2, z1_2⟩ := rw3 R1_9.out
                              obtain ⟨qn0_0, zn0_0, qn0_1, zn0_1, qn0_2, zn0_2, qn0_3, zn0_3⟩ := rw4 Rw2_heap_size_9.out
                              go_wp2_with fail
                              clear q0_0 z0_0 q0_1 z0_1 q0_2 z0_2 q0_3 z0_3 q0_4 z0_4 q1_0 z1_0 q1_1 z1_1 q1_2 z1_2 qn0_0 zn0_0 qn0_1 zn0_1 qn0_2 zn0_2 qn0_3 zn0_3
                              exact ⟨⟨(mp + 1) + 1, by go_num, by omega, HOK, HBV9⟩, by simp [intOf]; omega⟩
                            · skip
                              have bql : (q != (x.data.length : Int)) = true := by simp [hql]
                              have HE := Lib.hid (show auditS c s = 7 by rw [audit_ent HR.out HLO.out (by rw [HM.out, HCN.out])]; exact firstE_stop (j := (n + 1) + 1) (by rw [firstE_next HFZ.out, HEQ.out]; exact firstE_stop (j := (mp + 1) + 1) (by rw [firstE_next HKZ.out, partE_size HXM.out HCS.out (fun h => by have := h.2; rw [HPC.out] at this; omega), if_neg hql]) (by decide) e.parts.length (by omega)) (by decide) s.ents.length (by omega))
                              clear hql
                              obtain ⟨q0_0, z0_0, q0_1, z0_1, q0_2, z0_2, q0_3, z0_3, q0_4, z0_4⟩ := rw5 R0_9.out
                              obtain ⟨q1_0, z1_0, q1_1, z1_1, q1_2, z1_2⟩ := rw3 R1_9.out
                              obtain ⟨qn0_0, zn0_0, qn0_1, zn0_1, qn0_2, zn0_2, qn0_3, zn0_3⟩ := rw4 Rw2_heap_size_9.out
                              go_wp2_with fail
                              clear q0_0 z0_0 q0_1 z0_1 q0_2 z0_2 q0_3 z0_3 q0_4 z0_4 q1_0 z1_0 q1_1 z1_1 q1_2 z1_2 qn0_0 zn0_0 qn0_1 zn0_1 qn0_2 zn0_2 qn0_3 zn0_3
                              go_ret
                              exact ⟨by rw [HE.out]; rfl, Only.fin HB0.out O9.out⟩
                    · obtain rfl : m2 = e.parts.length := by omega
                      have HF9 := Lib.hid (show firstE (entE c s) ((n + 1) + 1) = 0 by rw [firstE_next HFZ.out, HEQ.out]; exact HKZ.out)
                      have iw : IntKind.i64.wrap (((n : Int) + 1) + 1) = ((n : Int) + 1) + 1 := IntWalk.i64_in _ ⟨by omega, by omega⟩
                      obtain ⟨q0_0, z0_0, q0_1, z0_1, q0_2, z0_2, q0_3, z0_3, q0_4, z0_4⟩ := rw5 R0_7.out
                      obtain ⟨q1_0, z1_0, q1_1, z1_1, q1_2, z1_2⟩ := rw3 R1_7.out
                      obtain ⟨qn0_0, zn0_0, qn0_1, zn0_1, qn0_2, zn0_2, qn0_3, zn0_3⟩ := rw4 Rw2_heap_size_7.out
                      go_wp2_with fail
                      exact ⟨⟨(n + 1) + 1, by go_num, by omega, HF9, Lib.hid (HBV.out.trans (HBZ.out.mono HBV.out.size))⟩, by simp [intOf]; omega⟩
                · skip
                  have HE := Lib.hid (show auditS c s = 5 by rw [audit_ent HR.out HLO.out (by rw [HM.out, HCN.out])]; exact firstE_stop (by rw [firstE_next HFZ.out, entE_bad HEE.out (fun h => hyx (by have := h.2 (by omega); rwa [HPI.out] at this))]) (by decide) s.ents.length (by omega))
                  refine wp_region_held_drew (S := fun W => Below wr.heap.size wr W) (by kernel_rfl) ((Below.refl _ _).drew) (fun s0 => ?_)
                  obtain ⟨v3, hv0⟩ : ∃ V, V = wr.drew := ⟨_, rfl⟩
                  rw [← hv0] at s0 ⊢
                  have t3 : Below wr.heap.size wr v3 := s0
                  clear hv0 s0
                  refine tkH (i := 0) (v := .agg #[.int .i64 c.entities, .int .i64 c.gens, .slice A1 s.gens.length c1, .slice A2 s.free.length c2]) rfl (Or.inl ⟨by rfl, fun w' h => by have e := row_call (h : Below wr.heap.size wr w') Rw2_heap_size_5.out; have e0 := cell_row e 0; have e1 := cell_row e 1; have e2 := cell_row e 2; have e3 := cell_row e 3; go_simp⟩) t3 ?_
                  go_simp
                  refine tkHV (i := 1) (v := .pointer (some ⟨w.heap.size + 1, 2, none⟩)) rfl t3 ?_
                  go_simp
                  refine tkH (i := 2) (v := .slice (some ⟨eb, eo, none⟩) s.ents.length c3) rfl (Or.inl ⟨by rfl, fun w' h => by have e := row_call (h : Below wr.heap.size wr w') R1_5.out; have e0 := cell_row e 0; have e1 := cell_row e 1; have e2 := cell_row e 2; go_simp⟩) t3 ?_
                  go_simp
                  refine tkHV (i := 3) (v := .int .i64 (n + 1)) rfl t3 ?_
                  go_simp
                  refine tkHV (i := 4) (v := .pointer (some ⟨eb, eo + (n + 1) * 3, none⟩)) rfl t3 ?_
                  go_simp
                  refine tkHV (i := 5) (v := .pointer (some ⟨eb, eo + (n + 1) * 3, none⟩)) rfl t3 ?_
                  go_simp
                  refine tkH (i := 6) (v := .agg #[.int .i64 e.id.index, .int .i64 e.id.gen]) rfl (Or.inl ⟨by rfl, fun w' h => by have e := HQ.out w' (h : Below wr.heap.size wr w') _ _ HEE.out; have e0 := e.1; have e1 := e.2; go_simp⟩) t3 ?_
                  go_simp
                  refine wpAnyH_all (rs := [7]) (by kernel_rfl) (by simp) ?_
                  intro i hi
                  obtain rfl : i = 7 := by simpa using hi
                  clear hi
                  refine wpOp_step rfl (fun K hK => ?_)
                  go_simp
                  refine (alive_calls (d := e.id) (val_only Vi_5.out (Only.of_below t3))).mono ?_
                  rintro e9 v4 ⟨rfl, hb⟩
                  rw [HLV.out]
                  have t4 : Below wr.heap.size wr v4 := Below.trans t3 (hb.mono (Below.size t3))
                  refine hK _ _ ⟨t4, ?_⟩
                  clear hb
                  clear hK K
                  refine tkHV (i := 8) (v := .bool false) rfl t4 ?_
                  go_simp
                  refine tkHV (i := 9) (v := .bool false) rfl t4 ?_
                  go_simp
                  refine tkHV (i := 10) (v := .int .i64 (n + 1)) rfl t4 ?_
                  go_simp
                  refine tkHV (i := 11) (v := .bool true) rfl t4 ?_
                  go_simp
                  refine tkHV (i := 12) (v := .bool true) rfl t4 ?_
                  go_simp
                  refine tkHV (i := 13) (v := .pointer (some ⟨w.heap.size + 1, 2, none⟩)) rfl t4 ?_
                  go_simp
                  refine tkH (i := 14) (v := .slice (some ⟨eb, eo, none⟩) s.ents.length c3) rfl (Or.inl ⟨by rfl, fun w' h => by have e := row_call (h : Below wr.heap.size wr w') R1_5.out; have e0 := cell_row e 0; have e1 := cell_row e 1; have e2 := cell_row e 2; go_simp⟩) t4 ?_
                  go_simp
                  refine tkHV (i := 15) (v := .int .i64 (n + 1)) rfl t4 ?_
                  go_simp
                  refine tkHV (i := 16) (v := .pointer (some ⟨eb, eo + (n + 1) * 3, none⟩)) rfl t4 ?_
                  go_simp
                  refine tkHV (i := 17) (v := .pointer (some ⟨eb, eo + (n + 1) * 3, none⟩)) rfl t4 ?_
                  go_simp
                  refine tkHV (i := 18) (v := .pointer (some ⟨eb, eo + (n + 1) * 3, none⟩)) rfl t4 ?_
                  go_simp
                  refine tkH (i := 19) (v := .int .i64 e.id.index) rfl (Or.inl ⟨by rfl, fun w' h => by have e := HQ.out w' (h : Below wr.heap.size wr w') _ _ HEE.out; have e0 := e.1; have e1 := e.2; go_simp⟩) t4 ?_
                  go_simp
                  refine tkHV (i := 20) (v := .pointer (some ⟨w.heap.size + 1, 2, none⟩)) rfl t4 ?_
                  go_simp
                  refine tkH (i := 21) (v := .slice (some ⟨eb, eo, none⟩) s.ents.length c3) rfl (Or.inl ⟨by rfl, fun w' h => by have e := row_call (h : Below wr.heap.size wr w') R1_5.out; have e0 := cell_row e 0; have e1 := cell_row e 1; have e2 := cell_row e 2; go_simp⟩) t4 ?_
                  go_simp
                  refine tkHV (i := 22) (v := .int .i64 (n + 1)) rfl t4 ?_
                  go_simp
                  refine tkHV (i := 23) (v := .int .i64 n) rfl t4 ?_
                  go_simp
                  refine tkHV (i := 24) (v := .pointer (some ⟨eb, eo + n * 3, none⟩)) rfl t4 ?_
                  go_simp
                  refine tkHV (i := 25) (v := .pointer (some ⟨eb, eo + n * 3, none⟩)) rfl t4 ?_
                  go_simp
                  refine tkHV (i := 26) (v := .pointer (some ⟨eb, eo + n * 3, none⟩)) rfl t4 ?_
                  go_simp
                  refine tkH (i := 27) (v := .int .i64 y.id.index) rfl (Or.inl ⟨by rfl, fun w' h => by have e := HQ.out w' (h : Below wr.heap.size wr w') _ _ HYY.out; have e0 := e.1; have e1 := e.2; go_simp⟩) t4 ?_
                  go_simp
                  refine tkHV (i := 28) (v := .bool true) rfl t4 ?_
                  go_simp
                  refine tkHV (i := 29) (v := .bool true) rfl t4 ?_
                  go_simp
                  refine tkHV (i := 30) (v := .bool true) rfl t4 ?_
                  go_simp
                  refine wpAnyH_done (by kernel_rfl) ?_ _
                  have S6 := Lib.hid (show Only (Box w 2) wr v4 from Only.of_below t4)
                  have O6 := Lib.hid (O5.out.trans S6.out)
                  have R0_6 := Lib.hid (row_call t4 R0_5.out)
                  have R1_6 := Lib.hid (row_call t4 R1_5.out)
                  have Rw2_heap_size_6 := Lib.hid (row_call t4 Rw2_heap_size_5.out)
                  have Vc_6 := Lib.hid (val_only Vc_5.out S6.out)
                  have Vg_6 := Lib.hid (val_only Vg_5.out S6.out)
                  have Vf_6 := Lib.hid (val_only Vf_5.out S6.out)
                  have Vi_6 := Lib.hid (val_only Vi_5.out S6.out)
                  have Ae_6 := Lib.hid (at_only Ae_5.out S6.out)
                  obtain ⟨q0_0, z0_0, q0_1, z0_1, q0_2, z0_2, q0_3, z0_3, q0_4, z0_4⟩ := rw5 R0_6.out
                  obtain ⟨q1_0, z1_0, q1_1, z1_1, q1_2, z1_2⟩ := rw3 R1_6.out
                  obtain ⟨qn0_0, zn0_0, qn0_1, zn0_1, qn0_2, zn0_2, qn0_3, zn0_3⟩ := rw4 Rw2_heap_size_6.out
                  go_wp2_with fail
                  clear q0_0 z0_0 q0_1 z0_1 q0_2 z0_2 q0_3 z0_3 q0_4 z0_4 q1_0 z1_0 q1_1 z1_1 q1_2 z1_2 qn0_0 zn0_0 qn0_1 zn0_1 qn0_2 zn0_2 qn0_3 zn0_3
                  go_ret
                  exact ⟨by rw [HE.out]; rfl, Only.fin HB0.out O6.out⟩
          · obtain rfl : j = s.ents.length := by omega
            have HE := Lib.hid (show auditS c s = 0 by rw [audit_ent HR.out HLO.out (by rw [HM.out, HCN.out])]; exact HFZ.out)
            obtain ⟨q0_0, z0_0, q0_1, z0_1, q0_2, z0_2, q0_3, z0_3, q0_4, z0_4⟩ := rw5 R0_5.out
            obtain ⟨q1_0, z1_0, q1_1, z1_1, q1_2, z1_2⟩ := rw3 R1_5.out
            obtain ⟨qn0_0, zn0_0, qn0_1, zn0_1, qn0_2, zn0_2, qn0_3, zn0_3⟩ := rw4 Rw2_heap_size_5.out
            go_wp2_with fail
            clear q0_0 z0_0 q0_1 z0_1 q0_2 z0_2 q0_3 z0_3 q0_4 z0_4 q1_0 z1_0 q1_1 z1_1 q1_2 z1_2 qn0_0 zn0_0 qn0_1 zn0_1 qn0_2 zn0_2 qn0_3 zn0_3
            go_ret
            exact ⟨by rw [HE.out]; rfl, Only.fin HB0.out O5.out⟩
      · skip
        have bcn : ((m : Int) != (s.ents.length : Int)) = true := by simp; omega
        have HE := Lib.hid (audit_5 HR.out HLO.out (by rw [HM.out]; exact hcn))
        clear hcn
        refine wp_region_held_drew (S := fun W => Below w3.heap.size w3 W) (by kernel_rfl) ((Below.refl _ _).drew) (fun s0 => ?_)
        obtain ⟨v1, hv0⟩ : ∃ V, V = w3.drew := ⟨_, rfl⟩
        rw [← hv0] at s0 ⊢
        have t1 : Below w3.heap.size w3 v1 := s0
        clear hv0 s0
        refine tkH (i := 0) (v := .agg #[.int .i64 c.entities, .int .i64 c.gens, .slice A1 s.gens.length c1, .slice A2 s.free.length c2]) rfl (Or.inl ⟨by rfl, fun w' h => by have e := row_call (h : Below w3.heap.size w3 w') Rw2_heap_size_3.out; have e0 := cell_row e 0; have e1 := cell_row e 1; have e2 := cell_row e 2; have e3 := cell_row e 3; go_simp⟩) t1 ?_
        go_simp
        refine tkHV (i := 2) (v := .pointer (some ⟨w.heap.size + 1, 2, none⟩)) rfl t1 ?_
        go_simp
        refine tkH (i := 3) (v := .slice A3 s.ents.length c3) rfl (Or.inl ⟨by rfl, fun w' h => by have e := row_call (h : Below w3.heap.size w3 w') R1_3.out; have e0 := cell_row e 0; have e1 := cell_row e 1; have e2 := cell_row e 2; go_simp⟩) t1 ?_
        go_simp
        refine tkHV (i := 4) (v := .int .i64 s.ents.length) rfl t1 ?_
        go_simp
        refine wpAnyH_all (rs := [1]) (by kernel_rfl) (by simp) ?_
        intro i hi
        obtain rfl : i = 1 := by simpa using hi
        clear hi
        refine wpOp_step rfl (fun K hK => ?_)
        go_simp
        refine (rcount06_calls (val_only Vi_3.out (Only.of_below t1))).mono ?_
        rintro e v2 ⟨rfl, hb⟩
        rw [HM.out]
        have t2 : Below w3.heap.size w3 v2 := Below.trans t1 (hb.mono (Below.size t1))
        refine hK _ _ ⟨t2, ?_⟩
        clear hb
        clear hK K
        refine tkHV (i := 5) (v := .bool true) rfl t2 ?_
        go_simp
        refine wpAnyH_done (by kernel_rfl) ?_ _
        have S4 := Lib.hid (show Only (Box w 2) w3 v2 from Only.of_below t2)
        have O4 := Lib.hid (O3.out.trans S4.out)
        have R0_4 := Lib.hid (row_call t2 R0_3.out)
        have R1_4 := Lib.hid (row_call t2 R1_3.out)
        have Rw2_heap_size_4 := Lib.hid (row_call t2 Rw2_heap_size_3.out)
        have Vc_4 := Lib.hid (val_only Vc_3.out S4.out)
        have Vg_4 := Lib.hid (val_only Vg_3.out S4.out)
        have Vf_4 := Lib.hid (val_only Vf_3.out S4.out)
        have Vi_4 := Lib.hid (val_only Vi_3.out S4.out)
        have Ae_4 := Lib.hid (at_only Ae_3.out S4.out)
        obtain ⟨q0_0, z0_0, q0_1, z0_1, q0_2, z0_2, q0_3, z0_3, q0_4, z0_4⟩ := rw5 R0_4.out
        obtain ⟨q1_0, z1_0, q1_1, z1_1, q1_2, z1_2⟩ := rw3 R1_4.out
        obtain ⟨qn0_0, zn0_0, qn0_1, zn0_1, qn0_2, zn0_2, qn0_3, zn0_3⟩ := rw4 Rw2_heap_size_4.out
        go_wp2_with fail
        clear q0_0 z0_0 q0_1 z0_1 q0_2 z0_2 q0_3 z0_3 q0_4 z0_4 q1_0 z1_0 q1_1 z1_1 q1_2 z1_2 qn0_0 zn0_0 qn0_1 zn0_1 qn0_2 zn0_2 qn0_3 zn0_3
        go_ret
        exact ⟨by rw [HE.out]; rfl, Only.fin HB0.out O4.out⟩
    · skip
      have HE := Lib.hid (audit_11 HR.out hno)
      have k1 : (w2.alloc (.cells #[.int .i64 0, .int .i64 0, .slice none 0 0, .slice none 0 0] 61)).heap[w.heap.size]? = some (.cells #[.int .i64 c.log, .int .i64 c.pages, .int .i64 c.entities, .int .i64 c.gens, .slice A c.comps.length cap] 24 (0, 0)) := alloc_old (R0_2.out)
      obtain ⟨k1_0, l1_0, k1_1, l1_1, k1_2, l1_2, k1_3, l1_3, k1_4, l1_4⟩ := rw5 k1
      clear k1
      have k2 : (w2.alloc (.cells #[.int .i64 0, .int .i64 0, .slice none 0 0, .slice none 0 0] 61)).heap[w.heap.size + 1]? = some (.cells #[.slice A1 s.gens.length c1, .slice A2 s.free.length c2, .slice A3 s.ents.length c3] 28 (0, 0)) := alloc_old (R1_2.out)
      obtain ⟨k2_0, l2_0, k2_1, l2_1, k2_2, l2_2⟩ := rw3 k2
      clear k2
      have k3 : (w2.alloc (.cells #[.int .i64 0, .int .i64 0, .slice none 0 0, .slice none 0 0] 61)).heap[w2.heap.size]? = some (.cells #[.int .i64 0, .int .i64 0, .slice none 0 0, .slice none 0 0] 61 (0, 0)) := alloc_at rfl
      obtain ⟨k3_0, l3_0, k3_1, l3_1, k3_2, l3_2, k3_3, l3_3⟩ := rw4 k3
      clear k3
      obtain ⟨q0_0, z0_0, q0_1, z0_1, q0_2, z0_2, q0_3, z0_3, q0_4, z0_4⟩ := rw5 R0_2.out
      obtain ⟨q1_0, z1_0, q1_1, z1_1, q1_2, z1_2⟩ := rw3 R1_2.out
      go_wp2_with fail
      clear k1_0 l1_0 k1_1 l1_1 k1_2 l1_2 k1_3 l1_3 k1_4 l1_4 k2_0 l2_0 k2_1 l2_1 k2_2 l2_2 k3_0 l3_0 k3_1 l3_1 k3_2 l3_2 k3_3 l3_3 q0_0 z0_0 q0_1 z0_1 q0_2 z0_2 q0_3 z0_3 q0_4 z0_4 q1_0 z1_0 q1_1 z1_1 q1_2 z1_2
      go_ret
      exact ⟨by rw [HE.out]; rfl, (Only.fin HB0.out O2.out).alloc (Below.size (Only.fin HB0.out O2.out)) _⟩
end Go.Proofs.YthkepjhfeeohdaaGreatDoor
