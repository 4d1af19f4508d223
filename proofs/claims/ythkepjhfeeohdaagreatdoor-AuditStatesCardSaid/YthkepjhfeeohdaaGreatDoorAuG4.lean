/- Texts on which the proofs stand: CState, Live34, LoadAny, RCount06, RightMath. No condition is laid on any input. -/
import Derived.Test.YthkepjhfeeohdaaGreatDoorAuG3
namespace Go.Proofs.YthkepjhfeeohdaaGreatDoor
open Go.RowKit

theorem leaves_tmps {P : Program} {fn : Func} {t1 t2 : Array Value} {R : Ending → World → Prop} (h : results fn t1 = results fn t2) : ∀ (ds : List Deferred) (u : FrameMode) (w : World), Leaves P fn t1 R ds u w → Leaves P fn t2 R ds u w
  | [], .returning, w, hl => by unfold Leaves at hl ⊢; rw [← h]; exact hl
  | [], .panicking chain, w, hl => by unfold Leaves at hl ⊢; exact hl
  | [], .run, w, hl => by unfold Leaves at hl; exact hl.elim
  | d :: ds, u, w, hl => by
    unfold Leaves at hl ⊢
    obtain ⟨h1, fv, cap, f, args, h2, h3, h4⟩ := hl
    refine ⟨h1, fv, cap, f, args, h2, h3, h4.mono fun e u' w' hq => ?_⟩
    cases e with
    | returned v => exact leaves_tmps h ds _ _ hq
    | panicked chain => exact leaves_tmps h ds _ _ hq
    | outgrown => exact hq
/-- Behind a panic a value that is no result does not count. -/
theorem pput {R : Ending → World → Prop} {c : List PanicEntry} {a : Act} {d : Option Nat} {v : Value} {w : World} (hd : d ≠ some 4) (h : bodyPostD Tryz.prog Tryz.f8 R (.panic c) (a.put d v) w) : bodyPostD Tryz.prog Tryz.f8 R (.panic c) a w := by
  have h2 : Leaves Tryz.prog Tryz.f8 (a.put d v).tmps R (a.put d v).defers (.panicking c) w := h
  have e1 : (a.put d v).defers = a.defers := by unfold Act.put; cases d <;> rfl
  rw [e1] at h2
  refine leaves_tmps ?_ _ _ _ h2
  unfold results
  rw [Tryz.results8]
  have e2 : (a.put d v).tmps[4]? = a.tmps[4]? := by
    cases d with
    | none => rfl
    | some d =>
      have : d ≠ 4 := fun e => hd (by rw [e])
      show (a.tmps.setIfInBounds d v)[4]? = _
      rw [Array.getElem?_setIfInBounds_ne this]
  simp [e2]
theorem val_ltr {α : Type} {r : Rep α} {Q : Nat → Prop} {W W' : World} {v : Value} {x : α} (h : r.val Q W v x) (hb : Below W.heap.size W W') : r.val Q W' v x := Rep.val_keep (fun b hq hl => ⟨hq, hb.block b hl.lt⟩) h

set_option maxRecDepth 100000 in
set_option maxHeartbeats 4000000 in
/-- audit.State -/
theorem cstate_calls {Q Q' : Nat → Prop} {w : World} {u v : Value} {c : DConf} {s : DState} (hu : rConf.val Q w u c) (hx : rState.val Q' w v s) (he : s.ents.length ≤ 1000) (hp : ∀ e ∈ s.ents, e.parts.length ≤ 1000) :
    Calls Tryz.prog 8 #[u, v] w fun e w' => e = .returned (.int .i64 (auditS c s)) ∧ Below w.heap.size w w' := by
  have HPL := Lib.hid hp
  obtain ⟨A, cap, rfl, _, _, _, _, _, _, _⟩ := rConf_val hu
  obtain ⟨A1, c1, A2, c2, A3, c3, rfl, sg, sf, se⟩ := rState_val hx
  have HU := Lib.hid hu
  have HX := Lib.hid hx
  have HSG := Lib.hid sg.val
  have HSF := Lib.hid sf.val
  have hc3 := se.1
  have hc3m := se.2.1
  unfold maxLen at hc3m
  have HSE := Lib.hid se.2.2
  clear hu hx sg sf se hp
  obtain ⟨W0, hW0⟩ : ∃ W, (((w.alloc (.cells #[.int .i64 c.log, .int .i64 c.pages, .int .i64 c.entities, .int .i64 c.gens, .slice A c.comps.length cap] 24)).alloc (.cells #[.slice A1 s.gens.length c1, .slice A2 s.free.length c2, .slice A3 s.ents.length c3] 28)).alloc (.cells #[.int .i64 0] 33)) = W := ⟨_, rfl⟩
  have hz0 : W0.heap.size = w.heap.size + 3 := by rw [← hW0]; simp
  have hb0 : Below w.heap.size w W0 := by rw [← hW0]; exact (((Below.refl _ _).alloc (Nat.le_refl _) _).alloc (by first | (simp; done) | (simp; omega)) _).alloc (by first | (simp; done) | (simp; omega)) _
  have HZ := Lib.hid hz0
  have HB0 := Lib.hid hb0
  have R0_0 := Lib.hid (show W0.heap[w.heap.size]? = some (.cells #[.int .i64 c.log, .int .i64 c.pages, .int .i64 c.entities, .int .i64 c.gens, .slice A c.comps.length cap] 24 (0, 0)) by rw [← hW0]; exact alloc_old (alloc_old (alloc_at rfl)))
  have R1_0 := Lib.hid (show W0.heap[w.heap.size + 1]? = some (.cells #[.slice A1 s.gens.length c1, .slice A2 s.free.length c2, .slice A3 s.ents.length c3] 28 (0, 0)) by rw [← hW0]; exact alloc_old (alloc_at (by simp)))
  have R2_0 := Lib.hid (show W0.heap[w.heap.size + 1 + 1]? = some (.cells #[.int .i64 0] 33 (0, 0)) by rw [← hW0]; exact alloc_at (by simp))
  have O0 := Lib.hid (Only.refl (Box w 3) W0)
  have Vc_0 := Lib.hid (show rConf.val (In Q w 3) W0 (.agg #[.int .i64 c.log, .int .i64 c.pages, .int .i64 c.entities, .int .i64 c.gens, .slice A c.comps.length cap]) c from val_in HU.out hb0)
  have Vg_0 := Lib.hid (show (Rep.int .i64).list.val (In Q' w 3) W0 (.slice A1 s.gens.length c1) s.gens from val_in HSG.out hb0)
  have Vf_0 := Lib.hid (show (Rep.int .i64).list.val (In Q' w 3) W0 (.slice A2 s.free.length c2) s.free from val_in HSF.out hb0)
  have Ae_0 := Lib.hid (show rEnt.At (In Q' w 3) W0 A3 s.ents from at_in HSE.out hb0)
  clear hz0 hb0
  obtain ⟨q0_0, z0_0, q0_1, z0_1, q0_2, z0_2, q0_3, z0_3, q0_4, z0_4⟩ := rw5 R0_0.out
  obtain ⟨q1_0, z1_0, q1_1, z1_1, q1_2, z1_2⟩ := rw3 R1_0.out
  obtain ⟨q2_0, z2_0⟩ := rw1 R2_0.out
  go_enter_defers Tryz.func8, Tryz.ntmps8
  go_wp2_with fail
  try rw [hW0]
  clear hW0
  try go_wp2_with fail
  clear q0_0 z0_0 q0_1 z0_1 q0_2 z0_2 q0_3 z0_3 q0_4 z0_4 q1_0 z1_0 q1_1 z1_1 q1_2 z1_2 q2_0 z2_0
  refine (check_calls Vc_0.out).mono ?_
  rintro e w1 ⟨rfl, hb⟩
  have S1 := Lib.hid (show Only (Box w 3) W0 w1 from Only.of_below hb)
  have O1 := Lib.hid (O0.out.trans S1.out)
  have R0_1 := Lib.hid (row_call hb R0_0.out)
  have R1_1 := Lib.hid (row_call hb R1_0.out)
  have R2_1 := Lib.hid (row_call hb R2_0.out)
  have Vc_1 := Lib.hid (val_only Vc_0.out S1.out)
  have Vg_1 := Lib.hid (val_only Vg_0.out S1.out)
  have Vf_1 := Lib.hid (val_only Vf_0.out S1.out)
  have Ae_1 := Lib.hid (at_only Ae_0.out S1.out)
  clear hb
  cases hr : confRight c with
  | false =>
    have HE := Lib.hid (audit_1 (s := s) hr)
    rw [show (checkOf false : Int) = 1 from rfl]
    clear hr
    obtain ⟨q0_0, z0_0, q0_1, z0_1, q0_2, z0_2, q0_3, z0_3, q0_4, z0_4⟩ := rw5 R0_1.out
    obtain ⟨q1_0, z1_0, q1_1, z1_1, q1_2, z1_2⟩ := rw3 R1_1.out
    obtain ⟨q2_0, z2_0⟩ := rw1 R2_1.out
    go_wp2_with fail
    clear q0_0 z0_0 q0_1 z0_1 q0_2 z0_2 q0_3 z0_3 q0_4 z0_4 q1_0 z1_0 q1_1 z1_1 q1_2 z1_2 q2_0 z2_0
    refine (must_no _ _).mono ?_
    rintro e w8 ⟨rfl, hw⟩
    obtain rfl := hw.symm
    have RR9 := Lib.hid (R2_1.out)
    obtain ⟨q9, z9⟩ := rw1 RR9.out
    have q8 : World.cell? (w1.setCell ⟨w.heap.size + 1 + 1, 0, none⟩ (.int .i64 1)) ⟨w.heap.size + 1 + 1, 0, none⟩ = some (.int .i64 1) := cell_row (heap_setRow RR9.out) 0
    have HFB := Lib.hid (show Below w.heap.size w (w1.setCell ⟨w.heap.size + 1 + 1, 0, none⟩ (.int .i64 1)) from Only.fin HB0.out (O1.out.put ⟨by omega, by omega⟩))
    refine leaves_cons (f := 13) (args := #[.pointer (some ⟨w.heap.size + 1 + 1, 0, none⟩)]) (by simp) (by simp [go_sem]) ?_
    refine (ended_panicking ⟨w.heap.size + 1 + 1, 0, none⟩ 0 1 [] _ q9 z9).mono ?_
    rintro e9 u9 w9 ⟨rfl, rfl, rfl⟩
    rw [HE.out]
    simp [Leaves, settle, results, Tryz.results8, go_sem]
    rw [q8]
    exact ⟨_, rfl, rfl, HFB.out⟩
  | true =>
    have HR := Lib.hid hr
    rw [show (checkOf true : Int) = 0 from rfl]
    clear hr
    obtain ⟨q0_0, z0_0, q0_1, z0_1, q0_2, z0_2, q0_3, z0_3, q0_4, z0_4⟩ := rw5 R0_1.out
    obtain ⟨q1_0, z1_0, q1_1, z1_1, q1_2, z1_2⟩ := rw3 R1_1.out
    obtain ⟨q2_0, z2_0⟩ := rw1 R2_1.out
    go_wp2_with fail
    clear q0_0 z0_0 q0_1 z0_1 q0_2 z0_2 q0_3 z0_3 q0_4 z0_4 q1_0 z1_0 q1_1 z1_1 q1_2 z1_2 q2_0 z2_0
    refine (must_yes _ _).mono ?_
    rintro e w8 ⟨rfl, hw⟩
    obtain rfl := hw.symm
    obtain ⟨q0_0, z0_0, q0_1, z0_1, q0_2, z0_2, q0_3, z0_3, q0_4, z0_4⟩ := rw5 R0_1.out
    obtain ⟨q1_0, z1_0, q1_1, z1_1, q1_2, z1_2⟩ := rw3 R1_1.out
    obtain ⟨q2_0, z2_0⟩ := rw1 R2_1.out
    go_wp2_with fail
    clear q0_0 z0_0 q0_1 z0_1 q0_2 z0_2 q0_3 z0_3 q0_4 z0_4 q1_0 z1_0 q1_1 z1_1 q1_2 z1_2 q2_0 z2_0
    refine (cidsLoad_calls Vg_1.out Vf_1.out HR.out).mono ?_
    rintro e w2 ⟨hans, hb⟩
    have S2 := Lib.hid (show Only (Box w 3) w1 w2 from Only.of_below hb)
    have O2 := Lib.hid (O1.out.trans S2.out)
    have R0_2 := Lib.hid (row_call hb R0_1.out)
    have R1_2 := Lib.hid (row_call hb R1_1.out)
    have R2_2 := Lib.hid (row_call hb R2_1.out)
    have Vc_2 := Lib.hid (val_only Vc_1.out S2.out)
    have Vg_2 := Lib.hid (val_only Vg_1.out S2.out)
    have Vf_2 := Lib.hid (val_only Vf_1.out S2.out)
    have Ae_2 := Lib.hid (at_only Ae_1.out S2.out)
    clear hb
    rcases hans with ⟨hlo, X, rfl, hI⟩ | ⟨hno, rfl⟩
    · skip
      have HLO := Lib.hid hlo
      have HI := Lib.hid hI
      have HGL := Lib.hid (show s.gens.length ≤ 100000 by have := hlo.many; have := (right_facts HR.out).1; omega)
      obtain ⟨m, hm⟩ : ∃ m, (alives c s s.gens.length).length = m := ⟨_, rfl⟩
      have HM := Lib.hid hm
      clear hm hlo hI
      obtain ⟨q0_0, z0_0, q0_1, z0_1, q0_2, z0_2, q0_3, z0_3, q0_4, z0_4⟩ := rw5 R0_2.out
      obtain ⟨q1_0, z1_0, q1_1, z1_1, q1_2, z1_2⟩ := rw3 R1_2.out
      obtain ⟨q2_0, z2_0⟩ := rw1 R2_2.out
      go_wp2_with fail
      clear q0_0 z0_0 q0_1 z0_1 q0_2 z0_2 q0_3 z0_3 q0_4 z0_4 q1_0 z1_0 q1_1 z1_1 q1_2 z1_2 q2_0 z2_0
      refine (must_yes _ _).mono ?_
      rintro e w8 ⟨rfl, hw⟩
      obtain rfl := hw.symm
      go_wp2_with fail
      by_cases hcn : m = s.ents.length
      · skip
        have HCN := Lib.hid hcn
        have bcn : ((m : Int) == (s.ents.length : Int)) = true := by simp [hcn]
        clear hcn
        refine wp_region_held_drew (S := fun W => Below w2.heap.size w2 W) (by kernel_rfl) ((Below.refl _ _).drew) (fun s0 => ?_)
        obtain ⟨v1, hv0⟩ : ∃ V, V = w2.drew := ⟨_, rfl⟩
        rw [← hv0] at s0 ⊢
        have t1 : Below w2.heap.size w2 v1 := s0
        clear hv0 s0
        refine wpAnyH_take (i := 0) (v := .pointer (some ⟨X, 0, none⟩)) rfl (by kernel_rfl) (by kernel_rfl) (by kernel_rfl) (fun _ _ _ h => pput (by decide) h) (Or.inl ⟨by rfl, fun w' _ => by go_simp <;> omega⟩) t1 ?_
        go_simp
        refine wpAnyH_take (i := 2) (v := .pointer (some ⟨w.heap.size + 1, 2, none⟩)) rfl (by kernel_rfl) (by kernel_rfl) (by kernel_rfl) (fun _ _ _ h => pput (by decide) h) (Or.inl ⟨by rfl, fun w' _ => by go_simp <;> omega⟩) t1 ?_
        go_simp
        refine wpAnyH_take (i := 3) (v := .slice A3 s.ents.length c3) rfl (by kernel_rfl) (by kernel_rfl) (by kernel_rfl) (fun _ _ _ h => pput (by decide) h) (Or.inl ⟨by rfl, fun w' h => by have e := row_call (h : Below w2.heap.size w2 w') R1_2.out; have e0 := cell_row e 0; have e1 := cell_row e 1; have e2 := cell_row e 2; go_simp⟩) t1 ?_
        go_simp
        refine wpAnyH_take (i := 4) (v := .int .i64 s.ents.length) rfl (by kernel_rfl) (by kernel_rfl) (by kernel_rfl) (fun _ _ _ h => pput (by decide) h) (Or.inl ⟨by rfl, fun w' _ => by go_simp <;> omega⟩) t1 ?_
        go_simp
        refine wpAnyH_all (rs := [1]) (by kernel_rfl) (by simp) ?_
        intro i hi
        obtain rfl : i = 1 := by simpa using hi
        clear hi
        refine wpOp_step rfl (fun K hK => ?_)
        go_simp
        refine (cidsCount_calls (HI.out.call t1) HGL.out).mono ?_
        rintro e v2 ⟨rfl, hb⟩
        rw [HM.out]
        have t2 : Below w2.heap.size w2 v2 := Below.trans t1 (hb.mono (Below.size t1))
        refine hK _ _ ⟨t2, ?_⟩
        clear hb
        clear hK K
        refine wpAnyH_take (i := 5) (v := .bool true) rfl (by kernel_rfl) (by kernel_rfl) (by kernel_rfl) (fun _ _ _ h => pput (by decide) h) (Or.inl ⟨by rfl, fun w' _ => by go_simp <;> omega⟩) t2 ?_
        go_simp
        refine wpAnyH_all (rs := [6]) (by kernel_rfl) (by simp) ?_
        intro i hi
        obtain rfl : i = 6 := by simpa using hi
        clear hi
        refine wpOp_step rfl (fun K hK => ?_)
        go_simp
        refine (must_yes _ _).mono ?_
        rintro e v3 ⟨rfl, hw⟩
        have hb : Below v2.heap.size v2 v3 := by rw [hw]; exact Below.refl _ _
        clear hw
        have t3 : Below w2.heap.size w2 v3 := Below.trans t2 (hb.mono (Below.size t2))
        refine hK _ _ ⟨t3, ?_⟩
        clear hb
        clear hK K
        refine wpAnyH_done (by kernel_rfl) ?_ _
        have S3 := Lib.hid (show Only (Box w 3) w2 v3 from Only.of_below t3)
        have O3 := Lib.hid (O2.out.trans S3.out)
        have R0_3 := Lib.hid (row_call t3 R0_2.out)
        have R1_3 := Lib.hid (row_call t3 R1_2.out)
        have R2_3 := Lib.hid (row_call t3 R2_2.out)
        have Vc_3 := Lib.hid (val_only Vc_2.out S3.out)
        have Vg_3 := Lib.hid (val_only Vg_2.out S3.out)
        have Vf_3 := Lib.hid (val_only Vf_2.out S3.out)
        have Ae_3 := Lib.hid (at_only Ae_2.out S3.out)
        have HIB := Lib.hid (HI.out.call (show Below w2.heap.size w2 v3 from t3))
        clear bcn
        obtain ⟨q0_0, z0_0, q0_1, z0_1, q0_2, z0_2, q0_3, z0_3, q0_4, z0_4⟩ := rw5 R0_3.out
        obtain ⟨q1_0, z1_0, q1_1, z1_1, q1_2, z1_2⟩ := rw3 R1_3.out
        obtain ⟨q2_0, z2_0⟩ := rw1 R2_3.out
        go_wp2_with fail
        clear q0_0 z0_0 q0_1 z0_1 q0_2 z0_2 q0_3 z0_3 q0_4 z0_4 q1_0 z1_0 q1_1 z1_1 q1_2 z1_2 q2_0 z2_0
        go_loopw [38] (fun i wr => ∃ j : Nat, i = .int .i64 j ∧ j ≤ s.ents.length ∧ Hid (firstE (entE c s) j = 0) ∧ Hid (Below v3.heap.size v3 wr)) (fun i _ => s.ents.length - (intOf i).toNat)
        case atStart => exact ⟨0, rfl, Nat.zero_le _, Lib.hid rfl, Lib.hid (Below.refl _ _)⟩
        case round =>
          obtain ⟨j, rfl, hj, HFZ, HBR⟩ := hrel
          have HIR := Lib.hid (HIB.out.call HBR.out)
          have S4 := Lib.hid (show Only (Box w 3) v3 wr from Only.of_below HBR.out)
          have O4 := Lib.hid (O3.out.trans S4.out)
          have R0_4 := Lib.hid (row_call HBR.out R0_3.out)
          have R1_4 := Lib.hid (row_call HBR.out R1_3.out)
          have R2_4 := Lib.hid (row_call HBR.out R2_3.out)
          have Vc_4 := Lib.hid (val_only Vc_3.out S4.out)
          have Vg_4 := Lib.hid (val_only Vg_3.out S4.out)
          have Vf_4 := Lib.hid (val_only Vf_3.out S4.out)
          have Ae_4 := Lib.hid (at_only Ae_3.out S4.out)
          by_cases hlt : (j : Int) < s.ents.length
          · skip
            obtain ⟨e, hee⟩ : ∃ e, s.ents[j]? = some e := ⟨_, List.getElem?_eq_getElem (by omega)⟩
            obtain ⟨eb, eo, Ap, cp, hA3, _, e0, e1, e2, _, _, hsp⟩ := rEnt_at Ae_4.out hee
            subst hA3
            have HEE := Lib.hid hee
            have HPV := Lib.hid hsp.val
            have HPP := Lib.hid (HPL.out e (List.mem_of_getElem? hee))
            have p1 := hsp.1
            have p2 := hsp.2.1
            unfold maxLen at p2
            have HQ := Lib.hid (show ∀ V, Below wr.heap.size wr V → ∀ y (k : Nat), s.ents[k]? = some y → World.cell? V ⟨eb, eo + k * 3, none⟩ = some (.int .i64 y.id.index) from fun V hv y k hy => by
              obtain ⟨b2, off2, _, _, he2, _, g0, _⟩ := rEnt_at (at_only Ae_4.out (Only.of_below hv)) hy
              obtain ⟨rfl, rfl⟩ : eb = b2 ∧ eo = off2 := by simpa using he2
              exact g0)
            clear hee hsp
            have k1 : (wr.alloc (.cells #[.int .i64 e.id.index, .int .i64 e.id.gen, .slice Ap e.parts.length cp] 43)).heap[w.heap.size]? = some (.cells #[.int .i64 c.log, .int .i64 c.pages, .int .i64 c.entities, .int .i64 c.gens, .slice A c.comps.length cap] 24 (0, 0)) := alloc_old (R0_4.out)
            obtain ⟨k1_0, l1_0, k1_1, l1_1, k1_2, l1_2, k1_3, l1_3, k1_4, l1_4⟩ := rw5 k1
            clear k1
            have k2 : (wr.alloc (.cells #[.int .i64 e.id.index, .int .i64 e.id.gen, .slice Ap e.parts.length cp] 43)).heap[w.heap.size + 1]? = some (.cells #[.slice A1 s.gens.length c1, .slice A2 s.free.length c2, .slice (some ⟨eb, eo, none⟩) s.ents.length c3] 28 (0, 0)) := alloc_old (R1_4.out)
            obtain ⟨k2_0, l2_0, k2_1, l2_1, k2_2, l2_2⟩ := rw3 k2
            clear k2
            have k3 : (wr.alloc (.cells #[.int .i64 e.id.index, .int .i64 e.id.gen, .slice Ap e.parts.length cp] 43)).heap[w.heap.size + 1 + 1]? = some (.cells #[.int .i64 0] 33 (0, 0)) := alloc_old (R2_4.out)
            obtain ⟨k3_0, l3_0⟩ := rw1 k3
            clear k3
            have k4 : (wr.alloc (.cells #[.int .i64 e.id.index, .int .i64 e.id.gen, .slice Ap e.parts.length cp] 43)).heap[wr.heap.size]? = some (.cells #[.int .i64 e.id.index, .int .i64 e.id.gen, .slice Ap e.parts.length cp] 43 (0, 0)) := alloc_at rfl
            obtain ⟨k4_0, l4_0, k4_1, l4_1, k4_2, l4_2⟩ := rw3 k4
            clear k4
            go_wp2_with fail
            clear k1_0 l1_0 k1_1 l1_1 k1_2 l1_2 k1_3 l1_3 k1_4 l1_4 k2_0 l2_0 k2_1 l2_1 k2_2 l2_2 k3_0 l3_0 k4_0 l4_0 k4_1 l4_1 k4_2 l4_2
            refine nm_region (fun w5 hnm => ?_)
            have HF1 := Lib.hid (show w.heap.size + 3 ≤ wr.heap.size by have := O4.out.size; have := HZ.out; omega)
            have S5 := Lib.hid (show Only (Box w 3) wr w5 from (by rw [hnm]; exact (Only.refl (Box w 3) wr).alloc _))
            have O5 := Lib.hid (O4.out.trans S5.out)
            have R0_5 := Lib.hid (row_nm hnm (alloc_old (R0_4.out)))
            have R1_5 := Lib.hid (row_nm hnm (alloc_old (R1_4.out)))
            have R2_5 := Lib.hid (row_nm hnm (alloc_old (R2_4.out)))
            have Rwr_heap_size_5 := Lib.hid (show w5.heap[wr.heap.size]? = some (.cells #[.int .i64 e.id.index, .int .i64 e.id.gen, .slice Ap e.parts.length cp] 43 (0, 0)) from (by rw [hnm]; exact alloc_at rfl))
            have Vc_5 := Lib.hid (val_only Vc_4.out S5.out)
            have Vg_5 := Lib.hid (val_only Vg_4.out S5.out)
            have Vf_5 := Lib.hid (val_only Vf_4.out S5.out)
            have Ae_5 := Lib.hid (at_only Ae_4.out S5.out)
            have HB5 := Lib.hid (show Below wr.heap.size wr w5 by rw [hnm]; exact (Below.refl _ _).alloc (Nat.le_refl _) _)
            clear hnm
            cases hlv : liveB c s e.id with
            | false =>
              have HLV := Lib.hid (show decide (atI (idsOf c s) e.id.index = some e.id) = false by rw [alive_live, hlv])
              have HE := Lib.hid (show auditS c s = 5 by rw [audit_ent HR.out HLO.out (by rw [HM.out, HCN.out])]; exact firstE_stop (by rw [firstE_next HFZ.out, entE_bad HEE.out (fun h => by rw [hlv] at h; cases h.1)]) (by decide) s.ents.length (by omega))
              clear hlv
              refine wp_region_held_drew (S := fun W => Below w5.heap.size w5 W) (by kernel_rfl) ((Below.refl _ _).drew) (fun s0 => ?_)
              obtain ⟨v4, hv0⟩ : ∃ V, V = w5.drew := ⟨_, rfl⟩
              rw [← hv0] at s0 ⊢
              have t4 : Below w5.heap.size w5 v4 := s0
              clear hv0 s0
              refine wpAnyH_take (i := 0) (v := .pointer (some ⟨X, 0, none⟩)) rfl (by kernel_rfl) (by kernel_rfl) (by kernel_rfl) (fun _ _ _ h => pput (by decide) h) (Or.inl ⟨by rfl, fun w' _ => by go_simp <;> omega⟩) t4 ?_
              go_simp
              refine wpAnyH_take (i := 1) (v := .pointer (some ⟨wr.heap.size, 0, none⟩)) rfl (by kernel_rfl) (by kernel_rfl) (by kernel_rfl) (fun _ _ _ h => pput (by decide) h) (Or.inl ⟨by rfl, fun w' _ => by go_simp <;> omega⟩) t4 ?_
              go_simp
              refine wpAnyH_take (i := 2) (v := .agg #[.int .i64 e.id.index, .int .i64 e.id.gen]) rfl (by kernel_rfl) (by kernel_rfl) (by kernel_rfl) (fun _ _ _ h => pput (by decide) h) (Or.inl ⟨by rfl, fun w' h => by have e := row_call (h : Below w5.heap.size w5 w') Rwr_heap_size_5.out; have e0 := cell_row e 0; have e1 := cell_row e 1; have e2 := cell_row e 2; go_simp⟩) t4 ?_
              go_simp
              refine wpAnyH_all (rs := [3]) (by kernel_rfl) (by simp) ?_
              intro i hi
              obtain rfl : i = 3 := by simpa using hi
              clear hi
              refine wpOp_step rfl (fun K hK => ?_)
              go_simp
              refine (cidsAlive_calls (d := e.id) (HIR.out.call (HB5.out.trans (Below.mono t4 HB5.out.size)))).mono ?_
              rintro e9 v5 ⟨rfl, hb⟩
              rw [HLV.out]
              have t5 : Below w5.heap.size w5 v5 := Below.trans t4 (hb.mono (Below.size t4))
              refine hK _ _ ⟨t5, ?_⟩
              clear hb
              clear hK K
              refine wpAnyH_take (i := 4) (v := .bool false) rfl (by kernel_rfl) (by kernel_rfl) (by kernel_rfl) (fun _ _ _ h => pput (by decide) h) (Or.inl ⟨by rfl, fun w' _ => by go_simp <;> omega⟩) t5 ?_
              go_simp
              refine wpAnyH_take (i := 5) (v := undef) rfl (by kernel_rfl) (by kernel_rfl) (by kernel_rfl) (fun _ _ _ h => pput (by decide) h) (Or.inr ⟨by rfl, rfl⟩) t5 ?_
              go_simp
              refine wpAnyH_take (i := 6) (v := undef) rfl (by kernel_rfl) (by kernel_rfl) (by kernel_rfl) (fun _ _ _ h => pput (by decide) h) (Or.inr ⟨by rfl, rfl⟩) t5 ?_
              go_simp
              refine wpAnyH_take (i := 7) (v := undef) rfl (by kernel_rfl) (by kernel_rfl) (by kernel_rfl) (fun _ _ _ h => pput (by decide) h) (Or.inr ⟨by rfl, rfl⟩) t5 ?_
              go_simp
              refine wpAnyH_take (i := 8) (v := undef) rfl (by kernel_rfl) (by kernel_rfl) (by kernel_rfl) (fun _ _ _ h => pput (by decide) h) (Or.inr ⟨by rfl, rfl⟩) t5 ?_
              go_simp
              refine wpAnyH_take (i := 9) (v := undef) rfl (by kernel_rfl) (by kernel_rfl) (by kernel_rfl) (fun _ _ _ h => pput (by decide) h) (Or.inr ⟨by rfl, rfl⟩) t5 ?_
              go_simp
              refine wpAnyH_take (i := 10) (v := undef) rfl (by kernel_rfl) (by kernel_rfl) (by kernel_rfl) (fun _ _ _ h => pput (by decide) h) (Or.inr ⟨by rfl, rfl⟩) t5 ?_
              go_simp
              refine wpAnyH_take (i := 11) (v := undef) rfl (by kernel_rfl) (by kernel_rfl) (by kernel_rfl) (fun _ _ _ h => pput (by decide) h) (Or.inr ⟨by rfl, rfl⟩) t5 ?_
              go_simp
              refine wpAnyH_take (i := 12) (v := undef) rfl (by kernel_rfl) (by kernel_rfl) (by kernel_rfl) (fun _ _ _ h => pput (by decide) h) (Or.inr ⟨by rfl, rfl⟩) t5 ?_
              go_simp
              refine wpAnyH_take (i := 13) (v := undef) rfl (by kernel_rfl) (by kernel_rfl) (by kernel_rfl) (fun _ _ _ h => pput (by decide) h) (Or.inr ⟨by rfl, rfl⟩) t5 ?_
              go_simp
              refine wpAnyH_take (i := 14) (v := undef) rfl (by kernel_rfl) (by kernel_rfl) (by kernel_rfl) (fun _ _ _ h => pput (by decide) h) (Or.inr ⟨by rfl, rfl⟩) t5 ?_
              go_simp
              refine wpAnyH_take (i := 15) (v := undef) rfl (by kernel_rfl) (by kernel_rfl) (by kernel_rfl) (fun _ _ _ h => pput (by decide) h) (Or.inr ⟨by rfl, rfl⟩) t5 ?_
              go_simp
              refine wpAnyH_take (i := 16) (v := undef) rfl (by kernel_rfl) (by kernel_rfl) (by kernel_rfl) (fun _ _ _ h => pput (by decide) h) (Or.inr ⟨by rfl, rfl⟩) t5 ?_
              go_simp
              refine wpAnyH_take (i := 17) (v := undef) rfl (by kernel_rfl) (by kernel_rfl) (by kernel_rfl) (fun _ _ _ h => pput (by decide) h) (Or.inr ⟨by rfl, rfl⟩) t5 ?_
              go_simp
              refine wpAnyH_take (i := 18) (v := undef) rfl (by kernel_rfl) (by kernel_rfl) (by kernel_rfl) (fun _ _ _ h => pput (by decide) h) (Or.inr ⟨by rfl, rfl⟩) t5 ?_
              go_simp
              refine wpAnyH_take (i := 19) (v := undef) rfl (by kernel_rfl) (by kernel_rfl) (by kernel_rfl) (fun _ _ _ h => pput (by decide) h) (Or.inr ⟨by rfl, rfl⟩) t5 ?_
              go_simp
              refine wpAnyH_take (i := 20) (v := undef) rfl (by kernel_rfl) (by kernel_rfl) (by kernel_rfl) (fun _ _ _ h => pput (by decide) h) (Or.inr ⟨by rfl, rfl⟩) t5 ?_
              go_simp
              refine wpAnyH_take (i := 21) (v := .bool false) rfl (by kernel_rfl) (by kernel_rfl) (by kernel_rfl) (fun _ _ _ h => pput (by decide) h) (Or.inl ⟨by rfl, fun w' _ => by go_simp <;> omega⟩) t5 ?_
              go_simp
              refine wpAnyH_all (rs := [22]) (by kernel_rfl) (by simp) ?_
              intro i hi
              obtain rfl : i = 22 := by simpa using hi
              clear hi
              refine wpOp_step rfl (fun K hK => ?_)
              go_simp
              refine (must_no _ _).mono ?_
              rintro e9 v6 ⟨rfl, hw⟩
              obtain rfl := hw.symm
              have HBE := Lib.hid (show Below w5.heap.size w5 v5 from t5)
              have RR9 := Lib.hid (row_call HBE.out R2_5.out)
              obtain ⟨q9, z9⟩ := rw1 RR9.out
              have q8 : World.cell? (v5.setCell ⟨w.heap.size + 1 + 1, 0, none⟩ (.int .i64 5)) ⟨w.heap.size + 1 + 1, 0, none⟩ = some (.int .i64 5) := cell_row (heap_setRow RR9.out) 0
              have HFB := Lib.hid (show Below w.heap.size w (v5.setCell ⟨w.heap.size + 1 + 1, 0, none⟩ (.int .i64 5)) from Only.fin HB0.out ((O5.out.trans (Only.of_below HBE.out)).put ⟨by omega, by omega⟩))
              refine leaves_cons (f := 13) (args := #[.pointer (some ⟨w.heap.size + 1 + 1, 0, none⟩)]) (by simp) (by simp [go_sem]) ?_
              refine (ended_panicking ⟨w.heap.size + 1 + 1, 0, none⟩ 0 5 [] _ q9 z9).mono ?_
              rintro e9 u9 w9 ⟨rfl, rfl, rfl⟩
              rw [HE.out]
              simp [Leaves, settle, results, Tryz.results8, go_sem]
              rw [q8]
              exact ⟨_, rfl, rfl, HFB.out⟩
            | true =>
              have HLV := Lib.hid (show decide (atI (idsOf c s) e.id.index = some e.id) = true by rw [alive_live, hlv])
              have HLB := Lib.hid hlv
              clear hlv
              rcases j with _ | n
              · skip
                have HEQ := Lib.hid (show entE c s 0 = partsE c e.parts from entE_parts HEE.out ⟨HLB.out, fun h => absurd h (by decide)⟩)
                refine wp_region_held_drew (S := fun W => Below w5.heap.size w5 W) (by kernel_rfl) ((Below.refl _ _).drew) (fun s0 => ?_)
                obtain ⟨v4, hv0⟩ : ∃ V, V = w5.drew := ⟨_, rfl⟩
                rw [← hv0] at s0 ⊢
                have t4 : Below w5.heap.size w5 v4 := s0
                clear hv0 s0
                refine wpAnyH_take (i := 0) (v := .pointer (some ⟨X, 0, none⟩)) rfl (by kernel_rfl) (by kernel_rfl) (by kernel_rfl) (fun _ _ _ h => pput (by decide) h) (Or.inl ⟨by rfl, fun w' _ => by go_simp <;> omega⟩) t4 ?_
                go_simp
                refine wpAnyH_take (i := 1) (v := .pointer (some ⟨wr.heap.size, 0, none⟩)) rfl (by kernel_rfl) (by kernel_rfl) (by kernel_rfl) (fun _ _ _ h => pput (by decide) h) (Or.inl ⟨by rfl, fun w' _ => by go_simp <;> omega⟩) t4 ?_
                go_simp
                refine wpAnyH_take (i := 2) (v := .agg #[.int .i64 e.id.index, .int .i64 e.id.gen]) rfl (by kernel_rfl) (by kernel_rfl) (by kernel_rfl) (fun _ _ _ h => pput (by decide) h) (Or.inl ⟨by rfl, fun w' h => by have e := row_call (h : Below w5.heap.size w5 w') Rwr_heap_size_5.out; have e0 := cell_row e 0; have e1 := cell_row e 1; have e2 := cell_row e 2; go_simp⟩) t4 ?_
                go_simp
                refine wpAnyH_all (rs := [3]) (by kernel_rfl) (by simp) ?_
                intro i hi
                obtain rfl : i = 3 := by simpa using hi
                clear hi
                refine wpOp_step rfl (fun K hK => ?_)
                go_simp
                refine (cidsAlive_calls (d := e.id) (HIR.out.call (HB5.out.trans (Below.mono t4 HB5.out.size)))).mono ?_
                rintro e9 v5 ⟨rfl, hb⟩
                rw [HLV.out]
                have t5 : Below w5.heap.size w5 v5 := Below.trans t4 (hb.mono (Below.size t4))
                refine hK _ _ ⟨t5, ?_⟩
                clear hb
                clear hK K
                refine wpAnyH_take (i := 4) (v := .bool true) rfl (by kernel_rfl) (by kernel_rfl) (by kernel_rfl) (fun _ _ _ h => pput (by decide) h) (Or.inl ⟨by rfl, fun w' _ => by go_simp <;> omega⟩) t5 ?_
                go_simp
                refine wpAnyH_take (i := 5) (v := .int .i64 0) rfl (by kernel_rfl) (by kernel_rfl) (by kernel_rfl) (fun _ _ _ h => pput (by decide) h) (Or.inl ⟨by rfl, fun w' _ => by go_simp <;> omega⟩) t5 ?_
                go_simp
                refine wpAnyH_take (i := 6) (v := .bool true) rfl (by kernel_rfl) (by kernel_rfl) (by kernel_rfl) (fun _ _ _ h => pput (by decide) h) (Or.inl ⟨by rfl, fun w' _ => by go_simp <;> omega⟩) t5 ?_
                go_simp
                refine wpAnyH_take (i := 7) (v := .bool true) rfl (by kernel_rfl) (by kernel_rfl) (by kernel_rfl) (fun _ _ _ h => pput (by decide) h) (Or.inl ⟨by rfl, fun w' _ => by go_simp <;> omega⟩) t5 ?_
                go_simp
                refine wpAnyH_take (i := 8) (v := undef) rfl (by kernel_rfl) (by kernel_rfl) (by kernel_rfl) (fun _ _ _ h => pput (by decide) h) (Or.inr ⟨by rfl, rfl⟩) t5 ?_
                go_simp
                refine wpAnyH_take (i := 9) (v := undef) rfl (by kernel_rfl) (by kernel_rfl) (by kernel_rfl) (fun _ _ _ h => pput (by decide) h) (Or.inr ⟨by rfl, rfl⟩) t5 ?_
                go_simp
                refine wpAnyH_take (i := 10) (v := undef) rfl (by kernel_rfl) (by kernel_rfl) (by kernel_rfl) (fun _ _ _ h => pput (by decide) h) (Or.inr ⟨by rfl, rfl⟩) t5 ?_
                go_simp
                refine wpAnyH_take (i := 11) (v := undef) rfl (by kernel_rfl) (by kernel_rfl) (by kernel_rfl) (fun _ _ _ h => pput (by decide) h) (Or.inr ⟨by rfl, rfl⟩) t5 ?_
                go_simp
                refine wpAnyH_take (i := 12) (v := undef) rfl (by kernel_rfl) (by kernel_rfl) (by kernel_rfl) (fun _ _ _ h => pput (by decide) h) (Or.inr ⟨by rfl, rfl⟩) t5 ?_
                go_simp
                refine wpAnyH_take (i := 13) (v := undef) rfl (by kernel_rfl) (by kernel_rfl) (by kernel_rfl) (fun _ _ _ h => pput (by decide) h) (Or.inr ⟨by rfl, rfl⟩) t5 ?_
                go_simp
                refine wpAnyH_take (i := 14) (v := undef) rfl (by kernel_rfl) (by kernel_rfl) (by kernel_rfl) (fun _ _ _ h => pput (by decide) h) (Or.inr ⟨by rfl, rfl⟩) t5 ?_
                go_simp
                refine wpAnyH_take (i := 15) (v := undef) rfl (by kernel_rfl) (by kernel_rfl) (by kernel_rfl) (fun _ _ _ h => pput (by decide) h) (Or.inr ⟨by rfl, rfl⟩) t5 ?_
                go_simp
                refine wpAnyH_take (i := 16) (v := undef) rfl (by kernel_rfl) (by kernel_rfl) (by kernel_rfl) (fun _ _ _ h => pput (by decide) h) (Or.inr ⟨by rfl, rfl⟩) t5 ?_
                go_simp
                refine wpAnyH_take (i := 17) (v := undef) rfl (by kernel_rfl) (by kernel_rfl) (by kernel_rfl) (fun _ _ _ h => pput (by decide) h) (Or.inr ⟨by rfl, rfl⟩) t5 ?_
                go_simp
                refine wpAnyH_take (i := 18) (v := undef) rfl (by kernel_rfl) (by kernel_rfl) (by kernel_rfl) (fun _ _ _ h => pput (by decide) h) (Or.inr ⟨by rfl, rfl⟩) t5 ?_
                go_simp
                refine wpAnyH_take (i := 19) (v := undef) rfl (by kernel_rfl) (by kernel_rfl) (by kernel_rfl) (fun _ _ _ h => pput (by decide) h) (Or.inr ⟨by rfl, rfl⟩) t5 ?_
                go_simp
                refine wpAnyH_take (i := 20) (v := .bool true) rfl (by kernel_rfl) (by kernel_rfl) (by kernel_rfl) (fun _ _ _ h => pput (by decide) h) (Or.inl ⟨by rfl, fun w' _ => by go_simp <;> omega⟩) t5 ?_
                go_simp
                refine wpAnyH_take (i := 21) (v := .bool true) rfl (by kernel_rfl) (by kernel_rfl) (by kernel_rfl) (fun _ _ _ h => pput (by decide) h) (Or.inl ⟨by rfl, fun w' _ => by go_simp <;> omega⟩) t5 ?_
                go_simp
                refine wpAnyH_all (rs := [22]) (by kernel_rfl) (by simp) ?_
                intro i hi
                obtain rfl : i = 22 := by simpa using hi
                clear hi
                refine wpOp_step rfl (fun K hK => ?_)
                go_simp
                refine (must_yes _ _).mono ?_
                rintro e9 v6 ⟨rfl, hw⟩
                have hb : Below v5.heap.size v5 v6 := by rw [hw]; exact Below.refl _ _
                clear hw
                have t6 : Below w5.heap.size w5 v6 := Below.trans t5 (hb.mono (Below.size t5))
                refine hK _ _ ⟨t6, ?_⟩
                clear hb
                clear hK K
                refine wpAnyH_done (by kernel_rfl) ?_ _
                have S6 := Lib.hid (show Only (Box w 3) w5 v6 from Only.of_below t6)
                have O6 := Lib.hid (O5.out.trans S6.out)
                have R0_6 := Lib.hid (row_call t6 R0_5.out)
                have R1_6 := Lib.hid (row_call t6 R1_5.out)
                have R2_6 := Lib.hid (row_call t6 R2_5.out)
                have Rwr_heap_size_6 := Lib.hid (row_call t6 Rwr_heap_size_5.out)
                have Vc_6 := Lib.hid (val_only Vc_5.out S6.out)
                have Vg_6 := Lib.hid (val_only Vg_5.out S6.out)
                have Vf_6 := Lib.hid (val_only Vf_5.out S6.out)
                have Ae_6 := Lib.hid (at_only Ae_5.out S6.out)
                have HB6 := Lib.hid (show Below w5.heap.size w5 v6 from t6)
                obtain ⟨q0_0, z0_0, q0_1, z0_1, q0_2, z0_2, q0_3, z0_3, q0_4, z0_4⟩ := rw5 R0_6.out
                obtain ⟨q1_0, z1_0, q1_1, z1_1, q1_2, z1_2⟩ := rw3 R1_6.out
                obtain ⟨q2_0, z2_0⟩ := rw1 R2_6.out
                obtain ⟨qn0_0, zn0_0, qn0_1, zn0_1, qn0_2, zn0_2⟩ := rw3 Rwr_heap_size_6.out
                go_wp2_with fail
                clear q0_0 z0_0 q0_1 z0_1 q0_2 z0_2 q0_3 z0_3 q0_4 z0_4 q1_0 z1_0 q1_1 z1_1 q1_2 z1_2 q2_0 z2_0 qn0_0 zn0_0 qn0_1 zn0_1 qn0_2 zn0_2
                refine (cparts_calls Vc_6.out (val_ltr HPV.out (HB5.out.trans (HB6.out.mono HB5.out.size))) HPP.out).mono ?_
                rintro e9 w7 ⟨hans, hb⟩
                have S7 := Lib.hid (show Only (Box w 3) v6 w7 from Only.of_below hb)
                have O7 := Lib.hid (O6.out.trans S7.out)
                have R0_7 := Lib.hid (row_call hb R0_6.out)
                have R1_7 := Lib.hid (row_call hb R1_6.out)
                have R2_7 := Lib.hid (row_call hb R2_6.out)
                have Rwr_heap_size_7 := Lib.hid (row_call hb Rwr_heap_size_6.out)
                have Vc_7 := Lib.hid (val_only Vc_6.out S7.out)
                have Vg_7 := Lib.hid (val_only Vg_6.out S7.out)
                have Vf_7 := Lib.hid (val_only Vf_6.out S7.out)
                have Ae_7 := Lib.hid (at_only Ae_6.out S7.out)
                have HB7 := Lib.hid (show Below v3.heap.size v3 w7 from HBR.out.trans (((HB5.out.trans (HB6.out.mono HB5.out.size)).trans (hb.mono (HB5.out.trans (HB6.out.mono HB5.out.size)).size)).mono HBR.out.size))
                clear hb
                rcases hans with ⟨h0, rfl⟩ | ⟨h0, rfl⟩
                · skip
                  have HF9 := Lib.hid (show firstE (entE c s) (0 + 1) = 0 by rw [firstE_next HFZ.out, HEQ.out, h0])
                  have iw : IntKind.i64.wrap ((0 : Int) + 1) = (0 : Int) + 1 := IntWalk.i64_in _ ⟨by omega, by omega⟩
                  clear h0
                  go_wp2_with fail
                  exact ⟨⟨0 + 1, by go_num, by omega, HF9, HB7⟩, by simp [intOf]; omega⟩
                · skip
                  have HE := Lib.hid (show auditS c s = partsE c e.parts by rw [audit_ent HR.out HLO.out (by rw [HM.out, HCN.out])]; exact firstE_stop (by rw [firstE_next HFZ.out, HEQ.out]) h0 s.ents.length (by omega))
                  obtain ⟨pe, hpe⟩ : ∃ pe, partsE c e.parts = pe := ⟨_, rfl⟩
                  rw [hpe] at HE ⊢
                  clear hpe h0
                  have RR9 := Lib.hid (R2_7.out)
                  obtain ⟨q9, z9⟩ := rw1 RR9.out
                  have q8 : World.cell? (w7.setCell ⟨w.heap.size + 1 + 1, 0, none⟩ (.int .i64 pe)) ⟨w.heap.size + 1 + 1, 0, none⟩ = some (.int .i64 pe) := cell_row (heap_setRow RR9.out) 0
                  have HFB := Lib.hid (show Below w.heap.size w (w7.setCell ⟨w.heap.size + 1 + 1, 0, none⟩ (.int .i64 pe)) from Only.fin HB0.out (O7.out.put ⟨by omega, by omega⟩))
                  refine leaves_cons (f := 13) (args := #[.pointer (some ⟨w.heap.size + 1 + 1, 0, none⟩)]) (by simp) (by simp [go_sem]) ?_
                  refine (ended_panicking ⟨w.heap.size + 1 + 1, 0, none⟩ 0 pe [] _ q9 z9).mono ?_
                  rintro e9 u9 w9 ⟨rfl, rfl, rfl⟩
                  rw [HE.out]
                  simp [Leaves, settle, results, Tryz.results8, go_sem]
                  rw [q8]
                  exact ⟨_, rfl, rfl, HFB.out⟩
              · skip
                obtain ⟨y, hy⟩ : ∃ y, s.ents[n]? = some y := ⟨_, List.getElem?_eq_getElem (by omega)⟩
                have HYY := Lib.hid hy
                have HPI := Lib.hid (prev_index hy)
                have iw3 : IntKind.i64.wrap ((n : Int) + 1 - 1) = (n : Int) := by rw [show (n : Int) + 1 - 1 = (n : Int) by omega]; exact IntWalk.i64_in _ ⟨by omega, by omega⟩
                have iw4 : IntKind.i64.wrap (n : Int) = (n : Int) := IntWalk.i64_in _ ⟨by omega, by omega⟩
                have hmp1 : (n : Int) + 1 < s.ents.length := by omega
                have hmp2 : (n : Int) < s.ents.length := by omega
                have hmne : ((n : Int) + 1 == 0) = false := by rw [beq_eq_false_iff_ne]; omega
                clear hy
                by_cases hyx : y.id.index < e.id.index
                · skip
                  have HEQ := Lib.hid (show entE c s (n + 1) = partsE c e.parts from entE_parts HEE.out ⟨HLB.out, fun _ => by rw [HPI.out]; exact hyx⟩)
                  refine wp_region_held_drew (S := fun W => Below w5.heap.size w5 W) (by kernel_rfl) ((Below.refl _ _).drew) (fun s0 => ?_)
                  obtain ⟨v4, hv0⟩ : ∃ V, V = w5.drew := ⟨_, rfl⟩
                  rw [← hv0] at s0 ⊢
                  have t4 : Below w5.heap.size w5 v4 := s0
                  clear hv0 s0
                  refine wpAnyH_take (i := 0) (v := .pointer (some ⟨X, 0, none⟩)) rfl (by kernel_rfl) (by kernel_rfl) (by kernel_rfl) (fun _ _ _ h => pput (by decide) h) (Or.inl ⟨by rfl, fun w' _ => by go_simp <;> omega⟩) t4 ?_
                  go_simp
                  refine wpAnyH_take (i := 1) (v := .pointer (some ⟨wr.heap.size, 0, none⟩)) rfl (by kernel_rfl) (by kernel_rfl) (by kernel_rfl) (fun _ _ _ h => pput (by decide) h) (Or.inl ⟨by rfl, fun w' _ => by go_simp <;> omega⟩) t4 ?_
                  go_simp
                  refine wpAnyH_take (i := 2) (v := .agg #[.int .i64 e.id.index, .int .i64 e.id.gen]) rfl (by kernel_rfl) (by kernel_rfl) (by kernel_rfl) (fun _ _ _ h => pput (by decide) h) (Or.inl ⟨by rfl, fun w' h => by have e := row_call (h : Below w5.heap.size w5 w') Rwr_heap_size_5.out; have e0 := cell_row e 0; have e1 := cell_row e 1; have e2 := cell_row e 2; go_simp⟩) t4 ?_
                  go_simp
                  refine wpAnyH_all (rs := [3]) (by kernel_rfl) (by simp) ?_
                  intro i hi
                  obtain rfl : i = 3 := by simpa using hi
                  clear hi
                  refine wpOp_step rfl (fun K hK => ?_)
                  go_simp
                  refine (cidsAlive_calls (d := e.id) (HIR.out.call (HB5.out.trans (Below.mono t4 HB5.out.size)))).mono ?_
                  rintro e9 v5 ⟨rfl, hb⟩
                  rw [HLV.out]
                  have t5 : Below w5.heap.size w5 v5 := Below.trans t4 (hb.mono (Below.size t4))
                  refine hK _ _ ⟨t5, ?_⟩
                  clear hb
                  clear hK K
                  refine wpAnyH_take (i := 4) (v := .bool true) rfl (by kernel_rfl) (by kernel_rfl) (by kernel_rfl) (fun _ _ _ h => pput (by decide) h) (Or.inl ⟨by rfl, fun w' _ => by go_simp <;> omega⟩) t5 ?_
                  go_simp
                  refine wpAnyH_take (i := 5) (v := .int .i64 (n + 1)) rfl (by kernel_rfl) (by kernel_rfl) (by kernel_rfl) (fun _ _ _ h => pput (by decide) h) (Or.inl ⟨by rfl, fun w' _ => by go_simp <;> omega⟩) t5 ?_
                  go_simp
                  refine wpAnyH_take (i := 6) (v := .bool false) rfl (by kernel_rfl) (by kernel_rfl) (by kernel_rfl) (fun _ _ _ h => pput (by decide) h) (Or.inl ⟨by rfl, fun w' _ => by go_simp <;> omega⟩) t5 ?_
                  go_simp
                  refine wpAnyH_take (i := 7) (v := .bool false) rfl (by kernel_rfl) (by kernel_rfl) (by kernel_rfl) (fun _ _ _ h => pput (by decide) h) (Or.inl ⟨by rfl, fun w' _ => by go_simp <;> omega⟩) t5 ?_
                  go_simp
                  refine wpAnyH_take (i := 8) (v := .pointer (some ⟨w.heap.size + 1, 2, none⟩)) rfl (by kernel_rfl) (by kernel_rfl) (by kernel_rfl) (fun _ _ _ h => pput (by decide) h) (Or.inl ⟨by rfl, fun w' _ => by go_simp <;> omega⟩) t5 ?_
                  go_simp
                  refine wpAnyH_take (i := 9) (v := .slice (some ⟨eb, eo, none⟩) s.ents.length c3) rfl (by kernel_rfl) (by kernel_rfl) (by kernel_rfl) (fun _ _ _ h => pput (by decide) h) (Or.inl ⟨by rfl, fun w' h => by have e := row_call (h : Below w5.heap.size w5 w') R1_5.out; have e0 := cell_row e 0; have e1 := cell_row e 1; have e2 := cell_row e 2; go_simp⟩) t5 ?_
                  go_simp
                  refine wpAnyH_take (i := 10) (v := .int .i64 (n + 1)) rfl (by kernel_rfl) (by kernel_rfl) (by kernel_rfl) (fun _ _ _ h => pput (by decide) h) (Or.inl ⟨by rfl, fun w' _ => by go_simp <;> omega⟩) t5 ?_
                  go_simp
                  refine wpAnyH_take (i := 11) (v := .int .i64 n) rfl (by kernel_rfl) (by kernel_rfl) (by kernel_rfl) (fun _ _ _ h => pput (by decide) h) (Or.inl ⟨by rfl, fun w' _ => by go_simp <;> omega⟩) t5 ?_
                  go_simp
                  refine wpAnyH_take (i := 12) (v := .pointer (some ⟨eb, eo + n * 3, none⟩)) rfl (by kernel_rfl) (by kernel_rfl) (by kernel_rfl) (fun _ _ _ h => pput (by decide) h) (Or.inl ⟨by rfl, fun w' _ => by go_simp <;> omega⟩) t5 ?_
                  go_simp
                  refine wpAnyH_take (i := 13) (v := .pointer (some ⟨eb, eo + n * 3, none⟩)) rfl (by kernel_rfl) (by kernel_rfl) (by kernel_rfl) (fun _ _ _ h => pput (by decide) h) (Or.inl ⟨by rfl, fun w' _ => by go_simp <;> omega⟩) t5 ?_
                  go_simp
                  refine wpAnyH_take (i := 14) (v := .pointer (some ⟨eb, eo + n * 3, none⟩)) rfl (by kernel_rfl) (by kernel_rfl) (by kernel_rfl) (fun _ _ _ h => pput (by decide) h) (Or.inl ⟨by rfl, fun w' _ => by go_simp <;> omega⟩) t5 ?_
                  go_simp
                  refine wpAnyH_take (i := 15) (v := .int .i64 y.id.index) rfl (by kernel_rfl) (by kernel_rfl) (by kernel_rfl) (fun _ _ _ h => pput (by decide) h) (Or.inl ⟨by rfl, fun w' h => by have e := HQ.out w' (HB5.out.trans (Below.mono (h : Below w5.heap.size w5 w') HB5.out.size)) _ _ HYY.out; go_simp⟩) t5 ?_
                  go_simp
                  refine wpAnyH_take (i := 16) (v := .pointer (some ⟨wr.heap.size, 0, none⟩)) rfl (by kernel_rfl) (by kernel_rfl) (by kernel_rfl) (fun _ _ _ h => pput (by decide) h) (Or.inl ⟨by rfl, fun w' _ => by go_simp <;> omega⟩) t5 ?_
                  go_simp
                  refine wpAnyH_take (i := 17) (v := .pointer (some ⟨wr.heap.size, 0, none⟩)) rfl (by kernel_rfl) (by kernel_rfl) (by kernel_rfl) (fun _ _ _ h => pput (by decide) h) (Or.inl ⟨by rfl, fun w' _ => by go_simp <;> omega⟩) t5 ?_
                  go_simp
                  refine wpAnyH_take (i := 18) (v := .int .i64 e.id.index) rfl (by kernel_rfl) (by kernel_rfl) (by kernel_rfl) (fun _ _ _ h => pput (by decide) h) (Or.inl ⟨by rfl, fun w' h => by have e := row_call (h : Below w5.heap.size w5 w') Rwr_heap_size_5.out; have e0 := cell_row e 0; have e1 := cell_row e 1; have e2 := cell_row e 2; go_simp⟩) t5 ?_
                  go_simp
                  refine wpAnyH_take (i := 19) (v := .bool true) rfl (by kernel_rfl) (by kernel_rfl) (by kernel_rfl) (fun _ _ _ h => pput (by decide) h) (Or.inl ⟨by rfl, fun w' _ => by go_simp <;> omega⟩) t5 ?_
                  go_simp
                  refine wpAnyH_take (i := 20) (v := .bool true) rfl (by kernel_rfl) (by kernel_rfl) (by kernel_rfl) (fun _ _ _ h => pput (by decide) h) (Or.inl ⟨by rfl, fun w' _ => by go_simp <;> omega⟩) t5 ?_
                  go_simp
                  refine wpAnyH_take (i := 21) (v := .bool true) rfl (by kernel_rfl) (by kernel_rfl) (by kernel_rfl) (fun _ _ _ h => pput (by decide) h) (Or.inl ⟨by rfl, fun w' _ => by go_simp <;> omega⟩) t5 ?_
                  go_simp
                  refine wpAnyH_all (rs := [22]) (by kernel_rfl) (by simp) ?_
                  intro i hi
                  obtain rfl : i = 22 := by simpa using hi
                  clear hi
                  refine wpOp_step rfl (fun K hK => ?_)
                  go_simp
                  refine (must_yes _ _).mono ?_
                  rintro e9 v6 ⟨rfl, hw⟩
                  have hb : Below v5.heap.size v5 v6 := by rw [hw]; exact Below.refl _ _
                  clear hw
                  have t6 : Below w5.heap.size w5 v6 := Below.trans t5 (hb.mono (Below.size t5))
                  refine hK _ _ ⟨t6, ?_⟩
                  clear hb
                  clear hK K
                  refine wpAnyH_done (by kernel_rfl) ?_ _
                  have S6 := Lib.hid (show Only (Box w 3) w5 v6 from Only.of_below t6)
                  have O6 := Lib.hid (O5.out.trans S6.out)
                  have R0_6 := Lib.hid (row_call t6 R0_5.out)
                  have R1_6 := Lib.hid (row_call t6 R1_5.out)
                  have R2_6 := Lib.hid (row_call t6 R2_5.out)
                  have Rwr_heap_size_6 := Lib.hid (row_call t6 Rwr_heap_size_5.out)
                  have Vc_6 := Lib.hid (val_only Vc_5.out S6.out)
                  have Vg_6 := Lib.hid (val_only Vg_5.out S6.out)
                  have Vf_6 := Lib.hid (val_only Vf_5.out S6.out)
                  have Ae_6 := Lib.hid (at_only Ae_5.out S6.out)
                  have HB6 := Lib.hid (show Below w5.heap.size w5 v6 from t6)
                  obtain ⟨q0_0, z0_0, q0_1, z0_1, q0_2, z0_2, q0_3, z0_3, q0_4, z0_4⟩ := rw5 R0_6.out
                  obtain ⟨q1_0, z1_0, q1_1, z1_1, q1_2, z1_2⟩ := rw3 R1_6.out
                  obtain ⟨q2_0, z2_0⟩ := rw1 R2_6.out
                  obtain ⟨qn0_0, zn0_0, qn0_1, zn0_1, qn0_2, zn0_2⟩ := rw3 Rwr_heap_size_6.out
                  go_wp2_with fail
                  clear q0_0 z0_0 q0_1 z0_1 q0_2 z0_2 q0_3 z0_3 q0_4 z0_4 q1_0 z1_0 q1_1 z1_1 q1_2 z1_2 q2_0 z2_0 qn0_0 zn0_0 qn0_1 zn0_1 qn0_2 zn0_2
                  refine (cparts_calls Vc_6.out (val_ltr HPV.out (HB5.out.trans (HB6.out.mono HB5.out.size))) HPP.out).mono ?_
                  rintro e9 w7 ⟨hans, hb⟩
                  have S7 := Lib.hid (show Only (Box w 3) v6 w7 from Only.of_below hb)
                  have O7 := Lib.hid (O6.out.trans S7.out)
                  have R0_7 := Lib.hid (row_call hb R0_6.out)
                  have R1_7 := Lib.hid (row_call hb R1_6.out)
                  have R2_7 := Lib.hid (row_call hb R2_6.out)
                  have Rwr_heap_size_7 := Lib.hid (row_call hb Rwr_heap_size_6.out)
                  have Vc_7 := Lib.hid (val_only Vc_6.out S7.out)
                  have Vg_7 := Lib.hid (val_only Vg_6.out S7.out)
                  have Vf_7 := Lib.hid (val_only Vf_6.out S7.out)
                  have Ae_7 := Lib.hid (at_only Ae_6.out S7.out)
                  have HB7 := Lib.hid (show Below v3.heap.size v3 w7 from HBR.out.trans (((HB5.out.trans (HB6.out.mono HB5.out.size)).trans (hb.mono (HB5.out.trans (HB6.out.mono HB5.out.size)).size)).mono HBR.out.size))
                  clear hb
                  rcases hans with ⟨h0, rfl⟩ | ⟨h0, rfl⟩
                  · skip
                    have HF9 := Lib.hid (show firstE (entE c s) ((n + 1) + 1) = 0 by rw [firstE_next HFZ.out, HEQ.out, h0])
                    have iw : IntKind.i64.wrap (((n : Int) + 1) + 1) = ((n : Int) + 1) + 1 := IntWalk.i64_in _ ⟨by omega, by omega⟩
                    clear h0
                    go_wp2_with fail
                    exact ⟨⟨(n + 1) + 1, by go_num, by omega, HF9, HB7⟩, by simp [intOf]; omega⟩
                  · skip
                    have HE := Lib.hid (show auditS c s = partsE c e.parts by rw [audit_ent HR.out HLO.out (by rw [HM.out, HCN.out])]; exact firstE_stop (by rw [firstE_next HFZ.out, HEQ.out]) h0 s.ents.length (by omega))
                    obtain ⟨pe, hpe⟩ : ∃ pe, partsE c e.parts = pe := ⟨_, rfl⟩
                    rw [hpe] at HE ⊢
                    clear hpe h0
                    have RR9 := Lib.hid (R2_7.out)
                    obtain ⟨q9, z9⟩ := rw1 RR9.out
                    have q8 : World.cell? (w7.setCell ⟨w.heap.size + 1 + 1, 0, none⟩ (.int .i64 pe)) ⟨w.heap.size + 1 + 1, 0, none⟩ = some (.int .i64 pe) := cell_row (heap_setRow RR9.out) 0
                    have HFB := Lib.hid (show Below w.heap.size w (w7.setCell ⟨w.heap.size + 1 + 1, 0, none⟩ (.int .i64 pe)) from Only.fin HB0.out (O7.out.put ⟨by omega, by omega⟩))
                    refine leaves_cons (f := 13) (args := #[.pointer (some ⟨w.heap.size + 1 + 1, 0, none⟩)]) (by simp) (by simp [go_sem]) ?_
                    refine (ended_panicking ⟨w.heap.size + 1 + 1, 0, none⟩ 0 pe [] _ q9 z9).mono ?_
                    rintro e9 u9 w9 ⟨rfl, rfl, rfl⟩
                    rw [HE.out]
                    simp [Leaves, settle, results, Tryz.results8, go_sem]
                    rw [q8]
                    exact ⟨_, rfl, rfl, HFB.out⟩
                · skip
                  have HE := Lib.hid (show auditS c s = 5 by rw [audit_ent HR.out HLO.out (by rw [HM.out, HCN.out])]; exact firstE_stop (by rw [firstE_next HFZ.out, entE_bad HEE.out (fun h => hyx (by have := h.2 (by omega); rwa [HPI.out] at this))]) (by decide) s.ents.length (by omega))
                  refine wp_region_held_drew (S := fun W => Below w5.heap.size w5 W) (by kernel_rfl) ((Below.refl _ _).drew) (fun s0 => ?_)
                  obtain ⟨v4, hv0⟩ : ∃ V, V = w5.drew := ⟨_, rfl⟩
                  rw [← hv0] at s0 ⊢
                  have t4 : Below w5.heap.size w5 v4 := s0
                  clear hv0 s0
                  refine wpAnyH_take (i := 0) (v := .pointer (some ⟨X, 0, none⟩)) rfl (by kernel_rfl) (by kernel_rfl) (by kernel_rfl) (fun _ _ _ h => pput (by decide) h) (Or.inl ⟨by rfl, fun w' _ => by go_simp <;> omega⟩) t4 ?_
                  go_simp
                  refine wpAnyH_take (i := 1) (v := .pointer (some ⟨wr.heap.size, 0, none⟩)) rfl (by kernel_rfl) (by kernel_rfl) (by kernel_rfl) (fun _ _ _ h => pput (by decide) h) (Or.inl ⟨by rfl, fun w' _ => by go_simp <;> omega⟩) t4 ?_
                  go_simp
                  refine wpAnyH_take (i := 2) (v := .agg #[.int .i64 e.id.index, .int .i64 e.id.gen]) rfl (by kernel_rfl) (by kernel_rfl) (by kernel_rfl) (fun _ _ _ h => pput (by decide) h) (Or.inl ⟨by rfl, fun w' h => by have e := row_call (h : Below w5.heap.size w5 w') Rwr_heap_size_5.out; have e0 := cell_row e 0; have e1 := cell_row e 1; have e2 := cell_row e 2; go_simp⟩) t4 ?_
                  go_simp
                  refine wpAnyH_all (rs := [3]) (by kernel_rfl) (by simp) ?_
                  intro i hi
                  obtain rfl : i = 3 := by simpa using hi
                  clear hi
                  refine wpOp_step rfl (fun K hK => ?_)
                  go_simp
                  refine (cidsAlive_calls (d := e.id) (HIR.out.call (HB5.out.trans (Below.mono t4 HB5.out.size)))).mono ?_
                  rintro e9 v5 ⟨rfl, hb⟩
                  rw [HLV.out]
                  have t5 : Below w5.heap.size w5 v5 := Below.trans t4 (hb.mono (Below.size t4))
                  refine hK _ _ ⟨t5, ?_⟩
                  clear hb
                  clear hK K
                  refine wpAnyH_take (i := 4) (v := .bool true) rfl (by kernel_rfl) (by kernel_rfl) (by kernel_rfl) (fun _ _ _ h => pput (by decide) h) (Or.inl ⟨by rfl, fun w' _ => by go_simp <;> omega⟩) t5 ?_
                  go_simp
                  refine wpAnyH_take (i := 5) (v := .int .i64 (n + 1)) rfl (by kernel_rfl) (by kernel_rfl) (by kernel_rfl) (fun _ _ _ h => pput (by decide) h) (Or.inl ⟨by rfl, fun w' _ => by go_simp <;> omega⟩) t5 ?_
                  go_simp
                  refine wpAnyH_take (i := 6) (v := .bool false) rfl (by kernel_rfl) (by kernel_rfl) (by kernel_rfl) (fun _ _ _ h => pput (by decide) h) (Or.inl ⟨by rfl, fun w' _ => by go_simp <;> omega⟩) t5 ?_
                  go_simp
                  refine wpAnyH_take (i := 7) (v := .bool false) rfl (by kernel_rfl) (by kernel_rfl) (by kernel_rfl) (fun _ _ _ h => pput (by decide) h) (Or.inl ⟨by rfl, fun w' _ => by go_simp <;> omega⟩) t5 ?_
                  go_simp
                  refine wpAnyH_take (i := 8) (v := .pointer (some ⟨w.heap.size + 1, 2, none⟩)) rfl (by kernel_rfl) (by kernel_rfl) (by kernel_rfl) (fun _ _ _ h => pput (by decide) h) (Or.inl ⟨by rfl, fun w' _ => by go_simp <;> omega⟩) t5 ?_
                  go_simp
                  refine wpAnyH_take (i := 9) (v := .slice (some ⟨eb, eo, none⟩) s.ents.length c3) rfl (by kernel_rfl) (by kernel_rfl) (by kernel_rfl) (fun _ _ _ h => pput (by decide) h) (Or.inl ⟨by rfl, fun w' h => by have e := row_call (h : Below w5.heap.size w5 w') R1_5.out; have e0 := cell_row e 0; have e1 := cell_row e 1; have e2 := cell_row e 2; go_simp⟩) t5 ?_
                  go_simp
                  refine wpAnyH_take (i := 10) (v := .int .i64 (n + 1)) rfl (by kernel_rfl) (by kernel_rfl) (by kernel_rfl) (fun _ _ _ h => pput (by decide) h) (Or.inl ⟨by rfl, fun w' _ => by go_simp <;> omega⟩) t5 ?_
                  go_simp
                  refine wpAnyH_take (i := 11) (v := .int .i64 n) rfl (by kernel_rfl) (by kernel_rfl) (by kernel_rfl) (fun _ _ _ h => pput (by decide) h) (Or.inl ⟨by rfl, fun w' _ => by go_simp <;> omega⟩) t5 ?_
                  go_simp
                  refine wpAnyH_take (i := 12) (v := .pointer (some ⟨eb, eo + n * 3, none⟩)) rfl (by kernel_rfl) (by kernel_rfl) (by kernel_rfl) (fun _ _ _ h => pput (by decide) h) (Or.inl ⟨by rfl, fun w' _ => by go_simp <;> omega⟩) t5 ?_
                  go_simp
                  refine wpAnyH_take (i := 13) (v := .pointer (some ⟨eb, eo + n * 3, none⟩)) rfl (by kernel_rfl) (by kernel_rfl) (by kernel_rfl) (fun _ _ _ h => pput (by decide) h) (Or.inl ⟨by rfl, fun w' _ => by go_simp <;> omega⟩) t5 ?_
                  go_simp
                  refine wpAnyH_take (i := 14) (v := .pointer (some ⟨eb, eo + n * 3, none⟩)) rfl (by kernel_rfl) (by kernel_rfl) (by kernel_rfl) (fun _ _ _ h => pput (by decide) h) (Or.inl ⟨by rfl, fun w' _ => by go_simp <;> omega⟩) t5 ?_
                  go_simp
                  refine wpAnyH_take (i := 15) (v := .int .i64 y.id.index) rfl (by kernel_rfl) (by kernel_rfl) (by kernel_rfl) (fun _ _ _ h => pput (by decide) h) (Or.inl ⟨by rfl, fun w' h => by have e := HQ.out w' (HB5.out.trans (Below.mono (h : Below w5.heap.size w5 w') HB5.out.size)) _ _ HYY.out; go_simp⟩) t5 ?_
                  go_simp
                  refine wpAnyH_take (i := 16) (v := .pointer (some ⟨wr.heap.size, 0, none⟩)) rfl (by kernel_rfl) (by kernel_rfl) (by kernel_rfl) (fun _ _ _ h => pput (by decide) h) (Or.inl ⟨by rfl, fun w' _ => by go_simp <;> omega⟩) t5 ?_
                  go_simp
                  refine wpAnyH_take (i := 17) (v := .pointer (some ⟨wr.heap.size, 0, none⟩)) rfl (by kernel_rfl) (by kernel_rfl) (by kernel_rfl) (fun _ _ _ h => pput (by decide) h) (Or.inl ⟨by rfl, fun w' _ => by go_simp <;> omega⟩) t5 ?_
                  go_simp
                  refine wpAnyH_take (i := 18) (v := .int .i64 e.id.index) rfl (by kernel_rfl) (by kernel_rfl) (by kernel_rfl) (fun _ _ _ h => pput (by decide) h) (Or.inl ⟨by rfl, fun w' h => by have e := row_call (h : Below w5.heap.size w5 w') Rwr_heap_size_5.out; have e0 := cell_row e 0; have e1 := cell_row e 1; have e2 := cell_row e 2; go_simp⟩) t5 ?_
                  go_simp
                  refine wpAnyH_take (i := 19) (v := .bool false) rfl (by kernel_rfl) (by kernel_rfl) (by kernel_rfl) (fun _ _ _ h => pput (by decide) h) (Or.inl ⟨by rfl, fun w' _ => by go_simp <;> omega⟩) t5 ?_
                  go_simp
                  refine wpAnyH_take (i := 20) (v := .bool false) rfl (by kernel_rfl) (by kernel_rfl) (by kernel_rfl) (fun _ _ _ h => pput (by decide) h) (Or.inl ⟨by rfl, fun w' _ => by go_simp <;> omega⟩) t5 ?_
                  go_simp
                  refine wpAnyH_take (i := 21) (v := .bool false) rfl (by kernel_rfl) (by kernel_rfl) (by kernel_rfl) (fun _ _ _ h => pput (by decide) h) (Or.inl ⟨by rfl, fun w' _ => by go_simp <;> omega⟩) t5 ?_
                  go_simp
                  refine wpAnyH_all (rs := [22]) (by kernel_rfl) (by simp) ?_
                  intro i hi
                  obtain rfl : i = 22 := by simpa using hi
                  clear hi
                  refine wpOp_step rfl (fun K hK => ?_)
                  go_simp
                  refine (must_no _ _).mono ?_
                  rintro e9 v6 ⟨rfl, hw⟩
                  obtain rfl := hw.symm
                  have HBE := Lib.hid (show Below w5.heap.size w5 v5 from t5)
                  have RR9 := Lib.hid (row_call HBE.out R2_5.out)
                  obtain ⟨q9, z9⟩ := rw1 RR9.out
                  have q8 : World.cell? (v5.setCell ⟨w.heap.size + 1 + 1, 0, none⟩ (.int .i64 5)) ⟨w.heap.size + 1 + 1, 0, none⟩ = some (.int .i64 5) := cell_row (heap_setRow RR9.out) 0
                  have HFB := Lib.hid (show Below w.heap.size w (v5.setCell ⟨w.heap.size + 1 + 1, 0, none⟩ (.int .i64 5)) from Only.fin HB0.out ((O5.out.trans (Only.of_below HBE.out)).put ⟨by omega, by omega⟩))
                  refine leaves_cons (f := 13) (args := #[.pointer (some ⟨w.heap.size + 1 + 1, 0, none⟩)]) (by simp) (by simp [go_sem]) ?_
                  refine (ended_panicking ⟨w.heap.size + 1 + 1, 0, none⟩ 0 5 [] _ q9 z9).mono ?_
                  rintro e9 u9 w9 ⟨rfl, rfl, rfl⟩
                  rw [HE.out]
                  simp [Leaves, settle, results, Tryz.results8, go_sem]
                  rw [q8]
                  exact ⟨_, rfl, rfl, HFB.out⟩
          · obtain rfl : j = s.ents.length := by omega
            have HE := Lib.hid (show auditS c s = 0 by rw [audit_ent HR.out HLO.out (by rw [HM.out, HCN.out])]; exact HFZ.out)
            obtain ⟨q0_0, z0_0, q0_1, z0_1, q0_2, z0_2, q0_3, z0_3, q0_4, z0_4⟩ := rw5 R0_4.out
            obtain ⟨q1_0, z1_0, q1_1, z1_1, q1_2, z1_2⟩ := rw3 R1_4.out
            obtain ⟨q2_0, z2_0⟩ := rw1 R2_4.out
            go_wp2_with fail
            clear q0_0 z0_0 q0_1 z0_1 q0_2 z0_2 q0_3 z0_3 q0_4 z0_4 q1_0 z1_0 q1_1 z1_1 q1_2 z1_2 q2_0 z2_0
            have q8 : World.cell? (wr.setCell ⟨w.heap.size + 1 + 1, 0, none⟩ (.int .i64 0)) ⟨w.heap.size + 1 + 1, 0, none⟩ = some (.int .i64 0) := cell_row (heap_setRow R2_4.out) 0
            have HFB := Lib.hid (show Below w.heap.size w (wr.setCell ⟨w.heap.size + 1 + 1, 0, none⟩ (.int .i64 0)) from Only.fin HB0.out (O4.out.put ⟨by omega, by omega⟩))
            refine leaves_cons (f := 13) (args := #[.pointer (some ⟨w.heap.size + 1 + 1, 0, none⟩)]) (by simp) (by simp [go_sem]) ?_
            refine (ended_idle ⟨w.heap.size + 1 + 1, 0, none⟩ _).mono ?_
            rintro e9 u9 w9 ⟨rfl, rfl, rfl⟩
            rw [HE.out]
            simp [Leaves, settle, results, Tryz.results8, go_sem]
            rw [q8]
            exact ⟨_, rfl, rfl, HFB.out⟩
      · skip
        have bcn : ((m : Int) == (s.ents.length : Int)) = false := by rw [beq_eq_false_iff_ne]; omega
        have HE := Lib.hid (audit_5 HR.out HLO.out (by rw [HM.out]; exact hcn))
        clear hcn
        refine wp_region_held_drew (S := fun W => Below w2.heap.size w2 W) (by kernel_rfl) ((Below.refl _ _).drew) (fun s0 => ?_)
        obtain ⟨v1, hv0⟩ : ∃ V, V = w2.drew := ⟨_, rfl⟩
        rw [← hv0] at s0 ⊢
        have t1 : Below w2.heap.size w2 v1 := s0
        clear hv0 s0
        refine wpAnyH_take (i := 0) (v := .pointer (some ⟨X, 0, none⟩)) rfl (by kernel_rfl) (by kernel_rfl) (by kernel_rfl) (fun _ _ _ h => pput (by decide) h) (Or.inl ⟨by rfl, fun w' _ => by go_simp <;> omega⟩) t1 ?_
        go_simp
        refine wpAnyH_take (i := 2) (v := .pointer (some ⟨w.heap.size + 1, 2, none⟩)) rfl (by kernel_rfl) (by kernel_rfl) (by kernel_rfl) (fun _ _ _ h => pput (by decide) h) (Or.inl ⟨by rfl, fun w' _ => by go_simp <;> omega⟩) t1 ?_
        go_simp
        refine wpAnyH_take (i := 3) (v := .slice A3 s.ents.length c3) rfl (by kernel_rfl) (by kernel_rfl) (by kernel_rfl) (fun _ _ _ h => pput (by decide) h) (Or.inl ⟨by rfl, fun w' h => by have e := row_call (h : Below w2.heap.size w2 w') R1_2.out; have e0 := cell_row e 0; have e1 := cell_row e 1; have e2 := cell_row e 2; go_simp⟩) t1 ?_
        go_simp
        refine wpAnyH_take (i := 4) (v := .int .i64 s.ents.length) rfl (by kernel_rfl) (by kernel_rfl) (by kernel_rfl) (fun _ _ _ h => pput (by decide) h) (Or.inl ⟨by rfl, fun w' _ => by go_simp <;> omega⟩) t1 ?_
        go_simp
        refine wpAnyH_all (rs := [1]) (by kernel_rfl) (by simp) ?_
        intro i hi
        obtain rfl : i = 1 := by simpa using hi
        clear hi
        refine wpOp_step rfl (fun K hK => ?_)
        go_simp
        refine (cidsCount_calls (HI.out.call t1) HGL.out).mono ?_
        rintro e v2 ⟨rfl, hb⟩
        rw [HM.out]
        have t2 : Below w2.heap.size w2 v2 := Below.trans t1 (hb.mono (Below.size t1))
        refine hK _ _ ⟨t2, ?_⟩
        clear hb
        clear hK K
        refine wpAnyH_take (i := 5) (v := .bool false) rfl (by kernel_rfl) (by kernel_rfl) (by kernel_rfl) (fun _ _ _ h => pput (by decide) h) (Or.inl ⟨by rfl, fun w' _ => by go_simp <;> omega⟩) t2 ?_
        go_simp
        refine wpAnyH_all (rs := [6]) (by kernel_rfl) (by simp) ?_
        intro i hi
        obtain rfl : i = 6 := by simpa using hi
        clear hi
        refine wpOp_step rfl (fun K hK => ?_)
        go_simp
        refine (must_no _ _).mono ?_
        rintro e v3 ⟨rfl, hw⟩
        obtain rfl := hw.symm
        have HBE := Lib.hid (show Below w2.heap.size w2 v2 from t2)
        have RR9 := Lib.hid (row_call HBE.out R2_2.out)
        obtain ⟨q9, z9⟩ := rw1 RR9.out
        have q8 : World.cell? (v2.setCell ⟨w.heap.size + 1 + 1, 0, none⟩ (.int .i64 5)) ⟨w.heap.size + 1 + 1, 0, none⟩ = some (.int .i64 5) := cell_row (heap_setRow RR9.out) 0
        have HFB := Lib.hid (show Below w.heap.size w (v2.setCell ⟨w.heap.size + 1 + 1, 0, none⟩ (.int .i64 5)) from Only.fin HB0.out ((O2.out.trans (Only.of_below HBE.out)).put ⟨by omega, by omega⟩))
        refine leaves_cons (f := 13) (args := #[.pointer (some ⟨w.heap.size + 1 + 1, 0, none⟩)]) (by simp) (by simp [go_sem]) ?_
        refine (ended_panicking ⟨w.heap.size + 1 + 1, 0, none⟩ 0 5 [] _ q9 z9).mono ?_
        rintro e9 u9 w9 ⟨rfl, rfl, rfl⟩
        rw [HE.out]
        simp [Leaves, settle, results, Tryz.results8, go_sem]
        rw [q8]
        exact ⟨_, rfl, rfl, HFB.out⟩
    · skip
      have HE := Lib.hid (audit_11 HR.out hno)
      obtain ⟨q0_0, z0_0, q0_1, z0_1, q0_2, z0_2, q0_3, z0_3, q0_4, z0_4⟩ := rw5 R0_2.out
      obtain ⟨q1_0, z1_0, q1_1, z1_1, q1_2, z1_2⟩ := rw3 R1_2.out
      obtain ⟨q2_0, z2_0⟩ := rw1 R2_2.out
      go_wp2_with fail
      clear q0_0 z0_0 q0_1 z0_1 q0_2 z0_2 q0_3 z0_3 q0_4 z0_4 q1_0 z1_0 q1_1 z1_1 q1_2 z1_2 q2_0 z2_0
      refine (must_no _ _).mono ?_
      rintro e w8 ⟨rfl, hw⟩
      obtain rfl := hw.symm
      have RR9 := Lib.hid (R2_2.out)
      obtain ⟨q9, z9⟩ := rw1 RR9.out
      have q8 : World.cell? (w2.setCell ⟨w.heap.size + 1 + 1, 0, none⟩ (.int .i64 11)) ⟨w.heap.size + 1 + 1, 0, none⟩ = some (.int .i64 11) := cell_row (heap_setRow RR9.out) 0
      have HFB := Lib.hid (show Below w.heap.size w (w2.setCell ⟨w.heap.size + 1 + 1, 0, none⟩ (.int .i64 11)) from Only.fin HB0.out (O2.out.put ⟨by omega, by omega⟩))
      refine leaves_cons (f := 13) (args := #[.pointer (some ⟨w.heap.size + 1 + 1, 0, none⟩)]) (by simp) (by simp [go_sem]) ?_
      refine (ended_panicking ⟨w.heap.size + 1 + 1, 0, none⟩ 0 11 [] _ q9 z9).mono ?_
      rintro e9 u9 w9 ⟨rfl, rfl, rfl⟩
      rw [HE.out]
      simp [Leaves, settle, results, Tryz.results8, go_sem]
      rw [q8]
      exact ⟨_, rfl, rfl, HFB.out⟩
end Go.Proofs.YthkepjhfeeohdaaGreatDoor
namespace Go.Proofs.YthkepjhfeeohdaaGreatDoor
open Go.RowKit

def conf34 : DConf := ⟨2, 4, 1, 1, []⟩
def none34 : DState := ⟨[], [], []⟩
def one34 : DState := ⟨[0], [], []⟩
theorem nil_sl34 {α : Type} {r : Rep α} {Q : Nat → Prop} {w : World} : r.Sl Q w none 0 ([] : List α) := ⟨Nat.le_refl _, by simp [maxLen], [], rfl, fun h => absurd h (by simp)⟩
theorem audit34_none : auditS conf34 none34 = 0 := by
  refine (audit_right _ _).2 ⟨by decide, LoadOk.of (by decide) (by simp [none34]) (by simp [none34]), ?_, by simp [none34]⟩
  simp [none34, alives]
theorem audit34_one : auditS conf34 one34 = 5 := by
  refine audit_5 (by decide) (LoadOk.of (by decide) ?_ (by simp [one34])) ?_
  · intro j g hg
    rcases j with _ | j
    · obtain rfl : 0 = g := by simpa [one34] using hg
      decide
    · simp [one34] at hg
  · decide
theorem seal34_zero : sealGet (zeros 512) = none := by
  have : (sealGet (zeros 512)).isNone = true := by decide +kernel
  simpa using this
theorem all34 (z : List UInt8) : ∃ s, allSt (newSt (List.replicate 4 z)) [0, 1] = (s, [z, z], 0) := ⟨_, rfl⟩

set_option maxRecDepth 100000 in
/-- law34.code -/
theorem code34 (k : Int) (w : World) : Calls Tryz.prog 7 #[.int .i64 k] w fun e w' => e = .returned (.int .i64 k) ∧ w' = w := by
  go_enter Tryz.func7, Tryz.ntmps7
  go_wp2_with fail
  go_ret
  exact ⟨rfl, rfl⟩

set_option maxRecDepth 100000 in
set_option maxHeartbeats 2000000 in
/-- law34.live -/
theorem live34_calls (w : World) : Calls Tryz.prog 6 #[] w fun e w' => e = .returned (.bool true) ∧ Below w.heap.size w w' := by
  obtain ⟨W1, hW1⟩ : ∃ W1, w.alloc (.cells #[.int .i64 2, .int .i64 4, .int .i64 1, .int .i64 1, .slice none 0 0] 24) = W1 := ⟨_, rfl⟩
  have hb1 : Below w.heap.size w W1 := by rw [← hW1]; exact (Below.refl _ _).alloc (Nat.le_refl _) _
  have hz1 : W1.heap.size = w.heap.size + 1 := by rw [← hW1]; simp
  have hr1 : W1.heap[w.heap.size]? = some (.cells #[.int .i64 2, .int .i64 4, .int .i64 1, .int .i64 1, .slice none 0 0] 24 (0, 0)) := by rw [← hW1]; exact heap_alloc_new _ _
  have KR := Lib.hid (show ∀ V, Below W1.heap.size W1 V → V.heap[w.heap.size]? = some (.cells #[.int .i64 2, .int .i64 4, .int .i64 1, .int .i64 1, .slice none 0 0] 24 (0, 0)) from fun V hb => (hb.block _ (by omega)).trans hr1)
  have HB1 := Lib.hid hb1
  have HC := Lib.hid (show ∀ W : World, rConf.val (fun b => b < W.heap.size) W (.agg #[.int .i64 2, .int .i64 4, .int .i64 1, .int .i64 1, .slice none 0 0]) conf34 from fun W => rConf_agg (x := conf34) (by decide) (by decide) (by decide) (by decide) nil_sl34)
  have HS := Lib.hid (show ∀ W : World, rState.val (fun b => b < W.heap.size) W (.agg #[.slice none 0 0, .slice none 0 0, .slice none 0 0]) none34 from fun W => rState_agg (x := none34) nil_sl34 nil_sl34 nil_sl34)
  obtain ⟨e0, e1, e2, e3, e4⟩ := cl5 hr1
  have HW1 := Lib.hid hW1
  clear hb1 hz1 hr1 hW1
  go_enter Tryz.func6, Tryz.ntmps6
  go_wp2_with fail
  try rw [HW1.out]
  try go_wp2_with fail
  refine (cstate_calls (HC.out _) (HS.out _) (by decide) (by intro e he; cases he)).mono ?_
  rintro e w2 ⟨rfl, hb2⟩
  rw [audit34_none]
  have HB2 := Lib.hid hb2
  clear hb2 e0 e1 e2 e3 e4
  go_wp2_with fail
  refine (code34 _ _).mono ?_
  rintro e w3 ⟨rfl, hw⟩
  obtain rfl := hw.symm
  clear hw
  have e0 := cell_row (KR.out _ HB2.out) 0
  have e1 := cell_row (KR.out _ HB2.out) 1
  have e2 := cell_row (KR.out _ HB2.out) 2
  have e3 := cell_row (KR.out _ HB2.out) 3
  have e4 := cell_row (KR.out _ HB2.out) 4
  obtain ⟨W4, hW4⟩ : ∃ W4, w2.alloc (.cells #[.int .i64 0] 3) = W4 := ⟨_, rfl⟩
  have hr4 : W4.heap[w2.heap.size]? = some (.cells #[.int .i64 0] 3 (0, 0)) := by rw [← hW4]; exact heap_alloc_new _ _
  have HB4 := Lib.hid (show Below W1.heap.size W1 W4 by rw [← hW4]; exact HB2.out.trans (((Below.refl _ _).alloc (Nat.le_refl _) _).mono HB2.out.size))
  have HS4 := Lib.hid (show rState.val (fun _ => True) W4 (.agg #[.slice (some ⟨w2.heap.size, 0, none⟩) 1 1, .slice none 0 0, .slice none 0 0]) one34 from rState_agg (x := one34) (sl_of (one_int hr4 (by decide))) nil_sl34 nil_sl34)
  clear hr4
  go_wp2_with fail
  try rw [hW4]
  clear hW4
  try go_wp2_with fail
  refine (cstate_calls (HC.out _) HS4.out (by decide) (by intro e he; cases he)).mono ?_
  rintro e w5 ⟨rfl, hb5⟩
  rw [audit34_one]
  have HB5 := Lib.hid (HB4.out.trans (hb5.mono HB4.out.size))
  clear hb5 e0 e1 e2 e3 e4
  go_wp2_with fail
  refine (code34 _ _).mono ?_
  rintro e w6 ⟨rfl, hw⟩
  obtain rfl := hw.symm
  clear hw
  go_wp2_with fail
  refine (dnew_calls (n := 4) (by decide) (by decide) _).mono ?_
  rintro e w7 ⟨P, M, Sf, cs, xs, rfl, hnew, hz⟩
  have HD := Lib.hid hnew.disk
  have hx : xs.map (·.1) = List.replicate 4 (zeros 512) := by
    rw [List.eq_replicate_iff]
    exact ⟨by rw [List.length_map]; exact hnew.len, fun b hb => by obtain ⟨x, hx, rfl⟩ := List.mem_map.1 hb; exact hz x hx⟩
  have HX := Lib.hid hx
  obtain ⟨s9, h9⟩ := all34 (zeros 512)
  have H9 := Lib.hid h9
  have HN := Lib.hid hnew
  clear hnew hz hx h9
  go_wp2_with fail
  refine (auditNone_calls (a := zeros 512) (b := zeros 512) (st' := s9) HD.out (by rw [HX.out]; decide) (fun x hx => ?_) (fun _ _ h => by cases h) (by rw [HX.out]; exact H9.out) seal34_zero seal34_zero).mono ?_
  · have hx2 : x ∈ List.replicate 4 (zeros 512) := by rw [← HX.out]; exact hx
    rw [(List.mem_replicate.1 hx2).2]
    decide
  · rintro e w8 ⟨rfl, ho⟩
    have HB8 := Lib.hid (show Below w.heap.size w w8 from by
      have h5 : Below w.heap.size w w5 := HB1.out.trans (HB5.out.mono HB1.out.size)
      have h7 : Below w.heap.size w w7 := h5.trans (HN.out.bel.mono h5.size)
      refine h7.trans (ho.below h7.size (fun b hb => ?_))
      have hpos := HN.out.pos
      have hs := h5.size
      rcases hb with rfl | rfl | hb
      · omega
      · omega
      · have := (Rep.acc_own HN.out.acc b hb).1; omega)
    clear ho
    go_wp2_with fail
    refine (code34 _ _).mono ?_
    rintro e w9 ⟨rfl, hw⟩
    obtain rfl := hw.symm
    clear hw
    go_wp2_with fail
    go_ret
    exact ⟨rfl, HB8.out⟩
end Go.Proofs.YthkepjhfeeohdaaGreatDoor
namespace Go.Proofs.YthkepjhfeeohdaaGreatDoor
open Go.RowKit

/-- What Load answers. -/
def LoadAns (w : World) (c : DConf) (s : DState) (v1 v2 : Value) (e : Ending) (w' : World) : Prop := (LoadOk c s ∧ e = .returned (.tuple #[.agg #[.int .i64 c.entities, .int .i64 c.gens, v1, v2], .int .i64 0]) ∨ ¬ LoadOk c s ∧ e = .returned (.tuple #[.agg #[.int .i64 0, .int .i64 0, .slice none 0 0, .slice none 0 0], .int .i64 11])) ∧ Below w.heap.size w w'


set_option maxRecDepth 100000 in
set_option maxHeartbeats 4000000 in
/-- ref06.Load -/
theorem loadAny_calls {Q : Nat → Prop} {w : World} {c : DConf} {s : DState} {A1 A2 : Option Addr} {c1 c2 : Nat} (hg : (Rep.int .i64).list.val Q w (.slice A1 s.gens.length c1) s.gens) (hf : (Rep.int .i64).list.val Q w (.slice A2 s.free.length c2) s.free) (hr : confRight c = true) :
    Calls Tryz.prog 21 #[.int .i64 c.entities, .int .i64 c.gens, .slice A1 s.gens.length c1, .slice A2 s.free.length c2] w (LoadAns w c s (.slice A1 s.gens.length c1) (.slice A2 s.free.length c2)) := by
  have HG := Lib.hid hg
  have HF := Lib.hid hf
  have HR := Lib.hid hr
  have hce := (right_facts hr).1
  have l1 := (sl_of hg).2.1
  have l2 := (sl_of hf).2.1
  have m1 := (sl_of hg).1
  have m2 := (sl_of hf).1
  unfold maxLen at l1 l2
  have hfr : Tryz.f21.results = #[.cell 8 61, .tmp 9] := rfl
  clear hg hf hr
  obtain ⟨W0, hW0⟩ : ∃ W, (w.alloc (.cells #[.int .i64 0, .int .i64 0, .slice none 0 0, .slice none 0 0] 61)) = W := ⟨_, rfl⟩
  have hz0 : W0.heap.size = w.heap.size + 1 := by rw [← hW0]; simp
  have hb0 : Below w.heap.size w W0 := by rw [← hW0]; exact (Below.refl _ _).alloc (Nat.le_refl _) _
  have HZ := Lib.hid hz0
  have HB0 := Lib.hid hb0
  have R0_0 := Lib.hid (show W0.heap[w.heap.size]? = some (.cells #[.int .i64 0, .int .i64 0, .slice none 0 0, .slice none 0 0] 61 (0, 0)) by rw [← hW0]; exact alloc_at rfl)
  have O0 := Lib.hid (Only.refl (Box w 1) W0)
  have HGA := Lib.hid (show ∀ V, Below W0.heap.size W0 V → (Rep.int .i64).At (Lo Q w) V A1 s.gens from fun V h => (sl_of (val_lo_later (val_lo HG.out hb0) h)).2.2)
  have HFA := Lib.hid (show ∀ V, Below W0.heap.size W0 V → (Rep.int .i64).list.val (Lo Q w) V (.slice A2 s.free.length c2) s.free from fun V h => val_lo_later (val_lo HF.out hb0) h)
  clear hz0 hb0
  obtain ⟨q0_0, z0_0, q0_1, z0_1, q0_2, z0_2, q0_3, z0_3⟩ := rw4 R0_0.out
  go_enter Tryz.func21, Tryz.ntmps21
  go_wp2_with fail
  try rw [hW0]
  clear hW0
  try go_wp2_with fail
  clear q0_0 z0_0 q0_1 z0_1 q0_2 z0_2 q0_3 z0_3
  refine (new06_calls (by omega) (by omega) _).mono ?_
  rintro e w1 ⟨rfl, hb⟩
  have HB1 := Lib.hid hb
  have S1 := Lib.hid (show Only (Box w 1) W0 w1 from Only.of_below hb)
  have O1 := Lib.hid (O0.out.trans S1.out)
  have R0_1 := Lib.hid (row_call hb R0_0.out)
  clear hb
  by_cases hmany : c.entities < (s.gens.length : Int)
  · skip
    have HN := Lib.hid (show ¬ LoadOk c s from fun h => by have := h.many; omega)
    have HXW := Lib.hid (show w.heap.size + 1 ≤ w1.heap.size by have := HB1.out.size; have := HZ.out; omega)
    have k1 : (w1.alloc (.cells #[.int .i64 c.entities, .int .i64 c.gens, .slice none 0 0, .slice none 0 0] 61)).heap[w.heap.size]? = some (.cells #[.int .i64 0, .int .i64 0, .slice none 0 0, .slice none 0 0] 61 (0, 0)) := alloc_old (R0_1.out)
    obtain ⟨k1_0, l1_0, k1_1, l1_1, k1_2, l1_2, k1_3, l1_3⟩ := rw4 k1
    clear k1
    have k2 : (w1.alloc (.cells #[.int .i64 c.entities, .int .i64 c.gens, .slice none 0 0, .slice none 0 0] 61)).heap[w1.heap.size]? = some (.cells #[.int .i64 c.entities, .int .i64 c.gens, .slice none 0 0, .slice none 0 0] 61 (0, 0)) := alloc_at rfl
    obtain ⟨k2_0, l2_0, k2_1, l2_1, k2_2, l2_2, k2_3, l2_3⟩ := rw4 k2
    clear k2
    go_wp2_with fail
    clear k1_0 l1_0 k1_1 l1_1 k1_2 l1_2 k1_3 l1_3 k2_0 l2_0 k2_1 l2_1 k2_2 l2_2 k2_3 l2_3
    refine nm_post (fun wz hnm => ?_)
    have HBZ := Lib.hid (show Below w.heap.size w wz by rw [hnm]; exact below_put (below_put (below_put (below_put ((Only.fin HB0.out O1.out).alloc (Below.size (Only.fin HB0.out O1.out)) _) (by omega)) (by omega)) (by omega)) (by omega))
    have R9 := Lib.hid (show wz.heap[w.heap.size]? = some (.cells #[.int .i64 0, .int .i64 0, .slice none 0 0, .slice none 0 0] 61 (0, 0)) by rw [hnm]; exact heap_setRow (heap_setRow (heap_setRow (heap_setRow (alloc_old R0_1.out)))))
    clear hnm
    obtain ⟨q0_0, q0_1, q0_2, q0_3⟩ := cl4 R9.out
    refine ⟨rfl, .tuple #[.agg #[.int .i64 0, .int .i64 0, .slice none 0 0, .slice none 0 0], .int .i64 11], by simp only [results, hfr]; go_simp, ?_⟩
    clear q0_0 q0_1 q0_2 q0_3
    exact ⟨.inr ⟨HN.out, rfl⟩, HBZ.out⟩
  have HMANY := Lib.hid (show (s.gens.length : Int) ≤ c.entities by omega)
  have HGL := Lib.hid (show s.gens.length ≤ 1024 by omega)
  have k1 : (w1.alloc (.cells #[.int .i64 c.entities, .int .i64 c.gens, .slice none 0 0, .slice none 0 0] 61)).heap[w.heap.size]? = some (.cells #[.int .i64 0, .int .i64 0, .slice none 0 0, .slice none 0 0] 61 (0, 0)) := alloc_old (R0_1.out)
  obtain ⟨k1_0, l1_0, k1_1, l1_1, k1_2, l1_2, k1_3, l1_3⟩ := rw4 k1
  clear k1
  have k2 : (w1.alloc (.cells #[.int .i64 c.entities, .int .i64 c.gens, .slice none 0 0, .slice none 0 0] 61)).heap[w1.heap.size]? = some (.cells #[.int .i64 c.entities, .int .i64 c.gens, .slice none 0 0, .slice none 0 0] 61 (0, 0)) := alloc_at rfl
  obtain ⟨k2_0, l2_0, k2_1, l2_1, k2_2, l2_2, k2_3, l2_3⟩ := rw4 k2
  clear k2
  go_wp2_with fail
  clear k1_0 l1_0 k1_1 l1_1 k1_2 l1_2 k1_3 l1_3 k2_0 l2_0 k2_1 l2_1 k2_2 l2_2 k2_3 l2_3
  refine nm_code (fun w2 hnm => ?_)
  have HF1 := Lib.hid (show w.heap.size + 1 ≤ w1.heap.size by have := O1.out.size; have := HZ.out; omega)
  have S2 := Lib.hid (show Only (Box w 1) w1 w2 from (by rw [hnm]; exact (Only.refl (Box w 1) w1).alloc _))
  have O2 := Lib.hid (O1.out.trans S2.out)
  have R0_2 := Lib.hid (row_nm hnm (alloc_old (R0_1.out)))
  have Rw1_heap_size_2 := Lib.hid (show w2.heap[w1.heap.size]? = some (.cells #[.int .i64 c.entities, .int .i64 c.gens, .slice none 0 0, .slice none 0 0] 61 (0, 0)) from (by rw [hnm]; exact alloc_at rfl))
  have HB2 := Lib.hid (show Below W0.heap.size W0 w2 by rw [hnm]; exact HB1.out.trans (((Below.refl _ _).alloc (Nat.le_refl _) _).mono HB1.out.size))
  clear hnm
  have HXW := Lib.hid (show w.heap.size + 1 ≤ w1.heap.size by have := HB1.out.size; have := HZ.out; omega)
  go_loopw [11] (fun i wr => ∃ j : Nat, i = .int .i64 j ∧ j ≤ s.gens.length ∧ Hid (Below w2.heap.size w2 wr) ∧ Hid (∀ (k : Nat) y, k < j → s.gens[k]? = some y → 0 ≤ y ∧ y ≤ c.gens)) (fun i _ => s.gens.length - (intOf i).toNat)
  case atStart => exact ⟨0, rfl, Nat.zero_le _, Lib.hid (Below.refl _ _), Lib.hid (fun k y h => by omega)⟩
  case round =>
    obtain ⟨j, rfl, hj, HBR, HLIM⟩ := hrel
    have HBW := Lib.hid (HB2.out.trans (HBR.out.mono HB2.out.size))
    have S3 := Lib.hid (show Only (Box w 1) w2 wr from Only.of_below HBR.out)
    have O3 := Lib.hid (O2.out.trans S3.out)
    have R0_3 := Lib.hid (row_call HBR.out R0_2.out)
    have Rw1_heap_size_3 := Lib.hid (row_call HBR.out Rw1_heap_size_2.out)
    by_cases hlt : (j : Int) < s.gens.length
    · skip
      obtain ⟨g, hgj⟩ : ∃ g, s.gens[j]? = some g := ⟨_, List.getElem?_eq_getElem (by omega)⟩
      obtain ⟨gb, go, rfl, _, kg, _⟩ := int_at (HGA.out wr HBW.out) hgj
      have HGJ := Lib.hid hgj
      clear hgj
      by_cases h1 : g < 0
      · skip
        have HN := Lib.hid (show ¬ LoadOk c s from fun h => by have := h.lim g (List.mem_of_getElem? HGJ.out); omega)
        obtain ⟨q0_0, q0_1, q0_2, q0_3⟩ := cl4 R0_3.out
        obtain ⟨qn0_0, qn0_1, qn0_2, qn0_3⟩ := cl4 Rw1_heap_size_3.out
        go_wp2_with fail
        clear q0_0 q0_1 q0_2 q0_3 qn0_0 qn0_1 qn0_2 qn0_3
        refine wp_region_held_drew (S := fun W => Below wr.heap.size wr W) (by kernel_rfl) ((Below.refl _ _).drew) (fun s0 => ?_)
        obtain ⟨v1, hv0⟩ : ∃ V, V = wr.drew := ⟨_, rfl⟩
        rw [← hv0] at s0 ⊢
        have t1 : Below wr.heap.size wr v1 := s0
        clear hv0 s0
        refine tkHV (i := 0) (v := .slice (some ⟨gb, go, none⟩) s.gens.length c1) rfl t1 ?_
        go_simp
        refine tkHV (i := 1) (v := .int .i64 j) rfl t1 ?_
        go_simp
        refine tkHV (i := 2) (v := .pointer (some ⟨gb, go + j, none⟩)) rfl t1 ?_
        go_simp
        refine tkH (i := 3) (v := .int .i64 g) rfl (Or.inl ⟨by rfl, fun w' h => by have e := cell_call (h : Below wr.heap.size wr w') kg; go_simp⟩) t1 ?_
        go_simp
        refine tkHV (i := 4) (v := .bool true) rfl t1 ?_
        go_simp
        refine tkHV (i := 5) (v := .bool true) rfl t1 ?_
        go_simp
        refine tkH (i := 6) (v := undef) rfl (Or.inr ⟨by rfl, rfl⟩) t1 ?_
        go_simp
        refine tkH (i := 7) (v := undef) rfl (Or.inr ⟨by rfl, rfl⟩) t1 ?_
        go_simp
        refine tkH (i := 8) (v := undef) rfl (Or.inr ⟨by rfl, rfl⟩) t1 ?_
        go_simp
        refine tkH (i := 9) (v := undef) rfl (Or.inr ⟨by rfl, rfl⟩) t1 ?_
        go_simp
        refine tkH (i := 10) (v := undef) rfl (Or.inr ⟨by rfl, rfl⟩) t1 ?_
        go_simp
        refine tkH (i := 11) (v := undef) rfl (Or.inr ⟨by rfl, rfl⟩) t1 ?_
        go_simp
        refine tkH (i := 12) (v := undef) rfl (Or.inr ⟨by rfl, rfl⟩) t1 ?_
        go_simp
        refine tkHV (i := 13) (v := .bool true) rfl t1 ?_
        go_simp
        refine wpAnyH_done (by kernel_rfl) ?_ _
        have S4 := Lib.hid (show Only (Box w 1) wr v1 from Only.of_below t1)
        have O4 := Lib.hid (O3.out.trans S4.out)
        have R0_4 := Lib.hid (row_call t1 R0_3.out)
        have Rw1_heap_size_4 := Lib.hid (row_call t1 Rw1_heap_size_3.out)
        obtain ⟨q0_0, z0_0, q0_1, z0_1, q0_2, z0_2, q0_3, z0_3⟩ := rw4 R0_4.out
        obtain ⟨qn0_0, zn0_0, qn0_1, zn0_1, qn0_2, zn0_2, qn0_3, zn0_3⟩ := rw4 Rw1_heap_size_4.out
        go_wp2_with fail
        clear q0_0 z0_0 q0_1 z0_1 q0_2 z0_2 q0_3 z0_3 qn0_0 zn0_0 qn0_1 zn0_1 qn0_2 zn0_2 qn0_3 zn0_3
        refine nm_post (fun wz hnm => ?_)
        have HBZ := Lib.hid (show Below w.heap.size w wz by rw [hnm]; exact below_put (below_put (below_put (below_put (Only.fin HB0.out O4.out) (by omega)) (by omega)) (by omega)) (by omega))
        have R9 := Lib.hid (show wz.heap[w.heap.size]? = some (.cells #[.int .i64 0, .int .i64 0, .slice none 0 0, .slice none 0 0] 61 (0, 0)) by rw [hnm]; exact heap_setRow (heap_setRow (heap_setRow (heap_setRow (R0_4.out)))))
        clear hnm
        obtain ⟨q0_0, q0_1, q0_2, q0_3⟩ := cl4 R9.out
        refine ⟨rfl, .tuple #[.agg #[.int .i64 0, .int .i64 0, .slice none 0 0, .slice none 0 0], .int .i64 11], by simp only [results, hfr]; go_simp, ?_⟩
        clear q0_0 q0_1 q0_2 q0_3
        exact ⟨.inr ⟨HN.out, rfl⟩, HBZ.out⟩
      · by_cases h2 : c.gens < g
        · skip
          have HN := Lib.hid (show ¬ LoadOk c s from fun h => by have := h.lim g (List.mem_of_getElem? HGJ.out); omega)
          obtain ⟨q0_0, q0_1, q0_2, q0_3⟩ := cl4 R0_3.out
          obtain ⟨qn0_0, qn0_1, qn0_2, qn0_3⟩ := cl4 Rw1_heap_size_3.out
          go_wp2_with fail
          clear q0_0 q0_1 q0_2 q0_3 qn0_0 qn0_1 qn0_2 qn0_3
          refine wp_region_held_drew (S := fun W => Below wr.heap.size wr W) (by kernel_rfl) ((Below.refl _ _).drew) (fun s0 => ?_)
          obtain ⟨v1, hv0⟩ : ∃ V, V = wr.drew := ⟨_, rfl⟩
          rw [← hv0] at s0 ⊢
          have t1 : Below wr.heap.size wr v1 := s0
          clear hv0 s0
          refine tkHV (i := 0) (v := .slice (some ⟨gb, go, none⟩) s.gens.length c1) rfl t1 ?_
          go_simp
          refine tkHV (i := 1) (v := .int .i64 j) rfl t1 ?_
          go_simp
          refine tkHV (i := 2) (v := .pointer (some ⟨gb, go + j, none⟩)) rfl t1 ?_
          go_simp
          refine tkH (i := 3) (v := .int .i64 g) rfl (Or.inl ⟨by rfl, fun w' h => by have e := cell_call (h : Below wr.heap.size wr w') kg; go_simp⟩) t1 ?_
          go_simp
          refine tkHV (i := 4) (v := .bool false) rfl t1 ?_
          go_simp
          refine tkHV (i := 5) (v := .bool false) rfl t1 ?_
          go_simp
          refine tkHV (i := 6) (v := .slice (some ⟨gb, go, none⟩) s.gens.length c1) rfl t1 ?_
          go_simp
          refine tkHV (i := 7) (v := .int .i64 j) rfl t1 ?_
          go_simp
          refine tkHV (i := 8) (v := .pointer (some ⟨gb, go + j, none⟩)) rfl t1 ?_
          go_simp
          refine tkH (i := 9) (v := .int .i64 g) rfl (Or.inl ⟨by rfl, fun w' h => by have e := cell_call (h : Below wr.heap.size wr w') kg; go_simp⟩) t1 ?_
          go_simp
          refine tkHV (i := 10) (v := .pointer (some ⟨w1.heap.size, 1, none⟩)) rfl t1 ?_
          go_simp
          refine tkH (i := 11) (v := .int .i64 c.gens) rfl (Or.inl ⟨by rfl, fun w' h => by have e := row_call (h : Below wr.heap.size wr w') Rw1_heap_size_3.out; have e0 := cell_row e 0; have e1 := cell_row e 1; have e2 := cell_row e 2; have e3 := cell_row e 3; go_simp⟩) t1 ?_
          go_simp
          refine tkHV (i := 12) (v := .bool true) rfl t1 ?_
          go_simp
          refine tkHV (i := 13) (v := .bool true) rfl t1 ?_
          go_simp
          refine wpAnyH_done (by kernel_rfl) ?_ _
          have S4 := Lib.hid (show Only (Box w 1) wr v1 from Only.of_below t1)
          have O4 := Lib.hid (O3.out.trans S4.out)
          have R0_4 := Lib.hid (row_call t1 R0_3.out)
          have Rw1_heap_size_4 := Lib.hid (row_call t1 Rw1_heap_size_3.out)
          obtain ⟨q0_0, z0_0, q0_1, z0_1, q0_2, z0_2, q0_3, z0_3⟩ := rw4 R0_4.out
          obtain ⟨qn0_0, zn0_0, qn0_1, zn0_1, qn0_2, zn0_2, qn0_3, zn0_3⟩ := rw4 Rw1_heap_size_4.out
          go_wp2_with fail
          clear q0_0 z0_0 q0_1 z0_1 q0_2 z0_2 q0_3 z0_3 qn0_0 zn0_0 qn0_1 zn0_1 qn0_2 zn0_2 qn0_3 zn0_3
          refine nm_post (fun wz hnm => ?_)
          have HBZ := Lib.hid (show Below w.heap.size w wz by rw [hnm]; exact below_put (below_put (below_put (below_put (Only.fin HB0.out O4.out) (by omega)) (by omega)) (by omega)) (by omega))
          have R9 := Lib.hid (show wz.heap[w.heap.size]? = some (.cells #[.int .i64 0, .int .i64 0, .slice none 0 0, .slice none 0 0] 61 (0, 0)) by rw [hnm]; exact heap_setRow (heap_setRow (heap_setRow (heap_setRow (R0_4.out)))))
          clear hnm
          obtain ⟨q0_0, q0_1, q0_2, q0_3⟩ := cl4 R9.out
          refine ⟨rfl, .tuple #[.agg #[.int .i64 0, .int .i64 0, .slice none 0 0, .slice none 0 0], .int .i64 11], by simp only [results, hfr]; go_simp, ?_⟩
          clear q0_0 q0_1 q0_2 q0_3
          exact ⟨.inr ⟨HN.out, rfl⟩, HBZ.out⟩
        · skip
          have HLM2 := Lib.hid (show ∀ (k : Nat) y, k < j + 1 → s.gens[k]? = some y → 0 ≤ y ∧ y ≤ c.gens from fun k y hk hy => by
            by_cases e : k = j
            · subst e; rw [HGJ.out] at hy; cases hy; omega
            · exact HLIM.out k y (by omega) hy)
          obtain ⟨q0_0, q0_1, q0_2, q0_3⟩ := cl4 R0_3.out
          obtain ⟨qn0_0, qn0_1, qn0_2, qn0_3⟩ := cl4 Rw1_heap_size_3.out
          go_wp2_with fail
          clear q0_0 q0_1 q0_2 q0_3 qn0_0 qn0_1 qn0_2 qn0_3
          refine wp_region_held_drew (S := fun W => Below wr.heap.size wr W) (by kernel_rfl) ((Below.refl _ _).drew) (fun s0 => ?_)
          obtain ⟨v1, hv0⟩ : ∃ V, V = wr.drew := ⟨_, rfl⟩
          rw [← hv0] at s0 ⊢
          have t1 : Below wr.heap.size wr v1 := s0
          clear hv0 s0
          refine tkHV (i := 0) (v := .slice (some ⟨gb, go, none⟩) s.gens.length c1) rfl t1 ?_
          go_simp
          refine tkHV (i := 1) (v := .int .i64 j) rfl t1 ?_
          go_simp
          refine tkHV (i := 2) (v := .pointer (some ⟨gb, go + j, none⟩)) rfl t1 ?_
          go_simp
          refine tkH (i := 3) (v := .int .i64 g) rfl (Or.inl ⟨by rfl, fun w' h => by have e := cell_call (h : Below wr.heap.size wr w') kg; go_simp⟩) t1 ?_
          go_simp
          refine tkHV (i := 4) (v := .bool false) rfl t1 ?_
          go_simp
          refine tkHV (i := 5) (v := .bool false) rfl t1 ?_
          go_simp
          refine tkHV (i := 6) (v := .slice (some ⟨gb, go, none⟩) s.gens.length c1) rfl t1 ?_
          go_simp
          refine tkHV (i := 7) (v := .int .i64 j) rfl t1 ?_
          go_simp
          refine tkHV (i := 8) (v := .pointer (some ⟨gb, go + j, none⟩)) rfl t1 ?_
          go_simp
          refine tkH (i := 9) (v := .int .i64 g) rfl (Or.inl ⟨by rfl, fun w' h => by have e := cell_call (h : Below wr.heap.size wr w') kg; go_simp⟩) t1 ?_
          go_simp
          refine tkHV (i := 10) (v := .pointer (some ⟨w1.heap.size, 1, none⟩)) rfl t1 ?_
          go_simp
          refine tkH (i := 11) (v := .int .i64 c.gens) rfl (Or.inl ⟨by rfl, fun w' h => by have e := row_call (h : Below wr.heap.size wr w') Rw1_heap_size_3.out; have e0 := cell_row e 0; have e1 := cell_row e 1; have e2 := cell_row e 2; have e3 := cell_row e 3; go_simp⟩) t1 ?_
          go_simp
          refine tkHV (i := 12) (v := .bool false) rfl t1 ?_
          go_simp
          refine tkHV (i := 13) (v := .bool false) rfl t1 ?_
          go_simp
          refine wpAnyH_done (by kernel_rfl) ?_ _
          have S4 := Lib.hid (show Only (Box w 1) wr v1 from Only.of_below t1)
          have O4 := Lib.hid (O3.out.trans S4.out)
          have R0_4 := Lib.hid (row_call t1 R0_3.out)
          have Rw1_heap_size_4 := Lib.hid (row_call t1 Rw1_heap_size_3.out)
          have hv := (show Below wr.heap.size wr v1 from t1)
          have HBV := Lib.hid (HBR.out.trans (hv.mono HBR.out.size))
          clear hv kg h1 h2
          obtain ⟨q0_0, q0_1, q0_2, q0_3⟩ := cl4 R0_4.out
          obtain ⟨qn0_0, qn0_1, qn0_2, qn0_3⟩ := cl4 Rw1_heap_size_4.out
          go_wp2_with fail
          exact ⟨⟨j + 1, by go_num, by omega, HBV, HLM2⟩, by simp [intOf]; omega⟩
    · obtain rfl : j = s.gens.length := by omega
      clear hlt
      rename World => w5
      obtain ⟨q0_0, q0_1, q0_2, q0_3⟩ := cl4 R0_3.out
      obtain ⟨qn0_0, qn0_1, qn0_2, qn0_3⟩ := cl4 Rw1_heap_size_3.out
      go_wp2_with fail
      clear q0_0 q0_1 q0_2 q0_3 qn0_0 qn0_1 qn0_2 qn0_3
      go_loopw [12, 13] (fun i _ wr => ∃ j : Nat, i = .int .i64 j ∧ j ≤ s.free.length ∧ Hid (Below w5.heap.size w5 wr) ∧ Hid (∀ (i : Nat) k, i < j → s.free[i]? = some k → 0 ≤ k ∧ k < s.gens.length ∧ k ∉ s.free.take i ∧ s.gens.getD k.toNat 0 ≠ 0 ∧ s.gens.getD k.toNat 0 < c.gens)) (fun i _ _ => s.free.length - (intOf i).toNat)
      case atStart => exact ⟨0, rfl, Nat.zero_le _, Lib.hid (Below.refl _ _), Lib.hid (fun k y h => by omega)⟩
      case round =>
        obtain ⟨j, rfl, hj, HBR2, HFR⟩ := hrel
        have HBW2 := Lib.hid (HBW.out.trans (HBR2.out.mono HBW.out.size))
        have S4 := Lib.hid (show Only (Box w 1) w5 wr from Only.of_below HBR2.out)
        have O4 := Lib.hid (O3.out.trans S4.out)
        have R0_4 := Lib.hid (row_call HBR2.out R0_3.out)
        have Rw1_heap_size_4 := Lib.hid (row_call HBR2.out Rw1_heap_size_3.out)
        by_cases hlt : (j : Int) < s.free.length
        · skip
          obtain ⟨k, hkj⟩ : ∃ k, s.free[j]? = some k := ⟨_, List.getElem?_eq_getElem (by omega)⟩
          obtain ⟨fb, fo, rfl, _, kf, _⟩ := int_at (sl_of (HFA.out wr HBW2.out)).2.2 hkj
          have HTK := Lib.hid (show ∀ V, Below W0.heap.size W0 V → (Rep.int .i64).list.val (Lo Q w) V (.slice (some ⟨fb, fo, none⟩) j c2) (s.free.take j) from fun V h => Rep.list_val (by rw [List.length_take]; omega) (by omega) (by unfold maxLen; omega) ((sl_of (HFA.out V h)).2.2.take j))
          have HKJ := Lib.hid hkj
          have hjc : (j : Int) ≤ (c2 : Int) := by omega
          clear hkj
          by_cases h1 : k < 0
          · skip
            have HN := Lib.hid (show ¬ LoadOk c s from fun h => by have := (h.free j k HKJ.out).1; omega)
            obtain ⟨q0_0, q0_1, q0_2, q0_3⟩ := cl4 R0_4.out
            obtain ⟨qn0_0, qn0_1, qn0_2, qn0_3⟩ := cl4 Rw1_heap_size_4.out
            go_wp2_with fail
            clear kf
            clear q0_0 q0_1 q0_2 q0_3 qn0_0 qn0_1 qn0_2 qn0_3
            refine wp_region_held_drew (S := fun W => Below wr.heap.size wr W) (by kernel_rfl) ((Below.refl _ _).drew) (fun s0 => ?_)
            obtain ⟨v1, hv0⟩ : ∃ V, V = wr.drew := ⟨_, rfl⟩
            rw [← hv0] at s0 ⊢
            have t1 : Below wr.heap.size wr v1 := s0
            clear hv0 s0
            refine tkHV (i := 0) (v := .int .i64 k) rfl t1 ?_
            go_simp
            refine tkHV (i := 1) (v := .bool true) rfl t1 ?_
            go_simp
            refine tkHV (i := 2) (v := .bool true) rfl t1 ?_
            go_simp
            refine tkH (i := 3) (v := undef) rfl (Or.inr ⟨by rfl, rfl⟩) t1 ?_
            go_simp
            refine tkH (i := 4) (v := undef) rfl (Or.inr ⟨by rfl, rfl⟩) t1 ?_
            go_simp
            refine tkH (i := 5) (v := undef) rfl (Or.inr ⟨by rfl, rfl⟩) t1 ?_
            go_simp
            refine tkH (i := 6) (v := undef) rfl (Or.inr ⟨by rfl, rfl⟩) t1 ?_
            go_simp
            refine tkHV (i := 7) (v := .bool true) rfl t1 ?_
            go_simp
            refine tkHV (i := 8) (v := .bool true) rfl t1 ?_
            go_simp
            refine tkH (i := 9) (v := undef) rfl (Or.inr ⟨by rfl, rfl⟩) t1 ?_
            go_simp
            refine tkH (i := 10) (v := undef) rfl (Or.inr ⟨by rfl, rfl⟩) t1 ?_
            go_simp
            refine tkH (i := 11) (v := undef) rfl (Or.inr ⟨by rfl, rfl⟩) t1 ?_
            go_simp
            refine tkH (i := 12) (v := undef) rfl (Or.inr ⟨by rfl, rfl⟩) t1 ?_
            go_simp
            refine tkH (i := 13) (v := undef) rfl (Or.inr ⟨by rfl, rfl⟩) t1 ?_
            go_simp
            refine tkHV (i := 14) (v := .bool true) rfl t1 ?_
            go_simp
            refine tkHV (i := 15) (v := .bool true) rfl t1 ?_
            go_simp
            refine tkH (i := 16) (v := undef) rfl (Or.inr ⟨by rfl, rfl⟩) t1 ?_
            go_simp
            refine tkH (i := 17) (v := undef) rfl (Or.inr ⟨by rfl, rfl⟩) t1 ?_
            go_simp
            refine tkH (i := 18) (v := undef) rfl (Or.inr ⟨by rfl, rfl⟩) t1 ?_
            go_simp
            refine tkH (i := 19) (v := undef) rfl (Or.inr ⟨by rfl, rfl⟩) t1 ?_
            go_simp
            refine tkH (i := 20) (v := undef) rfl (Or.inr ⟨by rfl, rfl⟩) t1 ?_
            go_simp
            refine tkHV (i := 21) (v := .bool true) rfl t1 ?_
            go_simp
            refine tkHV (i := 22) (v := .bool true) rfl t1 ?_
            go_simp
            refine tkH (i := 23) (v := undef) rfl (Or.inr ⟨by rfl, rfl⟩) t1 ?_
            go_simp
            refine tkH (i := 24) (v := undef) rfl (Or.inr ⟨by rfl, rfl⟩) t1 ?_
            go_simp
            refine tkH (i := 25) (v := undef) rfl (Or.inr ⟨by rfl, rfl⟩) t1 ?_
            go_simp
            refine tkH (i := 26) (v := undef) rfl (Or.inr ⟨by rfl, rfl⟩) t1 ?_
            go_simp
            refine tkH (i := 27) (v := undef) rfl (Or.inr ⟨by rfl, rfl⟩) t1 ?_
            go_simp
            refine tkH (i := 28) (v := undef) rfl (Or.inr ⟨by rfl, rfl⟩) t1 ?_
            go_simp
            refine tkH (i := 29) (v := undef) rfl (Or.inr ⟨by rfl, rfl⟩) t1 ?_
            go_simp
            refine tkHV (i := 30) (v := .bool true) rfl t1 ?_
            go_simp
            refine wpAnyH_done (by kernel_rfl) ?_ _
            have S5 := Lib.hid (show Only (Box w 1) wr v1 from Only.of_below t1)
            have O5 := Lib.hid (O4.out.trans S5.out)
            have R0_5 := Lib.hid (row_call t1 R0_4.out)
            have Rw1_heap_size_5 := Lib.hid (row_call t1 Rw1_heap_size_4.out)
            obtain ⟨q0_0, z0_0, q0_1, z0_1, q0_2, z0_2, q0_3, z0_3⟩ := rw4 R0_5.out
            obtain ⟨qn0_0, zn0_0, qn0_1, zn0_1, qn0_2, zn0_2, qn0_3, zn0_3⟩ := rw4 Rw1_heap_size_5.out
            go_wp2_with fail
            clear q0_0 z0_0 q0_1 z0_1 q0_2 z0_2 q0_3 z0_3 qn0_0 zn0_0 qn0_1 zn0_1 qn0_2 zn0_2 qn0_3 zn0_3
            refine nm_post (fun wz hnm => ?_)
            have HBZ := Lib.hid (show Below w.heap.size w wz by rw [hnm]; exact below_put (below_put (below_put (below_put (Only.fin HB0.out O5.out) (by omega)) (by omega)) (by omega)) (by omega))
            have R9 := Lib.hid (show wz.heap[w.heap.size]? = some (.cells #[.int .i64 0, .int .i64 0, .slice none 0 0, .slice none 0 0] 61 (0, 0)) by rw [hnm]; exact heap_setRow (heap_setRow (heap_setRow (heap_setRow (R0_5.out)))))
            clear hnm
            obtain ⟨q0_0, q0_1, q0_2, q0_3⟩ := cl4 R9.out
            refine ⟨rfl, .tuple #[.agg #[.int .i64 0, .int .i64 0, .slice none 0 0, .slice none 0 0], .int .i64 11], by simp only [results, hfr]; go_simp, ?_⟩
            clear q0_0 q0_1 q0_2 q0_3
            exact ⟨.inr ⟨HN.out, rfl⟩, HBZ.out⟩
          · by_cases h2 : (s.gens.length : Int) ≤ k
            · skip
              have HN := Lib.hid (show ¬ LoadOk c s from fun h => by have := (h.free j k HKJ.out).2.1; omega)
              obtain ⟨q0_0, q0_1, q0_2, q0_3⟩ := cl4 R0_4.out
              obtain ⟨qn0_0, qn0_1, qn0_2, qn0_3⟩ := cl4 Rw1_heap_size_4.out
              go_wp2_with fail
              clear kf
              clear q0_0 q0_1 q0_2 q0_3 qn0_0 qn0_1 qn0_2 qn0_3
              refine wp_region_held_drew (S := fun W => Below wr.heap.size wr W) (by kernel_rfl) ((Below.refl _ _).drew) (fun s0 => ?_)
              obtain ⟨v1, hv0⟩ : ∃ V, V = wr.drew := ⟨_, rfl⟩
              rw [← hv0] at s0 ⊢
              have t1 : Below wr.heap.size wr v1 := s0
              clear hv0 s0
              refine tkHV (i := 0) (v := .int .i64 k) rfl t1 ?_
              go_simp
              refine tkHV (i := 1) (v := .bool false) rfl t1 ?_
              go_simp
              refine tkHV (i := 2) (v := .bool false) rfl t1 ?_
              go_simp
              refine tkHV (i := 3) (v := .int .i64 k) rfl t1 ?_
              go_simp
              refine tkHV (i := 4) (v := .slice A1 s.gens.length c1) rfl t1 ?_
              go_simp
              refine tkHV (i := 5) (v := .int .i64 s.gens.length) rfl t1 ?_
              go_simp
              refine tkHV (i := 6) (v := .bool true) rfl t1 ?_
              go_simp
              refine tkHV (i := 7) (v := .bool true) rfl t1 ?_
              go_simp
              refine tkHV (i := 8) (v := .bool true) rfl t1 ?_
              go_simp
              refine tkH (i := 9) (v := undef) rfl (Or.inr ⟨by rfl, rfl⟩) t1 ?_
              go_simp
              refine tkH (i := 10) (v := undef) rfl (Or.inr ⟨by rfl, rfl⟩) t1 ?_
              go_simp
              refine tkH (i := 11) (v := undef) rfl (Or.inr ⟨by rfl, rfl⟩) t1 ?_
              go_simp
              refine tkH (i := 12) (v := undef) rfl (Or.inr ⟨by rfl, rfl⟩) t1 ?_
              go_simp
              refine tkH (i := 13) (v := undef) rfl (Or.inr ⟨by rfl, rfl⟩) t1 ?_
              go_simp
              refine tkHV (i := 14) (v := .bool true) rfl t1 ?_
              go_simp
              refine tkHV (i := 15) (v := .bool true) rfl t1 ?_
              go_simp
              refine tkH (i := 16) (v := undef) rfl (Or.inr ⟨by rfl, rfl⟩) t1 ?_
              go_simp
              refine tkH (i := 17) (v := undef) rfl (Or.inr ⟨by rfl, rfl⟩) t1 ?_
              go_simp
              refine tkH (i := 18) (v := undef) rfl (Or.inr ⟨by rfl, rfl⟩) t1 ?_
              go_simp
              refine tkH (i := 19) (v := undef) rfl (Or.inr ⟨by rfl, rfl⟩) t1 ?_
              go_simp
              refine tkH (i := 20) (v := undef) rfl (Or.inr ⟨by rfl, rfl⟩) t1 ?_
              go_simp
              refine tkHV (i := 21) (v := .bool true) rfl t1 ?_
              go_simp
              refine tkHV (i := 22) (v := .bool true) rfl t1 ?_
              go_simp
              refine tkH (i := 23) (v := undef) rfl (Or.inr ⟨by rfl, rfl⟩) t1 ?_
              go_simp
              refine tkH (i := 24) (v := undef) rfl (Or.inr ⟨by rfl, rfl⟩) t1 ?_
              go_simp
              refine tkH (i := 25) (v := undef) rfl (Or.inr ⟨by rfl, rfl⟩) t1 ?_
              go_simp
              refine tkH (i := 26) (v := undef) rfl (Or.inr ⟨by rfl, rfl⟩) t1 ?_
              go_simp
              refine tkH (i := 27) (v := undef) rfl (Or.inr ⟨by rfl, rfl⟩) t1 ?_
              go_simp
              refine tkH (i := 28) (v := undef) rfl (Or.inr ⟨by rfl, rfl⟩) t1 ?_
              go_simp
              refine tkH (i := 29) (v := undef) rfl (Or.inr ⟨by rfl, rfl⟩) t1 ?_
              go_simp
              refine tkHV (i := 30) (v := .bool true) rfl t1 ?_
              go_simp
              refine wpAnyH_done (by kernel_rfl) ?_ _
              have S5 := Lib.hid (show Only (Box w 1) wr v1 from Only.of_below t1)
              have O5 := Lib.hid (O4.out.trans S5.out)
              have R0_5 := Lib.hid (row_call t1 R0_4.out)
              have Rw1_heap_size_5 := Lib.hid (row_call t1 Rw1_heap_size_4.out)
              obtain ⟨q0_0, z0_0, q0_1, z0_1, q0_2, z0_2, q0_3, z0_3⟩ := rw4 R0_5.out
              obtain ⟨qn0_0, zn0_0, qn0_1, zn0_1, qn0_2, zn0_2, qn0_3, zn0_3⟩ := rw4 Rw1_heap_size_5.out
              go_wp2_with fail
              clear q0_0 z0_0 q0_1 z0_1 q0_2 z0_2 q0_3 z0_3 qn0_0 zn0_0 qn0_1 zn0_1 qn0_2 zn0_2 qn0_3 zn0_3
              refine nm_post (fun wz hnm => ?_)
              have HBZ := Lib.hid (show Below w.heap.size w wz by rw [hnm]; exact below_put (below_put (below_put (below_put (Only.fin HB0.out O5.out) (by omega)) (by omega)) (by omega)) (by omega))
              have R9 := Lib.hid (show wz.heap[w.heap.size]? = some (.cells #[.int .i64 0, .int .i64 0, .slice none 0 0, .slice none 0 0] 61 (0, 0)) by rw [hnm]; exact heap_setRow (heap_setRow (heap_setRow (heap_setRow (R0_5.out)))))
              clear hnm
              obtain ⟨q0_0, q0_1, q0_2, q0_3⟩ := cl4 R9.out
              refine ⟨rfl, .tuple #[.agg #[.int .i64 0, .int .i64 0, .slice none 0 0, .slice none 0 0], .int .i64 11], by simp only [results, hfr]; go_simp, ?_⟩
              clear q0_0 q0_1 q0_2 q0_3
              exact ⟨.inr ⟨HN.out, rfl⟩, HBZ.out⟩
            · skip
              obtain ⟨kn, rfl⟩ : ∃ kn : Nat, k = (kn : Int) := ⟨k.toNat, by omega⟩
              have hkl : (kn : Int) < s.gens.length := by omega
              obtain ⟨g, hgk⟩ : ∃ g, s.gens[kn]? = some g := ⟨_, List.getElem?_eq_getElem (by omega)⟩
              have HGD := Lib.hid (show s.gens.getD (kn : Int).toNat 0 = g by rw [Int.toNat_natCast, List.getD_eq_getElem?_getD, hgk]; rfl)
              obtain ⟨gb, go, rfl, _, kg, _⟩ := int_at (HGA.out wr HBW2.out) hgk
              clear hgk
              by_cases h3 : (kn : Int) ∈ s.free.take j
              · skip
                have HNO := Lib.hid (show decide ((kn : Int) ∈ s.free.take j) = true from decide_eq_true h3)
                have HN := Lib.hid (show ¬ LoadOk c s from fun h => (h.free j _ HKJ.out).2.2.1 h3)
                clear h3
                obtain ⟨q0_0, q0_1, q0_2, q0_3⟩ := cl4 R0_4.out
                obtain ⟨qn0_0, qn0_1, qn0_2, qn0_3⟩ := cl4 Rw1_heap_size_4.out
                go_wp2_with fail
                clear kf
                clear q0_0 q0_1 q0_2 q0_3 qn0_0 qn0_1 qn0_2 qn0_3
                refine wp_region_held_drew (S := fun W => Below wr.heap.size wr W) (by kernel_rfl) ((Below.refl _ _).drew) (fun s0 => ?_)
                obtain ⟨v1, hv0⟩ : ∃ V, V = wr.drew := ⟨_, rfl⟩
                rw [← hv0] at s0 ⊢
                have t1 : Below wr.heap.size wr v1 := s0
                clear hv0 s0
                refine tkHV (i := 0) (v := .int .i64 kn) rfl t1 ?_
                go_simp
                refine tkHV (i := 1) (v := .bool false) rfl t1 ?_
                go_simp
                refine tkHV (i := 2) (v := .bool false) rfl t1 ?_
                go_simp
                refine tkHV (i := 3) (v := .int .i64 kn) rfl t1 ?_
                go_simp
                refine tkHV (i := 4) (v := .slice (some ⟨gb, go, none⟩) s.gens.length c1) rfl t1 ?_
                go_simp
                refine tkHV (i := 5) (v := .int .i64 s.gens.length) rfl t1 ?_
                go_simp
                refine tkHV (i := 6) (v := .bool false) rfl t1 ?_
                go_simp
                refine tkHV (i := 7) (v := .bool false) rfl t1 ?_
                go_simp
                refine tkHV (i := 8) (v := .bool false) rfl t1 ?_
                go_simp
                refine tkHV (i := 9) (v := .slice (some ⟨fb, fo, none⟩) s.free.length c2) rfl t1 ?_
                go_simp
                refine tkHV (i := 10) (v := .int .i64 j) rfl t1 ?_
                go_simp
                refine tkHV (i := 11) (v := .slice (some ⟨fb, fo, none⟩) j c2) rfl t1 ?_
                go_simp
                refine tkHV (i := 12) (v := .int .i64 kn) rfl t1 ?_
                go_simp
                refine wpAnyH_all (rs := [13]) (by kernel_rfl) (by simp) ?_
                intro i hi
                obtain rfl : i = 13 := by simpa using hi
                clear hi
                refine wpOp_step rfl (fun K hK => ?_)
                go_simp
                refine (has06_calls (n := (kn : Int)) (HTK.out _ (HBW2.out.trans (Below.mono t1 HBW2.out.size)))).mono ?_
                rintro e v2 ⟨rfl, hw⟩
                have hb : Below v1.heap.size v1 v2 := by rw [hw]; exact Below.refl _ _
                clear hw
                rw [HNO.out]
                have t2 : Below wr.heap.size wr v2 := Below.trans t1 (hb.mono (Below.size t1))
                refine hK _ _ ⟨t2, ?_⟩
                clear hb
                clear hK K
                refine tkHV (i := 14) (v := .bool true) rfl t2 ?_
                go_simp
                refine tkHV (i := 15) (v := .bool true) rfl t2 ?_
                go_simp
                refine tkH (i := 16) (v := undef) rfl (Or.inr ⟨by rfl, rfl⟩) t2 ?_
                go_simp
                refine tkH (i := 17) (v := undef) rfl (Or.inr ⟨by rfl, rfl⟩) t2 ?_
                go_simp
                refine tkH (i := 18) (v := undef) rfl (Or.inr ⟨by rfl, rfl⟩) t2 ?_
                go_simp
                refine tkH (i := 19) (v := undef) rfl (Or.inr ⟨by rfl, rfl⟩) t2 ?_
                go_simp
                refine tkH (i := 20) (v := undef) rfl (Or.inr ⟨by rfl, rfl⟩) t2 ?_
                go_simp
                refine tkHV (i := 21) (v := .bool true) rfl t2 ?_
                go_simp
                refine tkHV (i := 22) (v := .bool true) rfl t2 ?_
                go_simp
                refine tkH (i := 23) (v := undef) rfl (Or.inr ⟨by rfl, rfl⟩) t2 ?_
                go_simp
                refine tkH (i := 24) (v := undef) rfl (Or.inr ⟨by rfl, rfl⟩) t2 ?_
                go_simp
                refine tkH (i := 25) (v := undef) rfl (Or.inr ⟨by rfl, rfl⟩) t2 ?_
                go_simp
                refine tkH (i := 26) (v := undef) rfl (Or.inr ⟨by rfl, rfl⟩) t2 ?_
                go_simp
                refine tkH (i := 27) (v := undef) rfl (Or.inr ⟨by rfl, rfl⟩) t2 ?_
                go_simp
                refine tkH (i := 28) (v := undef) rfl (Or.inr ⟨by rfl, rfl⟩) t2 ?_
                go_simp
                refine tkH (i := 29) (v := undef) rfl (Or.inr ⟨by rfl, rfl⟩) t2 ?_
                go_simp
                refine tkHV (i := 30) (v := .bool true) rfl t2 ?_
                go_simp
                refine wpAnyH_done (by kernel_rfl) ?_ _
                have S5 := Lib.hid (show Only (Box w 1) wr v2 from Only.of_below t2)
                have O5 := Lib.hid (O4.out.trans S5.out)
                have R0_5 := Lib.hid (row_call t2 R0_4.out)
                have Rw1_heap_size_5 := Lib.hid (row_call t2 Rw1_heap_size_4.out)
                obtain ⟨q0_0, z0_0, q0_1, z0_1, q0_2, z0_2, q0_3, z0_3⟩ := rw4 R0_5.out
                obtain ⟨qn0_0, zn0_0, qn0_1, zn0_1, qn0_2, zn0_2, qn0_3, zn0_3⟩ := rw4 Rw1_heap_size_5.out
                go_wp2_with fail
                clear q0_0 z0_0 q0_1 z0_1 q0_2 z0_2 q0_3 z0_3 qn0_0 zn0_0 qn0_1 zn0_1 qn0_2 zn0_2 qn0_3 zn0_3
                refine nm_post (fun wz hnm => ?_)
                have HBZ := Lib.hid (show Below w.heap.size w wz by rw [hnm]; exact below_put (below_put (below_put (below_put (Only.fin HB0.out O5.out) (by omega)) (by omega)) (by omega)) (by omega))
                have R9 := Lib.hid (show wz.heap[w.heap.size]? = some (.cells #[.int .i64 0, .int .i64 0, .slice none 0 0, .slice none 0 0] 61 (0, 0)) by rw [hnm]; exact heap_setRow (heap_setRow (heap_setRow (heap_setRow (R0_5.out)))))
                clear hnm
                obtain ⟨q0_0, q0_1, q0_2, q0_3⟩ := cl4 R9.out
                refine ⟨rfl, .tuple #[.agg #[.int .i64 0, .int .i64 0, .slice none 0 0, .slice none 0 0], .int .i64 11], by simp only [results, hfr]; go_simp, ?_⟩
                clear q0_0 q0_1 q0_2 q0_3
                exact ⟨.inr ⟨HN.out, rfl⟩, HBZ.out⟩
              · have HNO := Lib.hid (show decide ((kn : Int) ∈ s.free.take j) = false from decide_eq_false h3)
                have HH3 := Lib.hid h3
                clear h3
                by_cases h4 : g = 0
                · skip
                  have g5 : (g == 0) = true := by simp [h4]
                  have HN := Lib.hid (show ¬ LoadOk c s from fun h => (h.free j _ HKJ.out).2.2.2.1 (by rw [HGD.out, h4]))
                  clear h4
                  obtain ⟨q0_0, q0_1, q0_2, q0_3⟩ := cl4 R0_4.out
                  obtain ⟨qn0_0, qn0_1, qn0_2, qn0_3⟩ := cl4 Rw1_heap_size_4.out
                  go_wp2_with fail
                  clear kf
                  clear q0_0 q0_1 q0_2 q0_3 qn0_0 qn0_1 qn0_2 qn0_3
                  refine wp_region_held_drew (S := fun W => Below wr.heap.size wr W) (by kernel_rfl) ((Below.refl _ _).drew) (fun s0 => ?_)
                  obtain ⟨v1, hv0⟩ : ∃ V, V = wr.drew := ⟨_, rfl⟩
                  rw [← hv0] at s0 ⊢
                  have t1 : Below wr.heap.size wr v1 := s0
                  clear hv0 s0
                  refine tkHV (i := 0) (v := .int .i64 kn) rfl t1 ?_
                  go_simp
                  refine tkHV (i := 1) (v := .bool false) rfl t1 ?_
                  go_simp
                  refine tkHV (i := 2) (v := .bool false) rfl t1 ?_
                  go_simp
                  refine tkHV (i := 3) (v := .int .i64 kn) rfl t1 ?_
                  go_simp
                  refine tkHV (i := 4) (v := .slice (some ⟨gb, go, none⟩) s.gens.length c1) rfl t1 ?_
                  go_simp
                  refine tkHV (i := 5) (v := .int .i64 s.gens.length) rfl t1 ?_
                  go_simp
                  refine tkHV (i := 6) (v := .bool false) rfl t1 ?_
                  go_simp
                  refine tkHV (i := 7) (v := .bool false) rfl t1 ?_
                  go_simp
                  refine tkHV (i := 8) (v := .bool false) rfl t1 ?_
                  go_simp
                  refine tkHV (i := 9) (v := .slice (some ⟨fb, fo, none⟩) s.free.length c2) rfl t1 ?_
                  go_simp
                  refine tkHV (i := 10) (v := .int .i64 j) rfl t1 ?_
                  go_simp
                  refine tkHV (i := 11) (v := .slice (some ⟨fb, fo, none⟩) j c2) rfl t1 ?_
                  go_simp
                  refine tkHV (i := 12) (v := .int .i64 kn) rfl t1 ?_
                  go_simp
                  refine wpAnyH_all (rs := [13]) (by kernel_rfl) (by simp) ?_
                  intro i hi
                  obtain rfl : i = 13 := by simpa using hi
                  clear hi
                  refine wpOp_step rfl (fun K hK => ?_)
                  go_simp
                  refine (has06_calls (n := (kn : Int)) (HTK.out _ (HBW2.out.trans (Below.mono t1 HBW2.out.size)))).mono ?_
                  rintro e v2 ⟨rfl, hw⟩
                  have hb : Below v1.heap.size v1 v2 := by rw [hw]; exact Below.refl _ _
                  clear hw
                  rw [HNO.out]
                  have t2 : Below wr.heap.size wr v2 := Below.trans t1 (hb.mono (Below.size t1))
                  refine hK _ _ ⟨t2, ?_⟩
                  clear hb
                  clear hK K
                  refine tkHV (i := 14) (v := .bool false) rfl t2 ?_
                  go_simp
                  refine tkHV (i := 15) (v := .bool false) rfl t2 ?_
                  go_simp
                  refine tkHV (i := 16) (v := .slice (some ⟨gb, go, none⟩) s.gens.length c1) rfl t2 ?_
                  go_simp
                  refine tkHV (i := 17) (v := .int .i64 kn) rfl t2 ?_
                  go_simp
                  refine tkHV (i := 18) (v := .pointer (some ⟨gb, go + kn, none⟩)) rfl t2 ?_
                  go_simp
                  refine tkH (i := 19) (v := .int .i64 g) rfl (Or.inl ⟨by rfl, fun w' h => by have e := cell_call (h : Below wr.heap.size wr w') kg; go_simp⟩) t2 ?_
                  go_simp
                  refine tkHV (i := 20) (v := .bool true) rfl t2 ?_
                  go_simp
                  refine tkHV (i := 21) (v := .bool true) rfl t2 ?_
                  go_simp
                  refine tkHV (i := 22) (v := .bool true) rfl t2 ?_
                  go_simp
                  refine tkH (i := 23) (v := undef) rfl (Or.inr ⟨by rfl, rfl⟩) t2 ?_
                  go_simp
                  refine tkH (i := 24) (v := undef) rfl (Or.inr ⟨by rfl, rfl⟩) t2 ?_
                  go_simp
                  refine tkH (i := 25) (v := undef) rfl (Or.inr ⟨by rfl, rfl⟩) t2 ?_
                  go_simp
                  refine tkH (i := 26) (v := undef) rfl (Or.inr ⟨by rfl, rfl⟩) t2 ?_
                  go_simp
                  refine tkH (i := 27) (v := undef) rfl (Or.inr ⟨by rfl, rfl⟩) t2 ?_
                  go_simp
                  refine tkH (i := 28) (v := undef) rfl (Or.inr ⟨by rfl, rfl⟩) t2 ?_
                  go_simp
                  refine tkH (i := 29) (v := undef) rfl (Or.inr ⟨by rfl, rfl⟩) t2 ?_
                  go_simp
                  refine tkHV (i := 30) (v := .bool true) rfl t2 ?_
                  go_simp
                  refine wpAnyH_done (by kernel_rfl) ?_ _
                  have S5 := Lib.hid (show Only (Box w 1) wr v2 from Only.of_below t2)
                  have O5 := Lib.hid (O4.out.trans S5.out)
                  have R0_5 := Lib.hid (row_call t2 R0_4.out)
                  have Rw1_heap_size_5 := Lib.hid (row_call t2 Rw1_heap_size_4.out)
                  obtain ⟨q0_0, z0_0, q0_1, z0_1, q0_2, z0_2, q0_3, z0_3⟩ := rw4 R0_5.out
                  obtain ⟨qn0_0, zn0_0, qn0_1, zn0_1, qn0_2, zn0_2, qn0_3, zn0_3⟩ := rw4 Rw1_heap_size_5.out
                  go_wp2_with fail
                  clear q0_0 z0_0 q0_1 z0_1 q0_2 z0_2 q0_3 z0_3 qn0_0 zn0_0 qn0_1 zn0_1 qn0_2 zn0_2 qn0_3 zn0_3
                  refine nm_post (fun wz hnm => ?_)
                  have HBZ := Lib.hid (show Below w.heap.size w wz by rw [hnm]; exact below_put (below_put (below_put (below_put (Only.fin HB0.out O5.out) (by omega)) (by omega)) (by omega)) (by omega))
                  have R9 := Lib.hid (show wz.heap[w.heap.size]? = some (.cells #[.int .i64 0, .int .i64 0, .slice none 0 0, .slice none 0 0] 61 (0, 0)) by rw [hnm]; exact heap_setRow (heap_setRow (heap_setRow (heap_setRow (R0_5.out)))))
                  clear hnm
                  obtain ⟨q0_0, q0_1, q0_2, q0_3⟩ := cl4 R9.out
                  refine ⟨rfl, .tuple #[.agg #[.int .i64 0, .int .i64 0, .slice none 0 0, .slice none 0 0], .int .i64 11], by simp only [results, hfr]; go_simp, ?_⟩
                  clear q0_0 q0_1 q0_2 q0_3
                  exact ⟨.inr ⟨HN.out, rfl⟩, HBZ.out⟩
                · have g5 : (g == 0) = false := beq_eq_false_iff_ne.2 h4
                  by_cases h6 : c.gens ≤ g
                  · skip
                    have HN := Lib.hid (show ¬ LoadOk c s from fun h => by have := (h.free j _ HKJ.out).2.2.2.2; rw [HGD.out] at this; omega)
                    clear h4
                    obtain ⟨q0_0, q0_1, q0_2, q0_3⟩ := cl4 R0_4.out
                    obtain ⟨qn0_0, qn0_1, qn0_2, qn0_3⟩ := cl4 Rw1_heap_size_4.out
                    go_wp2_with fail
                    clear kf
                    clear q0_0 q0_1 q0_2 q0_3 qn0_0 qn0_1 qn0_2 qn0_3
                    refine wp_region_held_drew (S := fun W => Below wr.heap.size wr W) (by kernel_rfl) ((Below.refl _ _).drew) (fun s0 => ?_)
                    obtain ⟨v1, hv0⟩ : ∃ V, V = wr.drew := ⟨_, rfl⟩
                    rw [← hv0] at s0 ⊢
                    have t1 : Below wr.heap.size wr v1 := s0
                    clear hv0 s0
                    refine tkHV (i := 0) (v := .int .i64 kn) rfl t1 ?_
                    go_simp
                    refine tkHV (i := 1) (v := .bool false) rfl t1 ?_
                    go_simp
                    refine tkHV (i := 2) (v := .bool false) rfl t1 ?_
                    go_simp
                    refine tkHV (i := 3) (v := .int .i64 kn) rfl t1 ?_
                    go_simp
                    refine tkHV (i := 4) (v := .slice (some ⟨gb, go, none⟩) s.gens.length c1) rfl t1 ?_
                    go_simp
                    refine tkHV (i := 5) (v := .int .i64 s.gens.length) rfl t1 ?_
                    go_simp
                    refine tkHV (i := 6) (v := .bool false) rfl t1 ?_
                    go_simp
                    refine tkHV (i := 7) (v := .bool false) rfl t1 ?_
                    go_simp
                    refine tkHV (i := 8) (v := .bool false) rfl t1 ?_
                    go_simp
                    refine tkHV (i := 9) (v := .slice (some ⟨fb, fo, none⟩) s.free.length c2) rfl t1 ?_
                    go_simp
                    refine tkHV (i := 10) (v := .int .i64 j) rfl t1 ?_
                    go_simp
                    refine tkHV (i := 11) (v := .slice (some ⟨fb, fo, none⟩) j c2) rfl t1 ?_
                    go_simp
                    refine tkHV (i := 12) (v := .int .i64 kn) rfl t1 ?_
                    go_simp
                    refine wpAnyH_all (rs := [13]) (by kernel_rfl) (by simp) ?_
                    intro i hi
                    obtain rfl : i = 13 := by simpa using hi
                    clear hi
                    refine wpOp_step rfl (fun K hK => ?_)
                    go_simp
                    refine (has06_calls (n := (kn : Int)) (HTK.out _ (HBW2.out.trans (Below.mono t1 HBW2.out.size)))).mono ?_
                    rintro e v2 ⟨rfl, hw⟩
                    have hb : Below v1.heap.size v1 v2 := by rw [hw]; exact Below.refl _ _
                    clear hw
                    rw [HNO.out]
                    have t2 : Below wr.heap.size wr v2 := Below.trans t1 (hb.mono (Below.size t1))
                    refine hK _ _ ⟨t2, ?_⟩
                    clear hb
                    clear hK K
                    refine tkHV (i := 14) (v := .bool false) rfl t2 ?_
                    go_simp
                    refine tkHV (i := 15) (v := .bool false) rfl t2 ?_
                    go_simp
                    refine tkHV (i := 16) (v := .slice (some ⟨gb, go, none⟩) s.gens.length c1) rfl t2 ?_
                    go_simp
                    refine tkHV (i := 17) (v := .int .i64 kn) rfl t2 ?_
                    go_simp
                    refine tkHV (i := 18) (v := .pointer (some ⟨gb, go + kn, none⟩)) rfl t2 ?_
                    go_simp
                    refine tkH (i := 19) (v := .int .i64 g) rfl (Or.inl ⟨by rfl, fun w' h => by have e := cell_call (h : Below wr.heap.size wr w') kg; go_simp⟩) t2 ?_
                    go_simp
                    refine tkHV (i := 20) (v := .bool false) rfl t2 ?_
                    go_simp
                    refine tkHV (i := 21) (v := .bool false) rfl t2 ?_
                    go_simp
                    refine tkHV (i := 22) (v := .bool false) rfl t2 ?_
                    go_simp
                    refine tkHV (i := 23) (v := .slice (some ⟨gb, go, none⟩) s.gens.length c1) rfl t2 ?_
                    go_simp
                    refine tkHV (i := 24) (v := .int .i64 kn) rfl t2 ?_
                    go_simp
                    refine tkHV (i := 25) (v := .pointer (some ⟨gb, go + kn, none⟩)) rfl t2 ?_
                    go_simp
                    refine tkH (i := 26) (v := .int .i64 g) rfl (Or.inl ⟨by rfl, fun w' h => by have e := cell_call (h : Below wr.heap.size wr w') kg; go_simp⟩) t2 ?_
                    go_simp
                    refine tkHV (i := 27) (v := .pointer (some ⟨w1.heap.size, 1, none⟩)) rfl t2 ?_
                    go_simp
                    refine tkH (i := 28) (v := .int .i64 c.gens) rfl (Or.inl ⟨by rfl, fun w' h => by have e := row_call (h : Below wr.heap.size wr w') Rw1_heap_size_4.out; have e0 := cell_row e 0; have e1 := cell_row e 1; have e2 := cell_row e 2; have e3 := cell_row e 3; go_simp⟩) t2 ?_
                    go_simp
                    refine tkHV (i := 29) (v := .bool true) rfl t2 ?_
                    go_simp
                    refine tkHV (i := 30) (v := .bool true) rfl t2 ?_
                    go_simp
                    refine wpAnyH_done (by kernel_rfl) ?_ _
                    have S5 := Lib.hid (show Only (Box w 1) wr v2 from Only.of_below t2)
                    have O5 := Lib.hid (O4.out.trans S5.out)
                    have R0_5 := Lib.hid (row_call t2 R0_4.out)
                    have Rw1_heap_size_5 := Lib.hid (row_call t2 Rw1_heap_size_4.out)
                    obtain ⟨q0_0, z0_0, q0_1, z0_1, q0_2, z0_2, q0_3, z0_3⟩ := rw4 R0_5.out
                    obtain ⟨qn0_0, zn0_0, qn0_1, zn0_1, qn0_2, zn0_2, qn0_3, zn0_3⟩ := rw4 Rw1_heap_size_5.out
                    go_wp2_with fail
                    clear q0_0 z0_0 q0_1 z0_1 q0_2 z0_2 q0_3 z0_3 qn0_0 zn0_0 qn0_1 zn0_1 qn0_2 zn0_2 qn0_3 zn0_3
                    refine nm_post (fun wz hnm => ?_)
                    have HBZ := Lib.hid (show Below w.heap.size w wz by rw [hnm]; exact below_put (below_put (below_put (below_put (Only.fin HB0.out O5.out) (by omega)) (by omega)) (by omega)) (by omega))
                    have R9 := Lib.hid (show wz.heap[w.heap.size]? = some (.cells #[.int .i64 0, .int .i64 0, .slice none 0 0, .slice none 0 0] 61 (0, 0)) by rw [hnm]; exact heap_setRow (heap_setRow (heap_setRow (heap_setRow (R0_5.out)))))
                    clear hnm
                    obtain ⟨q0_0, q0_1, q0_2, q0_3⟩ := cl4 R9.out
                    refine ⟨rfl, .tuple #[.agg #[.int .i64 0, .int .i64 0, .slice none 0 0, .slice none 0 0], .int .i64 11], by simp only [results, hfr]; go_simp, ?_⟩
                    clear q0_0 q0_1 q0_2 q0_3
                    exact ⟨.inr ⟨HN.out, rfl⟩, HBZ.out⟩
                  · skip
                    have HFN := Lib.hid (show ∀ (m : Nat) k, m < j + 1 → s.free[m]? = some k → 0 ≤ k ∧ k < s.gens.length ∧ k ∉ s.free.take m ∧ s.gens.getD k.toNat 0 ≠ 0 ∧ s.gens.getD k.toNat 0 < c.gens from fun m k hm hk => by
                      by_cases e : m = j
                      · subst e; rw [HKJ.out] at hk; cases hk; exact ⟨by omega, by omega, HH3.out, by rw [HGD.out]; exact h4, by rw [HGD.out]; omega⟩
                      · exact HFR.out m k (by omega) hk)
                    clear h4
                    obtain ⟨q0_0, q0_1, q0_2, q0_3⟩ := cl4 R0_4.out
                    obtain ⟨qn0_0, qn0_1, qn0_2, qn0_3⟩ := cl4 Rw1_heap_size_4.out
                    go_wp2_with fail
                    clear kf
                    clear q0_0 q0_1 q0_2 q0_3 qn0_0 qn0_1 qn0_2 qn0_3
                    refine wp_region_held_drew (S := fun W => Below wr.heap.size wr W) (by kernel_rfl) ((Below.refl _ _).drew) (fun s0 => ?_)
                    obtain ⟨v1, hv0⟩ : ∃ V, V = wr.drew := ⟨_, rfl⟩
                    rw [← hv0] at s0 ⊢
                    have t1 : Below wr.heap.size wr v1 := s0
                    clear hv0 s0
                    refine tkHV (i := 0) (v := .int .i64 kn) rfl t1 ?_
                    go_simp
                    refine tkHV (i := 1) (v := .bool false) rfl t1 ?_
                    go_simp
                    refine tkHV (i := 2) (v := .bool false) rfl t1 ?_
                    go_simp
                    refine tkHV (i := 3) (v := .int .i64 kn) rfl t1 ?_
                    go_simp
                    refine tkHV (i := 4) (v := .slice (some ⟨gb, go, none⟩) s.gens.length c1) rfl t1 ?_
                    go_simp
                    refine tkHV (i := 5) (v := .int .i64 s.gens.length) rfl t1 ?_
                    go_simp
                    refine tkHV (i := 6) (v := .bool false) rfl t1 ?_
                    go_simp
                    refine tkHV (i := 7) (v := .bool false) rfl t1 ?_
                    go_simp
                    refine tkHV (i := 8) (v := .bool false) rfl t1 ?_
                    go_simp
                    refine tkHV (i := 9) (v := .slice (some ⟨fb, fo, none⟩) s.free.length c2) rfl t1 ?_
                    go_simp
                    refine tkHV (i := 10) (v := .int .i64 j) rfl t1 ?_
                    go_simp
                    refine tkHV (i := 11) (v := .slice (some ⟨fb, fo, none⟩) j c2) rfl t1 ?_
                    go_simp
                    refine tkHV (i := 12) (v := .int .i64 kn) rfl t1 ?_
                    go_simp
                    refine wpAnyH_all (rs := [13]) (by kernel_rfl) (by simp) ?_
                    intro i hi
                    obtain rfl : i = 13 := by simpa using hi
                    clear hi
                    refine wpOp_step rfl (fun K hK => ?_)
                    go_simp
                    refine (has06_calls (n := (kn : Int)) (HTK.out _ (HBW2.out.trans (Below.mono t1 HBW2.out.size)))).mono ?_
                    rintro e v2 ⟨rfl, hw⟩
                    have hb : Below v1.heap.size v1 v2 := by rw [hw]; exact Below.refl _ _
                    clear hw
                    rw [HNO.out]
                    have t2 : Below wr.heap.size wr v2 := Below.trans t1 (hb.mono (Below.size t1))
                    refine hK _ _ ⟨t2, ?_⟩
                    clear hb
                    clear hK K
                    refine tkHV (i := 14) (v := .bool false) rfl t2 ?_
                    go_simp
                    refine tkHV (i := 15) (v := .bool false) rfl t2 ?_
                    go_simp
                    refine tkHV (i := 16) (v := .slice (some ⟨gb, go, none⟩) s.gens.length c1) rfl t2 ?_
                    go_simp
                    refine tkHV (i := 17) (v := .int .i64 kn) rfl t2 ?_
                    go_simp
                    refine tkHV (i := 18) (v := .pointer (some ⟨gb, go + kn, none⟩)) rfl t2 ?_
                    go_simp
                    refine tkH (i := 19) (v := .int .i64 g) rfl (Or.inl ⟨by rfl, fun w' h => by have e := cell_call (h : Below wr.heap.size wr w') kg; go_simp⟩) t2 ?_
                    go_simp
                    refine tkHV (i := 20) (v := .bool false) rfl t2 ?_
                    go_simp
                    refine tkHV (i := 21) (v := .bool false) rfl t2 ?_
                    go_simp
                    refine tkHV (i := 22) (v := .bool false) rfl t2 ?_
                    go_simp
                    refine tkHV (i := 23) (v := .slice (some ⟨gb, go, none⟩) s.gens.length c1) rfl t2 ?_
                    go_simp
                    refine tkHV (i := 24) (v := .int .i64 kn) rfl t2 ?_
                    go_simp
                    refine tkHV (i := 25) (v := .pointer (some ⟨gb, go + kn, none⟩)) rfl t2 ?_
                    go_simp
                    refine tkH (i := 26) (v := .int .i64 g) rfl (Or.inl ⟨by rfl, fun w' h => by have e := cell_call (h : Below wr.heap.size wr w') kg; go_simp⟩) t2 ?_
                    go_simp
                    refine tkHV (i := 27) (v := .pointer (some ⟨w1.heap.size, 1, none⟩)) rfl t2 ?_
                    go_simp
                    refine tkH (i := 28) (v := .int .i64 c.gens) rfl (Or.inl ⟨by rfl, fun w' h => by have e := row_call (h : Below wr.heap.size wr w') Rw1_heap_size_4.out; have e0 := cell_row e 0; have e1 := cell_row e 1; have e2 := cell_row e 2; have e3 := cell_row e 3; go_simp⟩) t2 ?_
                    go_simp
                    refine tkHV (i := 29) (v := .bool false) rfl t2 ?_
                    go_simp
                    refine tkHV (i := 30) (v := .bool false) rfl t2 ?_
                    go_simp
                    refine wpAnyH_done (by kernel_rfl) ?_ _
                    have S5 := Lib.hid (show Only (Box w 1) wr v2 from Only.of_below t2)
                    have O5 := Lib.hid (O4.out.trans S5.out)
                    have R0_5 := Lib.hid (row_call t2 R0_4.out)
                    have Rw1_heap_size_5 := Lib.hid (row_call t2 Rw1_heap_size_4.out)
                    have hv := (show Below wr.heap.size wr v2 from t2)
                    have HBV := Lib.hid (HBR2.out.trans (hv.mono HBR2.out.size))
                    clear hv kg g5 h6 hjc
                    obtain ⟨q0_0, q0_1, q0_2, q0_3⟩ := cl4 R0_5.out
                    obtain ⟨qn0_0, qn0_1, qn0_2, qn0_3⟩ := cl4 Rw1_heap_size_5.out
                    go_wp2_with fail
                    exact ⟨⟨j + 1, by go_num, by omega, HBV, HFN⟩, by simp [intOf]; omega⟩
        · obtain rfl : j = s.free.length := by omega
          have d1 : ¬ w1.heap.size = w.heap.size := by have := HXW.out; omega
          have d2 : ¬ w.heap.size = w1.heap.size := by have := HXW.out; omega
          obtain ⟨q0_0, z0_0, q0_1, z0_1, q0_2, z0_2, q0_3, z0_3⟩ := rw4 R0_4.out
          obtain ⟨qn0_0, zn0_0, qn0_1, zn0_1, qn0_2, zn0_2, qn0_3, zn0_3⟩ := rw4 Rw1_heap_size_4.out
          go_wp2_with fail
          clear d1 d2
          clear q0_0 z0_0 q0_1 z0_1 q0_2 z0_2 q0_3 z0_3 qn0_0 zn0_0 qn0_1 zn0_1 qn0_2 zn0_2 qn0_3 zn0_3
          refine nm_post (fun wz hnm => ?_)
          have HBZ := Lib.hid (show Below w.heap.size w wz by rw [hnm]; exact below_put (below_put (below_put (below_put (below_put (below_put (Only.fin HB0.out O4.out) (by have := HXW.out; omega)) (by have := HXW.out; omega)) (by have := HXW.out; omega)) (by have := HXW.out; omega)) (by have := HXW.out; omega)) (by have := HXW.out; omega))
          have R9 := Lib.hid (show wz.heap[w.heap.size]? = some (.cells #[.int .i64 c.entities, .int .i64 c.gens, .slice A1 s.gens.length c1, .slice A2 s.free.length c2] 61 (0, 0)) by rw [hnm]; exact heap_setRow (heap_setRow (heap_setRow (heap_setRow (row_other (row_other R0_4.out (by have := HXW.out; omega)) (by have := HXW.out; omega))))))
          clear hnm
          obtain ⟨q0_0, q0_1, q0_2, q0_3⟩ := cl4 R9.out
          refine ⟨rfl, .tuple #[.agg #[.int .i64 c.entities, .int .i64 c.gens, .slice A1 s.gens.length c1, .slice A2 s.free.length c2], .int .i64 0], by simp only [results, hfr]; go_simp, ?_⟩
          clear q0_0 q0_1 q0_2 q0_3
          exact ⟨.inl ⟨LoadOk.of HMANY.out (fun j g hg => HLIM.out j g (List.getElem?_eq_some_iff.1 hg).1 hg) (fun j k hk => HFR.out j k (List.getElem?_eq_some_iff.1 hk).1 hk), rfl⟩, HBZ.out⟩
end Go.Proofs.YthkepjhfeeohdaaGreatDoor
namespace Go.Proofs.YthkepjhfeeohdaaGreatDoor
open Go.RowKit

set_option maxRecDepth 100000 in
set_option maxHeartbeats 2000000 in
/-- ref06.Count -/
theorem rcount06_calls {Q : Nat → Prop} {w : World} {v : Value} {c : DConf} {s : DState} (hx : rIds.val Q w v (idsOf c s)) :
    Calls Tryz.prog 22 #[v] w fun e w' => e = .returned (.int .i64 ((alives c s s.gens.length).length : Nat)) ∧ Below w.heap.size w w' := by
  obtain ⟨A1, c1, A2, c2, rfl, w0, w1, f1, f2⟩ := rIds_val hx
  have HX := Lib.hid hx
  have l1 := f1.1
  have l2 := f1.2.1
  unfold maxLen at l2
  dsimp only [idsOf] at l1 l2 ⊢
  clear hx f1 f2 w0 w1
  obtain ⟨W0, hW0⟩ : ∃ W, (w.alloc (.cells #[.int .i64 c.entities, .int .i64 c.gens, .slice A1 s.gens.length c1, .slice A2 s.free.length c2] 61)) = W := ⟨_, rfl⟩
  have hz0 : W0.heap.size = w.heap.size + 1 := by rw [← hW0]; simp
  have hb0 : Below w.heap.size w W0 := by rw [← hW0]; exact (Below.refl _ _).alloc (Nat.le_refl _) _
  have HZ := Lib.hid hz0
  have HB0 := Lib.hid hb0
  have R0_0 := Lib.hid (show W0.heap[w.heap.size]? = some (.cells #[.int .i64 c.entities, .int .i64 c.gens, .slice A1 s.gens.length c1, .slice A2 s.free.length c2] 61 (0, 0)) by rw [← hW0]; exact alloc_at rfl)
  have O0 := Lib.hid (Only.refl (Box w 1) W0)
  have HV := Lib.hid (show rIds.val (In Q w 1) W0 (.agg #[.int .i64 c.entities, .int .i64 c.gens, .slice A1 s.gens.length c1, .slice A2 s.free.length c2]) (idsOf c s) from val_in HX.out hb0)
  clear hz0 hb0
  obtain ⟨q0_0, z0_0, q0_1, z0_1, q0_2, z0_2, q0_3, z0_3⟩ := rw4 R0_0.out
  go_enter Tryz.func22, Tryz.ntmps22
  go_wp2_with fail
  try rw [hW0]
  clear hW0
  try go_wp2_with fail
  clear q0_0 z0_0 q0_1 z0_1 q0_2 z0_2 q0_3 z0_3
  go_loopw [3, 4] (fun n i wr => ∃ j : Nat, i = .int .i64 j ∧ n = .int .i64 ((alives c s j).length : Nat) ∧ j ≤ s.gens.length ∧ Hid (Below W0.heap.size W0 wr)) (fun _ i _ => s.gens.length - (intOf i).toNat)
  case atStart => exact ⟨0, rfl, rfl, Nat.zero_le _, Lib.hid (Below.refl _ _)⟩
  case round =>
    obtain ⟨j, rfl, rfl, hj, HBR⟩ := hrel
    have HLJ := Lib.hid (alives_len c s j)
    have hle := alives_le c s j
    obtain ⟨m, hm⟩ : ∃ m, (alives c s j).length = m := ⟨_, rfl⟩
    have HM := Lib.hid hm
    rw [hm] at hle HLJ ⊢
    clear hm
    have S1 := Lib.hid (show Only (Box w 1) W0 wr from Only.of_below HBR.out)
    have O1 := Lib.hid (O0.out.trans S1.out)
    have R0_1 := Lib.hid (row_call HBR.out R0_0.out)
    by_cases hlt : (j : Int) < s.gens.length
    · skip
      obtain ⟨q0_0, z0_0, q0_1, z0_1, q0_2, z0_2, q0_3, z0_3⟩ := rw4 R0_1.out
      go_wp2_with fail
      clear q0_0 z0_0 q0_1 z0_1 q0_2 z0_2 q0_3 z0_3
      refine (at_calls (i := (j : Int)) (val_only HV.out O1.out)).mono ?_
      rintro e w4 ⟨rfl, hb⟩
      have HB4 := Lib.hid (HBR.out.trans (hb.mono HBR.out.size))
      rw [atI_alive]
      have iw : IntKind.i64.wrap ((j : Int) + 1) = (j : Int) + 1 := IntWalk.i64_in _ ⟨by omega, by omega⟩
      have iw2 : IntKind.i64.wrap ((m : Int) + 1) = (m : Int) + 1 := IntWalk.i64_in _ ⟨by omega, by omega⟩
      have S2 := Lib.hid (show Only (Box w 1) wr w4 from Only.of_below hb)
      have O2 := Lib.hid (O1.out.trans S2.out)
      have R0_2 := Lib.hid (row_call hb R0_1.out)
      clear hb
      cases hal : aliveB c s (j : Int)
      case false =>
        rw [hal] at HLJ
        clear hal
        simp only [Bool.false_eq_true, if_false, Option.getD_none, Option.isSome_none, noID]
        obtain ⟨q0_0, z0_0, q0_1, z0_1, q0_2, z0_2, q0_3, z0_3⟩ := rw4 R0_2.out
        go_wp2_with fail
        exact ⟨⟨j + 1, by go_num, by rw [HLJ.out]; simp, by omega, Lib.hid (HB4.out.alloc HB4.out.size _)⟩, by simp [intOf]; omega⟩
      case true =>
        rw [hal] at HLJ
        clear hal
        simp only [if_true, Option.getD_some, Option.isSome_some]
        obtain ⟨q0_0, z0_0, q0_1, z0_1, q0_2, z0_2, q0_3, z0_3⟩ := rw4 R0_2.out
        go_wp2_with fail
        exact ⟨⟨j + 1, by go_num, by rw [HLJ.out]; simp, by omega, Lib.hid (HB4.out.alloc HB4.out.size _)⟩, by simp [intOf]; omega⟩
    · obtain rfl : j = s.gens.length := by omega
      obtain ⟨q0_0, z0_0, q0_1, z0_1, q0_2, z0_2, q0_3, z0_3⟩ := rw4 R0_1.out
      go_wp2_with fail
      clear q0_0 z0_0 q0_1 z0_1 q0_2 z0_2 q0_3 z0_3
      go_ret
      exact ⟨by rw [HM.out]; rfl, Only.fin HB0.out O1.out⟩
end Go.Proofs.YthkepjhfeeohdaaGreatDoor
namespace Go.Proofs.YthkepjhfeeohdaaGreatDoor
open Go.RowKit

theorem val_keepT {α : Type} {r : Rep α} {Q : Nat → Prop} {W W' : World} {v : Value} {x : α} (h : r.val Q W v x) (hb : Below W.heap.size W W') : r.val (fun _ => True) W' v x := Rep.val_keep (fun b _ hl => ⟨trivial, hb.block b hl.lt⟩) h
open Classical in
noncomputable def rightB (c : DConf) (s : DState) : Bool := decide (RightS c s)
theorem rightB_yes {c : DConf} {s : DState} (h : RightS c s) : rightB c s = true := by classical exact decide_eq_true h
theorem rightB_no {c : DConf} {s : DState} (h : ¬ RightS c s) : rightB c s = false := by classical exact decide_eq_false h
/-- What was seen: of the first j indexes, and the first k entities. -/
structure Seen12 (c : DConf) (s : DState) (j k : Nat) : Prop where
  ids : alives c s j = (s.ents.take k).map (·.id)
  le : k ≤ s.ents.length
  parts : ∀ e ∈ s.ents.take k, partsE c e.parts = 0
namespace Seen12
variable {c : DConf} {s : DState} {j k : Nat}
theorem zero (c : DConf) (s : DState) : Seen12 c s 0 0 := ⟨by simp [alives], Nat.zero_le _, by simp⟩
theorem dead (h : Seen12 c s j k) (ha : aliveB c s (j : Nat) = false) : Seen12 c s (j + 1) k := ⟨by rw [alives_next, ha, h.ids]; simp, h.le, h.parts⟩
theorem next (h : Seen12 c s j k) {e : DEnt} (ha : aliveB c s (j : Nat) = true) (he : s.ents[k]? = some e) (hid : e.id = idAt s j) (hp : partsE c e.parts = 0) : Seen12 c s (j + 1) (k + 1) := by
  have hk := (List.getElem?_eq_some_iff.1 he).1
  have ht : s.ents.take (k + 1) = s.ents.take k ++ [e] := by rw [List.take_add_one, he]; rfl
  refine ⟨by rw [alives_next, ha, h.ids, ht, List.map_append]; simp [hid], hk, fun x hx => ?_⟩
  rw [ht, List.mem_append] at hx
  rcases hx with hx | hx
  · exact h.parts x hx
  · obtain rfl := List.mem_singleton.1 hx; exact hp
theorem after (h : Seen12 c s j k) (ha : aliveB c s (j : Nat) = true) (hj : j < s.gens.length) (hr : RightS c s) : ∃ e, s.ents[k]? = some e ∧ e.id = idAt s j := by
  obtain ⟨r, hr1⟩ := alives_pre (c := c) (s := s) (show j + 1 ≤ s.gens.length from hj)
  rw [← hr.2.2.1, alives_next, ha, h.ids] at hr1
  have hl : k = ((s.ents.take k).map (·.id)).length := by rw [List.length_map, List.length_take, Nat.min_eq_left h.le]
  have h1 : (s.ents.map (·.id))[k]? = some (idAt s j) := by
    rw [hr1, List.append_assoc, List.getElem?_append_right (by omega), ← hl, Nat.sub_self]
    rfl
  rw [List.getElem?_map] at h1
  cases hk : s.ents[k]? with
  | none => rw [hk] at h1; cases h1
  | some e => rw [hk] at h1; exact ⟨e, rfl, by simpa using h1⟩
theorem full (h : Seen12 c s j k) (ha : aliveB c s (j : Nat) = true) (hj : j < s.gens.length) (hk : k = s.ents.length) : ¬ RightS c s := fun hr => by
  obtain ⟨e, he, _⟩ := h.after ha hj hr
  have := (List.getElem?_eq_some_iff.1 he).1
  omega
theorem other (h : Seen12 c s j k) (ha : aliveB c s (j : Nat) = true) (hj : j < s.gens.length) {e : DEnt} (he : s.ents[k]? = some e) (hid : e.id ≠ idAt s j) : ¬ RightS c s := fun hr => by
  obtain ⟨x, hx, hi⟩ := h.after ha hj hr
  rw [he] at hx
  obtain rfl := Option.some.inj hx
  exact hid hi
theorem all (h : Seen12 c s s.gens.length k) (h1 : confRight c = true) (h2 : LoadOk c s) (hk : k = s.ents.length) : RightS c s := by
  subst hk
  have h3 := h.ids
  have h4 := h.parts
  rw [List.take_length] at h3 h4
  exact ⟨h1, h2, h3.symm, h4⟩
theorem less (h : Seen12 c s s.gens.length k) (hk : k ≠ s.ents.length) : ¬ RightS c s := fun hr => by
  have h1 := hr.2.2.1
  rw [h.ids] at h1
  have := congrArg List.length h1
  rw [List.length_map, List.length_map, List.length_take, Nat.min_eq_left h.le] at this
  exact hk this.symm
end Seen12
theorem parts_bad {c : DConf} {s : DState} {e : DEnt} (he : e ∈ s.ents) (hp : partsE c e.parts ≠ 0) : ¬ RightS c s := fun hr => hp (hr.2.2.2 e he)
theorem partE_ok {c : DConf} {l : List DPart} {j : Nat} {p : DPart} (hp : l[j]? = some p) (h1 : compSize c p.comp = some (p.data.length : Int)) (h2 : ¬ (0 < j ∧ p.comp ≤ (l.map (·.comp)).getD (j - 1) 0)) : partE c l j = 0 := by
  rw [partE_size hp h1 h2, if_pos rfl]
theorem partE_bad {c : DConf} {l : List DPart} {j : Nat} {p : DPart} (hp : l[j]? = some p) (h : compSize c p.comp ≠ some (p.data.length : Int) ∨ (0 < j ∧ p.comp ≤ (l.map (·.comp)).getD (j - 1) 0)) : partE c l j ≠ 0 := by
  cases hc : compSize c p.comp with
  | none => rw [partE_none hp hc]; decide
  | some n =>
    by_cases h2 : 0 < j ∧ p.comp ≤ (l.map (·.comp)).getD (j - 1) 0
    · rw [partE_low hp hc h2]; decide
    · rw [partE_size hp hc h2]
      rcases h with h | h
      · rw [if_neg (fun e => h (by rw [hc, e]))]; decide
      · exact absurd h h2
theorem partsE_bad {c : DConf} {l : List DPart} {j : Nat} (h0 : firstE (partE c l) j = 0) (h : partE c l j ≠ 0) (hj : j < l.length) : partsE c l ≠ 0 := by
  unfold partsE
  rw [firstE_stop (j := j + 1) (firstE_next h0) h l.length (by omega)]
  exact h
end Go.Proofs.YthkepjhfeeohdaaGreatDoor
