/- Texts on which the proofs stand: RShowCmd, RShowFlat, RShowCrash, RShow, RPlain13, RPlain31. No condition is laid on any input. -/
import Derived.Test.YtejibngkeaamkaaGreatDoorCoG6
namespace Go.Proofs.YtejibngkeaamkaaGreatDoor
open Go.RowKit

/-- What Show answers. -/
def ShowAns (w : World) (l : Word) (e : Ending) (W : World) : Prop := e = .returned (.string ⟨l.toArray⟩) ∧ Below w.heap.size w W

set_option maxRecDepth 100000 in
set_option maxHeartbeats 4000000 in
/-- ref39.Show: a command -/
theorem rshowCmd_calls {Q Q' : Nat → Prop} {w : World} {u v : Value} {c : DConf} {x : DAct} (hu : rConf.val Q w u c) (hx : rAct.val Q' w v x) (hs : ActSmall x) (hm : ∀ y ∈ c.comps, y.name.length ≤ 1000000) (hr : rightA x = true) (hk : x.kind = 0) :
    Calls Tryz.prog 9 #[u, v] w (ShowAns w (showS c.comps x)) := by
  have HS := Lib.hid hs
  obtain ⟨A, cap, rfl, _, _, _, _, _, _, _⟩ := rConf_val hu
  obtain ⟨A1, c1, A2, c2, A3, c3, rfl, f0, f1, f2, f3, f4, s1, f5, f6, f7, s2, s3⟩ := rAct_val hx
  have HU := Lib.hid hu
  have HX := Lib.hid hx
  have HCM := Lib.hid (show rCmd.val Q' w (.agg #[.int .i64 x.cmd.kind, .bool x.cmd.loc, .int .i64 x.cmd.id.index, .int .i64 x.cmd.id.gen, .int .i64 x.cmd.comp, .slice A1 x.cmd.data.length c1]) x.cmd from rCmd_agg f1 f2 f3 f4 s1)
  have HD := Lib.hid s1.val
  have HR := Lib.hid hr
  have HAF := Lib.hid s2
  have HAU := Lib.hid s3
  have hl1 : ((Lib.itoa x.policy.room).length : Int) ≤ 20 := by have := (itoa_len HS.out.inn.r).1; omega
  have hl2 : ((Lib.itoa x.policy.frames).length : Int) ≤ 20 := by have := (itoa_len HS.out.inn.f).1; omega
  have hl3 : ((Lib.itoa x.n).length : Int) ≤ 20 := by have := (itoa_len HS.out.inn.n).1; omega
  have hl4 : ((whomS x.cmd).length : Int) ≤ 50 := by have := whom_len (x := x.cmd) ⟨HS.out.inn.c.i, HS.out.inn.c.g⟩; omega
  have hl5 : ((partS c.comps x.cmd.comp).length : Int) ≤ 1000000 := by have := cpart_len HS.out.inn.c.k hm (by omega); omega
  have hl6 : ((hexS x.cmd.data).length : Int) ≤ 2000001 := by have := hex_len x.cmd.data; have := HS.out.d; omega
  clear hx hu hm hs f0 f1 f2 f3 f4 f5 f6 f7
  clear HAF HAU s1 s2 s3
  obtain hc | hc | hc | hc := (right_kind hr).2.2 hk
  · skip
    have HW := Lib.hid (show_spawn (l := c.comps) hr hk hc)
    rw [hk, hc] at HX ⊢
    rw [hc] at HCM
    clear hr hk hc
    obtain ⟨W0, hW0⟩ : ∃ W, ((w.alloc (.cells #[.int .i64 c.log, .int .i64 c.pages, .int .i64 c.entities, .int .i64 c.gens, .slice A c.comps.length cap] 24)).alloc (.cells #[.int .i64 0, .int .i64 0, .bool x.cmd.loc, .int .i64 x.cmd.id.index, .int .i64 x.cmd.id.gen, .int .i64 x.cmd.comp, .slice A1 x.cmd.data.length c1, .int .i64 x.policy.room, .int .i64 x.policy.frames, .int .i64 x.n, .slice A2 x.fates.length c2, .slice A3 x.fuses.length c3] 35)) = W := ⟨_, rfl⟩
    have hz0 : W0.heap.size = w.heap.size + 2 := by rw [← hW0]; simp
    have hb0 : Below w.heap.size w W0 := by rw [← hW0]; exact ((Below.refl _ _).alloc (Nat.le_refl _) _).alloc (by first | (simp; done) | (simp; omega)) _
    have HZ := Lib.hid hz0
    have HB0 := Lib.hid hb0
    have R0_0 := Lib.hid (show W0.heap[w.heap.size]? = some (.cells #[.int .i64 c.log, .int .i64 c.pages, .int .i64 c.entities, .int .i64 c.gens, .slice A c.comps.length cap] 24 (0, 0)) by rw [← hW0]; exact alloc_old (alloc_at rfl))
    have R1_0 := Lib.hid (show W0.heap[w.heap.size + 1]? = some (.cells #[.int .i64 0, .int .i64 0, .bool x.cmd.loc, .int .i64 x.cmd.id.index, .int .i64 x.cmd.id.gen, .int .i64 x.cmd.comp, .slice A1 x.cmd.data.length c1, .int .i64 x.policy.room, .int .i64 x.policy.frames, .int .i64 x.n, .slice A2 x.fates.length c2, .slice A3 x.fuses.length c3] 35 (0, 0)) by rw [← hW0]; exact alloc_at (by simp))
    have O0 := Lib.hid (Only.refl (Box w 2) W0)
    have Vc_0 := Lib.hid (show rConf.val (In Q w 2) W0 (.agg #[.int .i64 c.log, .int .i64 c.pages, .int .i64 c.entities, .int .i64 c.gens, .slice A c.comps.length cap]) c from val_in HU.out hb0)
    have Vx_0 := Lib.hid (show rAct.val (In Q' w 2) W0 (.agg #[.int .i64 0, .int .i64 0, .bool x.cmd.loc, .int .i64 x.cmd.id.index, .int .i64 x.cmd.id.gen, .int .i64 x.cmd.comp, .slice A1 x.cmd.data.length c1, .int .i64 x.policy.room, .int .i64 x.policy.frames, .int .i64 x.n, .slice A2 x.fates.length c2, .slice A3 x.fuses.length c3]) x from val_in HX.out hb0)
    have Vm_0 := Lib.hid (show rCmd.val (In Q' w 2) W0 (.agg #[.int .i64 0, .bool x.cmd.loc, .int .i64 x.cmd.id.index, .int .i64 x.cmd.id.gen, .int .i64 x.cmd.comp, .slice A1 x.cmd.data.length c1]) x.cmd from val_in HCM.out hb0)
    have Vd_0 := Lib.hid (show Rep.byte.list.val (In Q' w 2) W0 (.slice A1 x.cmd.data.length c1) x.cmd.data from val_in HD.out hb0)
    clear hz0 hb0
    have q0_0 := rw5 R0_0.out
    have q1_0 := rw12 R1_0.out
    go_enter Tryz.func9, Tryz.ntmps9
    go_wp2_with fail
    try rw [hW0]
    clear hW0
    try go_wp2_with fail
    clear q0_0 q1_0
    refine (rright31_calls Vx_0.out).mono ?_
    rintro e w1 ⟨rfl, hb⟩
    have S1 := Lib.hid (show Only (Box w 2) W0 w1 from Only.of_below hb)
    have O1 := Lib.hid (O0.out.trans S1.out)
    have R0_1 := Lib.hid (row_call hb R0_0.out)
    have R1_1 := Lib.hid (row_call hb R1_0.out)
    have Vc_1 := Lib.hid (val_only Vc_0.out S1.out)
    have Vx_1 := Lib.hid (val_only Vx_0.out S1.out)
    have Vm_1 := Lib.hid (val_only Vm_0.out S1.out)
    have Vd_1 := Lib.hid (val_only Vd_0.out S1.out)
    clear hb
    rw [HR.out]
    have k1 : (w1.alloc (.cells #[.string ⟨#[115, 112, 97, 119, 110]⟩, .string ⟨#[100, 101, 115, 112, 97, 119, 110, 32]⟩, .string ⟨#[115, 101, 116, 32]⟩, .string ⟨#[114, 101, 109, 111, 118, 101, 32]⟩] 9)).heap[w.heap.size]? = some (.cells #[.int .i64 c.log, .int .i64 c.pages, .int .i64 c.entities, .int .i64 c.gens, .slice A c.comps.length cap] 24 (0, 0)) := alloc_old (R0_1.out)
    have k1_0 := rw5 k1
    clear k1
    have k2 : (w1.alloc (.cells #[.string ⟨#[115, 112, 97, 119, 110]⟩, .string ⟨#[100, 101, 115, 112, 97, 119, 110, 32]⟩, .string ⟨#[115, 101, 116, 32]⟩, .string ⟨#[114, 101, 109, 111, 118, 101, 32]⟩] 9)).heap[w.heap.size + 1]? = some (.cells #[.int .i64 0, .int .i64 0, .bool x.cmd.loc, .int .i64 x.cmd.id.index, .int .i64 x.cmd.id.gen, .int .i64 x.cmd.comp, .slice A1 x.cmd.data.length c1, .int .i64 x.policy.room, .int .i64 x.policy.frames, .int .i64 x.n, .slice A2 x.fates.length c2, .slice A3 x.fuses.length c3] 35 (0, 0)) := alloc_old (R1_1.out)
    have k2_0 := rw12 k2
    clear k2
    have k3 : (w1.alloc (.cells #[.string ⟨#[115, 112, 97, 119, 110]⟩, .string ⟨#[100, 101, 115, 112, 97, 119, 110, 32]⟩, .string ⟨#[115, 101, 116, 32]⟩, .string ⟨#[114, 101, 109, 111, 118, 101, 32]⟩] 9)).heap[w1.heap.size]? = some (.cells #[.string ⟨#[115, 112, 97, 119, 110]⟩, .string ⟨#[100, 101, 115, 112, 97, 119, 110, 32]⟩, .string ⟨#[115, 101, 116, 32]⟩, .string ⟨#[114, 101, 109, 111, 118, 101, 32]⟩] 9 (0, 0)) := alloc_at rfl
    have k3_0 := rw4 k3
    clear k3
    have q0_0 := rw5 R0_1.out
    have q1_0 := rw12 R1_1.out
    go_wp2_with fail
    clear k1_0 k2_0 k3_0 q0_0 q1_0
    go_ret
    exact ⟨by rw [HW.out]; rfl, (Only.fin HB0.out O1.out).alloc (Below.size (Only.fin HB0.out O1.out)) _⟩
  · skip
    have HW := Lib.hid (show_despawn (l := c.comps) hr hk hc)
    rw [hk, hc] at HX ⊢
    rw [hc] at HCM
    clear hr hk hc
    obtain ⟨W0, hW0⟩ : ∃ W, ((w.alloc (.cells #[.int .i64 c.log, .int .i64 c.pages, .int .i64 c.entities, .int .i64 c.gens, .slice A c.comps.length cap] 24)).alloc (.cells #[.int .i64 0, .int .i64 1, .bool x.cmd.loc, .int .i64 x.cmd.id.index, .int .i64 x.cmd.id.gen, .int .i64 x.cmd.comp, .slice A1 x.cmd.data.length c1, .int .i64 x.policy.room, .int .i64 x.policy.frames, .int .i64 x.n, .slice A2 x.fates.length c2, .slice A3 x.fuses.length c3] 35)) = W := ⟨_, rfl⟩
    have hz0 : W0.heap.size = w.heap.size + 2 := by rw [← hW0]; simp
    have hb0 : Below w.heap.size w W0 := by rw [← hW0]; exact ((Below.refl _ _).alloc (Nat.le_refl _) _).alloc (by first | (simp; done) | (simp; omega)) _
    have HZ := Lib.hid hz0
    have HB0 := Lib.hid hb0
    have R0_0 := Lib.hid (show W0.heap[w.heap.size]? = some (.cells #[.int .i64 c.log, .int .i64 c.pages, .int .i64 c.entities, .int .i64 c.gens, .slice A c.comps.length cap] 24 (0, 0)) by rw [← hW0]; exact alloc_old (alloc_at rfl))
    have R1_0 := Lib.hid (show W0.heap[w.heap.size + 1]? = some (.cells #[.int .i64 0, .int .i64 1, .bool x.cmd.loc, .int .i64 x.cmd.id.index, .int .i64 x.cmd.id.gen, .int .i64 x.cmd.comp, .slice A1 x.cmd.data.length c1, .int .i64 x.policy.room, .int .i64 x.policy.frames, .int .i64 x.n, .slice A2 x.fates.length c2, .slice A3 x.fuses.length c3] 35 (0, 0)) by rw [← hW0]; exact alloc_at (by simp))
    have O0 := Lib.hid (Only.refl (Box w 2) W0)
    have Vc_0 := Lib.hid (show rConf.val (In Q w 2) W0 (.agg #[.int .i64 c.log, .int .i64 c.pages, .int .i64 c.entities, .int .i64 c.gens, .slice A c.comps.length cap]) c from val_in HU.out hb0)
    have Vx_0 := Lib.hid (show rAct.val (In Q' w 2) W0 (.agg #[.int .i64 0, .int .i64 1, .bool x.cmd.loc, .int .i64 x.cmd.id.index, .int .i64 x.cmd.id.gen, .int .i64 x.cmd.comp, .slice A1 x.cmd.data.length c1, .int .i64 x.policy.room, .int .i64 x.policy.frames, .int .i64 x.n, .slice A2 x.fates.length c2, .slice A3 x.fuses.length c3]) x from val_in HX.out hb0)
    have Vm_0 := Lib.hid (show rCmd.val (In Q' w 2) W0 (.agg #[.int .i64 1, .bool x.cmd.loc, .int .i64 x.cmd.id.index, .int .i64 x.cmd.id.gen, .int .i64 x.cmd.comp, .slice A1 x.cmd.data.length c1]) x.cmd from val_in HCM.out hb0)
    have Vd_0 := Lib.hid (show Rep.byte.list.val (In Q' w 2) W0 (.slice A1 x.cmd.data.length c1) x.cmd.data from val_in HD.out hb0)
    clear hz0 hb0
    have q0_0 := rw5 R0_0.out
    have q1_0 := rw12 R1_0.out
    go_enter Tryz.func9, Tryz.ntmps9
    go_wp2_with fail
    try rw [hW0]
    clear hW0
    try go_wp2_with fail
    clear q0_0 q1_0
    refine (rright31_calls Vx_0.out).mono ?_
    rintro e w1 ⟨rfl, hb⟩
    have S1 := Lib.hid (show Only (Box w 2) W0 w1 from Only.of_below hb)
    have O1 := Lib.hid (O0.out.trans S1.out)
    have R0_1 := Lib.hid (row_call hb R0_0.out)
    have R1_1 := Lib.hid (row_call hb R1_0.out)
    have Vc_1 := Lib.hid (val_only Vc_0.out S1.out)
    have Vx_1 := Lib.hid (val_only Vx_0.out S1.out)
    have Vm_1 := Lib.hid (val_only Vm_0.out S1.out)
    have Vd_1 := Lib.hid (val_only Vd_0.out S1.out)
    clear hb
    rw [HR.out]
    have k1 : (w1.alloc (.cells #[.string ⟨#[115, 112, 97, 119, 110]⟩, .string ⟨#[100, 101, 115, 112, 97, 119, 110, 32]⟩, .string ⟨#[115, 101, 116, 32]⟩, .string ⟨#[114, 101, 109, 111, 118, 101, 32]⟩] 9)).heap[w.heap.size]? = some (.cells #[.int .i64 c.log, .int .i64 c.pages, .int .i64 c.entities, .int .i64 c.gens, .slice A c.comps.length cap] 24 (0, 0)) := alloc_old (R0_1.out)
    have k1_0 := rw5 k1
    clear k1
    have k2 : (w1.alloc (.cells #[.string ⟨#[115, 112, 97, 119, 110]⟩, .string ⟨#[100, 101, 115, 112, 97, 119, 110, 32]⟩, .string ⟨#[115, 101, 116, 32]⟩, .string ⟨#[114, 101, 109, 111, 118, 101, 32]⟩] 9)).heap[w.heap.size + 1]? = some (.cells #[.int .i64 0, .int .i64 1, .bool x.cmd.loc, .int .i64 x.cmd.id.index, .int .i64 x.cmd.id.gen, .int .i64 x.cmd.comp, .slice A1 x.cmd.data.length c1, .int .i64 x.policy.room, .int .i64 x.policy.frames, .int .i64 x.n, .slice A2 x.fates.length c2, .slice A3 x.fuses.length c3] 35 (0, 0)) := alloc_old (R1_1.out)
    have k2_0 := rw12 k2
    clear k2
    have k3 : (w1.alloc (.cells #[.string ⟨#[115, 112, 97, 119, 110]⟩, .string ⟨#[100, 101, 115, 112, 97, 119, 110, 32]⟩, .string ⟨#[115, 101, 116, 32]⟩, .string ⟨#[114, 101, 109, 111, 118, 101, 32]⟩] 9)).heap[w1.heap.size]? = some (.cells #[.string ⟨#[115, 112, 97, 119, 110]⟩, .string ⟨#[100, 101, 115, 112, 97, 119, 110, 32]⟩, .string ⟨#[115, 101, 116, 32]⟩, .string ⟨#[114, 101, 109, 111, 118, 101, 32]⟩] 9 (0, 0)) := alloc_at rfl
    have k3_0 := rw4 k3
    clear k3
    have q0_0 := rw5 R0_1.out
    have q1_0 := rw12 R1_1.out
    go_wp2_with fail
    clear k1_0 k2_0 k3_0 q0_0 q1_0
    refine nm_calls (fun w2 hnm => ?_)
    have HF1 := Lib.hid (show w.heap.size + 2 ≤ w1.heap.size by have := O1.out.size; have := HZ.out; omega)
    have S2 := Lib.hid (show Only (Box w 2) w1 w2 from (by rw [hnm]; exact (Only.refl (Box w 2) w1).alloc _))
    have O2 := Lib.hid (O1.out.trans S2.out)
    have R0_2 := Lib.hid (row_nm hnm (alloc_old (R0_1.out)))
    have R1_2 := Lib.hid (row_nm hnm (alloc_old (R1_1.out)))
    have Rw1_heap_size_2 := Lib.hid (show w2.heap[w1.heap.size]? = some (.cells #[.string ⟨#[115, 112, 97, 119, 110]⟩, .string ⟨#[100, 101, 115, 112, 97, 119, 110, 32]⟩, .string ⟨#[115, 101, 116, 32]⟩, .string ⟨#[114, 101, 109, 111, 118, 101, 32]⟩] 9 (0, 0)) from (by rw [hnm]; exact alloc_at rfl))
    have Vc_2 := Lib.hid (val_only Vc_1.out S2.out)
    have Vx_2 := Lib.hid (val_only Vx_1.out S2.out)
    have Vm_2 := Lib.hid (val_only Vm_1.out S2.out)
    have Vd_2 := Lib.hid (val_only Vd_1.out S2.out)
    clear hnm
    refine (rwhom_calls Vm_2.out).mono ?_
    rintro e w3 ⟨rfl, hb⟩
    have S3 := Lib.hid (show Only (Box w 2) w2 w3 from Only.of_below hb)
    have O3 := Lib.hid (O2.out.trans S3.out)
    have R0_3 := Lib.hid (row_call hb R0_2.out)
    have R1_3 := Lib.hid (row_call hb R1_2.out)
    have Rw1_heap_size_3 := Lib.hid (row_call hb Rw1_heap_size_2.out)
    have Vc_3 := Lib.hid (val_only Vc_2.out S3.out)
    have Vx_3 := Lib.hid (val_only Vx_2.out S3.out)
    have Vm_3 := Lib.hid (val_only Vm_2.out S3.out)
    have Vd_3 := Lib.hid (val_only Vd_2.out S3.out)
    clear hb
    have q0_0 := rw5 R0_3.out
    have q1_0 := rw12 R1_3.out
    have qn0_0 := rw4 Rw1_heap_size_3.out
    go_wp2_with fail
    clear q0_0 q1_0 qn0_0
    go_ret
    exact ⟨congrArg _ (bytes_eq (by rw [HW.out]; simp [ByteArray.data_append])), Only.fin HB0.out O3.out⟩
  · skip
    have HW := Lib.hid (show_set (l := c.comps) hr hk hc)
    rw [hk, hc] at HX ⊢
    rw [hc] at HCM
    clear hr hk hc
    obtain ⟨W0, hW0⟩ : ∃ W, ((w.alloc (.cells #[.int .i64 c.log, .int .i64 c.pages, .int .i64 c.entities, .int .i64 c.gens, .slice A c.comps.length cap] 24)).alloc (.cells #[.int .i64 0, .int .i64 2, .bool x.cmd.loc, .int .i64 x.cmd.id.index, .int .i64 x.cmd.id.gen, .int .i64 x.cmd.comp, .slice A1 x.cmd.data.length c1, .int .i64 x.policy.room, .int .i64 x.policy.frames, .int .i64 x.n, .slice A2 x.fates.length c2, .slice A3 x.fuses.length c3] 35)) = W := ⟨_, rfl⟩
    have hz0 : W0.heap.size = w.heap.size + 2 := by rw [← hW0]; simp
    have hb0 : Below w.heap.size w W0 := by rw [← hW0]; exact ((Below.refl _ _).alloc (Nat.le_refl _) _).alloc (by first | (simp; done) | (simp; omega)) _
    have HZ := Lib.hid hz0
    have HB0 := Lib.hid hb0
    have R0_0 := Lib.hid (show W0.heap[w.heap.size]? = some (.cells #[.int .i64 c.log, .int .i64 c.pages, .int .i64 c.entities, .int .i64 c.gens, .slice A c.comps.length cap] 24 (0, 0)) by rw [← hW0]; exact alloc_old (alloc_at rfl))
    have R1_0 := Lib.hid (show W0.heap[w.heap.size + 1]? = some (.cells #[.int .i64 0, .int .i64 2, .bool x.cmd.loc, .int .i64 x.cmd.id.index, .int .i64 x.cmd.id.gen, .int .i64 x.cmd.comp, .slice A1 x.cmd.data.length c1, .int .i64 x.policy.room, .int .i64 x.policy.frames, .int .i64 x.n, .slice A2 x.fates.length c2, .slice A3 x.fuses.length c3] 35 (0, 0)) by rw [← hW0]; exact alloc_at (by simp))
    have O0 := Lib.hid (Only.refl (Box w 2) W0)
    have Vc_0 := Lib.hid (show rConf.val (In Q w 2) W0 (.agg #[.int .i64 c.log, .int .i64 c.pages, .int .i64 c.entities, .int .i64 c.gens, .slice A c.comps.length cap]) c from val_in HU.out hb0)
    have Vx_0 := Lib.hid (show rAct.val (In Q' w 2) W0 (.agg #[.int .i64 0, .int .i64 2, .bool x.cmd.loc, .int .i64 x.cmd.id.index, .int .i64 x.cmd.id.gen, .int .i64 x.cmd.comp, .slice A1 x.cmd.data.length c1, .int .i64 x.policy.room, .int .i64 x.policy.frames, .int .i64 x.n, .slice A2 x.fates.length c2, .slice A3 x.fuses.length c3]) x from val_in HX.out hb0)
    have Vm_0 := Lib.hid (show rCmd.val (In Q' w 2) W0 (.agg #[.int .i64 2, .bool x.cmd.loc, .int .i64 x.cmd.id.index, .int .i64 x.cmd.id.gen, .int .i64 x.cmd.comp, .slice A1 x.cmd.data.length c1]) x.cmd from val_in HCM.out hb0)
    have Vd_0 := Lib.hid (show Rep.byte.list.val (In Q' w 2) W0 (.slice A1 x.cmd.data.length c1) x.cmd.data from val_in HD.out hb0)
    clear hz0 hb0
    have q0_0 := rw5 R0_0.out
    have q1_0 := rw12 R1_0.out
    go_enter Tryz.func9, Tryz.ntmps9
    go_wp2_with fail
    try rw [hW0]
    clear hW0
    try go_wp2_with fail
    clear q0_0 q1_0
    refine (rright31_calls Vx_0.out).mono ?_
    rintro e w1 ⟨rfl, hb⟩
    have S1 := Lib.hid (show Only (Box w 2) W0 w1 from Only.of_below hb)
    have O1 := Lib.hid (O0.out.trans S1.out)
    have R0_1 := Lib.hid (row_call hb R0_0.out)
    have R1_1 := Lib.hid (row_call hb R1_0.out)
    have Vc_1 := Lib.hid (val_only Vc_0.out S1.out)
    have Vx_1 := Lib.hid (val_only Vx_0.out S1.out)
    have Vm_1 := Lib.hid (val_only Vm_0.out S1.out)
    have Vd_1 := Lib.hid (val_only Vd_0.out S1.out)
    clear hb
    rw [HR.out]
    have k1 : (w1.alloc (.cells #[.string ⟨#[115, 112, 97, 119, 110]⟩, .string ⟨#[100, 101, 115, 112, 97, 119, 110, 32]⟩, .string ⟨#[115, 101, 116, 32]⟩, .string ⟨#[114, 101, 109, 111, 118, 101, 32]⟩] 9)).heap[w.heap.size]? = some (.cells #[.int .i64 c.log, .int .i64 c.pages, .int .i64 c.entities, .int .i64 c.gens, .slice A c.comps.length cap] 24 (0, 0)) := alloc_old (R0_1.out)
    have k1_0 := rw5 k1
    clear k1
    have k2 : (w1.alloc (.cells #[.string ⟨#[115, 112, 97, 119, 110]⟩, .string ⟨#[100, 101, 115, 112, 97, 119, 110, 32]⟩, .string ⟨#[115, 101, 116, 32]⟩, .string ⟨#[114, 101, 109, 111, 118, 101, 32]⟩] 9)).heap[w.heap.size + 1]? = some (.cells #[.int .i64 0, .int .i64 2, .bool x.cmd.loc, .int .i64 x.cmd.id.index, .int .i64 x.cmd.id.gen, .int .i64 x.cmd.comp, .slice A1 x.cmd.data.length c1, .int .i64 x.policy.room, .int .i64 x.policy.frames, .int .i64 x.n, .slice A2 x.fates.length c2, .slice A3 x.fuses.length c3] 35 (0, 0)) := alloc_old (R1_1.out)
    have k2_0 := rw12 k2
    clear k2
    have k3 : (w1.alloc (.cells #[.string ⟨#[115, 112, 97, 119, 110]⟩, .string ⟨#[100, 101, 115, 112, 97, 119, 110, 32]⟩, .string ⟨#[115, 101, 116, 32]⟩, .string ⟨#[114, 101, 109, 111, 118, 101, 32]⟩] 9)).heap[w1.heap.size]? = some (.cells #[.string ⟨#[115, 112, 97, 119, 110]⟩, .string ⟨#[100, 101, 115, 112, 97, 119, 110, 32]⟩, .string ⟨#[115, 101, 116, 32]⟩, .string ⟨#[114, 101, 109, 111, 118, 101, 32]⟩] 9 (0, 0)) := alloc_at rfl
    have k3_0 := rw4 k3
    clear k3
    have q0_0 := rw5 R0_1.out
    have q1_0 := rw12 R1_1.out
    go_wp2_with fail
    clear k1_0 k2_0 k3_0 q0_0 q1_0
    refine nm_calls (fun w2 hnm => ?_)
    have HF1 := Lib.hid (show w.heap.size + 2 ≤ w1.heap.size by have := O1.out.size; have := HZ.out; omega)
    have S2 := Lib.hid (show Only (Box w 2) w1 w2 from (by rw [hnm]; exact (Only.refl (Box w 2) w1).alloc _))
    have O2 := Lib.hid (O1.out.trans S2.out)
    have R0_2 := Lib.hid (row_nm hnm (alloc_old (R0_1.out)))
    have R1_2 := Lib.hid (row_nm hnm (alloc_old (R1_1.out)))
    have Rw1_heap_size_2 := Lib.hid (show w2.heap[w1.heap.size]? = some (.cells #[.string ⟨#[115, 112, 97, 119, 110]⟩, .string ⟨#[100, 101, 115, 112, 97, 119, 110, 32]⟩, .string ⟨#[115, 101, 116, 32]⟩, .string ⟨#[114, 101, 109, 111, 118, 101, 32]⟩] 9 (0, 0)) from (by rw [hnm]; exact alloc_at rfl))
    have Vc_2 := Lib.hid (val_only Vc_1.out S2.out)
    have Vx_2 := Lib.hid (val_only Vx_1.out S2.out)
    have Vm_2 := Lib.hid (val_only Vm_1.out S2.out)
    have Vd_2 := Lib.hid (val_only Vd_1.out S2.out)
    clear hnm
    refine (rwhom_calls Vm_2.out).mono ?_
    rintro e w3 ⟨rfl, hb⟩
    have S3 := Lib.hid (show Only (Box w 2) w2 w3 from Only.of_below hb)
    have O3 := Lib.hid (O2.out.trans S3.out)
    have R0_3 := Lib.hid (row_call hb R0_2.out)
    have R1_3 := Lib.hid (row_call hb R1_2.out)
    have Rw1_heap_size_3 := Lib.hid (row_call hb Rw1_heap_size_2.out)
    have Vc_3 := Lib.hid (val_only Vc_2.out S3.out)
    have Vx_3 := Lib.hid (val_only Vx_2.out S3.out)
    have Vm_3 := Lib.hid (val_only Vm_2.out S3.out)
    have Vd_3 := Lib.hid (val_only Vd_2.out S3.out)
    clear hb
    have q0_0 := rw5 R0_3.out
    have q1_0 := rw12 R1_3.out
    have qn0_0 := rw4 Rw1_heap_size_3.out
    go_wp2_with fail
    clear q0_0 q1_0 qn0_0
    refine (rpart_calls Vc_3.out HS.out.inn.c.k).mono ?_
    rintro e w4 ⟨rfl, hb⟩
    have S4 := Lib.hid (show Only (Box w 2) w3 w4 from Only.of_below hb)
    have O4 := Lib.hid (O3.out.trans S4.out)
    have R0_4 := Lib.hid (row_call hb R0_3.out)
    have R1_4 := Lib.hid (row_call hb R1_3.out)
    have Rw1_heap_size_4 := Lib.hid (row_call hb Rw1_heap_size_3.out)
    have Vc_4 := Lib.hid (val_only Vc_3.out S4.out)
    have Vx_4 := Lib.hid (val_only Vx_3.out S4.out)
    have Vm_4 := Lib.hid (val_only Vm_3.out S4.out)
    have Vd_4 := Lib.hid (val_only Vd_3.out S4.out)
    clear hb
    have q0_0 := rw5 R0_4.out
    have q1_0 := rw12 R1_4.out
    have qn0_0 := rw4 Rw1_heap_size_4.out
    go_wp2_with fail
    clear q0_0 q1_0 qn0_0
    refine (rhex_calls Vd_4.out HS.out.d).mono ?_
    rintro e w5 ⟨rfl, nn, hw⟩
    have hb : Below w4.heap.size w4 w5 := by rw [hw]; exact below_drewN (Below.refl _ _) nn
    clear hw
    have S5 := Lib.hid (show Only (Box w 2) w4 w5 from Only.of_below hb)
    have O5 := Lib.hid (O4.out.trans S5.out)
    have R0_5 := Lib.hid (row_call hb R0_4.out)
    have R1_5 := Lib.hid (row_call hb R1_4.out)
    have Rw1_heap_size_5 := Lib.hid (row_call hb Rw1_heap_size_4.out)
    have Vc_5 := Lib.hid (val_only Vc_4.out S5.out)
    have Vx_5 := Lib.hid (val_only Vx_4.out S5.out)
    have Vm_5 := Lib.hid (val_only Vm_4.out S5.out)
    have Vd_5 := Lib.hid (val_only Vd_4.out S5.out)
    clear hb
    have q0_0 := rw5 R0_5.out
    have q1_0 := rw12 R1_5.out
    have qn0_0 := rw4 Rw1_heap_size_5.out
    go_wp2_with fail
    clear q0_0 q1_0 qn0_0
    go_ret
    exact ⟨congrArg _ (bytes_eq (by rw [HW.out]; simp [ByteArray.data_append])), Only.fin HB0.out O5.out⟩
  · skip
    have HW := Lib.hid (show_remove (l := c.comps) hr hk hc)
    rw [hk, hc] at HX ⊢
    rw [hc] at HCM
    clear hr hk hc
    obtain ⟨W0, hW0⟩ : ∃ W, ((w.alloc (.cells #[.int .i64 c.log, .int .i64 c.pages, .int .i64 c.entities, .int .i64 c.gens, .slice A c.comps.length cap] 24)).alloc (.cells #[.int .i64 0, .int .i64 3, .bool x.cmd.loc, .int .i64 x.cmd.id.index, .int .i64 x.cmd.id.gen, .int .i64 x.cmd.comp, .slice A1 x.cmd.data.length c1, .int .i64 x.policy.room, .int .i64 x.policy.frames, .int .i64 x.n, .slice A2 x.fates.length c2, .slice A3 x.fuses.length c3] 35)) = W := ⟨_, rfl⟩
    have hz0 : W0.heap.size = w.heap.size + 2 := by rw [← hW0]; simp
    have hb0 : Below w.heap.size w W0 := by rw [← hW0]; exact ((Below.refl _ _).alloc (Nat.le_refl _) _).alloc (by first | (simp; done) | (simp; omega)) _
    have HZ := Lib.hid hz0
    have HB0 := Lib.hid hb0
    have R0_0 := Lib.hid (show W0.heap[w.heap.size]? = some (.cells #[.int .i64 c.log, .int .i64 c.pages, .int .i64 c.entities, .int .i64 c.gens, .slice A c.comps.length cap] 24 (0, 0)) by rw [← hW0]; exact alloc_old (alloc_at rfl))
    have R1_0 := Lib.hid (show W0.heap[w.heap.size + 1]? = some (.cells #[.int .i64 0, .int .i64 3, .bool x.cmd.loc, .int .i64 x.cmd.id.index, .int .i64 x.cmd.id.gen, .int .i64 x.cmd.comp, .slice A1 x.cmd.data.length c1, .int .i64 x.policy.room, .int .i64 x.policy.frames, .int .i64 x.n, .slice A2 x.fates.length c2, .slice A3 x.fuses.length c3] 35 (0, 0)) by rw [← hW0]; exact alloc_at (by simp))
    have O0 := Lib.hid (Only.refl (Box w 2) W0)
    have Vc_0 := Lib.hid (show rConf.val (In Q w 2) W0 (.agg #[.int .i64 c.log, .int .i64 c.pages, .int .i64 c.entities, .int .i64 c.gens, .slice A c.comps.length cap]) c from val_in HU.out hb0)
    have Vx_0 := Lib.hid (show rAct.val (In Q' w 2) W0 (.agg #[.int .i64 0, .int .i64 3, .bool x.cmd.loc, .int .i64 x.cmd.id.index, .int .i64 x.cmd.id.gen, .int .i64 x.cmd.comp, .slice A1 x.cmd.data.length c1, .int .i64 x.policy.room, .int .i64 x.policy.frames, .int .i64 x.n, .slice A2 x.fates.length c2, .slice A3 x.fuses.length c3]) x from val_in HX.out hb0)
    have Vm_0 := Lib.hid (show rCmd.val (In Q' w 2) W0 (.agg #[.int .i64 3, .bool x.cmd.loc, .int .i64 x.cmd.id.index, .int .i64 x.cmd.id.gen, .int .i64 x.cmd.comp, .slice A1 x.cmd.data.length c1]) x.cmd from val_in HCM.out hb0)
    have Vd_0 := Lib.hid (show Rep.byte.list.val (In Q' w 2) W0 (.slice A1 x.cmd.data.length c1) x.cmd.data from val_in HD.out hb0)
    clear hz0 hb0
    have q0_0 := rw5 R0_0.out
    have q1_0 := rw12 R1_0.out
    go_enter Tryz.func9, Tryz.ntmps9
    go_wp2_with fail
    try rw [hW0]
    clear hW0
    try go_wp2_with fail
    clear q0_0 q1_0
    refine (rright31_calls Vx_0.out).mono ?_
    rintro e w1 ⟨rfl, hb⟩
    have S1 := Lib.hid (show Only (Box w 2) W0 w1 from Only.of_below hb)
    have O1 := Lib.hid (O0.out.trans S1.out)
    have R0_1 := Lib.hid (row_call hb R0_0.out)
    have R1_1 := Lib.hid (row_call hb R1_0.out)
    have Vc_1 := Lib.hid (val_only Vc_0.out S1.out)
    have Vx_1 := Lib.hid (val_only Vx_0.out S1.out)
    have Vm_1 := Lib.hid (val_only Vm_0.out S1.out)
    have Vd_1 := Lib.hid (val_only Vd_0.out S1.out)
    clear hb
    rw [HR.out]
    have k1 : (w1.alloc (.cells #[.string ⟨#[115, 112, 97, 119, 110]⟩, .string ⟨#[100, 101, 115, 112, 97, 119, 110, 32]⟩, .string ⟨#[115, 101, 116, 32]⟩, .string ⟨#[114, 101, 109, 111, 118, 101, 32]⟩] 9)).heap[w.heap.size]? = some (.cells #[.int .i64 c.log, .int .i64 c.pages, .int .i64 c.entities, .int .i64 c.gens, .slice A c.comps.length cap] 24 (0, 0)) := alloc_old (R0_1.out)
    have k1_0 := rw5 k1
    clear k1
    have k2 : (w1.alloc (.cells #[.string ⟨#[115, 112, 97, 119, 110]⟩, .string ⟨#[100, 101, 115, 112, 97, 119, 110, 32]⟩, .string ⟨#[115, 101, 116, 32]⟩, .string ⟨#[114, 101, 109, 111, 118, 101, 32]⟩] 9)).heap[w.heap.size + 1]? = some (.cells #[.int .i64 0, .int .i64 3, .bool x.cmd.loc, .int .i64 x.cmd.id.index, .int .i64 x.cmd.id.gen, .int .i64 x.cmd.comp, .slice A1 x.cmd.data.length c1, .int .i64 x.policy.room, .int .i64 x.policy.frames, .int .i64 x.n, .slice A2 x.fates.length c2, .slice A3 x.fuses.length c3] 35 (0, 0)) := alloc_old (R1_1.out)
    have k2_0 := rw12 k2
    clear k2
    have k3 : (w1.alloc (.cells #[.string ⟨#[115, 112, 97, 119, 110]⟩, .string ⟨#[100, 101, 115, 112, 97, 119, 110, 32]⟩, .string ⟨#[115, 101, 116, 32]⟩, .string ⟨#[114, 101, 109, 111, 118, 101, 32]⟩] 9)).heap[w1.heap.size]? = some (.cells #[.string ⟨#[115, 112, 97, 119, 110]⟩, .string ⟨#[100, 101, 115, 112, 97, 119, 110, 32]⟩, .string ⟨#[115, 101, 116, 32]⟩, .string ⟨#[114, 101, 109, 111, 118, 101, 32]⟩] 9 (0, 0)) := alloc_at rfl
    have k3_0 := rw4 k3
    clear k3
    have q0_0 := rw5 R0_1.out
    have q1_0 := rw12 R1_1.out
    go_wp2_with fail
    clear k1_0 k2_0 k3_0 q0_0 q1_0
    refine nm_calls (fun w2 hnm => ?_)
    have HF1 := Lib.hid (show w.heap.size + 2 ≤ w1.heap.size by have := O1.out.size; have := HZ.out; omega)
    have S2 := Lib.hid (show Only (Box w 2) w1 w2 from (by rw [hnm]; exact (Only.refl (Box w 2) w1).alloc _))
    have O2 := Lib.hid (O1.out.trans S2.out)
    have R0_2 := Lib.hid (row_nm hnm (alloc_old (R0_1.out)))
    have R1_2 := Lib.hid (row_nm hnm (alloc_old (R1_1.out)))
    have Rw1_heap_size_2 := Lib.hid (show w2.heap[w1.heap.size]? = some (.cells #[.string ⟨#[115, 112, 97, 119, 110]⟩, .string ⟨#[100, 101, 115, 112, 97, 119, 110, 32]⟩, .string ⟨#[115, 101, 116, 32]⟩, .string ⟨#[114, 101, 109, 111, 118, 101, 32]⟩] 9 (0, 0)) from (by rw [hnm]; exact alloc_at rfl))
    have Vc_2 := Lib.hid (val_only Vc_1.out S2.out)
    have Vx_2 := Lib.hid (val_only Vx_1.out S2.out)
    have Vm_2 := Lib.hid (val_only Vm_1.out S2.out)
    have Vd_2 := Lib.hid (val_only Vd_1.out S2.out)
    clear hnm
    refine (rwhom_calls Vm_2.out).mono ?_
    rintro e w3 ⟨rfl, hb⟩
    have S3 := Lib.hid (show Only (Box w 2) w2 w3 from Only.of_below hb)
    have O3 := Lib.hid (O2.out.trans S3.out)
    have R0_3 := Lib.hid (row_call hb R0_2.out)
    have R1_3 := Lib.hid (row_call hb R1_2.out)
    have Rw1_heap_size_3 := Lib.hid (row_call hb Rw1_heap_size_2.out)
    have Vc_3 := Lib.hid (val_only Vc_2.out S3.out)
    have Vx_3 := Lib.hid (val_only Vx_2.out S3.out)
    have Vm_3 := Lib.hid (val_only Vm_2.out S3.out)
    have Vd_3 := Lib.hid (val_only Vd_2.out S3.out)
    clear hb
    have q0_0 := rw5 R0_3.out
    have q1_0 := rw12 R1_3.out
    have qn0_0 := rw4 Rw1_heap_size_3.out
    go_wp2_with fail
    clear q0_0 q1_0 qn0_0
    refine (rpart_calls Vc_3.out HS.out.inn.c.k).mono ?_
    rintro e w4 ⟨rfl, hb⟩
    have S4 := Lib.hid (show Only (Box w 2) w3 w4 from Only.of_below hb)
    have O4 := Lib.hid (O3.out.trans S4.out)
    have R0_4 := Lib.hid (row_call hb R0_3.out)
    have R1_4 := Lib.hid (row_call hb R1_3.out)
    have Rw1_heap_size_4 := Lib.hid (row_call hb Rw1_heap_size_3.out)
    have Vc_4 := Lib.hid (val_only Vc_3.out S4.out)
    have Vx_4 := Lib.hid (val_only Vx_3.out S4.out)
    have Vm_4 := Lib.hid (val_only Vm_3.out S4.out)
    have Vd_4 := Lib.hid (val_only Vd_3.out S4.out)
    clear hb
    have q0_0 := rw5 R0_4.out
    have q1_0 := rw12 R1_4.out
    have qn0_0 := rw4 Rw1_heap_size_4.out
    go_wp2_with fail
    clear q0_0 q1_0 qn0_0
    go_ret
    exact ⟨congrArg _ (bytes_eq (by rw [HW.out]; simp [ByteArray.data_append])), Only.fin HB0.out O4.out⟩
end Go.Proofs.YtejibngkeaamkaaGreatDoor
namespace Go.Proofs.YtejibngkeaamkaaGreatDoor
open Go.RowKit

set_option maxRecDepth 100000 in
set_option maxHeartbeats 4000000 in
/-- ref39.Show: an act of few words -/
theorem rshowFlat_calls {Q Q' : Nat → Prop} {w : World} {u v : Value} {c : DConf} {x : DAct} (hu : rConf.val Q w u c) (hx : rAct.val Q' w v x) (hs : ActSmall x) (hm : ∀ y ∈ c.comps, y.name.length ≤ 1000000) (hr : rightA x = true) (hk : 1 ≤ x.kind ∧ x.kind ≤ 5) :
    Calls Tryz.prog 9 #[u, v] w (ShowAns w (showS c.comps x)) := by
  have HS := Lib.hid hs
  obtain ⟨A, cap, rfl, _, _, _, _, _, _, _⟩ := rConf_val hu
  obtain ⟨A1, c1, A2, c2, A3, c3, rfl, f0, f1, f2, f3, f4, s1, f5, f6, f7, s2, s3⟩ := rAct_val hx
  have HU := Lib.hid hu
  have HX := Lib.hid hx
  have HCM := Lib.hid (show rCmd.val Q' w (.agg #[.int .i64 x.cmd.kind, .bool x.cmd.loc, .int .i64 x.cmd.id.index, .int .i64 x.cmd.id.gen, .int .i64 x.cmd.comp, .slice A1 x.cmd.data.length c1]) x.cmd from rCmd_agg f1 f2 f3 f4 s1)
  have HD := Lib.hid s1.val
  have HR := Lib.hid hr
  have HAF := Lib.hid s2
  have HAU := Lib.hid s3
  have hl1 : ((Lib.itoa x.policy.room).length : Int) ≤ 20 := by have := (itoa_len HS.out.inn.r).1; omega
  have hl2 : ((Lib.itoa x.policy.frames).length : Int) ≤ 20 := by have := (itoa_len HS.out.inn.f).1; omega
  have hl3 : ((Lib.itoa x.n).length : Int) ≤ 20 := by have := (itoa_len HS.out.inn.n).1; omega
  have hl4 : ((whomS x.cmd).length : Int) ≤ 50 := by have := whom_len (x := x.cmd) ⟨HS.out.inn.c.i, HS.out.inn.c.g⟩; omega
  have hl5 : ((partS c.comps x.cmd.comp).length : Int) ≤ 1000000 := by have := cpart_len HS.out.inn.c.k hm (by omega); omega
  have hl6 : ((hexS x.cmd.data).length : Int) ≤ 2000001 := by have := hex_len x.cmd.data; have := HS.out.d; omega
  clear hx hu hm hs f0 f1 f2 f3 f4 f5 f6 f7
  clear HAF HAU s1 s2 s3 hl4 hl5 hl6
  have hc : x.kind = 1 ∨ x.kind = 2 ∨ x.kind = 3 ∨ x.kind = 4 ∨ x.kind = 5 := by omega
  clear hk
  obtain hk | hk | hk | hk | hk := hc
  · skip
    have HW := Lib.hid (show_end (l := c.comps) hr hk)
    rw [hk] at HX ⊢
    clear hr hk
    obtain ⟨W0, hW0⟩ : ∃ W, ((w.alloc (.cells #[.int .i64 c.log, .int .i64 c.pages, .int .i64 c.entities, .int .i64 c.gens, .slice A c.comps.length cap] 24)).alloc (.cells #[.int .i64 1, .int .i64 x.cmd.kind, .bool x.cmd.loc, .int .i64 x.cmd.id.index, .int .i64 x.cmd.id.gen, .int .i64 x.cmd.comp, .slice A1 x.cmd.data.length c1, .int .i64 x.policy.room, .int .i64 x.policy.frames, .int .i64 x.n, .slice A2 x.fates.length c2, .slice A3 x.fuses.length c3] 35)) = W := ⟨_, rfl⟩
    have hz0 : W0.heap.size = w.heap.size + 2 := by rw [← hW0]; simp
    have hb0 : Below w.heap.size w W0 := by rw [← hW0]; exact ((Below.refl _ _).alloc (Nat.le_refl _) _).alloc (by first | (simp; done) | (simp; omega)) _
    have HZ := Lib.hid hz0
    have HB0 := Lib.hid hb0
    have R0_0 := Lib.hid (show W0.heap[w.heap.size]? = some (.cells #[.int .i64 c.log, .int .i64 c.pages, .int .i64 c.entities, .int .i64 c.gens, .slice A c.comps.length cap] 24 (0, 0)) by rw [← hW0]; exact alloc_old (alloc_at rfl))
    have R1_0 := Lib.hid (show W0.heap[w.heap.size + 1]? = some (.cells #[.int .i64 1, .int .i64 x.cmd.kind, .bool x.cmd.loc, .int .i64 x.cmd.id.index, .int .i64 x.cmd.id.gen, .int .i64 x.cmd.comp, .slice A1 x.cmd.data.length c1, .int .i64 x.policy.room, .int .i64 x.policy.frames, .int .i64 x.n, .slice A2 x.fates.length c2, .slice A3 x.fuses.length c3] 35 (0, 0)) by rw [← hW0]; exact alloc_at (by simp))
    have O0 := Lib.hid (Only.refl (Box w 2) W0)
    have Vc_0 := Lib.hid (show rConf.val (In Q w 2) W0 (.agg #[.int .i64 c.log, .int .i64 c.pages, .int .i64 c.entities, .int .i64 c.gens, .slice A c.comps.length cap]) c from val_in HU.out hb0)
    have Vx_0 := Lib.hid (show rAct.val (In Q' w 2) W0 (.agg #[.int .i64 1, .int .i64 x.cmd.kind, .bool x.cmd.loc, .int .i64 x.cmd.id.index, .int .i64 x.cmd.id.gen, .int .i64 x.cmd.comp, .slice A1 x.cmd.data.length c1, .int .i64 x.policy.room, .int .i64 x.policy.frames, .int .i64 x.n, .slice A2 x.fates.length c2, .slice A3 x.fuses.length c3]) x from val_in HX.out hb0)
    have Vm_0 := Lib.hid (show rCmd.val (In Q' w 2) W0 (.agg #[.int .i64 x.cmd.kind, .bool x.cmd.loc, .int .i64 x.cmd.id.index, .int .i64 x.cmd.id.gen, .int .i64 x.cmd.comp, .slice A1 x.cmd.data.length c1]) x.cmd from val_in HCM.out hb0)
    have Vd_0 := Lib.hid (show Rep.byte.list.val (In Q' w 2) W0 (.slice A1 x.cmd.data.length c1) x.cmd.data from val_in HD.out hb0)
    clear hz0 hb0
    have q0_0 := rw5 R0_0.out
    have q1_0 := rw12 R1_0.out
    go_enter Tryz.func9, Tryz.ntmps9
    go_wp2_with fail
    try rw [hW0]
    clear hW0
    try go_wp2_with fail
    clear q0_0 q1_0
    refine (rright31_calls Vx_0.out).mono ?_
    rintro e w1 ⟨rfl, hb⟩
    have S1 := Lib.hid (show Only (Box w 2) W0 w1 from Only.of_below hb)
    have O1 := Lib.hid (O0.out.trans S1.out)
    have R0_1 := Lib.hid (row_call hb R0_0.out)
    have R1_1 := Lib.hid (row_call hb R1_0.out)
    have Vc_1 := Lib.hid (val_only Vc_0.out S1.out)
    have Vx_1 := Lib.hid (val_only Vx_0.out S1.out)
    have Vm_1 := Lib.hid (val_only Vm_0.out S1.out)
    have Vd_1 := Lib.hid (val_only Vd_0.out S1.out)
    clear hb
    rw [HR.out]
    have k1 : (w1.alloc (.cells #[.string ⟨#[]⟩, .string ⟨#[101, 110, 100]⟩, .string ⟨#[115, 121, 110, 99]⟩, .string ⟨#[99, 104, 101, 99, 107]⟩] 9)).heap[w.heap.size]? = some (.cells #[.int .i64 c.log, .int .i64 c.pages, .int .i64 c.entities, .int .i64 c.gens, .slice A c.comps.length cap] 24 (0, 0)) := alloc_old (R0_1.out)
    have k1_0 := rw5 k1
    clear k1
    have k2 : (w1.alloc (.cells #[.string ⟨#[]⟩, .string ⟨#[101, 110, 100]⟩, .string ⟨#[115, 121, 110, 99]⟩, .string ⟨#[99, 104, 101, 99, 107]⟩] 9)).heap[w.heap.size + 1]? = some (.cells #[.int .i64 1, .int .i64 x.cmd.kind, .bool x.cmd.loc, .int .i64 x.cmd.id.index, .int .i64 x.cmd.id.gen, .int .i64 x.cmd.comp, .slice A1 x.cmd.data.length c1, .int .i64 x.policy.room, .int .i64 x.policy.frames, .int .i64 x.n, .slice A2 x.fates.length c2, .slice A3 x.fuses.length c3] 35 (0, 0)) := alloc_old (R1_1.out)
    have k2_0 := rw12 k2
    clear k2
    have k3 : (w1.alloc (.cells #[.string ⟨#[]⟩, .string ⟨#[101, 110, 100]⟩, .string ⟨#[115, 121, 110, 99]⟩, .string ⟨#[99, 104, 101, 99, 107]⟩] 9)).heap[w1.heap.size]? = some (.cells #[.string ⟨#[]⟩, .string ⟨#[101, 110, 100]⟩, .string ⟨#[115, 121, 110, 99]⟩, .string ⟨#[99, 104, 101, 99, 107]⟩] 9 (0, 0)) := alloc_at rfl
    have k3_0 := rw4 k3
    clear k3
    have q0_0 := rw5 R0_1.out
    have q1_0 := rw12 R1_1.out
    go_wp2_with fail
    clear k1_0 k2_0 k3_0 q0_0 q1_0
    go_ret
    exact ⟨by rw [HW.out]; rfl, (Only.fin HB0.out O1.out).alloc (Below.size (Only.fin HB0.out O1.out)) _⟩
  · skip
    have HW := Lib.hid (show_sync (l := c.comps) hr hk)
    rw [hk] at HX ⊢
    clear hr hk
    obtain ⟨W0, hW0⟩ : ∃ W, ((w.alloc (.cells #[.int .i64 c.log, .int .i64 c.pages, .int .i64 c.entities, .int .i64 c.gens, .slice A c.comps.length cap] 24)).alloc (.cells #[.int .i64 2, .int .i64 x.cmd.kind, .bool x.cmd.loc, .int .i64 x.cmd.id.index, .int .i64 x.cmd.id.gen, .int .i64 x.cmd.comp, .slice A1 x.cmd.data.length c1, .int .i64 x.policy.room, .int .i64 x.policy.frames, .int .i64 x.n, .slice A2 x.fates.length c2, .slice A3 x.fuses.length c3] 35)) = W := ⟨_, rfl⟩
    have hz0 : W0.heap.size = w.heap.size + 2 := by rw [← hW0]; simp
    have hb0 : Below w.heap.size w W0 := by rw [← hW0]; exact ((Below.refl _ _).alloc (Nat.le_refl _) _).alloc (by first | (simp; done) | (simp; omega)) _
    have HZ := Lib.hid hz0
    have HB0 := Lib.hid hb0
    have R0_0 := Lib.hid (show W0.heap[w.heap.size]? = some (.cells #[.int .i64 c.log, .int .i64 c.pages, .int .i64 c.entities, .int .i64 c.gens, .slice A c.comps.length cap] 24 (0, 0)) by rw [← hW0]; exact alloc_old (alloc_at rfl))
    have R1_0 := Lib.hid (show W0.heap[w.heap.size + 1]? = some (.cells #[.int .i64 2, .int .i64 x.cmd.kind, .bool x.cmd.loc, .int .i64 x.cmd.id.index, .int .i64 x.cmd.id.gen, .int .i64 x.cmd.comp, .slice A1 x.cmd.data.length c1, .int .i64 x.policy.room, .int .i64 x.policy.frames, .int .i64 x.n, .slice A2 x.fates.length c2, .slice A3 x.fuses.length c3] 35 (0, 0)) by rw [← hW0]; exact alloc_at (by simp))
    have O0 := Lib.hid (Only.refl (Box w 2) W0)
    have Vc_0 := Lib.hid (show rConf.val (In Q w 2) W0 (.agg #[.int .i64 c.log, .int .i64 c.pages, .int .i64 c.entities, .int .i64 c.gens, .slice A c.comps.length cap]) c from val_in HU.out hb0)
    have Vx_0 := Lib.hid (show rAct.val (In Q' w 2) W0 (.agg #[.int .i64 2, .int .i64 x.cmd.kind, .bool x.cmd.loc, .int .i64 x.cmd.id.index, .int .i64 x.cmd.id.gen, .int .i64 x.cmd.comp, .slice A1 x.cmd.data.length c1, .int .i64 x.policy.room, .int .i64 x.policy.frames, .int .i64 x.n, .slice A2 x.fates.length c2, .slice A3 x.fuses.length c3]) x from val_in HX.out hb0)
    have Vm_0 := Lib.hid (show rCmd.val (In Q' w 2) W0 (.agg #[.int .i64 x.cmd.kind, .bool x.cmd.loc, .int .i64 x.cmd.id.index, .int .i64 x.cmd.id.gen, .int .i64 x.cmd.comp, .slice A1 x.cmd.data.length c1]) x.cmd from val_in HCM.out hb0)
    have Vd_0 := Lib.hid (show Rep.byte.list.val (In Q' w 2) W0 (.slice A1 x.cmd.data.length c1) x.cmd.data from val_in HD.out hb0)
    clear hz0 hb0
    have q0_0 := rw5 R0_0.out
    have q1_0 := rw12 R1_0.out
    go_enter Tryz.func9, Tryz.ntmps9
    go_wp2_with fail
    try rw [hW0]
    clear hW0
    try go_wp2_with fail
    clear q0_0 q1_0
    refine (rright31_calls Vx_0.out).mono ?_
    rintro e w1 ⟨rfl, hb⟩
    have S1 := Lib.hid (show Only (Box w 2) W0 w1 from Only.of_below hb)
    have O1 := Lib.hid (O0.out.trans S1.out)
    have R0_1 := Lib.hid (row_call hb R0_0.out)
    have R1_1 := Lib.hid (row_call hb R1_0.out)
    have Vc_1 := Lib.hid (val_only Vc_0.out S1.out)
    have Vx_1 := Lib.hid (val_only Vx_0.out S1.out)
    have Vm_1 := Lib.hid (val_only Vm_0.out S1.out)
    have Vd_1 := Lib.hid (val_only Vd_0.out S1.out)
    clear hb
    rw [HR.out]
    have k1 : (w1.alloc (.cells #[.string ⟨#[]⟩, .string ⟨#[101, 110, 100]⟩, .string ⟨#[115, 121, 110, 99]⟩, .string ⟨#[99, 104, 101, 99, 107]⟩] 9)).heap[w.heap.size]? = some (.cells #[.int .i64 c.log, .int .i64 c.pages, .int .i64 c.entities, .int .i64 c.gens, .slice A c.comps.length cap] 24 (0, 0)) := alloc_old (R0_1.out)
    have k1_0 := rw5 k1
    clear k1
    have k2 : (w1.alloc (.cells #[.string ⟨#[]⟩, .string ⟨#[101, 110, 100]⟩, .string ⟨#[115, 121, 110, 99]⟩, .string ⟨#[99, 104, 101, 99, 107]⟩] 9)).heap[w.heap.size + 1]? = some (.cells #[.int .i64 2, .int .i64 x.cmd.kind, .bool x.cmd.loc, .int .i64 x.cmd.id.index, .int .i64 x.cmd.id.gen, .int .i64 x.cmd.comp, .slice A1 x.cmd.data.length c1, .int .i64 x.policy.room, .int .i64 x.policy.frames, .int .i64 x.n, .slice A2 x.fates.length c2, .slice A3 x.fuses.length c3] 35 (0, 0)) := alloc_old (R1_1.out)
    have k2_0 := rw12 k2
    clear k2
    have k3 : (w1.alloc (.cells #[.string ⟨#[]⟩, .string ⟨#[101, 110, 100]⟩, .string ⟨#[115, 121, 110, 99]⟩, .string ⟨#[99, 104, 101, 99, 107]⟩] 9)).heap[w1.heap.size]? = some (.cells #[.string ⟨#[]⟩, .string ⟨#[101, 110, 100]⟩, .string ⟨#[115, 121, 110, 99]⟩, .string ⟨#[99, 104, 101, 99, 107]⟩] 9 (0, 0)) := alloc_at rfl
    have k3_0 := rw4 k3
    clear k3
    have q0_0 := rw5 R0_1.out
    have q1_0 := rw12 R1_1.out
    go_wp2_with fail
    clear k1_0 k2_0 k3_0 q0_0 q1_0
    go_ret
    exact ⟨by rw [HW.out]; rfl, (Only.fin HB0.out O1.out).alloc (Below.size (Only.fin HB0.out O1.out)) _⟩
  · skip
    have HW := Lib.hid (show_check (l := c.comps) hr hk)
    rw [hk] at HX ⊢
    clear hr hk
    obtain ⟨W0, hW0⟩ : ∃ W, ((w.alloc (.cells #[.int .i64 c.log, .int .i64 c.pages, .int .i64 c.entities, .int .i64 c.gens, .slice A c.comps.length cap] 24)).alloc (.cells #[.int .i64 3, .int .i64 x.cmd.kind, .bool x.cmd.loc, .int .i64 x.cmd.id.index, .int .i64 x.cmd.id.gen, .int .i64 x.cmd.comp, .slice A1 x.cmd.data.length c1, .int .i64 x.policy.room, .int .i64 x.policy.frames, .int .i64 x.n, .slice A2 x.fates.length c2, .slice A3 x.fuses.length c3] 35)) = W := ⟨_, rfl⟩
    have hz0 : W0.heap.size = w.heap.size + 2 := by rw [← hW0]; simp
    have hb0 : Below w.heap.size w W0 := by rw [← hW0]; exact ((Below.refl _ _).alloc (Nat.le_refl _) _).alloc (by first | (simp; done) | (simp; omega)) _
    have HZ := Lib.hid hz0
    have HB0 := Lib.hid hb0
    have R0_0 := Lib.hid (show W0.heap[w.heap.size]? = some (.cells #[.int .i64 c.log, .int .i64 c.pages, .int .i64 c.entities, .int .i64 c.gens, .slice A c.comps.length cap] 24 (0, 0)) by rw [← hW0]; exact alloc_old (alloc_at rfl))
    have R1_0 := Lib.hid (show W0.heap[w.heap.size + 1]? = some (.cells #[.int .i64 3, .int .i64 x.cmd.kind, .bool x.cmd.loc, .int .i64 x.cmd.id.index, .int .i64 x.cmd.id.gen, .int .i64 x.cmd.comp, .slice A1 x.cmd.data.length c1, .int .i64 x.policy.room, .int .i64 x.policy.frames, .int .i64 x.n, .slice A2 x.fates.length c2, .slice A3 x.fuses.length c3] 35 (0, 0)) by rw [← hW0]; exact alloc_at (by simp))
    have O0 := Lib.hid (Only.refl (Box w 2) W0)
    have Vc_0 := Lib.hid (show rConf.val (In Q w 2) W0 (.agg #[.int .i64 c.log, .int .i64 c.pages, .int .i64 c.entities, .int .i64 c.gens, .slice A c.comps.length cap]) c from val_in HU.out hb0)
    have Vx_0 := Lib.hid (show rAct.val (In Q' w 2) W0 (.agg #[.int .i64 3, .int .i64 x.cmd.kind, .bool x.cmd.loc, .int .i64 x.cmd.id.index, .int .i64 x.cmd.id.gen, .int .i64 x.cmd.comp, .slice A1 x.cmd.data.length c1, .int .i64 x.policy.room, .int .i64 x.policy.frames, .int .i64 x.n, .slice A2 x.fates.length c2, .slice A3 x.fuses.length c3]) x from val_in HX.out hb0)
    have Vm_0 := Lib.hid (show rCmd.val (In Q' w 2) W0 (.agg #[.int .i64 x.cmd.kind, .bool x.cmd.loc, .int .i64 x.cmd.id.index, .int .i64 x.cmd.id.gen, .int .i64 x.cmd.comp, .slice A1 x.cmd.data.length c1]) x.cmd from val_in HCM.out hb0)
    have Vd_0 := Lib.hid (show Rep.byte.list.val (In Q' w 2) W0 (.slice A1 x.cmd.data.length c1) x.cmd.data from val_in HD.out hb0)
    clear hz0 hb0
    have q0_0 := rw5 R0_0.out
    have q1_0 := rw12 R1_0.out
    go_enter Tryz.func9, Tryz.ntmps9
    go_wp2_with fail
    try rw [hW0]
    clear hW0
    try go_wp2_with fail
    clear q0_0 q1_0
    refine (rright31_calls Vx_0.out).mono ?_
    rintro e w1 ⟨rfl, hb⟩
    have S1 := Lib.hid (show Only (Box w 2) W0 w1 from Only.of_below hb)
    have O1 := Lib.hid (O0.out.trans S1.out)
    have R0_1 := Lib.hid (row_call hb R0_0.out)
    have R1_1 := Lib.hid (row_call hb R1_0.out)
    have Vc_1 := Lib.hid (val_only Vc_0.out S1.out)
    have Vx_1 := Lib.hid (val_only Vx_0.out S1.out)
    have Vm_1 := Lib.hid (val_only Vm_0.out S1.out)
    have Vd_1 := Lib.hid (val_only Vd_0.out S1.out)
    clear hb
    rw [HR.out]
    have k1 : (w1.alloc (.cells #[.string ⟨#[]⟩, .string ⟨#[101, 110, 100]⟩, .string ⟨#[115, 121, 110, 99]⟩, .string ⟨#[99, 104, 101, 99, 107]⟩] 9)).heap[w.heap.size]? = some (.cells #[.int .i64 c.log, .int .i64 c.pages, .int .i64 c.entities, .int .i64 c.gens, .slice A c.comps.length cap] 24 (0, 0)) := alloc_old (R0_1.out)
    have k1_0 := rw5 k1
    clear k1
    have k2 : (w1.alloc (.cells #[.string ⟨#[]⟩, .string ⟨#[101, 110, 100]⟩, .string ⟨#[115, 121, 110, 99]⟩, .string ⟨#[99, 104, 101, 99, 107]⟩] 9)).heap[w.heap.size + 1]? = some (.cells #[.int .i64 3, .int .i64 x.cmd.kind, .bool x.cmd.loc, .int .i64 x.cmd.id.index, .int .i64 x.cmd.id.gen, .int .i64 x.cmd.comp, .slice A1 x.cmd.data.length c1, .int .i64 x.policy.room, .int .i64 x.policy.frames, .int .i64 x.n, .slice A2 x.fates.length c2, .slice A3 x.fuses.length c3] 35 (0, 0)) := alloc_old (R1_1.out)
    have k2_0 := rw12 k2
    clear k2
    have k3 : (w1.alloc (.cells #[.string ⟨#[]⟩, .string ⟨#[101, 110, 100]⟩, .string ⟨#[115, 121, 110, 99]⟩, .string ⟨#[99, 104, 101, 99, 107]⟩] 9)).heap[w1.heap.size]? = some (.cells #[.string ⟨#[]⟩, .string ⟨#[101, 110, 100]⟩, .string ⟨#[115, 121, 110, 99]⟩, .string ⟨#[99, 104, 101, 99, 107]⟩] 9 (0, 0)) := alloc_at rfl
    have k3_0 := rw4 k3
    clear k3
    have q0_0 := rw5 R0_1.out
    have q1_0 := rw12 R1_1.out
    go_wp2_with fail
    clear k1_0 k2_0 k3_0 q0_0 q1_0
    go_ret
    exact ⟨by rw [HW.out]; rfl, (Only.fin HB0.out O1.out).alloc (Below.size (Only.fin HB0.out O1.out)) _⟩
  · skip
    have HW := Lib.hid (show_upkeep (l := c.comps) hr hk)
    rw [hk] at HX ⊢
    clear hr hk
    obtain ⟨W0, hW0⟩ : ∃ W, ((w.alloc (.cells #[.int .i64 c.log, .int .i64 c.pages, .int .i64 c.entities, .int .i64 c.gens, .slice A c.comps.length cap] 24)).alloc (.cells #[.int .i64 4, .int .i64 x.cmd.kind, .bool x.cmd.loc, .int .i64 x.cmd.id.index, .int .i64 x.cmd.id.gen, .int .i64 x.cmd.comp, .slice A1 x.cmd.data.length c1, .int .i64 x.policy.room, .int .i64 x.policy.frames, .int .i64 x.n, .slice A2 x.fates.length c2, .slice A3 x.fuses.length c3] 35)) = W := ⟨_, rfl⟩
    have hz0 : W0.heap.size = w.heap.size + 2 := by rw [← hW0]; simp
    have hb0 : Below w.heap.size w W0 := by rw [← hW0]; exact ((Below.refl _ _).alloc (Nat.le_refl _) _).alloc (by first | (simp; done) | (simp; omega)) _
    have HZ := Lib.hid hz0
    have HB0 := Lib.hid hb0
    have R0_0 := Lib.hid (show W0.heap[w.heap.size]? = some (.cells #[.int .i64 c.log, .int .i64 c.pages, .int .i64 c.entities, .int .i64 c.gens, .slice A c.comps.length cap] 24 (0, 0)) by rw [← hW0]; exact alloc_old (alloc_at rfl))
    have R1_0 := Lib.hid (show W0.heap[w.heap.size + 1]? = some (.cells #[.int .i64 4, .int .i64 x.cmd.kind, .bool x.cmd.loc, .int .i64 x.cmd.id.index, .int .i64 x.cmd.id.gen, .int .i64 x.cmd.comp, .slice A1 x.cmd.data.length c1, .int .i64 x.policy.room, .int .i64 x.policy.frames, .int .i64 x.n, .slice A2 x.fates.length c2, .slice A3 x.fuses.length c3] 35 (0, 0)) by rw [← hW0]; exact alloc_at (by simp))
    have O0 := Lib.hid (Only.refl (Box w 2) W0)
    have Vc_0 := Lib.hid (show rConf.val (In Q w 2) W0 (.agg #[.int .i64 c.log, .int .i64 c.pages, .int .i64 c.entities, .int .i64 c.gens, .slice A c.comps.length cap]) c from val_in HU.out hb0)
    have Vx_0 := Lib.hid (show rAct.val (In Q' w 2) W0 (.agg #[.int .i64 4, .int .i64 x.cmd.kind, .bool x.cmd.loc, .int .i64 x.cmd.id.index, .int .i64 x.cmd.id.gen, .int .i64 x.cmd.comp, .slice A1 x.cmd.data.length c1, .int .i64 x.policy.room, .int .i64 x.policy.frames, .int .i64 x.n, .slice A2 x.fates.length c2, .slice A3 x.fuses.length c3]) x from val_in HX.out hb0)
    have Vm_0 := Lib.hid (show rCmd.val (In Q' w 2) W0 (.agg #[.int .i64 x.cmd.kind, .bool x.cmd.loc, .int .i64 x.cmd.id.index, .int .i64 x.cmd.id.gen, .int .i64 x.cmd.comp, .slice A1 x.cmd.data.length c1]) x.cmd from val_in HCM.out hb0)
    have Vd_0 := Lib.hid (show Rep.byte.list.val (In Q' w 2) W0 (.slice A1 x.cmd.data.length c1) x.cmd.data from val_in HD.out hb0)
    clear hz0 hb0
    have q0_0 := rw5 R0_0.out
    have q1_0 := rw12 R1_0.out
    go_enter Tryz.func9, Tryz.ntmps9
    go_wp2_with fail
    try rw [hW0]
    clear hW0
    try go_wp2_with fail
    clear q0_0 q1_0
    refine (rright31_calls Vx_0.out).mono ?_
    rintro e w1 ⟨rfl, hb⟩
    have S1 := Lib.hid (show Only (Box w 2) W0 w1 from Only.of_below hb)
    have O1 := Lib.hid (O0.out.trans S1.out)
    have R0_1 := Lib.hid (row_call hb R0_0.out)
    have R1_1 := Lib.hid (row_call hb R1_0.out)
    have Vc_1 := Lib.hid (val_only Vc_0.out S1.out)
    have Vx_1 := Lib.hid (val_only Vx_0.out S1.out)
    have Vm_1 := Lib.hid (val_only Vm_0.out S1.out)
    have Vd_1 := Lib.hid (val_only Vd_0.out S1.out)
    clear hb
    rw [HR.out]
    have q0_0 := rw5 R0_1.out
    have q1_0 := rw12 R1_1.out
    go_wp2_with fail
    clear q0_0 q1_0
    refine wp_region_held_drew (S := fun W => Below w1.heap.size w1 W) (by kernel_rfl) ((Below.refl _ _).drew) (fun s0 => ?_)
    obtain ⟨v1, hv0⟩ : ∃ V, V = w1.drew := ⟨_, rfl⟩
    rw [← hv0] at s0 ⊢
    have t1 : Below w1.heap.size w1 v1 := s0
    clear hv0 s0
    refine tkHV (i := 0) (v := .pointer (some ⟨w.heap.size + 1, 7, none⟩)) rfl t1 ?_
    go_simp
    refine tkHV (i := 1) (v := .pointer (some ⟨w.heap.size + 1, 7, none⟩)) rfl t1 ?_
    go_simp
    refine tkH (i := 2) (v := .int .i64 x.policy.room) rfl (Or.inl ⟨by rfl, fun w' h => by have e := row_call (h : Below w1.heap.size w1 w') R1_1.out; have e0 := cell_row e 0; have e1 := cell_row e 1; have e2 := cell_row e 2; have e3 := cell_row e 3; have e4 := cell_row e 4; have e5 := cell_row e 5; have e6 := cell_row e 6; have e7 := cell_row e 7; have e8 := cell_row e 8; have e9 := cell_row e 9; have e10 := cell_row e 10; have e11 := cell_row e 11; go_simp⟩) t1 ?_
    go_simp
    refine tkHV (i := 6) (v := .pointer (some ⟨w.heap.size + 1, 7, none⟩)) rfl t1 ?_
    go_simp
    refine tkHV (i := 7) (v := .pointer (some ⟨w.heap.size + 1, 8, none⟩)) rfl t1 ?_
    go_simp
    refine tkH (i := 8) (v := .int .i64 x.policy.frames) rfl (Or.inl ⟨by rfl, fun w' h => by have e := row_call (h : Below w1.heap.size w1 w') R1_1.out; have e0 := cell_row e 0; have e1 := cell_row e 1; have e2 := cell_row e 2; have e3 := cell_row e 3; have e4 := cell_row e 4; have e5 := cell_row e 5; have e6 := cell_row e 6; have e7 := cell_row e 7; have e8 := cell_row e 8; have e9 := cell_row e 9; have e10 := cell_row e 10; have e11 := cell_row e 11; go_simp⟩) t1 ?_
    go_simp
    refine wpAnyH_all (rs := [3]) (by kernel_rfl) (by simp) ?_
    intro i hi
    obtain rfl : i = 3 := by simpa using hi
    clear hi
    refine wpOp_step rfl (fun K hK => ?_)
    go_simp
    refine (dec_calls HS.out.inn.r _).mono ?_
    rintro e v2 ⟨rfl, hw⟩
    have hb : Below v1.heap.size v1 v2 := by rw [hw]; exact Below.refl _ _
    clear hw
    have t2 : Below w1.heap.size w1 v2 := Below.trans t1 (hb.mono (Below.size t1))
    refine hK _ _ ⟨t2, ?_⟩
    clear hb
    clear hK K
    refine tkHV (i := 4) (v := .string (⟨#[117, 112, 107, 101, 101, 112, 32]⟩ ++ ⟨(Lib.itoa x.policy.room).toArray⟩)) rfl t2 ?_
    go_simp
    refine tkHV (i := 5) (v := .string ((⟨#[117, 112, 107, 101, 101, 112, 32]⟩ ++ ⟨(Lib.itoa x.policy.room).toArray⟩) ++ ⟨#[32]⟩)) rfl t2 ?_
    go_simp
    refine wpAnyH_all (rs := [9]) (by kernel_rfl) (by simp) ?_
    intro i hi
    obtain rfl : i = 9 := by simpa using hi
    clear hi
    refine wpOp_step rfl (fun K hK => ?_)
    go_simp
    refine (dec_calls HS.out.inn.f _).mono ?_
    rintro e v3 ⟨rfl, hw⟩
    have hb : Below v2.heap.size v2 v3 := by rw [hw]; exact Below.refl _ _
    clear hw
    have t3 : Below w1.heap.size w1 v3 := Below.trans t2 (hb.mono (Below.size t2))
    refine hK _ _ ⟨t3, ?_⟩
    clear hb
    clear hK K
    refine tkHV (i := 10) (v := .string (((⟨#[117, 112, 107, 101, 101, 112, 32]⟩ ++ ⟨(Lib.itoa x.policy.room).toArray⟩) ++ ⟨#[32]⟩) ++ ⟨(Lib.itoa x.policy.frames).toArray⟩)) rfl t3 ?_
    go_simp
    refine tkHV (i := 11) (v := .string (((⟨#[117, 112, 107, 101, 101, 112, 32]⟩ ++ ⟨(Lib.itoa x.policy.room).toArray⟩) ++ ⟨#[32]⟩) ++ ⟨(Lib.itoa x.policy.frames).toArray⟩)) rfl t3 ?_
    go_simp
    refine wpAnyH_done (by kernel_rfl) ?_ _
    have S2 := Lib.hid (show Only (Box w 2) w1 v3 from Only.of_below t3)
    have O2 := Lib.hid (O1.out.trans S2.out)
    have R0_2 := Lib.hid (row_call t3 R0_1.out)
    have R1_2 := Lib.hid (row_call t3 R1_1.out)
    have Vc_2 := Lib.hid (val_only Vc_1.out S2.out)
    have Vx_2 := Lib.hid (val_only Vx_1.out S2.out)
    have Vm_2 := Lib.hid (val_only Vm_1.out S2.out)
    have Vd_2 := Lib.hid (val_only Vd_1.out S2.out)
    go_wp2_with fail
    go_ret
    exact ⟨congrArg _ (bytes_eq (by rw [HW.out]; simp [ByteArray.data_append])), Only.fin HB0.out O2.out⟩
  · skip
    have HW := Lib.hid (show_fuse (l := c.comps) hr hk)
    rw [hk] at HX ⊢
    clear hr hk
    obtain ⟨W0, hW0⟩ : ∃ W, ((w.alloc (.cells #[.int .i64 c.log, .int .i64 c.pages, .int .i64 c.entities, .int .i64 c.gens, .slice A c.comps.length cap] 24)).alloc (.cells #[.int .i64 5, .int .i64 x.cmd.kind, .bool x.cmd.loc, .int .i64 x.cmd.id.index, .int .i64 x.cmd.id.gen, .int .i64 x.cmd.comp, .slice A1 x.cmd.data.length c1, .int .i64 x.policy.room, .int .i64 x.policy.frames, .int .i64 x.n, .slice A2 x.fates.length c2, .slice A3 x.fuses.length c3] 35)) = W := ⟨_, rfl⟩
    have hz0 : W0.heap.size = w.heap.size + 2 := by rw [← hW0]; simp
    have hb0 : Below w.heap.size w W0 := by rw [← hW0]; exact ((Below.refl _ _).alloc (Nat.le_refl _) _).alloc (by first | (simp; done) | (simp; omega)) _
    have HZ := Lib.hid hz0
    have HB0 := Lib.hid hb0
    have R0_0 := Lib.hid (show W0.heap[w.heap.size]? = some (.cells #[.int .i64 c.log, .int .i64 c.pages, .int .i64 c.entities, .int .i64 c.gens, .slice A c.comps.length cap] 24 (0, 0)) by rw [← hW0]; exact alloc_old (alloc_at rfl))
    have R1_0 := Lib.hid (show W0.heap[w.heap.size + 1]? = some (.cells #[.int .i64 5, .int .i64 x.cmd.kind, .bool x.cmd.loc, .int .i64 x.cmd.id.index, .int .i64 x.cmd.id.gen, .int .i64 x.cmd.comp, .slice A1 x.cmd.data.length c1, .int .i64 x.policy.room, .int .i64 x.policy.frames, .int .i64 x.n, .slice A2 x.fates.length c2, .slice A3 x.fuses.length c3] 35 (0, 0)) by rw [← hW0]; exact alloc_at (by simp))
    have O0 := Lib.hid (Only.refl (Box w 2) W0)
    have Vc_0 := Lib.hid (show rConf.val (In Q w 2) W0 (.agg #[.int .i64 c.log, .int .i64 c.pages, .int .i64 c.entities, .int .i64 c.gens, .slice A c.comps.length cap]) c from val_in HU.out hb0)
    have Vx_0 := Lib.hid (show rAct.val (In Q' w 2) W0 (.agg #[.int .i64 5, .int .i64 x.cmd.kind, .bool x.cmd.loc, .int .i64 x.cmd.id.index, .int .i64 x.cmd.id.gen, .int .i64 x.cmd.comp, .slice A1 x.cmd.data.length c1, .int .i64 x.policy.room, .int .i64 x.policy.frames, .int .i64 x.n, .slice A2 x.fates.length c2, .slice A3 x.fuses.length c3]) x from val_in HX.out hb0)
    have Vm_0 := Lib.hid (show rCmd.val (In Q' w 2) W0 (.agg #[.int .i64 x.cmd.kind, .bool x.cmd.loc, .int .i64 x.cmd.id.index, .int .i64 x.cmd.id.gen, .int .i64 x.cmd.comp, .slice A1 x.cmd.data.length c1]) x.cmd from val_in HCM.out hb0)
    have Vd_0 := Lib.hid (show Rep.byte.list.val (In Q' w 2) W0 (.slice A1 x.cmd.data.length c1) x.cmd.data from val_in HD.out hb0)
    clear hz0 hb0
    have q0_0 := rw5 R0_0.out
    have q1_0 := rw12 R1_0.out
    go_enter Tryz.func9, Tryz.ntmps9
    go_wp2_with fail
    try rw [hW0]
    clear hW0
    try go_wp2_with fail
    clear q0_0 q1_0
    refine (rright31_calls Vx_0.out).mono ?_
    rintro e w1 ⟨rfl, hb⟩
    have S1 := Lib.hid (show Only (Box w 2) W0 w1 from Only.of_below hb)
    have O1 := Lib.hid (O0.out.trans S1.out)
    have R0_1 := Lib.hid (row_call hb R0_0.out)
    have R1_1 := Lib.hid (row_call hb R1_0.out)
    have Vc_1 := Lib.hid (val_only Vc_0.out S1.out)
    have Vx_1 := Lib.hid (val_only Vx_0.out S1.out)
    have Vm_1 := Lib.hid (val_only Vm_0.out S1.out)
    have Vd_1 := Lib.hid (val_only Vd_0.out S1.out)
    clear hb
    rw [HR.out]
    have q0_0 := rw5 R0_1.out
    have q1_0 := rw12 R1_1.out
    go_wp2_with fail
    clear q0_0 q1_0
    refine (dec_calls HS.out.inn.n _).mono ?_
    rintro e w2 ⟨rfl, hw⟩
    have hb : Below w1.heap.size w1 w2 := by rw [hw]; exact Below.refl _ _
    clear hw
    have S2 := Lib.hid (show Only (Box w 2) w1 w2 from Only.of_below hb)
    have O2 := Lib.hid (O1.out.trans S2.out)
    have R0_2 := Lib.hid (row_call hb R0_1.out)
    have R1_2 := Lib.hid (row_call hb R1_1.out)
    have Vc_2 := Lib.hid (val_only Vc_1.out S2.out)
    have Vx_2 := Lib.hid (val_only Vx_1.out S2.out)
    have Vm_2 := Lib.hid (val_only Vm_1.out S2.out)
    have Vd_2 := Lib.hid (val_only Vd_1.out S2.out)
    clear hb
    go_wp2_with fail
    go_ret
    exact ⟨congrArg _ (bytes_eq (by rw [HW.out]; simp [ByteArray.data_append])), Only.fin HB0.out O2.out⟩

set_option maxRecDepth 100000 in
set_option maxHeartbeats 4000000 in
/-- ref39.Show: no act -/
theorem rshowNot_calls {Q Q' : Nat → Prop} {w : World} {u v : Value} {c : DConf} {x : DAct} (hu : rConf.val Q w u c) (hx : rAct.val Q' w v x) (hs : ActSmall x) (hm : ∀ y ∈ c.comps, y.name.length ≤ 1000000) (hr : rightA x = false) :
    Calls Tryz.prog 9 #[u, v] w (ShowAns w (showS c.comps x)) := by
  have HS := Lib.hid hs
  obtain ⟨A, cap, rfl, _, _, _, _, _, _, _⟩ := rConf_val hu
  obtain ⟨A1, c1, A2, c2, A3, c3, rfl, f0, f1, f2, f3, f4, s1, f5, f6, f7, s2, s3⟩ := rAct_val hx
  have HU := Lib.hid hu
  have HX := Lib.hid hx
  have HCM := Lib.hid (show rCmd.val Q' w (.agg #[.int .i64 x.cmd.kind, .bool x.cmd.loc, .int .i64 x.cmd.id.index, .int .i64 x.cmd.id.gen, .int .i64 x.cmd.comp, .slice A1 x.cmd.data.length c1]) x.cmd from rCmd_agg f1 f2 f3 f4 s1)
  have HD := Lib.hid s1.val
  have HR := Lib.hid hr
  have HAF := Lib.hid s2
  have HAU := Lib.hid s3
  have hl1 : ((Lib.itoa x.policy.room).length : Int) ≤ 20 := by have := (itoa_len HS.out.inn.r).1; omega
  have hl2 : ((Lib.itoa x.policy.frames).length : Int) ≤ 20 := by have := (itoa_len HS.out.inn.f).1; omega
  have hl3 : ((Lib.itoa x.n).length : Int) ≤ 20 := by have := (itoa_len HS.out.inn.n).1; omega
  have hl4 : ((whomS x.cmd).length : Int) ≤ 50 := by have := whom_len (x := x.cmd) ⟨HS.out.inn.c.i, HS.out.inn.c.g⟩; omega
  have hl5 : ((partS c.comps x.cmd.comp).length : Int) ≤ 1000000 := by have := cpart_len HS.out.inn.c.k hm (by omega); omega
  have hl6 : ((hexS x.cmd.data).length : Int) ≤ 2000001 := by have := hex_len x.cmd.data; have := HS.out.d; omega
  clear hx hu hm hs f0 f1 f2 f3 f4 f5 f6 f7
  have HW := Lib.hid (show_not (l := c.comps) hr)
  clear hr HAF HAU s1 s2 s3 hl1 hl2 hl3 hl4 hl5 hl6
  obtain ⟨W0, hW0⟩ : ∃ W, ((w.alloc (.cells #[.int .i64 c.log, .int .i64 c.pages, .int .i64 c.entities, .int .i64 c.gens, .slice A c.comps.length cap] 24)).alloc (.cells #[.int .i64 x.kind, .int .i64 x.cmd.kind, .bool x.cmd.loc, .int .i64 x.cmd.id.index, .int .i64 x.cmd.id.gen, .int .i64 x.cmd.comp, .slice A1 x.cmd.data.length c1, .int .i64 x.policy.room, .int .i64 x.policy.frames, .int .i64 x.n, .slice A2 x.fates.length c2, .slice A3 x.fuses.length c3] 35)) = W := ⟨_, rfl⟩
  have hz0 : W0.heap.size = w.heap.size + 2 := by rw [← hW0]; simp
  have hb0 : Below w.heap.size w W0 := by rw [← hW0]; exact ((Below.refl _ _).alloc (Nat.le_refl _) _).alloc (by first | (simp; done) | (simp; omega)) _
  have HZ := Lib.hid hz0
  have HB0 := Lib.hid hb0
  have R0_0 := Lib.hid (show W0.heap[w.heap.size]? = some (.cells #[.int .i64 c.log, .int .i64 c.pages, .int .i64 c.entities, .int .i64 c.gens, .slice A c.comps.length cap] 24 (0, 0)) by rw [← hW0]; exact alloc_old (alloc_at rfl))
  have R1_0 := Lib.hid (show W0.heap[w.heap.size + 1]? = some (.cells #[.int .i64 x.kind, .int .i64 x.cmd.kind, .bool x.cmd.loc, .int .i64 x.cmd.id.index, .int .i64 x.cmd.id.gen, .int .i64 x.cmd.comp, .slice A1 x.cmd.data.length c1, .int .i64 x.policy.room, .int .i64 x.policy.frames, .int .i64 x.n, .slice A2 x.fates.length c2, .slice A3 x.fuses.length c3] 35 (0, 0)) by rw [← hW0]; exact alloc_at (by simp))
  have O0 := Lib.hid (Only.refl (Box w 2) W0)
  have Vc_0 := Lib.hid (show rConf.val (In Q w 2) W0 (.agg #[.int .i64 c.log, .int .i64 c.pages, .int .i64 c.entities, .int .i64 c.gens, .slice A c.comps.length cap]) c from val_in HU.out hb0)
  have Vx_0 := Lib.hid (show rAct.val (In Q' w 2) W0 (.agg #[.int .i64 x.kind, .int .i64 x.cmd.kind, .bool x.cmd.loc, .int .i64 x.cmd.id.index, .int .i64 x.cmd.id.gen, .int .i64 x.cmd.comp, .slice A1 x.cmd.data.length c1, .int .i64 x.policy.room, .int .i64 x.policy.frames, .int .i64 x.n, .slice A2 x.fates.length c2, .slice A3 x.fuses.length c3]) x from val_in HX.out hb0)
  have Vm_0 := Lib.hid (show rCmd.val (In Q' w 2) W0 (.agg #[.int .i64 x.cmd.kind, .bool x.cmd.loc, .int .i64 x.cmd.id.index, .int .i64 x.cmd.id.gen, .int .i64 x.cmd.comp, .slice A1 x.cmd.data.length c1]) x.cmd from val_in HCM.out hb0)
  have Vd_0 := Lib.hid (show Rep.byte.list.val (In Q' w 2) W0 (.slice A1 x.cmd.data.length c1) x.cmd.data from val_in HD.out hb0)
  clear hz0 hb0
  have q0_0 := rw5 R0_0.out
  have q1_0 := rw12 R1_0.out
  go_enter Tryz.func9, Tryz.ntmps9
  go_wp2_with fail
  try rw [hW0]
  clear hW0
  try go_wp2_with fail
  clear q0_0 q1_0
  refine (rright31_calls Vx_0.out).mono ?_
  rintro e w1 ⟨rfl, hb⟩
  have S1 := Lib.hid (show Only (Box w 2) W0 w1 from Only.of_below hb)
  have O1 := Lib.hid (O0.out.trans S1.out)
  have R0_1 := Lib.hid (row_call hb R0_0.out)
  have R1_1 := Lib.hid (row_call hb R1_0.out)
  have Vc_1 := Lib.hid (val_only Vc_0.out S1.out)
  have Vx_1 := Lib.hid (val_only Vx_0.out S1.out)
  have Vm_1 := Lib.hid (val_only Vm_0.out S1.out)
  have Vd_1 := Lib.hid (val_only Vd_0.out S1.out)
  clear hb
  rw [HR.out]
  have q0_0 := rw5 R0_1.out
  have q1_0 := rw12 R1_1.out
  go_wp2_with fail
  go_ret
  exact ⟨by rw [HW.out]; rfl, Only.fin HB0.out O1.out⟩
end Go.Proofs.YtejibngkeaamkaaGreatDoor
namespace Go.Proofs.YtejibngkeaamkaaGreatDoor
open Go.RowKit

set_option maxRecDepth 100000 in
set_option maxHeartbeats 4000000 in
/-- ref39.Show: a failure of the power -/
theorem rshowCrash_calls {Q Q' : Nat → Prop} {w : World} {u v : Value} {c : DConf} {x : DAct} (hu : rConf.val Q w u c) (hx : rAct.val Q' w v x) (hs : ActSmall x) (hm : ∀ y ∈ c.comps, y.name.length ≤ 1000000) (hr : rightA x = true) (hk : x.kind = 6) :
    Calls Tryz.prog 9 #[u, v] w (ShowAns w (showS c.comps x)) := by
  have HS := Lib.hid hs
  obtain ⟨A, cap, rfl, _, _, _, _, _, _, _⟩ := rConf_val hu
  obtain ⟨A1, c1, A2, c2, A3, c3, rfl, f0, f1, f2, f3, f4, s1, f5, f6, f7, s2, s3⟩ := rAct_val hx
  have HU := Lib.hid hu
  have HX := Lib.hid hx
  have HCM := Lib.hid (show rCmd.val Q' w (.agg #[.int .i64 x.cmd.kind, .bool x.cmd.loc, .int .i64 x.cmd.id.index, .int .i64 x.cmd.id.gen, .int .i64 x.cmd.comp, .slice A1 x.cmd.data.length c1]) x.cmd from rCmd_agg f1 f2 f3 f4 s1)
  have HD := Lib.hid s1.val
  have HR := Lib.hid hr
  have HAF := Lib.hid s2
  have HAU := Lib.hid s3
  have hl1 : ((Lib.itoa x.policy.room).length : Int) ≤ 20 := by have := (itoa_len HS.out.inn.r).1; omega
  have hl2 : ((Lib.itoa x.policy.frames).length : Int) ≤ 20 := by have := (itoa_len HS.out.inn.f).1; omega
  have hl3 : ((Lib.itoa x.n).length : Int) ≤ 20 := by have := (itoa_len HS.out.inn.n).1; omega
  have hl4 : ((whomS x.cmd).length : Int) ≤ 50 := by have := whom_len (x := x.cmd) ⟨HS.out.inn.c.i, HS.out.inn.c.g⟩; omega
  have hl5 : ((partS c.comps x.cmd.comp).length : Int) ≤ 1000000 := by have := cpart_len HS.out.inn.c.k hm (by omega); omega
  have hl6 : ((hexS x.cmd.data).length : Int) ≤ 2000001 := by have := hex_len x.cmd.data; have := HS.out.d; omega
  clear hx hu hm hs f0 f1 f2 f3 f4 f5 f6 f7
  have HW := Lib.hid (show_crash (l := c.comps) hr hk)
  rw [hk] at HX ⊢
  clear hr hk s1 s2 s3 hl1 hl2 hl3 hl4 hl5 hl6
  obtain ⟨W0, hW0⟩ : ∃ W, ((w.alloc (.cells #[.int .i64 c.log, .int .i64 c.pages, .int .i64 c.entities, .int .i64 c.gens, .slice A c.comps.length cap] 24)).alloc (.cells #[.int .i64 6, .int .i64 x.cmd.kind, .bool x.cmd.loc, .int .i64 x.cmd.id.index, .int .i64 x.cmd.id.gen, .int .i64 x.cmd.comp, .slice A1 x.cmd.data.length c1, .int .i64 x.policy.room, .int .i64 x.policy.frames, .int .i64 x.n, .slice A2 x.fates.length c2, .slice A3 x.fuses.length c3] 35)) = W := ⟨_, rfl⟩
  have hz0 : W0.heap.size = w.heap.size + 2 := by rw [← hW0]; simp
  have hb0 : Below w.heap.size w W0 := by rw [← hW0]; exact ((Below.refl _ _).alloc (Nat.le_refl _) _).alloc (by first | (simp; done) | (simp; omega)) _
  have HZ := Lib.hid hz0
  have HB0 := Lib.hid hb0
  have R0_0 := Lib.hid (show W0.heap[w.heap.size]? = some (.cells #[.int .i64 c.log, .int .i64 c.pages, .int .i64 c.entities, .int .i64 c.gens, .slice A c.comps.length cap] 24 (0, 0)) by rw [← hW0]; exact alloc_old (alloc_at rfl))
  have R1_0 := Lib.hid (show W0.heap[w.heap.size + 1]? = some (.cells #[.int .i64 6, .int .i64 x.cmd.kind, .bool x.cmd.loc, .int .i64 x.cmd.id.index, .int .i64 x.cmd.id.gen, .int .i64 x.cmd.comp, .slice A1 x.cmd.data.length c1, .int .i64 x.policy.room, .int .i64 x.policy.frames, .int .i64 x.n, .slice A2 x.fates.length c2, .slice A3 x.fuses.length c3] 35 (0, 0)) by rw [← hW0]; exact alloc_at (by simp))
  have O0 := Lib.hid (Only.refl (Box w 2) W0)
  have Vx_0 := Lib.hid (show rAct.val (In Q' w 2) W0 (.agg #[.int .i64 6, .int .i64 x.cmd.kind, .bool x.cmd.loc, .int .i64 x.cmd.id.index, .int .i64 x.cmd.id.gen, .int .i64 x.cmd.comp, .slice A1 x.cmd.data.length c1, .int .i64 x.policy.room, .int .i64 x.policy.frames, .int .i64 x.n, .slice A2 x.fates.length c2, .slice A3 x.fuses.length c3]) x from val_in HX.out hb0)
  have HFT := Lib.hid (show ∀ V, Below W0.heap.size W0 V → rFate.At Q' V A2 x.fates from fun V h => Rep.At.keep (w := w) (fun b hb hl => ⟨hb, (hb0.trans (h.mono hb0.size)).block b hl.lt⟩) HAF.out.2.2)
  have HUT := Lib.hid (show ∀ V, Below W0.heap.size W0 V → (Rep.int .i64).At Q' V A3 x.fuses from fun V h => Rep.At.keep (w := w) (fun b hb hl => ⟨hb, (hb0.trans (h.mono hb0.size)).block b hl.lt⟩) HAU.out.2.2)
  have hc2 := HAF.out.1
  have hc2m := HAF.out.2.1
  have hc3 := HAU.out.1
  have hc3m := HAU.out.2.1
  unfold maxLen at hc2m hc3m
  clear hz0 hb0
  have q0_0 := rw5 R0_0.out
  have q1_0 := rw12 R1_0.out
  go_enter Tryz.func9, Tryz.ntmps9
  go_wp2_with fail
  try rw [hW0]
  clear hW0
  try go_wp2_with fail
  clear q0_0 q1_0
  refine (rright31_calls Vx_0.out).mono ?_
  rintro e w1 ⟨rfl, hb⟩
  have HB1 := Lib.hid hb
  have S1 := Lib.hid (show Only (Box w 2) W0 w1 from Only.of_below hb)
  have O1 := Lib.hid (O0.out.trans S1.out)
  have R0_1 := Lib.hid (row_call hb R0_0.out)
  have R1_1 := Lib.hid (row_call hb R1_0.out)
  have Vx_1 := Lib.hid (val_only Vx_0.out S1.out)
  clear hb
  rw [HR.out]
  have q0_0 := rw5 R0_1.out
  have q1_0 := rw12 R1_1.out
  go_wp2_with fail
  clear q0_0 q1_0
  go_loopw [6, 7] (fun s i wr => ∃ k : Nat, i = .int .i64 k ∧ s = .string ⟨(wCrash ++ fatesT (x.fates.take k)).toArray⟩ ∧ k ≤ x.fates.length ∧ Hid (Below W0.heap.size W0 wr)) (fun _ i _ => x.fates.length - (intOf i).toNat)
  case atStart => exact ⟨0, rfl, rfl, Nat.zero_le _, HB1⟩
  case round =>
    obtain ⟨k, rfl, rfl, hk, HBR⟩ := hrel
    have HFIN := Lib.hid (show Below w.heap.size w wr from (Only.fin HB0.out O0.out).trans (HBR.out.mono (Only.fin HB0.out O0.out).size))
    obtain ⟨s, hs⟩ : ∃ s, wCrash ++ fatesT (x.fates.take k) = s := ⟨_, rfl⟩
    have HSS := Lib.hid hs
    have hsl : (s.length : Int) ≤ 6000000 := by
      have h1 := fatesT_len (l := x.fates.take k) fun y hy => HS.out.inn.fa y (List.mem_of_mem_take hy)
      have h2 := HS.out.f
      rw [← hs, List.length_append]; rw [List.length_take] at h1; simp [wCrash]; omega
    rw [hs]
    clear hs
    by_cases hlt : (k : Int) < x.fates.length
    · obtain ⟨y, hy⟩ : ∃ y, x.fates[k]? = some y := ⟨_, List.getElem?_eq_getElem (by omega)⟩
      obtain ⟨b, off, hAe, _, e0, e1, hw0, hw1⟩ := rFate_at (HFT.out _ HBR.out) hy
      have HY := Lib.hid hy
      have HIN := Lib.hid (show In64 y.kept ∧ In64 y.torn from ⟨in_wf hw0, in_wf hw1⟩)
      subst hAe
      have HE := Lib.hid (show ∀ V, Below wr.heap.size wr V → World.cell? V ⟨b, off + k * 2, none⟩ = some (.int .i64 y.kept) ∧ World.cell? V ⟨b, off + k * 2 + 1, none⟩ = some (.int .i64 y.torn) from fun V hv => by
        obtain ⟨b2, off2, he2, _, g0, g1, _⟩ := rFate_at (HFT.out V (HBR.out.trans (hv.mono HBR.out.size))) HY.out
        obtain ⟨rfl, rfl⟩ : b = b2 ∧ off = off2 := by simpa using he2
        exact ⟨g0, g1⟩)
      have hl1 : ((Lib.itoa y.kept).length : Int) ≤ 20 := by have := (itoa_len HIN.out.1).1; omega
      have hl2 : ((Lib.itoa y.torn).length : Int) ≤ 20 := by have := (itoa_len HIN.out.2).1; omega
      have HT := Lib.hid (show (wCrash ++ fatesT (x.fates.take (k + 1)) : Word) = s ++ 32 :: fateS y by rw [fatesT_take HY.out, ← List.append_assoc, HSS.out])
      clear hy hw0 hw1 e0 e1
      have S11 := Lib.hid (show Only (Box w 2) W0 wr from Only.of_below HBR.out)
      have O11 := Lib.hid (O0.out.trans S11.out)
      have R0_11 := Lib.hid (row_call HBR.out R0_0.out)
      have R1_11 := Lib.hid (row_call HBR.out R1_0.out)
      have Vx_11 := Lib.hid (val_only Vx_0.out S11.out)
      have q0_0 := rw5 R0_11.out
      have q1_0 := rw12 R1_11.out
      go_wp2_with fail
      clear q0_0 q1_0
      refine wp_region_held_drew (S := fun W => Below wr.heap.size wr W) (by kernel_rfl) ((Below.refl _ _).drew) (fun s0 => ?_)
      obtain ⟨v1, hv0⟩ : ∃ V, V = wr.drew := ⟨_, rfl⟩
      rw [← hv0] at s0 ⊢
      have t1 : Below wr.heap.size wr v1 := s0
      clear hv0 s0
      refine tkHV (i := 0) (v := .string ⟨s.toArray⟩) rfl t1 ?_
      go_simp
      refine tkHV (i := 1) (v := .string (⟨s.toArray⟩ ++ ⟨#[32]⟩)) rfl t1 ?_
      go_simp
      refine tkHV (i := 2) (v := .pointer (some ⟨w.heap.size + 1, 10, none⟩)) rfl t1 ?_
      go_simp
      refine tkH (i := 3) (v := .slice (some ⟨b, off, none⟩) x.fates.length c2) rfl (Or.inl ⟨by rfl, fun w' h => by have e := row_call (h : Below wr.heap.size wr w') R1_11.out; have e0 := cell_row e 0; have e1 := cell_row e 1; have e2 := cell_row e 2; have e3 := cell_row e 3; have e4 := cell_row e 4; have e5 := cell_row e 5; have e6 := cell_row e 6; have e7 := cell_row e 7; have e8 := cell_row e 8; have e9 := cell_row e 9; have e10 := cell_row e 10; have e11 := cell_row e 11; go_simp⟩) t1 ?_
      go_simp
      refine tkHV (i := 4) (v := .int .i64 k) rfl t1 ?_
      go_simp
      refine tkHV (i := 5) (v := .pointer (some ⟨b, off + k * 2, none⟩)) rfl t1 ?_
      go_simp
      refine tkHV (i := 6) (v := .pointer (some ⟨b, off + k * 2, none⟩)) rfl t1 ?_
      go_simp
      refine tkH (i := 7) (v := .int .i64 y.kept) rfl (Or.inl ⟨by rfl, fun w' h => by have e := (HE.out w' (h : Below wr.heap.size wr w')).1; go_simp⟩) t1 ?_
      go_simp
      refine tkHV (i := 11) (v := .pointer (some ⟨w.heap.size + 1, 10, none⟩)) rfl t1 ?_
      go_simp
      refine tkH (i := 12) (v := .slice (some ⟨b, off, none⟩) x.fates.length c2) rfl (Or.inl ⟨by rfl, fun w' h => by have e := row_call (h : Below wr.heap.size wr w') R1_11.out; have e0 := cell_row e 0; have e1 := cell_row e 1; have e2 := cell_row e 2; have e3 := cell_row e 3; have e4 := cell_row e 4; have e5 := cell_row e 5; have e6 := cell_row e 6; have e7 := cell_row e 7; have e8 := cell_row e 8; have e9 := cell_row e 9; have e10 := cell_row e 10; have e11 := cell_row e 11; go_simp⟩) t1 ?_
      go_simp
      refine tkHV (i := 13) (v := .int .i64 k) rfl t1 ?_
      go_simp
      refine tkHV (i := 14) (v := .pointer (some ⟨b, off + k * 2, none⟩)) rfl t1 ?_
      go_simp
      refine tkHV (i := 15) (v := .pointer (some ⟨b, off + k * 2 + 1, none⟩)) rfl t1 ?_
      go_simp
      refine tkH (i := 16) (v := .int .i64 y.torn) rfl (Or.inl ⟨by rfl, fun w' h => by have e := (HE.out w' (h : Below wr.heap.size wr w')).2; go_simp⟩) t1 ?_
      go_simp
      refine wpAnyH_all (rs := [8]) (by kernel_rfl) (by simp) ?_
      intro i hi
      obtain rfl : i = 8 := by simpa using hi
      clear hi
      refine wpOp_step rfl (fun K hK => ?_)
      go_simp
      refine (dec_calls HIN.out.1 _).mono ?_
      rintro e v2 ⟨rfl, hw⟩
      have hb : Below v1.heap.size v1 v2 := by rw [hw]; exact Below.refl _ _
      clear hw
      have t2 : Below wr.heap.size wr v2 := Below.trans t1 (hb.mono (Below.size t1))
      refine hK _ _ ⟨t2, ?_⟩
      clear hb
      clear hK K
      refine tkHV (i := 9) (v := .string ((⟨s.toArray⟩ ++ ⟨#[32]⟩) ++ ⟨(Lib.itoa y.kept).toArray⟩)) rfl t2 ?_
      go_simp
      refine tkHV (i := 10) (v := .string (((⟨s.toArray⟩ ++ ⟨#[32]⟩) ++ ⟨(Lib.itoa y.kept).toArray⟩) ++ ⟨#[58]⟩)) rfl t2 ?_
      go_simp
      refine wpAnyH_all (rs := [17]) (by kernel_rfl) (by simp) ?_
      intro i hi
      obtain rfl : i = 17 := by simpa using hi
      clear hi
      refine wpOp_step rfl (fun K hK => ?_)
      go_simp
      refine (dec_calls HIN.out.2 _).mono ?_
      rintro e v3 ⟨rfl, hw⟩
      have hb : Below v2.heap.size v2 v3 := by rw [hw]; exact Below.refl _ _
      clear hw
      have t3 : Below wr.heap.size wr v3 := Below.trans t2 (hb.mono (Below.size t2))
      refine hK _ _ ⟨t3, ?_⟩
      clear hb
      clear hK K
      refine tkHV (i := 18) (v := .string ((((⟨s.toArray⟩ ++ ⟨#[32]⟩) ++ ⟨(Lib.itoa y.kept).toArray⟩) ++ ⟨#[58]⟩) ++ ⟨(Lib.itoa y.torn).toArray⟩)) rfl t3 ?_
      go_simp
      refine tkHV (i := 19) (v := .string ((((⟨s.toArray⟩ ++ ⟨#[32]⟩) ++ ⟨(Lib.itoa y.kept).toArray⟩) ++ ⟨#[58]⟩) ++ ⟨(Lib.itoa y.torn).toArray⟩)) rfl t3 ?_
      go_simp
      refine wpAnyH_done (by kernel_rfl) ?_ _
      have S12 := Lib.hid (show Only (Box w 2) wr v3 from Only.of_below t3)
      have O12 := Lib.hid (O11.out.trans S12.out)
      have R0_12 := Lib.hid (row_call t3 R0_11.out)
      have R1_12 := Lib.hid (row_call t3 R1_11.out)
      have Vx_12 := Lib.hid (val_only Vx_11.out S12.out)
      have HBG := Lib.hid (show Below W0.heap.size W0 v3 from HBR.out.trans (Below.mono t3 HBR.out.size))
      go_wp2_with fail
      exact ⟨⟨k + 1, by go_num, bytes_eq (by rw [HT.out]; unfold fateS; simp [ByteArray.data_append]), by omega, HBG⟩, by simp [intOf]; omega⟩
    · obtain rfl : k = x.fates.length := by omega
      rw [List.take_length] at HSS
      by_cases hfu : x.fuses = []
      · skip
        have hz : x.fuses.length = 0 := by rw [hfu]; rfl
        have hfp : ¬ (0 : Int) < (x.fuses.length : Int) := by omega
        have HWW := Lib.hid (show showS c.comps x = s by rw [HW.out, HSS.out, hfu]; simp [fusesT])
        have HZF := Lib.hid hz
        clear hfu hz
        have RR0 := Lib.hid (row_call HBR.out R0_0.out)
        have RR1 := Lib.hid (row_call HBR.out R1_0.out)
        have q0_0 := rw5 RR0.out
        have q1_0 := rw12 RR1.out
        go_wp2_with fail
        clear q0_0 q1_0
        go_loopw [6, 8] (fun s2 i wz => ∃ j : Nat, i = .int .i64 j ∧ s2 = .string ⟨(s ++ fusesT (x.fuses.take j)).toArray⟩ ∧ j ≤ x.fuses.length ∧ Hid (Below W0.heap.size W0 wz)) (fun _ i _ => x.fuses.length - (intOf i).toNat)
        case atStart => exact ⟨0, rfl, by simp [fusesT], Nat.zero_le _, HBR⟩
        case round =>
          rename World => wz
          obtain ⟨j, rfl, rfl, hj, HBZ⟩ := hrel
          have RZ0 := Lib.hid (row_call HBZ.out R0_0.out)
          have RZ1 := Lib.hid (row_call HBZ.out R1_0.out)
          obtain ⟨t, ht⟩ : ∃ t, s ++ fusesT (x.fuses.take j) = t := ⟨_, rfl⟩
          have HTT := Lib.hid ht
          have htl : (t.length : Int) ≤ 9000000 := by
            have h1 := fusesT_len (l := x.fuses.take j) fun y hy => HS.out.inn.fu y (List.mem_of_mem_take hy)
            have h2 := HS.out.u
            rw [← ht, List.length_append]; rw [List.length_take] at h1; try simp only [List.length_append, List.length_cons, List.length_nil]
            omega
          rw [ht]
          clear ht
          by_cases hlt2 : (j : Int) < x.fuses.length
          · exact absurd hlt2 (by have := HZF.out; omega)
          · obtain rfl : j = x.fuses.length := by omega
            rw [List.take_length] at HTT
            have HE := Lib.hid (show showS c.comps x = t by rw [HWW.out, ← HTT.out]; simp [show x.fuses = [] from List.eq_nil_of_length_eq_zero HZF.out, fusesT])
            have q0_0 := rw5 RZ0.out
            have q1_0 := rw12 RZ1.out
            go_wp2_with fail
            clear q0_0 q1_0
            go_ret
            exact ⟨by rw [HE.out]; rfl, (Only.fin HB0.out O0.out).trans (HBZ.out.mono (Only.fin HB0.out O0.out).size)⟩
      · skip
        have hfp : (0 : Int) < (x.fuses.length : Int) := by have := List.length_pos_iff.2 hfu; omega
        have HWW := Lib.hid (show showS c.comps x = s ++ [32, 47] ++ fusesT x.fuses by rw [HW.out, HSS.out, if_neg hfu])
        clear hfu
        have RR0 := Lib.hid (row_call HBR.out R0_0.out)
        have RR1 := Lib.hid (row_call HBR.out R1_0.out)
        have q0_0 := rw5 RR0.out
        have q1_0 := rw12 RR1.out
        go_wp2_with fail
        clear q0_0 q1_0
        go_loopw [6, 8] (fun s2 i wz => ∃ j : Nat, i = .int .i64 j ∧ s2 = .string ⟨((s ++ [32, 47]) ++ fusesT (x.fuses.take j)).toArray⟩ ∧ j ≤ x.fuses.length ∧ Hid (Below W0.heap.size W0 wz)) (fun _ i _ => x.fuses.length - (intOf i).toNat)
        case atStart => exact ⟨0, rfl, bytes_eq (by simp [fusesT, ByteArray.data_append]), Nat.zero_le _, HBR⟩
        case round =>
          rename World => wz
          obtain ⟨j, rfl, rfl, hj, HBZ⟩ := hrel
          have RZ0 := Lib.hid (row_call HBZ.out R0_0.out)
          have RZ1 := Lib.hid (row_call HBZ.out R1_0.out)
          obtain ⟨t, ht⟩ : ∃ t, (s ++ [32, 47]) ++ fusesT (x.fuses.take j) = t := ⟨_, rfl⟩
          have HTT := Lib.hid ht
          have htl : (t.length : Int) ≤ 9000000 := by
            have h1 := fusesT_len (l := x.fuses.take j) fun y hy => HS.out.inn.fu y (List.mem_of_mem_take hy)
            have h2 := HS.out.u
            rw [← ht, List.length_append]; rw [List.length_take] at h1; try simp only [List.length_append, List.length_cons, List.length_nil]
            omega
          rw [ht]
          clear ht
          by_cases hlt2 : (j : Int) < x.fuses.length
          · obtain ⟨y, hy⟩ : ∃ y, x.fuses[j]? = some y := ⟨_, List.getElem?_eq_getElem (by omega)⟩
            obtain ⟨b, off, hAe, _, e0, hw0⟩ := int_at (HUT.out _ HBZ.out) hy
            have HIN := Lib.hid (show In64 y from in_wf hw0)
            subst hAe
            have hl1 : ((Lib.itoa y).length : Int) ≤ 20 := by have := (itoa_len HIN.out).1; omega
            have HT := Lib.hid (show ((s ++ [32, 47]) ++ fusesT (x.fuses.take (j + 1)) : Word) = t ++ 32 :: Lib.itoa y by rw [fusesT_take hy, ← List.append_assoc, HTT.out])
            clear hy hw0
            have q0_0 := rw5 RZ0.out
            have q1_0 := rw12 RZ1.out
            go_wp2_with fail
            clear q0_0 q1_0
            refine (dec_calls HIN.out _).mono ?_
            rintro e w3 ⟨rfl, hw⟩
            have HB3 := Lib.hid (show Below W0.heap.size W0 w3 by rw [hw]; exact HBZ.out)
            clear hw e0
            go_wp2_with fail
            exact ⟨⟨j + 1, by go_num, bytes_eq (by rw [HT.out]; simp [ByteArray.data_append]), by omega, HB3⟩, by simp [intOf]; omega⟩
          · obtain rfl : j = x.fuses.length := by omega
            rw [List.take_length] at HTT
            have HE := Lib.hid (show showS c.comps x = t by rw [HWW.out, ← HTT.out])
            have q0_0 := rw5 RZ0.out
            have q1_0 := rw12 RZ1.out
            go_wp2_with fail
            clear q0_0 q1_0
            go_ret
            exact ⟨by rw [HE.out]; rfl, (Only.fin HB0.out O0.out).trans (HBZ.out.mono (Only.fin HB0.out O0.out).size)⟩
end Go.Proofs.YtejibngkeaamkaaGreatDoor
namespace Go.Proofs.YtejibngkeaamkaaGreatDoor
open Go.RowKit

/-- ref39.Show -/
theorem rshow39_calls {Q Q' : Nat → Prop} {w : World} {u v : Value} {c : DConf} {x : DAct} (hu : rConf.val Q w u c) (hx : rAct.val Q' w v x) (hs : ActSmall x) (hm : ∀ y ∈ c.comps, y.name.length ≤ 1000000) :
    Calls Tryz.prog 9 #[u, v] w (ShowAns w (showS c.comps x)) := by
  cases hr : rightA x with
  | false => exact rshowNot_calls hu hx hs hm hr
  | true =>
    have h := right_kind hr
    by_cases h0 : x.kind = 0
    · exact rshowCmd_calls hu hx hs hm hr h0
    · by_cases h6 : x.kind = 6
      · exact rshowCrash_calls hu hx hs hm hr h6
      · exact rshowFlat_calls hu hx hs hm hr ⟨by omega, by omega⟩
end Go.Proofs.YtejibngkeaamkaaGreatDoor
namespace Go.Proofs.YtejibngkeaamkaaGreatDoor
open Go.RowKit

set_option maxRecDepth 100000 in
set_option maxHeartbeats 1500000 in
/-- ref13.Plain, of a command that is known -/
theorem rplain13_calls {Q : Nat → Prop} {w : World} {v : Value} {x : DCmd} (hx : rCmd.val Q w v x) (hk : knownB x.kind = true) :
    Calls Tryz.prog 38 #[v] w (Res rCmd (fun b => Q b ∨ w.heap.size ≤ b) w (plainC x)) := by
  have hfr : Tryz.f38.results = #[.cell 2 29] := rfl
  obtain ⟨Ad, cd, rfl, f0, f1, f2, f3, hs⟩ := rCmd_val hx
  have HSL := Lib.hid hs.val
  have HF := Lib.hid (And.intro f0 (And.intro f1 (And.intro f2 f3)))
  have HK := Lib.hid hk
  have h4 : x.kind = 0 ∨ x.kind = 1 ∨ x.kind = 2 ∨ x.kind = 3 := by
    have := hk
    unfold knownB at this
    simp at this
    omega
  clear hx hs f0 f1 f2 f3 hk
  cases hl : x.loc
  case false =>
    have HL := Lib.hid hl
    clear hl
    rcases h4 with h | h | h | h
    · have HKK := Lib.hid h
      have b0 : (x.kind == 0) = true := by simp [h]
      have b2 : (x.kind == 2) = false := by simp [h]
      have l0 : decide (x.kind < 0) = false := by simp [h]
      have l3 : decide (3 < x.kind) = false := by simp [h]
      have g2 : decide (2 ≤ x.kind) = false := by simp [h]
      have i0 : ¬ x.kind < 0 := by omega
      have i3 : ¬ (3 : Int) < x.kind := by omega
      have i2 : ¬ (2 : Int) ≤ x.kind := by omega
      clear h
      obtain ⟨W0, hW0⟩ : ∃ W, ((w.alloc (.cells #[.int .i64 x.kind, .bool false, .int .i64 x.id.index, .int .i64 x.id.gen, .int .i64 x.comp, .slice Ad x.data.length cd] 29)).alloc (.cells #[.int .i64 0, .bool false, .int .i64 0, .int .i64 0, .int .i64 0, .slice none 0 0] 29)) = W := ⟨_, rfl⟩
      have hz0 : W0.heap.size = w.heap.size + 2 := by rw [← hW0]; simp
      have hb0 : Below w.heap.size w W0 := by rw [← hW0]; exact ((Below.refl _ _).alloc (Nat.le_refl _) _).alloc (by first | (simp; done) | (simp; omega)) _
      have HZ := Lib.hid hz0
      have HB0 := Lib.hid hb0
      have R0_0 := Lib.hid (show W0.heap[w.heap.size]? = some (.cells #[.int .i64 x.kind, .bool false, .int .i64 x.id.index, .int .i64 x.id.gen, .int .i64 x.comp, .slice Ad x.data.length cd] 29 (0, 0)) by rw [← hW0]; exact alloc_old (alloc_at rfl))
      have R1_0 := Lib.hid (show W0.heap[w.heap.size + 1]? = some (.cells #[.int .i64 0, .bool false, .int .i64 0, .int .i64 0, .int .i64 0, .slice none 0 0] 29 (0, 0)) by rw [← hW0]; exact alloc_at (by simp))
      have O0 := Lib.hid (Only.refl (Box w 3) W0)
      clear hz0 hb0
      have q0_0 := rw6 R0_0.out
      have q1_0 := rw6 R1_0.out
      go_enter Tryz.func38, Tryz.ntmps38
      go_wp2_with (with_reducible refine stopLoad 3 16 rfl ?_)
      refine Lib.hid ?_
      try rw [hW0]
      clear hW0
      clear q0_0 q1_0
      try rw [show W0.heap.size = w.heap.size + 1 + 1 by have := HZ.out; omega]
      refine nm_list (fun V1 hnm => ?_)
      have S1 := Lib.hid (show Only (Box w 3) W0 V1 from (by rw [hnm]; exact (Only.refl (Box w 3) W0).alloc _))
      have O1 := Lib.hid (O0.out.trans S1.out)
      have R0_1 := Lib.hid (row_nm hnm (alloc_old (R0_0.out)))
      have R1_1 := Lib.hid (row_nm hnm (alloc_old (R1_0.out)))
      have R2_1 := Lib.hid (show V1.heap[w.heap.size + 1 + 1]? = some (.cells #[.int .i64 x.kind, .bool false, .int .i64 0, .int .i64 0, .int .i64 0, .slice none 0 0] 29 (0, 0)) from (by rw [hnm]; exact alloc_at (by have := HZ.out; first | omega | (simp <;> omega))))
      clear hnm
      have q0_0 := rw6 R0_1.out
      have q1_0 := rw6 R1_1.out
      have q2_0 := rw6 R2_1.out
      go_wp2_with fail
      clear q0_0 q1_0 q2_0
      refine nm_post (fun V9 hnm => ?_)
      have S2 := Lib.hid (show Only (Box w 3) V1 V9 from (by rw [hnm]; exact ((((((Only.refl (Box w 3) V1).put ⟨by omega, by omega⟩).put ⟨by omega, by omega⟩).put ⟨by omega, by omega⟩).put ⟨by omega, by omega⟩).put ⟨by omega, by omega⟩).put ⟨by omega, by omega⟩))
      have O2 := Lib.hid (O1.out.trans S2.out)
      have R0_2 := Lib.hid (row_nm hnm (row_other (row_other (row_other (row_other (row_other (row_other (R0_1.out) (by omega)) (by omega)) (by omega)) (by omega)) (by omega)) (by omega)))
      have R1_2 := Lib.hid (show V9.heap[w.heap.size + 1]? = some (.cells #[.int .i64 x.kind, .bool false, .int .i64 0, .int .i64 0, .int .i64 0, .slice none 0 0] 29 (0, 0)) from (by rw [hnm]; exact heap_setList (heap_setList (heap_setList (heap_setList (heap_setList (heap_setList (R1_1.out))))))))
      have R2_2 := Lib.hid (row_nm hnm (row_other (row_other (row_other (row_other (row_other (row_other (R2_1.out) (by omega)) (by omega)) (by omega)) (by omega)) (by omega)) (by omega)))
      clear hnm
      have q1_0 := cl6 R1_2.out
      refine ⟨rfl, .agg #[.int .i64 x.kind, .bool false, .int .i64 0, .int .i64 0, .int .i64 0, .slice none 0 0], by simp only [results, hfr]; go_simp, ?_⟩
      clear q1_0
      have HP := Lib.hid (show plainC x = ⟨x.kind, false, ⟨0, 0⟩, 0, []⟩ by unfold plainC; rw [if_pos HK.out]; simp [HKK.out])
      exact ⟨_, rfl, by rw [HP.out]; exact cmd_bare (x := ⟨x.kind, false, ⟨0, 0⟩, 0, []⟩) HF.out.1 wf0 wf0 wf0 rfl, Only.fin HB0.out O2.out⟩
    · have HKK := Lib.hid h
      have b0 : (x.kind == 0) = false := by simp [h]
      have b2 : (x.kind == 2) = false := by simp [h]
      have l0 : decide (x.kind < 0) = false := by simp [h]
      have l3 : decide (3 < x.kind) = false := by simp [h]
      have g2 : decide (2 ≤ x.kind) = false := by simp [h]
      have i0 : ¬ x.kind < 0 := by omega
      have i3 : ¬ (3 : Int) < x.kind := by omega
      have i2 : ¬ (2 : Int) ≤ x.kind := by omega
      clear h
      obtain ⟨W0, hW0⟩ : ∃ W, ((w.alloc (.cells #[.int .i64 x.kind, .bool false, .int .i64 x.id.index, .int .i64 x.id.gen, .int .i64 x.comp, .slice Ad x.data.length cd] 29)).alloc (.cells #[.int .i64 0, .bool false, .int .i64 0, .int .i64 0, .int .i64 0, .slice none 0 0] 29)) = W := ⟨_, rfl⟩
      have hz0 : W0.heap.size = w.heap.size + 2 := by rw [← hW0]; simp
      have hb0 : Below w.heap.size w W0 := by rw [← hW0]; exact ((Below.refl _ _).alloc (Nat.le_refl _) _).alloc (by first | (simp; done) | (simp; omega)) _
      have HZ := Lib.hid hz0
      have HB0 := Lib.hid hb0
      have R0_0 := Lib.hid (show W0.heap[w.heap.size]? = some (.cells #[.int .i64 x.kind, .bool false, .int .i64 x.id.index, .int .i64 x.id.gen, .int .i64 x.comp, .slice Ad x.data.length cd] 29 (0, 0)) by rw [← hW0]; exact alloc_old (alloc_at rfl))
      have R1_0 := Lib.hid (show W0.heap[w.heap.size + 1]? = some (.cells #[.int .i64 0, .bool false, .int .i64 0, .int .i64 0, .int .i64 0, .slice none 0 0] 29 (0, 0)) by rw [← hW0]; exact alloc_at (by simp))
      have O0 := Lib.hid (Only.refl (Box w 3) W0)
      clear hz0 hb0
      have q0_0 := rw6 R0_0.out
      have q1_0 := rw6 R1_0.out
      go_enter Tryz.func38, Tryz.ntmps38
      go_wp2_with (with_reducible refine stopLoad 3 16 rfl ?_)
      refine Lib.hid ?_
      try rw [hW0]
      clear hW0
      clear q0_0 q1_0
      try rw [show W0.heap.size = w.heap.size + 1 + 1 by have := HZ.out; omega]
      refine nm_list (fun V1 hnm => ?_)
      have S1 := Lib.hid (show Only (Box w 3) W0 V1 from (by rw [hnm]; exact (Only.refl (Box w 3) W0).alloc _))
      have O1 := Lib.hid (O0.out.trans S1.out)
      have R0_1 := Lib.hid (row_nm hnm (alloc_old (R0_0.out)))
      have R1_1 := Lib.hid (row_nm hnm (alloc_old (R1_0.out)))
      have R2_1 := Lib.hid (show V1.heap[w.heap.size + 1 + 1]? = some (.cells #[.int .i64 x.kind, .bool false, .int .i64 0, .int .i64 0, .int .i64 0, .slice none 0 0] 29 (0, 0)) from (by rw [hnm]; exact alloc_at (by have := HZ.out; first | omega | (simp <;> omega))))
      clear hnm
      have q0_0 := rw6 R0_1.out
      have q1_0 := rw6 R1_1.out
      have q2_0 := rw6 R2_1.out
      go_wp2_with fail
      clear q0_0 q1_0 q2_0
      refine wp_region_held_drew (S := fun W => Only (fun b => b = w.heap.size + 1 + 1) V1 W) (by kernel_rfl) ((Only.refl _ _).drw) (fun s0 => ?_)
      obtain ⟨v1, hv0⟩ : ∃ V, V = V1.drew := ⟨_, rfl⟩
      rw [← hv0] at s0 ⊢
      have t1 : Only (fun b => b = w.heap.size + 1 + 1) V1 v1 := s0
      have rb2_1 : v1.heap[w.heap.size + 1 + 1]? = some (.cells #[.int .i64 x.kind, .bool false, .int .i64 0, .int .i64 0, .int .i64 0, .slice none 0 0] 29 (0, 0)) := by rw [hv0]; exact R2_1.out
      clear hv0 s0
      refine tkHV (i := 0) (v := .pointer (some ⟨w.heap.size, 1, none⟩)) rfl t1 ?_
      go_simp
      refine tkH (i := 1) (v := .bool false) rfl (Or.inl ⟨by rfl, fun w' h => by have e := row_only (h : Only (fun b => b = w.heap.size + 1 + 1) V1 w') R0_1.out (by first | omega | (dsimp only; omega)); have e0 := cell_row e 0; have e1 := cell_row e 1; have e2 := cell_row e 2; have e3 := cell_row e 3; have e4 := cell_row e 4; have e5 := cell_row e 5; go_simp⟩) t1 ?_
      go_simp
      refine tkHV (i := 2) (v := .pointer (some ⟨w.heap.size, 2, none⟩)) rfl t1 ?_
      go_simp
      refine tkHV (i := 3) (v := .pointer (some ⟨w.heap.size, 2, none⟩)) rfl t1 ?_
      go_simp
      refine tkH (i := 4) (v := .int .i64 x.id.index) rfl (Or.inl ⟨by rfl, fun w' h => by have e := row_only (h : Only (fun b => b = w.heap.size + 1 + 1) V1 w') R0_1.out (by first | omega | (dsimp only; omega)); have e0 := cell_row e 0; have e1 := cell_row e 1; have e2 := cell_row e 2; have e3 := cell_row e 3; have e4 := cell_row e 4; have e5 := cell_row e 5; go_simp⟩) t1 ?_
      go_simp
      refine tkHV (i := 5) (v := .pointer (some ⟨w.heap.size + 1 + 1, 1, none⟩)) rfl t1 ?_
      go_simp
      refine wpAnyH_all (rs := [6]) (by kernel_rfl) (by simp) ?_
      intro i hi
      obtain rfl : i = 6 := by simpa using hi
      clear hi
      refine wpOp_step rfl (fun K hK => ?_)
      go_simp
      have eb := rb2_1
      have q0 := rw6 eb
      go_simp
      refine hK _ _ ⟨(t1).put rfl, ?_⟩
      clear hK K q0
      refine nm_any (fun v2 hnm => ?_)
      have t2 : Only (fun b => b = w.heap.size + 1 + 1) V1 v2 := by rw [hnm]; exact (t1).put rfl
      have rb2_2 : v2.heap[w.heap.size + 1 + 1]? = some (.cells #[.int .i64 x.kind, .bool false, .int .i64 0, .int .i64 0, .int .i64 0, .slice none 0 0] 29 (0, 0)) := by rw [hnm]; exact heap_setList (rb2_1)
      clear hnm eb
      refine tkHV (i := 7) (v := .pointer (some ⟨w.heap.size + 1 + 1, 2, none⟩)) rfl t2 ?_
      go_simp
      refine tkHV (i := 8) (v := .pointer (some ⟨w.heap.size + 1 + 1, 2, none⟩)) rfl t2 ?_
      go_simp
      refine wpAnyH_all (rs := [9]) (by kernel_rfl) (by simp) ?_
      intro i hi
      obtain rfl : i = 9 := by simpa using hi
      clear hi
      refine wpOp_step rfl (fun K hK => ?_)
      go_simp
      have eb := rb2_2
      have q0 := rw6 eb
      go_simp
      refine hK _ _ ⟨(t2).put rfl, ?_⟩
      clear hK K q0
      refine nm_any (fun v3 hnm => ?_)
      have t3 : Only (fun b => b = w.heap.size + 1 + 1) V1 v3 := by rw [hnm]; exact (t2).put rfl
      have rb2_3 : v3.heap[w.heap.size + 1 + 1]? = some (.cells #[.int .i64 x.kind, .bool false, .int .i64 x.id.index, .int .i64 0, .int .i64 0, .slice none 0 0] 29 (0, 0)) := by rw [hnm]; exact heap_setList (rb2_2)
      clear hnm eb
      refine wpAnyH_done (by kernel_rfl) ?_ _
      have S2 := Lib.hid (show Only (Box w 3) V1 v3 from (t3).wid (fun b hb => by first | (unfold Box; omega) | (dsimp only at hb; unfold Box; omega)))
      have O2 := Lib.hid (O1.out.trans S2.out)
      have R0_2 := Lib.hid (row_only t3 R0_1.out (by first | omega | (dsimp only; omega)))
      have R1_2 := Lib.hid (row_only t3 R1_1.out (by first | omega | (dsimp only; omega)))
      have R2_2 := Lib.hid (show v3.heap[w.heap.size + 1 + 1]? = some (.cells #[.int .i64 x.kind, .bool false, .int .i64 x.id.index, .int .i64 0, .int .i64 0, .slice none 0 0] 29 (0, 0)) from rb2_3)
      clear rb2_3
      have q0_0 := rw6 R0_2.out
      have q1_0 := rw6 R1_2.out
      have q2_0 := rw6 R2_2.out
      go_wp2_with (with_reducible refine stopLoad 29 3 rfl ?_)
      refine Lib.hid ?_
      clear q0_0 q1_0 q2_0
      refine nm_list (fun V4 hnm => ?_)
      have S3 := Lib.hid (show Only (Box w 3) v3 V4 from (by rw [hnm]; exact (Only.refl (Box w 3) v3).put ⟨by omega, by omega⟩))
      have O3 := Lib.hid (O2.out.trans S3.out)
      have R0_3 := Lib.hid (row_nm hnm (row_other (R0_2.out) (by omega)))
      have R1_3 := Lib.hid (row_nm hnm (row_other (R1_2.out) (by omega)))
      have R2_3 := Lib.hid (show V4.heap[w.heap.size + 1 + 1]? = some (.cells #[.int .i64 x.kind, .bool false, .int .i64 x.id.index, .int .i64 x.id.gen, .int .i64 0, .slice none 0 0] 29 (0, 0)) from (by rw [hnm]; exact heap_setList (R2_2.out)))
      clear hnm
      have q0_0 := rw6 R0_3.out
      have q1_0 := rw6 R1_3.out
      have q2_0 := rw6 R2_3.out
      go_wp2_with fail
      clear q0_0 q1_0 q2_0
      refine nm_post (fun V9 hnm => ?_)
      have S4 := Lib.hid (show Only (Box w 3) V4 V9 from (by rw [hnm]; exact ((((((Only.refl (Box w 3) V4).put ⟨by omega, by omega⟩).put ⟨by omega, by omega⟩).put ⟨by omega, by omega⟩).put ⟨by omega, by omega⟩).put ⟨by omega, by omega⟩).put ⟨by omega, by omega⟩))
      have O4 := Lib.hid (O3.out.trans S4.out)
      have R0_4 := Lib.hid (row_nm hnm (row_other (row_other (row_other (row_other (row_other (row_other (R0_3.out) (by omega)) (by omega)) (by omega)) (by omega)) (by omega)) (by omega)))
      have R1_4 := Lib.hid (show V9.heap[w.heap.size + 1]? = some (.cells #[.int .i64 x.kind, .bool false, .int .i64 x.id.index, .int .i64 x.id.gen, .int .i64 0, .slice none 0 0] 29 (0, 0)) from (by rw [hnm]; exact heap_setList (heap_setList (heap_setList (heap_setList (heap_setList (heap_setList (R1_3.out))))))))
      have R2_4 := Lib.hid (row_nm hnm (row_other (row_other (row_other (row_other (row_other (row_other (R2_3.out) (by omega)) (by omega)) (by omega)) (by omega)) (by omega)) (by omega)))
      clear hnm
      have q1_0 := cl6 R1_4.out
      refine ⟨rfl, .agg #[.int .i64 x.kind, .bool false, .int .i64 x.id.index, .int .i64 x.id.gen, .int .i64 0, .slice none 0 0], by simp only [results, hfr]; go_simp, ?_⟩
      clear q1_0
      have HP := Lib.hid (show plainC x = ⟨x.kind, false, ⟨x.id.index, x.id.gen⟩, 0, []⟩ by unfold plainC; rw [if_pos HK.out]; simp [HKK.out, HL.out])
      exact ⟨_, rfl, by rw [HP.out]; exact cmd_bare (x := ⟨x.kind, false, ⟨x.id.index, x.id.gen⟩, 0, []⟩) HF.out.1 HF.out.2.1 HF.out.2.2.1 wf0 rfl, Only.fin HB0.out O4.out⟩
    · have HKK := Lib.hid h
      have b0 : (x.kind == 0) = false := by simp [h]
      have b2 : (x.kind == 2) = true := by simp [h]
      have l0 : decide (x.kind < 0) = false := by simp [h]
      have l3 : decide (3 < x.kind) = false := by simp [h]
      have g2 : decide (2 ≤ x.kind) = true := by simp [h]
      have i0 : ¬ x.kind < 0 := by omega
      have i3 : ¬ (3 : Int) < x.kind := by omega
      have i2 : (2 : Int) ≤ x.kind := by omega
      clear h
      obtain ⟨W0, hW0⟩ : ∃ W, ((w.alloc (.cells #[.int .i64 x.kind, .bool false, .int .i64 x.id.index, .int .i64 x.id.gen, .int .i64 x.comp, .slice Ad x.data.length cd] 29)).alloc (.cells #[.int .i64 0, .bool false, .int .i64 0, .int .i64 0, .int .i64 0, .slice none 0 0] 29)) = W := ⟨_, rfl⟩
      have hz0 : W0.heap.size = w.heap.size + 2 := by rw [← hW0]; simp
      have hb0 : Below w.heap.size w W0 := by rw [← hW0]; exact ((Below.refl _ _).alloc (Nat.le_refl _) _).alloc (by first | (simp; done) | (simp; omega)) _
      have HZ := Lib.hid hz0
      have HB0 := Lib.hid hb0
      have R0_0 := Lib.hid (show W0.heap[w.heap.size]? = some (.cells #[.int .i64 x.kind, .bool false, .int .i64 x.id.index, .int .i64 x.id.gen, .int .i64 x.comp, .slice Ad x.data.length cd] 29 (0, 0)) by rw [← hW0]; exact alloc_old (alloc_at rfl))
      have R1_0 := Lib.hid (show W0.heap[w.heap.size + 1]? = some (.cells #[.int .i64 0, .bool false, .int .i64 0, .int .i64 0, .int .i64 0, .slice none 0 0] 29 (0, 0)) by rw [← hW0]; exact alloc_at (by simp))
      have O0 := Lib.hid (Only.refl (Box w 3) W0)
      have Vd_0 := Lib.hid (show Rep.byte.list.val (In Q w 3) W0 (.slice Ad x.data.length cd) x.data from val_in HSL.out hb0)
      clear hz0 hb0
      have q0_0 := rw6 R0_0.out
      have q1_0 := rw6 R1_0.out
      go_enter Tryz.func38, Tryz.ntmps38
      go_wp2_with (with_reducible refine stopLoad 3 16 rfl ?_)
      refine Lib.hid ?_
      try rw [hW0]
      clear hW0
      clear q0_0 q1_0
      try rw [show W0.heap.size = w.heap.size + 1 + 1 by have := HZ.out; omega]
      refine nm_list (fun V1 hnm => ?_)
      have S1 := Lib.hid (show Only (Box w 3) W0 V1 from (by rw [hnm]; exact (Only.refl (Box w 3) W0).alloc _))
      have O1 := Lib.hid (O0.out.trans S1.out)
      have R0_1 := Lib.hid (row_nm hnm (alloc_old (R0_0.out)))
      have R1_1 := Lib.hid (row_nm hnm (alloc_old (R1_0.out)))
      have R2_1 := Lib.hid (show V1.heap[w.heap.size + 1 + 1]? = some (.cells #[.int .i64 x.kind, .bool false, .int .i64 0, .int .i64 0, .int .i64 0, .slice none 0 0] 29 (0, 0)) from (by rw [hnm]; exact alloc_at (by have := HZ.out; first | omega | (simp <;> omega))))
      have Vd_1 := Lib.hid (val_only Vd_0.out S1.out)
      clear hnm
      have q0_0 := rw6 R0_1.out
      have q1_0 := rw6 R1_1.out
      have q2_0 := rw6 R2_1.out
      go_wp2_with fail
      clear q0_0 q1_0 q2_0
      refine wp_region_held_drew (S := fun W => Only (fun b => b = w.heap.size + 1 + 1) V1 W) (by kernel_rfl) ((Only.refl _ _).drw) (fun s0 => ?_)
      obtain ⟨v1, hv0⟩ : ∃ V, V = V1.drew := ⟨_, rfl⟩
      rw [← hv0] at s0 ⊢
      have t1 : Only (fun b => b = w.heap.size + 1 + 1) V1 v1 := s0
      have rb2_1 : v1.heap[w.heap.size + 1 + 1]? = some (.cells #[.int .i64 x.kind, .bool false, .int .i64 0, .int .i64 0, .int .i64 0, .slice none 0 0] 29 (0, 0)) := by rw [hv0]; exact R2_1.out
      clear hv0 s0
      refine tkHV (i := 0) (v := .pointer (some ⟨w.heap.size, 1, none⟩)) rfl t1 ?_
      go_simp
      refine tkH (i := 1) (v := .bool false) rfl (Or.inl ⟨by rfl, fun w' h => by have e := row_only (h : Only (fun b => b = w.heap.size + 1 + 1) V1 w') R0_1.out (by first | omega | (dsimp only; omega)); have e0 := cell_row e 0; have e1 := cell_row e 1; have e2 := cell_row e 2; have e3 := cell_row e 3; have e4 := cell_row e 4; have e5 := cell_row e 5; go_simp⟩) t1 ?_
      go_simp
      refine tkHV (i := 2) (v := .pointer (some ⟨w.heap.size, 2, none⟩)) rfl t1 ?_
      go_simp
      refine tkHV (i := 3) (v := .pointer (some ⟨w.heap.size, 2, none⟩)) rfl t1 ?_
      go_simp
      refine tkH (i := 4) (v := .int .i64 x.id.index) rfl (Or.inl ⟨by rfl, fun w' h => by have e := row_only (h : Only (fun b => b = w.heap.size + 1 + 1) V1 w') R0_1.out (by first | omega | (dsimp only; omega)); have e0 := cell_row e 0; have e1 := cell_row e 1; have e2 := cell_row e 2; have e3 := cell_row e 3; have e4 := cell_row e 4; have e5 := cell_row e 5; go_simp⟩) t1 ?_
      go_simp
      refine tkHV (i := 5) (v := .pointer (some ⟨w.heap.size + 1 + 1, 1, none⟩)) rfl t1 ?_
      go_simp
      refine wpAnyH_all (rs := [6]) (by kernel_rfl) (by simp) ?_
      intro i hi
      obtain rfl : i = 6 := by simpa using hi
      clear hi
      refine wpOp_step rfl (fun K hK => ?_)
      go_simp
      have eb := rb2_1
      have q0 := rw6 eb
      go_simp
      refine hK _ _ ⟨(t1).put rfl, ?_⟩
      clear hK K q0
      refine nm_any (fun v2 hnm => ?_)
      have t2 : Only (fun b => b = w.heap.size + 1 + 1) V1 v2 := by rw [hnm]; exact (t1).put rfl
      have rb2_2 : v2.heap[w.heap.size + 1 + 1]? = some (.cells #[.int .i64 x.kind, .bool false, .int .i64 0, .int .i64 0, .int .i64 0, .slice none 0 0] 29 (0, 0)) := by rw [hnm]; exact heap_setList (rb2_1)
      clear hnm eb
      refine tkHV (i := 7) (v := .pointer (some ⟨w.heap.size + 1 + 1, 2, none⟩)) rfl t2 ?_
      go_simp
      refine tkHV (i := 8) (v := .pointer (some ⟨w.heap.size + 1 + 1, 2, none⟩)) rfl t2 ?_
      go_simp
      refine wpAnyH_all (rs := [9]) (by kernel_rfl) (by simp) ?_
      intro i hi
      obtain rfl : i = 9 := by simpa using hi
      clear hi
      refine wpOp_step rfl (fun K hK => ?_)
      go_simp
      have eb := rb2_2
      have q0 := rw6 eb
      go_simp
      refine hK _ _ ⟨(t2).put rfl, ?_⟩
      clear hK K q0
      refine nm_any (fun v3 hnm => ?_)
      have t3 : Only (fun b => b = w.heap.size + 1 + 1) V1 v3 := by rw [hnm]; exact (t2).put rfl
      have rb2_3 : v3.heap[w.heap.size + 1 + 1]? = some (.cells #[.int .i64 x.kind, .bool false, .int .i64 x.id.index, .int .i64 0, .int .i64 0, .slice none 0 0] 29 (0, 0)) := by rw [hnm]; exact heap_setList (rb2_2)
      clear hnm eb
      refine wpAnyH_done (by kernel_rfl) ?_ _
      have S2 := Lib.hid (show Only (Box w 3) V1 v3 from (t3).wid (fun b hb => by first | (unfold Box; omega) | (dsimp only at hb; unfold Box; omega)))
      have O2 := Lib.hid (O1.out.trans S2.out)
      have R0_2 := Lib.hid (row_only t3 R0_1.out (by first | omega | (dsimp only; omega)))
      have R1_2 := Lib.hid (row_only t3 R1_1.out (by first | omega | (dsimp only; omega)))
      have R2_2 := Lib.hid (show v3.heap[w.heap.size + 1 + 1]? = some (.cells #[.int .i64 x.kind, .bool false, .int .i64 x.id.index, .int .i64 0, .int .i64 0, .slice none 0 0] 29 (0, 0)) from rb2_3)
      have Vd_2 := Lib.hid (val_only Vd_1.out S2.out)
      clear rb2_3
      have q0_0 := rw6 R0_2.out
      have q1_0 := rw6 R1_2.out
      have q2_0 := rw6 R2_2.out
      go_wp2_with (with_reducible refine stopLoad 29 3 rfl ?_)
      refine Lib.hid ?_
      clear q0_0 q1_0 q2_0
      refine nm_list (fun V4 hnm => ?_)
      have S3 := Lib.hid (show Only (Box w 3) v3 V4 from (by rw [hnm]; exact (((Only.refl (Box w 3) v3).put ⟨by omega, by omega⟩).put ⟨by omega, by omega⟩).put ⟨by omega, by omega⟩))
      have O3 := Lib.hid (O2.out.trans S3.out)
      have R0_3 := Lib.hid (row_nm hnm (row_other (row_other (row_other (R0_2.out) (by omega)) (by omega)) (by omega)))
      have R1_3 := Lib.hid (row_nm hnm (row_other (row_other (row_other (R1_2.out) (by omega)) (by omega)) (by omega)))
      have R2_3 := Lib.hid (show V4.heap[w.heap.size + 1 + 1]? = some (.cells #[.int .i64 x.kind, .bool false, .int .i64 x.id.index, .int .i64 x.id.gen, .int .i64 x.comp, .slice Ad x.data.length cd] 29 (0, 0)) from (by rw [hnm]; exact heap_setList (heap_setList (heap_setList (R2_2.out)))))
      have Vd_3 := Lib.hid (val_only Vd_2.out S3.out)
      clear hnm
      have q0_0 := rw6 R0_3.out
      have q1_0 := rw6 R1_3.out
      have q2_0 := rw6 R2_3.out
      go_wp2_with fail
      clear q0_0 q1_0 q2_0
      refine nm_post (fun V9 hnm => ?_)
      have S4 := Lib.hid (show Only (Box w 3) V4 V9 from (by rw [hnm]; exact ((((((Only.refl (Box w 3) V4).put ⟨by omega, by omega⟩).put ⟨by omega, by omega⟩).put ⟨by omega, by omega⟩).put ⟨by omega, by omega⟩).put ⟨by omega, by omega⟩).put ⟨by omega, by omega⟩))
      have O4 := Lib.hid (O3.out.trans S4.out)
      have R0_4 := Lib.hid (row_nm hnm (row_other (row_other (row_other (row_other (row_other (row_other (R0_3.out) (by omega)) (by omega)) (by omega)) (by omega)) (by omega)) (by omega)))
      have R1_4 := Lib.hid (show V9.heap[w.heap.size + 1]? = some (.cells #[.int .i64 x.kind, .bool false, .int .i64 x.id.index, .int .i64 x.id.gen, .int .i64 x.comp, .slice Ad x.data.length cd] 29 (0, 0)) from (by rw [hnm]; exact heap_setList (heap_setList (heap_setList (heap_setList (heap_setList (heap_setList (R1_3.out))))))))
      have R2_4 := Lib.hid (row_nm hnm (row_other (row_other (row_other (row_other (row_other (row_other (R2_3.out) (by omega)) (by omega)) (by omega)) (by omega)) (by omega)) (by omega)))
      have Vd_4 := Lib.hid (val_only Vd_3.out S4.out)
      clear hnm
      have q1_0 := cl6 R1_4.out
      refine ⟨rfl, .agg #[.int .i64 x.kind, .bool false, .int .i64 x.id.index, .int .i64 x.id.gen, .int .i64 x.comp, .slice Ad x.data.length cd], by simp only [results, hfr]; go_simp, ?_⟩
      clear q1_0
      have HP := Lib.hid (show plainC x = ⟨x.kind, false, ⟨x.id.index, x.id.gen⟩, x.comp, x.data⟩ by unfold plainC; rw [if_pos HK.out]; simp [HKK.out, HL.out])
      exact ⟨_, rfl, by rw [HP.out]; exact rCmd_agg (x := ⟨x.kind, false, ⟨x.id.index, x.id.gen⟩, x.comp, x.data⟩) HF.out.1 HF.out.2.1 HF.out.2.2.1 HF.out.2.2.2 (sl_of (Rep.val_mono (fun b hb _ => by rcases hb with h | h; exact .inl h.1; exact .inr (by omega)) Vd_4.out)), Only.fin HB0.out O4.out⟩
    · have HKK := Lib.hid h
      have b0 : (x.kind == 0) = false := by simp [h]
      have b2 : (x.kind == 2) = false := by simp [h]
      have l0 : decide (x.kind < 0) = false := by simp [h]
      have l3 : decide (3 < x.kind) = false := by simp [h]
      have g2 : decide (2 ≤ x.kind) = true := by simp [h]
      have i0 : ¬ x.kind < 0 := by omega
      have i3 : ¬ (3 : Int) < x.kind := by omega
      have i2 : (2 : Int) ≤ x.kind := by omega
      clear h
      obtain ⟨W0, hW0⟩ : ∃ W, ((w.alloc (.cells #[.int .i64 x.kind, .bool false, .int .i64 x.id.index, .int .i64 x.id.gen, .int .i64 x.comp, .slice Ad x.data.length cd] 29)).alloc (.cells #[.int .i64 0, .bool false, .int .i64 0, .int .i64 0, .int .i64 0, .slice none 0 0] 29)) = W := ⟨_, rfl⟩
      have hz0 : W0.heap.size = w.heap.size + 2 := by rw [← hW0]; simp
      have hb0 : Below w.heap.size w W0 := by rw [← hW0]; exact ((Below.refl _ _).alloc (Nat.le_refl _) _).alloc (by first | (simp; done) | (simp; omega)) _
      have HZ := Lib.hid hz0
      have HB0 := Lib.hid hb0
      have R0_0 := Lib.hid (show W0.heap[w.heap.size]? = some (.cells #[.int .i64 x.kind, .bool false, .int .i64 x.id.index, .int .i64 x.id.gen, .int .i64 x.comp, .slice Ad x.data.length cd] 29 (0, 0)) by rw [← hW0]; exact alloc_old (alloc_at rfl))
      have R1_0 := Lib.hid (show W0.heap[w.heap.size + 1]? = some (.cells #[.int .i64 0, .bool false, .int .i64 0, .int .i64 0, .int .i64 0, .slice none 0 0] 29 (0, 0)) by rw [← hW0]; exact alloc_at (by simp))
      have O0 := Lib.hid (Only.refl (Box w 3) W0)
      clear hz0 hb0
      have q0_0 := rw6 R0_0.out
      have q1_0 := rw6 R1_0.out
      go_enter Tryz.func38, Tryz.ntmps38
      go_wp2_with (with_reducible refine stopLoad 3 16 rfl ?_)
      refine Lib.hid ?_
      try rw [hW0]
      clear hW0
      clear q0_0 q1_0
      try rw [show W0.heap.size = w.heap.size + 1 + 1 by have := HZ.out; omega]
      refine nm_list (fun V1 hnm => ?_)
      have S1 := Lib.hid (show Only (Box w 3) W0 V1 from (by rw [hnm]; exact (Only.refl (Box w 3) W0).alloc _))
      have O1 := Lib.hid (O0.out.trans S1.out)
      have R0_1 := Lib.hid (row_nm hnm (alloc_old (R0_0.out)))
      have R1_1 := Lib.hid (row_nm hnm (alloc_old (R1_0.out)))
      have R2_1 := Lib.hid (show V1.heap[w.heap.size + 1 + 1]? = some (.cells #[.int .i64 x.kind, .bool false, .int .i64 0, .int .i64 0, .int .i64 0, .slice none 0 0] 29 (0, 0)) from (by rw [hnm]; exact alloc_at (by have := HZ.out; first | omega | (simp <;> omega))))
      clear hnm
      have q0_0 := rw6 R0_1.out
      have q1_0 := rw6 R1_1.out
      have q2_0 := rw6 R2_1.out
      go_wp2_with fail
      clear q0_0 q1_0 q2_0
      refine wp_region_held_drew (S := fun W => Only (fun b => b = w.heap.size + 1 + 1) V1 W) (by kernel_rfl) ((Only.refl _ _).drw) (fun s0 => ?_)
      obtain ⟨v1, hv0⟩ : ∃ V, V = V1.drew := ⟨_, rfl⟩
      rw [← hv0] at s0 ⊢
      have t1 : Only (fun b => b = w.heap.size + 1 + 1) V1 v1 := s0
      have rb2_1 : v1.heap[w.heap.size + 1 + 1]? = some (.cells #[.int .i64 x.kind, .bool false, .int .i64 0, .int .i64 0, .int .i64 0, .slice none 0 0] 29 (0, 0)) := by rw [hv0]; exact R2_1.out
      clear hv0 s0
      refine tkHV (i := 0) (v := .pointer (some ⟨w.heap.size, 1, none⟩)) rfl t1 ?_
      go_simp
      refine tkH (i := 1) (v := .bool false) rfl (Or.inl ⟨by rfl, fun w' h => by have e := row_only (h : Only (fun b => b = w.heap.size + 1 + 1) V1 w') R0_1.out (by first | omega | (dsimp only; omega)); have e0 := cell_row e 0; have e1 := cell_row e 1; have e2 := cell_row e 2; have e3 := cell_row e 3; have e4 := cell_row e 4; have e5 := cell_row e 5; go_simp⟩) t1 ?_
      go_simp
      refine tkHV (i := 2) (v := .pointer (some ⟨w.heap.size, 2, none⟩)) rfl t1 ?_
      go_simp
      refine tkHV (i := 3) (v := .pointer (some ⟨w.heap.size, 2, none⟩)) rfl t1 ?_
      go_simp
      refine tkH (i := 4) (v := .int .i64 x.id.index) rfl (Or.inl ⟨by rfl, fun w' h => by have e := row_only (h : Only (fun b => b = w.heap.size + 1 + 1) V1 w') R0_1.out (by first | omega | (dsimp only; omega)); have e0 := cell_row e 0; have e1 := cell_row e 1; have e2 := cell_row e 2; have e3 := cell_row e 3; have e4 := cell_row e 4; have e5 := cell_row e 5; go_simp⟩) t1 ?_
      go_simp
      refine tkHV (i := 5) (v := .pointer (some ⟨w.heap.size + 1 + 1, 1, none⟩)) rfl t1 ?_
      go_simp
      refine wpAnyH_all (rs := [6]) (by kernel_rfl) (by simp) ?_
      intro i hi
      obtain rfl : i = 6 := by simpa using hi
      clear hi
      refine wpOp_step rfl (fun K hK => ?_)
      go_simp
      have eb := rb2_1
      have q0 := rw6 eb
      go_simp
      refine hK _ _ ⟨(t1).put rfl, ?_⟩
      clear hK K q0
      refine nm_any (fun v2 hnm => ?_)
      have t2 : Only (fun b => b = w.heap.size + 1 + 1) V1 v2 := by rw [hnm]; exact (t1).put rfl
      have rb2_2 : v2.heap[w.heap.size + 1 + 1]? = some (.cells #[.int .i64 x.kind, .bool false, .int .i64 0, .int .i64 0, .int .i64 0, .slice none 0 0] 29 (0, 0)) := by rw [hnm]; exact heap_setList (rb2_1)
      clear hnm eb
      refine tkHV (i := 7) (v := .pointer (some ⟨w.heap.size + 1 + 1, 2, none⟩)) rfl t2 ?_
      go_simp
      refine tkHV (i := 8) (v := .pointer (some ⟨w.heap.size + 1 + 1, 2, none⟩)) rfl t2 ?_
      go_simp
      refine wpAnyH_all (rs := [9]) (by kernel_rfl) (by simp) ?_
      intro i hi
      obtain rfl : i = 9 := by simpa using hi
      clear hi
      refine wpOp_step rfl (fun K hK => ?_)
      go_simp
      have eb := rb2_2
      have q0 := rw6 eb
      go_simp
      refine hK _ _ ⟨(t2).put rfl, ?_⟩
      clear hK K q0
      refine nm_any (fun v3 hnm => ?_)
      have t3 : Only (fun b => b = w.heap.size + 1 + 1) V1 v3 := by rw [hnm]; exact (t2).put rfl
      have rb2_3 : v3.heap[w.heap.size + 1 + 1]? = some (.cells #[.int .i64 x.kind, .bool false, .int .i64 x.id.index, .int .i64 0, .int .i64 0, .slice none 0 0] 29 (0, 0)) := by rw [hnm]; exact heap_setList (rb2_2)
      clear hnm eb
      refine wpAnyH_done (by kernel_rfl) ?_ _
      have S2 := Lib.hid (show Only (Box w 3) V1 v3 from (t3).wid (fun b hb => by first | (unfold Box; omega) | (dsimp only at hb; unfold Box; omega)))
      have O2 := Lib.hid (O1.out.trans S2.out)
      have R0_2 := Lib.hid (row_only t3 R0_1.out (by first | omega | (dsimp only; omega)))
      have R1_2 := Lib.hid (row_only t3 R1_1.out (by first | omega | (dsimp only; omega)))
      have R2_2 := Lib.hid (show v3.heap[w.heap.size + 1 + 1]? = some (.cells #[.int .i64 x.kind, .bool false, .int .i64 x.id.index, .int .i64 0, .int .i64 0, .slice none 0 0] 29 (0, 0)) from rb2_3)
      clear rb2_3
      have q0_0 := rw6 R0_2.out
      have q1_0 := rw6 R1_2.out
      have q2_0 := rw6 R2_2.out
      go_wp2_with (with_reducible refine stopLoad 29 3 rfl ?_)
      refine Lib.hid ?_
      clear q0_0 q1_0 q2_0
      refine nm_list (fun V4 hnm => ?_)
      have S3 := Lib.hid (show Only (Box w 3) v3 V4 from (by rw [hnm]; exact ((Only.refl (Box w 3) v3).put ⟨by omega, by omega⟩).put ⟨by omega, by omega⟩))
      have O3 := Lib.hid (O2.out.trans S3.out)
      have R0_3 := Lib.hid (row_nm hnm (row_other (row_other (R0_2.out) (by omega)) (by omega)))
      have R1_3 := Lib.hid (row_nm hnm (row_other (row_other (R1_2.out) (by omega)) (by omega)))
      have R2_3 := Lib.hid (show V4.heap[w.heap.size + 1 + 1]? = some (.cells #[.int .i64 x.kind, .bool false, .int .i64 x.id.index, .int .i64 x.id.gen, .int .i64 x.comp, .slice none 0 0] 29 (0, 0)) from (by rw [hnm]; exact heap_setList (heap_setList (R2_2.out))))
      clear hnm
      have q0_0 := rw6 R0_3.out
      have q1_0 := rw6 R1_3.out
      have q2_0 := rw6 R2_3.out
      go_wp2_with fail
      clear q0_0 q1_0 q2_0
      refine nm_post (fun V9 hnm => ?_)
      have S4 := Lib.hid (show Only (Box w 3) V4 V9 from (by rw [hnm]; exact ((((((Only.refl (Box w 3) V4).put ⟨by omega, by omega⟩).put ⟨by omega, by omega⟩).put ⟨by omega, by omega⟩).put ⟨by omega, by omega⟩).put ⟨by omega, by omega⟩).put ⟨by omega, by omega⟩))
      have O4 := Lib.hid (O3.out.trans S4.out)
      have R0_4 := Lib.hid (row_nm hnm (row_other (row_other (row_other (row_other (row_other (row_other (R0_3.out) (by omega)) (by omega)) (by omega)) (by omega)) (by omega)) (by omega)))
      have R1_4 := Lib.hid (show V9.heap[w.heap.size + 1]? = some (.cells #[.int .i64 x.kind, .bool false, .int .i64 x.id.index, .int .i64 x.id.gen, .int .i64 x.comp, .slice none 0 0] 29 (0, 0)) from (by rw [hnm]; exact heap_setList (heap_setList (heap_setList (heap_setList (heap_setList (heap_setList (R1_3.out))))))))
      have R2_4 := Lib.hid (row_nm hnm (row_other (row_other (row_other (row_other (row_other (row_other (R2_3.out) (by omega)) (by omega)) (by omega)) (by omega)) (by omega)) (by omega)))
      clear hnm
      have q1_0 := cl6 R1_4.out
      refine ⟨rfl, .agg #[.int .i64 x.kind, .bool false, .int .i64 x.id.index, .int .i64 x.id.gen, .int .i64 x.comp, .slice none 0 0], by simp only [results, hfr]; go_simp, ?_⟩
      clear q1_0
      have HP := Lib.hid (show plainC x = ⟨x.kind, false, ⟨x.id.index, x.id.gen⟩, x.comp, []⟩ by unfold plainC; rw [if_pos HK.out]; simp [HKK.out, HL.out])
      exact ⟨_, rfl, by rw [HP.out]; exact cmd_bare (x := ⟨x.kind, false, ⟨x.id.index, x.id.gen⟩, x.comp, []⟩) HF.out.1 HF.out.2.1 HF.out.2.2.1 HF.out.2.2.2 rfl, Only.fin HB0.out O4.out⟩
  case true =>
    have HL := Lib.hid hl
    clear hl
    rcases h4 with h | h | h | h
    · have HKK := Lib.hid h
      have b0 : (x.kind == 0) = true := by simp [h]
      have b2 : (x.kind == 2) = false := by simp [h]
      have l0 : decide (x.kind < 0) = false := by simp [h]
      have l3 : decide (3 < x.kind) = false := by simp [h]
      have g2 : decide (2 ≤ x.kind) = false := by simp [h]
      have i0 : ¬ x.kind < 0 := by omega
      have i3 : ¬ (3 : Int) < x.kind := by omega
      have i2 : ¬ (2 : Int) ≤ x.kind := by omega
      clear h
      obtain ⟨W0, hW0⟩ : ∃ W, ((w.alloc (.cells #[.int .i64 x.kind, .bool true, .int .i64 x.id.index, .int .i64 x.id.gen, .int .i64 x.comp, .slice Ad x.data.length cd] 29)).alloc (.cells #[.int .i64 0, .bool false, .int .i64 0, .int .i64 0, .int .i64 0, .slice none 0 0] 29)) = W := ⟨_, rfl⟩
      have hz0 : W0.heap.size = w.heap.size + 2 := by rw [← hW0]; simp
      have hb0 : Below w.heap.size w W0 := by rw [← hW0]; exact ((Below.refl _ _).alloc (Nat.le_refl _) _).alloc (by first | (simp; done) | (simp; omega)) _
      have HZ := Lib.hid hz0
      have HB0 := Lib.hid hb0
      have R0_0 := Lib.hid (show W0.heap[w.heap.size]? = some (.cells #[.int .i64 x.kind, .bool true, .int .i64 x.id.index, .int .i64 x.id.gen, .int .i64 x.comp, .slice Ad x.data.length cd] 29 (0, 0)) by rw [← hW0]; exact alloc_old (alloc_at rfl))
      have R1_0 := Lib.hid (show W0.heap[w.heap.size + 1]? = some (.cells #[.int .i64 0, .bool false, .int .i64 0, .int .i64 0, .int .i64 0, .slice none 0 0] 29 (0, 0)) by rw [← hW0]; exact alloc_at (by simp))
      have O0 := Lib.hid (Only.refl (Box w 3) W0)
      clear hz0 hb0
      have q0_0 := rw6 R0_0.out
      have q1_0 := rw6 R1_0.out
      go_enter Tryz.func38, Tryz.ntmps38
      go_wp2_with (with_reducible refine stopLoad 3 16 rfl ?_)
      refine Lib.hid ?_
      try rw [hW0]
      clear hW0
      clear q0_0 q1_0
      try rw [show W0.heap.size = w.heap.size + 1 + 1 by have := HZ.out; omega]
      refine nm_list (fun V1 hnm => ?_)
      have S1 := Lib.hid (show Only (Box w 3) W0 V1 from (by rw [hnm]; exact (Only.refl (Box w 3) W0).alloc _))
      have O1 := Lib.hid (O0.out.trans S1.out)
      have R0_1 := Lib.hid (row_nm hnm (alloc_old (R0_0.out)))
      have R1_1 := Lib.hid (row_nm hnm (alloc_old (R1_0.out)))
      have R2_1 := Lib.hid (show V1.heap[w.heap.size + 1 + 1]? = some (.cells #[.int .i64 x.kind, .bool false, .int .i64 0, .int .i64 0, .int .i64 0, .slice none 0 0] 29 (0, 0)) from (by rw [hnm]; exact alloc_at (by have := HZ.out; first | omega | (simp <;> omega))))
      clear hnm
      have q0_0 := rw6 R0_1.out
      have q1_0 := rw6 R1_1.out
      have q2_0 := rw6 R2_1.out
      go_wp2_with fail
      clear q0_0 q1_0 q2_0
      refine nm_post (fun V9 hnm => ?_)
      have S2 := Lib.hid (show Only (Box w 3) V1 V9 from (by rw [hnm]; exact ((((((Only.refl (Box w 3) V1).put ⟨by omega, by omega⟩).put ⟨by omega, by omega⟩).put ⟨by omega, by omega⟩).put ⟨by omega, by omega⟩).put ⟨by omega, by omega⟩).put ⟨by omega, by omega⟩))
      have O2 := Lib.hid (O1.out.trans S2.out)
      have R0_2 := Lib.hid (row_nm hnm (row_other (row_other (row_other (row_other (row_other (row_other (R0_1.out) (by omega)) (by omega)) (by omega)) (by omega)) (by omega)) (by omega)))
      have R1_2 := Lib.hid (show V9.heap[w.heap.size + 1]? = some (.cells #[.int .i64 x.kind, .bool false, .int .i64 0, .int .i64 0, .int .i64 0, .slice none 0 0] 29 (0, 0)) from (by rw [hnm]; exact heap_setList (heap_setList (heap_setList (heap_setList (heap_setList (heap_setList (R1_1.out))))))))
      have R2_2 := Lib.hid (row_nm hnm (row_other (row_other (row_other (row_other (row_other (row_other (R2_1.out) (by omega)) (by omega)) (by omega)) (by omega)) (by omega)) (by omega)))
      clear hnm
      have q1_0 := cl6 R1_2.out
      refine ⟨rfl, .agg #[.int .i64 x.kind, .bool false, .int .i64 0, .int .i64 0, .int .i64 0, .slice none 0 0], by simp only [results, hfr]; go_simp, ?_⟩
      clear q1_0
      have HP := Lib.hid (show plainC x = ⟨x.kind, false, ⟨0, 0⟩, 0, []⟩ by unfold plainC; rw [if_pos HK.out]; simp [HKK.out])
      exact ⟨_, rfl, by rw [HP.out]; exact cmd_bare (x := ⟨x.kind, false, ⟨0, 0⟩, 0, []⟩) HF.out.1 wf0 wf0 wf0 rfl, Only.fin HB0.out O2.out⟩
    · have HKK := Lib.hid h
      have b0 : (x.kind == 0) = false := by simp [h]
      have b2 : (x.kind == 2) = false := by simp [h]
      have l0 : decide (x.kind < 0) = false := by simp [h]
      have l3 : decide (3 < x.kind) = false := by simp [h]
      have g2 : decide (2 ≤ x.kind) = false := by simp [h]
      have i0 : ¬ x.kind < 0 := by omega
      have i3 : ¬ (3 : Int) < x.kind := by omega
      have i2 : ¬ (2 : Int) ≤ x.kind := by omega
      clear h
      obtain ⟨W0, hW0⟩ : ∃ W, ((w.alloc (.cells #[.int .i64 x.kind, .bool true, .int .i64 x.id.index, .int .i64 x.id.gen, .int .i64 x.comp, .slice Ad x.data.length cd] 29)).alloc (.cells #[.int .i64 0, .bool false, .int .i64 0, .int .i64 0, .int .i64 0, .slice none 0 0] 29)) = W := ⟨_, rfl⟩
      have hz0 : W0.heap.size = w.heap.size + 2 := by rw [← hW0]; simp
      have hb0 : Below w.heap.size w W0 := by rw [← hW0]; exact ((Below.refl _ _).alloc (Nat.le_refl _) _).alloc (by first | (simp; done) | (simp; omega)) _
      have HZ := Lib.hid hz0
      have HB0 := Lib.hid hb0
      have R0_0 := Lib.hid (show W0.heap[w.heap.size]? = some (.cells #[.int .i64 x.kind, .bool true, .int .i64 x.id.index, .int .i64 x.id.gen, .int .i64 x.comp, .slice Ad x.data.length cd] 29 (0, 0)) by rw [← hW0]; exact alloc_old (alloc_at rfl))
      have R1_0 := Lib.hid (show W0.heap[w.heap.size + 1]? = some (.cells #[.int .i64 0, .bool false, .int .i64 0, .int .i64 0, .int .i64 0, .slice none 0 0] 29 (0, 0)) by rw [← hW0]; exact alloc_at (by simp))
      have O0 := Lib.hid (Only.refl (Box w 3) W0)
      clear hz0 hb0
      have q0_0 := rw6 R0_0.out
      have q1_0 := rw6 R1_0.out
      go_enter Tryz.func38, Tryz.ntmps38
      go_wp2_with (with_reducible refine stopLoad 3 16 rfl ?_)
      refine Lib.hid ?_
      try rw [hW0]
      clear hW0
      clear q0_0 q1_0
      try rw [show W0.heap.size = w.heap.size + 1 + 1 by have := HZ.out; omega]
      refine nm_list (fun V1 hnm => ?_)
      have S1 := Lib.hid (show Only (Box w 3) W0 V1 from (by rw [hnm]; exact (Only.refl (Box w 3) W0).alloc _))
      have O1 := Lib.hid (O0.out.trans S1.out)
      have R0_1 := Lib.hid (row_nm hnm (alloc_old (R0_0.out)))
      have R1_1 := Lib.hid (row_nm hnm (alloc_old (R1_0.out)))
      have R2_1 := Lib.hid (show V1.heap[w.heap.size + 1 + 1]? = some (.cells #[.int .i64 x.kind, .bool false, .int .i64 0, .int .i64 0, .int .i64 0, .slice none 0 0] 29 (0, 0)) from (by rw [hnm]; exact alloc_at (by have := HZ.out; first | omega | (simp <;> omega))))
      clear hnm
      have q0_0 := rw6 R0_1.out
      have q1_0 := rw6 R1_1.out
      have q2_0 := rw6 R2_1.out
      go_wp2_with fail
      clear q0_0 q1_0 q2_0
      refine wp_region_held_drew (S := fun W => Only (fun b => b = w.heap.size + 1 + 1) V1 W) (by kernel_rfl) ((Only.refl _ _).drw) (fun s0 => ?_)
      obtain ⟨v1, hv0⟩ : ∃ V, V = V1.drew := ⟨_, rfl⟩
      rw [← hv0] at s0 ⊢
      have t1 : Only (fun b => b = w.heap.size + 1 + 1) V1 v1 := s0
      have rb2_1 : v1.heap[w.heap.size + 1 + 1]? = some (.cells #[.int .i64 x.kind, .bool false, .int .i64 0, .int .i64 0, .int .i64 0, .slice none 0 0] 29 (0, 0)) := by rw [hv0]; exact R2_1.out
      clear hv0 s0
      refine tkHV (i := 0) (v := .pointer (some ⟨w.heap.size, 1, none⟩)) rfl t1 ?_
      go_simp
      refine tkH (i := 1) (v := .bool true) rfl (Or.inl ⟨by rfl, fun w' h => by have e := row_only (h : Only (fun b => b = w.heap.size + 1 + 1) V1 w') R0_1.out (by first | omega | (dsimp only; omega)); have e0 := cell_row e 0; have e1 := cell_row e 1; have e2 := cell_row e 2; have e3 := cell_row e 3; have e4 := cell_row e 4; have e5 := cell_row e 5; go_simp⟩) t1 ?_
      go_simp
      refine tkHV (i := 2) (v := .pointer (some ⟨w.heap.size, 2, none⟩)) rfl t1 ?_
      go_simp
      refine tkHV (i := 3) (v := .pointer (some ⟨w.heap.size, 2, none⟩)) rfl t1 ?_
      go_simp
      refine tkH (i := 4) (v := .int .i64 x.id.index) rfl (Or.inl ⟨by rfl, fun w' h => by have e := row_only (h : Only (fun b => b = w.heap.size + 1 + 1) V1 w') R0_1.out (by first | omega | (dsimp only; omega)); have e0 := cell_row e 0; have e1 := cell_row e 1; have e2 := cell_row e 2; have e3 := cell_row e 3; have e4 := cell_row e 4; have e5 := cell_row e 5; go_simp⟩) t1 ?_
      go_simp
      refine tkHV (i := 5) (v := .pointer (some ⟨w.heap.size + 1 + 1, 1, none⟩)) rfl t1 ?_
      go_simp
      refine wpAnyH_all (rs := [6]) (by kernel_rfl) (by simp) ?_
      intro i hi
      obtain rfl : i = 6 := by simpa using hi
      clear hi
      refine wpOp_step rfl (fun K hK => ?_)
      go_simp
      have eb := rb2_1
      have q0 := rw6 eb
      go_simp
      refine hK _ _ ⟨(t1).put rfl, ?_⟩
      clear hK K q0
      refine nm_any (fun v2 hnm => ?_)
      have t2 : Only (fun b => b = w.heap.size + 1 + 1) V1 v2 := by rw [hnm]; exact (t1).put rfl
      have rb2_2 : v2.heap[w.heap.size + 1 + 1]? = some (.cells #[.int .i64 x.kind, .bool true, .int .i64 0, .int .i64 0, .int .i64 0, .slice none 0 0] 29 (0, 0)) := by rw [hnm]; exact heap_setList (rb2_1)
      clear hnm eb
      refine tkHV (i := 7) (v := .pointer (some ⟨w.heap.size + 1 + 1, 2, none⟩)) rfl t2 ?_
      go_simp
      refine tkHV (i := 8) (v := .pointer (some ⟨w.heap.size + 1 + 1, 2, none⟩)) rfl t2 ?_
      go_simp
      refine wpAnyH_all (rs := [9]) (by kernel_rfl) (by simp) ?_
      intro i hi
      obtain rfl : i = 9 := by simpa using hi
      clear hi
      refine wpOp_step rfl (fun K hK => ?_)
      go_simp
      have eb := rb2_2
      have q0 := rw6 eb
      go_simp
      refine hK _ _ ⟨(t2).put rfl, ?_⟩
      clear hK K q0
      refine nm_any (fun v3 hnm => ?_)
      have t3 : Only (fun b => b = w.heap.size + 1 + 1) V1 v3 := by rw [hnm]; exact (t2).put rfl
      have rb2_3 : v3.heap[w.heap.size + 1 + 1]? = some (.cells #[.int .i64 x.kind, .bool true, .int .i64 x.id.index, .int .i64 0, .int .i64 0, .slice none 0 0] 29 (0, 0)) := by rw [hnm]; exact heap_setList (rb2_2)
      clear hnm eb
      refine wpAnyH_done (by kernel_rfl) ?_ _
      have S2 := Lib.hid (show Only (Box w 3) V1 v3 from (t3).wid (fun b hb => by first | (unfold Box; omega) | (dsimp only at hb; unfold Box; omega)))
      have O2 := Lib.hid (O1.out.trans S2.out)
      have R0_2 := Lib.hid (row_only t3 R0_1.out (by first | omega | (dsimp only; omega)))
      have R1_2 := Lib.hid (row_only t3 R1_1.out (by first | omega | (dsimp only; omega)))
      have R2_2 := Lib.hid (show v3.heap[w.heap.size + 1 + 1]? = some (.cells #[.int .i64 x.kind, .bool true, .int .i64 x.id.index, .int .i64 0, .int .i64 0, .slice none 0 0] 29 (0, 0)) from rb2_3)
      clear rb2_3
      have q0_0 := rw6 R0_2.out
      have q1_0 := rw6 R1_2.out
      have q2_0 := rw6 R2_2.out
      go_wp2_with fail
      clear q0_0 q1_0 q2_0
      refine nm_post (fun V9 hnm => ?_)
      have S3 := Lib.hid (show Only (Box w 3) v3 V9 from (by rw [hnm]; exact ((((((Only.refl (Box w 3) v3).put ⟨by omega, by omega⟩).put ⟨by omega, by omega⟩).put ⟨by omega, by omega⟩).put ⟨by omega, by omega⟩).put ⟨by omega, by omega⟩).put ⟨by omega, by omega⟩))
      have O3 := Lib.hid (O2.out.trans S3.out)
      have R0_3 := Lib.hid (row_nm hnm (row_other (row_other (row_other (row_other (row_other (row_other (R0_2.out) (by omega)) (by omega)) (by omega)) (by omega)) (by omega)) (by omega)))
      have R1_3 := Lib.hid (show V9.heap[w.heap.size + 1]? = some (.cells #[.int .i64 x.kind, .bool true, .int .i64 x.id.index, .int .i64 0, .int .i64 0, .slice none 0 0] 29 (0, 0)) from (by rw [hnm]; exact heap_setList (heap_setList (heap_setList (heap_setList (heap_setList (heap_setList (R1_2.out))))))))
      have R2_3 := Lib.hid (row_nm hnm (row_other (row_other (row_other (row_other (row_other (row_other (R2_2.out) (by omega)) (by omega)) (by omega)) (by omega)) (by omega)) (by omega)))
      clear hnm
      have q1_0 := cl6 R1_3.out
      refine ⟨rfl, .agg #[.int .i64 x.kind, .bool true, .int .i64 x.id.index, .int .i64 0, .int .i64 0, .slice none 0 0], by simp only [results, hfr]; go_simp, ?_⟩
      clear q1_0
      have HP := Lib.hid (show plainC x = ⟨x.kind, true, ⟨x.id.index, 0⟩, 0, []⟩ by unfold plainC; rw [if_pos HK.out]; simp [HKK.out, HL.out])
      exact ⟨_, rfl, by rw [HP.out]; exact cmd_bare (x := ⟨x.kind, true, ⟨x.id.index, 0⟩, 0, []⟩) HF.out.1 HF.out.2.1 wf0 wf0 rfl, Only.fin HB0.out O3.out⟩
    · have HKK := Lib.hid h
      have b0 : (x.kind == 0) = false := by simp [h]
      have b2 : (x.kind == 2) = true := by simp [h]
      have l0 : decide (x.kind < 0) = false := by simp [h]
      have l3 : decide (3 < x.kind) = false := by simp [h]
      have g2 : decide (2 ≤ x.kind) = true := by simp [h]
      have i0 : ¬ x.kind < 0 := by omega
      have i3 : ¬ (3 : Int) < x.kind := by omega
      have i2 : (2 : Int) ≤ x.kind := by omega
      clear h
      obtain ⟨W0, hW0⟩ : ∃ W, ((w.alloc (.cells #[.int .i64 x.kind, .bool true, .int .i64 x.id.index, .int .i64 x.id.gen, .int .i64 x.comp, .slice Ad x.data.length cd] 29)).alloc (.cells #[.int .i64 0, .bool false, .int .i64 0, .int .i64 0, .int .i64 0, .slice none 0 0] 29)) = W := ⟨_, rfl⟩
      have hz0 : W0.heap.size = w.heap.size + 2 := by rw [← hW0]; simp
      have hb0 : Below w.heap.size w W0 := by rw [← hW0]; exact ((Below.refl _ _).alloc (Nat.le_refl _) _).alloc (by first | (simp; done) | (simp; omega)) _
      have HZ := Lib.hid hz0
      have HB0 := Lib.hid hb0
      have R0_0 := Lib.hid (show W0.heap[w.heap.size]? = some (.cells #[.int .i64 x.kind, .bool true, .int .i64 x.id.index, .int .i64 x.id.gen, .int .i64 x.comp, .slice Ad x.data.length cd] 29 (0, 0)) by rw [← hW0]; exact alloc_old (alloc_at rfl))
      have R1_0 := Lib.hid (show W0.heap[w.heap.size + 1]? = some (.cells #[.int .i64 0, .bool false, .int .i64 0, .int .i64 0, .int .i64 0, .slice none 0 0] 29 (0, 0)) by rw [← hW0]; exact alloc_at (by simp))
      have O0 := Lib.hid (Only.refl (Box w 3) W0)
      have Vd_0 := Lib.hid (show Rep.byte.list.val (In Q w 3) W0 (.slice Ad x.data.length cd) x.data from val_in HSL.out hb0)
      clear hz0 hb0
      have q0_0 := rw6 R0_0.out
      have q1_0 := rw6 R1_0.out
      go_enter Tryz.func38, Tryz.ntmps38
      go_wp2_with (with_reducible refine stopLoad 3 16 rfl ?_)
      refine Lib.hid ?_
      try rw [hW0]
      clear hW0
      clear q0_0 q1_0
      try rw [show W0.heap.size = w.heap.size + 1 + 1 by have := HZ.out; omega]
      refine nm_list (fun V1 hnm => ?_)
      have S1 := Lib.hid (show Only (Box w 3) W0 V1 from (by rw [hnm]; exact (Only.refl (Box w 3) W0).alloc _))
      have O1 := Lib.hid (O0.out.trans S1.out)
      have R0_1 := Lib.hid (row_nm hnm (alloc_old (R0_0.out)))
      have R1_1 := Lib.hid (row_nm hnm (alloc_old (R1_0.out)))
      have R2_1 := Lib.hid (show V1.heap[w.heap.size + 1 + 1]? = some (.cells #[.int .i64 x.kind, .bool false, .int .i64 0, .int .i64 0, .int .i64 0, .slice none 0 0] 29 (0, 0)) from (by rw [hnm]; exact alloc_at (by have := HZ.out; first | omega | (simp <;> omega))))
      have Vd_1 := Lib.hid (val_only Vd_0.out S1.out)
      clear hnm
      have q0_0 := rw6 R0_1.out
      have q1_0 := rw6 R1_1.out
      have q2_0 := rw6 R2_1.out
      go_wp2_with fail
      clear q0_0 q1_0 q2_0
      refine wp_region_held_drew (S := fun W => Only (fun b => b = w.heap.size + 1 + 1) V1 W) (by kernel_rfl) ((Only.refl _ _).drw) (fun s0 => ?_)
      obtain ⟨v1, hv0⟩ : ∃ V, V = V1.drew := ⟨_, rfl⟩
      rw [← hv0] at s0 ⊢
      have t1 : Only (fun b => b = w.heap.size + 1 + 1) V1 v1 := s0
      have rb2_1 : v1.heap[w.heap.size + 1 + 1]? = some (.cells #[.int .i64 x.kind, .bool false, .int .i64 0, .int .i64 0, .int .i64 0, .slice none 0 0] 29 (0, 0)) := by rw [hv0]; exact R2_1.out
      clear hv0 s0
      refine tkHV (i := 0) (v := .pointer (some ⟨w.heap.size, 1, none⟩)) rfl t1 ?_
      go_simp
      refine tkH (i := 1) (v := .bool true) rfl (Or.inl ⟨by rfl, fun w' h => by have e := row_only (h : Only (fun b => b = w.heap.size + 1 + 1) V1 w') R0_1.out (by first | omega | (dsimp only; omega)); have e0 := cell_row e 0; have e1 := cell_row e 1; have e2 := cell_row e 2; have e3 := cell_row e 3; have e4 := cell_row e 4; have e5 := cell_row e 5; go_simp⟩) t1 ?_
      go_simp
      refine tkHV (i := 2) (v := .pointer (some ⟨w.heap.size, 2, none⟩)) rfl t1 ?_
      go_simp
      refine tkHV (i := 3) (v := .pointer (some ⟨w.heap.size, 2, none⟩)) rfl t1 ?_
      go_simp
      refine tkH (i := 4) (v := .int .i64 x.id.index) rfl (Or.inl ⟨by rfl, fun w' h => by have e := row_only (h : Only (fun b => b = w.heap.size + 1 + 1) V1 w') R0_1.out (by first | omega | (dsimp only; omega)); have e0 := cell_row e 0; have e1 := cell_row e 1; have e2 := cell_row e 2; have e3 := cell_row e 3; have e4 := cell_row e 4; have e5 := cell_row e 5; go_simp⟩) t1 ?_
      go_simp
      refine tkHV (i := 5) (v := .pointer (some ⟨w.heap.size + 1 + 1, 1, none⟩)) rfl t1 ?_
      go_simp
      refine wpAnyH_all (rs := [6]) (by kernel_rfl) (by simp) ?_
      intro i hi
      obtain rfl : i = 6 := by simpa using hi
      clear hi
      refine wpOp_step rfl (fun K hK => ?_)
      go_simp
      have eb := rb2_1
      have q0 := rw6 eb
      go_simp
      refine hK _ _ ⟨(t1).put rfl, ?_⟩
      clear hK K q0
      refine nm_any (fun v2 hnm => ?_)
      have t2 : Only (fun b => b = w.heap.size + 1 + 1) V1 v2 := by rw [hnm]; exact (t1).put rfl
      have rb2_2 : v2.heap[w.heap.size + 1 + 1]? = some (.cells #[.int .i64 x.kind, .bool true, .int .i64 0, .int .i64 0, .int .i64 0, .slice none 0 0] 29 (0, 0)) := by rw [hnm]; exact heap_setList (rb2_1)
      clear hnm eb
      refine tkHV (i := 7) (v := .pointer (some ⟨w.heap.size + 1 + 1, 2, none⟩)) rfl t2 ?_
      go_simp
      refine tkHV (i := 8) (v := .pointer (some ⟨w.heap.size + 1 + 1, 2, none⟩)) rfl t2 ?_
      go_simp
      refine wpAnyH_all (rs := [9]) (by kernel_rfl) (by simp) ?_
      intro i hi
      obtain rfl : i = 9 := by simpa using hi
      clear hi
      refine wpOp_step rfl (fun K hK => ?_)
      go_simp
      have eb := rb2_2
      have q0 := rw6 eb
      go_simp
      refine hK _ _ ⟨(t2).put rfl, ?_⟩
      clear hK K q0
      refine nm_any (fun v3 hnm => ?_)
      have t3 : Only (fun b => b = w.heap.size + 1 + 1) V1 v3 := by rw [hnm]; exact (t2).put rfl
      have rb2_3 : v3.heap[w.heap.size + 1 + 1]? = some (.cells #[.int .i64 x.kind, .bool true, .int .i64 x.id.index, .int .i64 0, .int .i64 0, .slice none 0 0] 29 (0, 0)) := by rw [hnm]; exact heap_setList (rb2_2)
      clear hnm eb
      refine wpAnyH_done (by kernel_rfl) ?_ _
      have S2 := Lib.hid (show Only (Box w 3) V1 v3 from (t3).wid (fun b hb => by first | (unfold Box; omega) | (dsimp only at hb; unfold Box; omega)))
      have O2 := Lib.hid (O1.out.trans S2.out)
      have R0_2 := Lib.hid (row_only t3 R0_1.out (by first | omega | (dsimp only; omega)))
      have R1_2 := Lib.hid (row_only t3 R1_1.out (by first | omega | (dsimp only; omega)))
      have R2_2 := Lib.hid (show v3.heap[w.heap.size + 1 + 1]? = some (.cells #[.int .i64 x.kind, .bool true, .int .i64 x.id.index, .int .i64 0, .int .i64 0, .slice none 0 0] 29 (0, 0)) from rb2_3)
      have Vd_2 := Lib.hid (val_only Vd_1.out S2.out)
      clear rb2_3
      have q0_0 := rw6 R0_2.out
      have q1_0 := rw6 R1_2.out
      have q2_0 := rw6 R2_2.out
      go_wp2_with (with_reducible refine stopLoad 29 3 rfl ?_)
      refine Lib.hid ?_
      clear q0_0 q1_0 q2_0
      refine nm_list (fun V4 hnm => ?_)
      have S3 := Lib.hid (show Only (Box w 3) v3 V4 from (by rw [hnm]; exact ((Only.refl (Box w 3) v3).put ⟨by omega, by omega⟩).put ⟨by omega, by omega⟩))
      have O3 := Lib.hid (O2.out.trans S3.out)
      have R0_3 := Lib.hid (row_nm hnm (row_other (row_other (R0_2.out) (by omega)) (by omega)))
      have R1_3 := Lib.hid (row_nm hnm (row_other (row_other (R1_2.out) (by omega)) (by omega)))
      have R2_3 := Lib.hid (show V4.heap[w.heap.size + 1 + 1]? = some (.cells #[.int .i64 x.kind, .bool true, .int .i64 x.id.index, .int .i64 0, .int .i64 x.comp, .slice Ad x.data.length cd] 29 (0, 0)) from (by rw [hnm]; exact heap_setList (heap_setList (R2_2.out))))
      have Vd_3 := Lib.hid (val_only Vd_2.out S3.out)
      clear hnm
      have q0_0 := rw6 R0_3.out
      have q1_0 := rw6 R1_3.out
      have q2_0 := rw6 R2_3.out
      go_wp2_with fail
      clear q0_0 q1_0 q2_0
      refine nm_post (fun V9 hnm => ?_)
      have S4 := Lib.hid (show Only (Box w 3) V4 V9 from (by rw [hnm]; exact ((((((Only.refl (Box w 3) V4).put ⟨by omega, by omega⟩).put ⟨by omega, by omega⟩).put ⟨by omega, by omega⟩).put ⟨by omega, by omega⟩).put ⟨by omega, by omega⟩).put ⟨by omega, by omega⟩))
      have O4 := Lib.hid (O3.out.trans S4.out)
      have R0_4 := Lib.hid (row_nm hnm (row_other (row_other (row_other (row_other (row_other (row_other (R0_3.out) (by omega)) (by omega)) (by omega)) (by omega)) (by omega)) (by omega)))
      have R1_4 := Lib.hid (show V9.heap[w.heap.size + 1]? = some (.cells #[.int .i64 x.kind, .bool true, .int .i64 x.id.index, .int .i64 0, .int .i64 x.comp, .slice Ad x.data.length cd] 29 (0, 0)) from (by rw [hnm]; exact heap_setList (heap_setList (heap_setList (heap_setList (heap_setList (heap_setList (R1_3.out))))))))
      have R2_4 := Lib.hid (row_nm hnm (row_other (row_other (row_other (row_other (row_other (row_other (R2_3.out) (by omega)) (by omega)) (by omega)) (by omega)) (by omega)) (by omega)))
      have Vd_4 := Lib.hid (val_only Vd_3.out S4.out)
      clear hnm
      have q1_0 := cl6 R1_4.out
      refine ⟨rfl, .agg #[.int .i64 x.kind, .bool true, .int .i64 x.id.index, .int .i64 0, .int .i64 x.comp, .slice Ad x.data.length cd], by simp only [results, hfr]; go_simp, ?_⟩
      clear q1_0
      have HP := Lib.hid (show plainC x = ⟨x.kind, true, ⟨x.id.index, 0⟩, x.comp, x.data⟩ by unfold plainC; rw [if_pos HK.out]; simp [HKK.out, HL.out])
      exact ⟨_, rfl, by rw [HP.out]; exact rCmd_agg (x := ⟨x.kind, true, ⟨x.id.index, 0⟩, x.comp, x.data⟩) HF.out.1 HF.out.2.1 wf0 HF.out.2.2.2 (sl_of (Rep.val_mono (fun b hb _ => by rcases hb with h | h; exact .inl h.1; exact .inr (by omega)) Vd_4.out)), Only.fin HB0.out O4.out⟩
    · have HKK := Lib.hid h
      have b0 : (x.kind == 0) = false := by simp [h]
      have b2 : (x.kind == 2) = false := by simp [h]
      have l0 : decide (x.kind < 0) = false := by simp [h]
      have l3 : decide (3 < x.kind) = false := by simp [h]
      have g2 : decide (2 ≤ x.kind) = true := by simp [h]
      have i0 : ¬ x.kind < 0 := by omega
      have i3 : ¬ (3 : Int) < x.kind := by omega
      have i2 : (2 : Int) ≤ x.kind := by omega
      clear h
      obtain ⟨W0, hW0⟩ : ∃ W, ((w.alloc (.cells #[.int .i64 x.kind, .bool true, .int .i64 x.id.index, .int .i64 x.id.gen, .int .i64 x.comp, .slice Ad x.data.length cd] 29)).alloc (.cells #[.int .i64 0, .bool false, .int .i64 0, .int .i64 0, .int .i64 0, .slice none 0 0] 29)) = W := ⟨_, rfl⟩
      have hz0 : W0.heap.size = w.heap.size + 2 := by rw [← hW0]; simp
      have hb0 : Below w.heap.size w W0 := by rw [← hW0]; exact ((Below.refl _ _).alloc (Nat.le_refl _) _).alloc (by first | (simp; done) | (simp; omega)) _
      have HZ := Lib.hid hz0
      have HB0 := Lib.hid hb0
      have R0_0 := Lib.hid (show W0.heap[w.heap.size]? = some (.cells #[.int .i64 x.kind, .bool true, .int .i64 x.id.index, .int .i64 x.id.gen, .int .i64 x.comp, .slice Ad x.data.length cd] 29 (0, 0)) by rw [← hW0]; exact alloc_old (alloc_at rfl))
      have R1_0 := Lib.hid (show W0.heap[w.heap.size + 1]? = some (.cells #[.int .i64 0, .bool false, .int .i64 0, .int .i64 0, .int .i64 0, .slice none 0 0] 29 (0, 0)) by rw [← hW0]; exact alloc_at (by simp))
      have O0 := Lib.hid (Only.refl (Box w 3) W0)
      clear hz0 hb0
      have q0_0 := rw6 R0_0.out
      have q1_0 := rw6 R1_0.out
      go_enter Tryz.func38, Tryz.ntmps38
      go_wp2_with (with_reducible refine stopLoad 3 16 rfl ?_)
      refine Lib.hid ?_
      try rw [hW0]
      clear hW0
      clear q0_0 q1_0
      try rw [show W0.heap.size = w.heap.size + 1 + 1 by have := HZ.out; omega]
      refine nm_list (fun V1 hnm => ?_)
      have S1 := Lib.hid (show Only (Box w 3) W0 V1 from (by rw [hnm]; exact (Only.refl (Box w 3) W0).alloc _))
      have O1 := Lib.hid (O0.out.trans S1.out)
      have R0_1 := Lib.hid (row_nm hnm (alloc_old (R0_0.out)))
      have R1_1 := Lib.hid (row_nm hnm (alloc_old (R1_0.out)))
      have R2_1 := Lib.hid (show V1.heap[w.heap.size + 1 + 1]? = some (.cells #[.int .i64 x.kind, .bool false, .int .i64 0, .int .i64 0, .int .i64 0, .slice none 0 0] 29 (0, 0)) from (by rw [hnm]; exact alloc_at (by have := HZ.out; first | omega | (simp <;> omega))))
      clear hnm
      have q0_0 := rw6 R0_1.out
      have q1_0 := rw6 R1_1.out
      have q2_0 := rw6 R2_1.out
      go_wp2_with fail
      clear q0_0 q1_0 q2_0
      refine wp_region_held_drew (S := fun W => Only (fun b => b = w.heap.size + 1 + 1) V1 W) (by kernel_rfl) ((Only.refl _ _).drw) (fun s0 => ?_)
      obtain ⟨v1, hv0⟩ : ∃ V, V = V1.drew := ⟨_, rfl⟩
      rw [← hv0] at s0 ⊢
      have t1 : Only (fun b => b = w.heap.size + 1 + 1) V1 v1 := s0
      have rb2_1 : v1.heap[w.heap.size + 1 + 1]? = some (.cells #[.int .i64 x.kind, .bool false, .int .i64 0, .int .i64 0, .int .i64 0, .slice none 0 0] 29 (0, 0)) := by rw [hv0]; exact R2_1.out
      clear hv0 s0
      refine tkHV (i := 0) (v := .pointer (some ⟨w.heap.size, 1, none⟩)) rfl t1 ?_
      go_simp
      refine tkH (i := 1) (v := .bool true) rfl (Or.inl ⟨by rfl, fun w' h => by have e := row_only (h : Only (fun b => b = w.heap.size + 1 + 1) V1 w') R0_1.out (by first | omega | (dsimp only; omega)); have e0 := cell_row e 0; have e1 := cell_row e 1; have e2 := cell_row e 2; have e3 := cell_row e 3; have e4 := cell_row e 4; have e5 := cell_row e 5; go_simp⟩) t1 ?_
      go_simp
      refine tkHV (i := 2) (v := .pointer (some ⟨w.heap.size, 2, none⟩)) rfl t1 ?_
      go_simp
      refine tkHV (i := 3) (v := .pointer (some ⟨w.heap.size, 2, none⟩)) rfl t1 ?_
      go_simp
      refine tkH (i := 4) (v := .int .i64 x.id.index) rfl (Or.inl ⟨by rfl, fun w' h => by have e := row_only (h : Only (fun b => b = w.heap.size + 1 + 1) V1 w') R0_1.out (by first | omega | (dsimp only; omega)); have e0 := cell_row e 0; have e1 := cell_row e 1; have e2 := cell_row e 2; have e3 := cell_row e 3; have e4 := cell_row e 4; have e5 := cell_row e 5; go_simp⟩) t1 ?_
      go_simp
      refine tkHV (i := 5) (v := .pointer (some ⟨w.heap.size + 1 + 1, 1, none⟩)) rfl t1 ?_
      go_simp
      refine wpAnyH_all (rs := [6]) (by kernel_rfl) (by simp) ?_
      intro i hi
      obtain rfl : i = 6 := by simpa using hi
      clear hi
      refine wpOp_step rfl (fun K hK => ?_)
      go_simp
      have eb := rb2_1
      have q0 := rw6 eb
      go_simp
      refine hK _ _ ⟨(t1).put rfl, ?_⟩
      clear hK K q0
      refine nm_any (fun v2 hnm => ?_)
      have t2 : Only (fun b => b = w.heap.size + 1 + 1) V1 v2 := by rw [hnm]; exact (t1).put rfl
      have rb2_2 : v2.heap[w.heap.size + 1 + 1]? = some (.cells #[.int .i64 x.kind, .bool true, .int .i64 0, .int .i64 0, .int .i64 0, .slice none 0 0] 29 (0, 0)) := by rw [hnm]; exact heap_setList (rb2_1)
      clear hnm eb
      refine tkHV (i := 7) (v := .pointer (some ⟨w.heap.size + 1 + 1, 2, none⟩)) rfl t2 ?_
      go_simp
      refine tkHV (i := 8) (v := .pointer (some ⟨w.heap.size + 1 + 1, 2, none⟩)) rfl t2 ?_
      go_simp
      refine wpAnyH_all (rs := [9]) (by kernel_rfl) (by simp) ?_
      intro i hi
      obtain rfl : i = 9 := by simpa using hi
      clear hi
      refine wpOp_step rfl (fun K hK => ?_)
      go_simp
      have eb := rb2_2
      have q0 := rw6 eb
      go_simp
      refine hK _ _ ⟨(t2).put rfl, ?_⟩
      clear hK K q0
      refine nm_any (fun v3 hnm => ?_)
      have t3 : Only (fun b => b = w.heap.size + 1 + 1) V1 v3 := by rw [hnm]; exact (t2).put rfl
      have rb2_3 : v3.heap[w.heap.size + 1 + 1]? = some (.cells #[.int .i64 x.kind, .bool true, .int .i64 x.id.index, .int .i64 0, .int .i64 0, .slice none 0 0] 29 (0, 0)) := by rw [hnm]; exact heap_setList (rb2_2)
      clear hnm eb
      refine wpAnyH_done (by kernel_rfl) ?_ _
      have S2 := Lib.hid (show Only (Box w 3) V1 v3 from (t3).wid (fun b hb => by first | (unfold Box; omega) | (dsimp only at hb; unfold Box; omega)))
      have O2 := Lib.hid (O1.out.trans S2.out)
      have R0_2 := Lib.hid (row_only t3 R0_1.out (by first | omega | (dsimp only; omega)))
      have R1_2 := Lib.hid (row_only t3 R1_1.out (by first | omega | (dsimp only; omega)))
      have R2_2 := Lib.hid (show v3.heap[w.heap.size + 1 + 1]? = some (.cells #[.int .i64 x.kind, .bool true, .int .i64 x.id.index, .int .i64 0, .int .i64 0, .slice none 0 0] 29 (0, 0)) from rb2_3)
      clear rb2_3
      have q0_0 := rw6 R0_2.out
      have q1_0 := rw6 R1_2.out
      have q2_0 := rw6 R2_2.out
      go_wp2_with (with_reducible refine stopLoad 29 3 rfl ?_)
      refine Lib.hid ?_
      clear q0_0 q1_0 q2_0
      refine nm_list (fun V4 hnm => ?_)
      have S3 := Lib.hid (show Only (Box w 3) v3 V4 from (by rw [hnm]; exact (Only.refl (Box w 3) v3).put ⟨by omega, by omega⟩))
      have O3 := Lib.hid (O2.out.trans S3.out)
      have R0_3 := Lib.hid (row_nm hnm (row_other (R0_2.out) (by omega)))
      have R1_3 := Lib.hid (row_nm hnm (row_other (R1_2.out) (by omega)))
      have R2_3 := Lib.hid (show V4.heap[w.heap.size + 1 + 1]? = some (.cells #[.int .i64 x.kind, .bool true, .int .i64 x.id.index, .int .i64 0, .int .i64 x.comp, .slice none 0 0] 29 (0, 0)) from (by rw [hnm]; exact heap_setList (R2_2.out)))
      clear hnm
      have q0_0 := rw6 R0_3.out
      have q1_0 := rw6 R1_3.out
      have q2_0 := rw6 R2_3.out
      go_wp2_with fail
      clear q0_0 q1_0 q2_0
      refine nm_post (fun V9 hnm => ?_)
      have S4 := Lib.hid (show Only (Box w 3) V4 V9 from (by rw [hnm]; exact ((((((Only.refl (Box w 3) V4).put ⟨by omega, by omega⟩).put ⟨by omega, by omega⟩).put ⟨by omega, by omega⟩).put ⟨by omega, by omega⟩).put ⟨by omega, by omega⟩).put ⟨by omega, by omega⟩))
      have O4 := Lib.hid (O3.out.trans S4.out)
      have R0_4 := Lib.hid (row_nm hnm (row_other (row_other (row_other (row_other (row_other (row_other (R0_3.out) (by omega)) (by omega)) (by omega)) (by omega)) (by omega)) (by omega)))
      have R1_4 := Lib.hid (show V9.heap[w.heap.size + 1]? = some (.cells #[.int .i64 x.kind, .bool true, .int .i64 x.id.index, .int .i64 0, .int .i64 x.comp, .slice none 0 0] 29 (0, 0)) from (by rw [hnm]; exact heap_setList (heap_setList (heap_setList (heap_setList (heap_setList (heap_setList (R1_3.out))))))))
      have R2_4 := Lib.hid (row_nm hnm (row_other (row_other (row_other (row_other (row_other (row_other (R2_3.out) (by omega)) (by omega)) (by omega)) (by omega)) (by omega)) (by omega)))
      clear hnm
      have q1_0 := cl6 R1_4.out
      refine ⟨rfl, .agg #[.int .i64 x.kind, .bool true, .int .i64 x.id.index, .int .i64 0, .int .i64 x.comp, .slice none 0 0], by simp only [results, hfr]; go_simp, ?_⟩
      clear q1_0
      have HP := Lib.hid (show plainC x = ⟨x.kind, true, ⟨x.id.index, 0⟩, x.comp, []⟩ by unfold plainC; rw [if_pos HK.out]; simp [HKK.out, HL.out])
      exact ⟨_, rfl, by rw [HP.out]; exact cmd_bare (x := ⟨x.kind, true, ⟨x.id.index, 0⟩, x.comp, []⟩) HF.out.1 HF.out.2.1 wf0 HF.out.2.2.2 rfl, Only.fin HB0.out O4.out⟩
end Go.Proofs.YtejibngkeaamkaaGreatDoor
namespace Go.Proofs.YtejibngkeaamkaaGreatDoor
open Go.RowKit

set_option maxRecDepth 100000 in
set_option maxHeartbeats 2000000 in
/-- ref31.Plain, of an act that may be -/
theorem rplain31_calls {Q : Nat → Prop} {w : World} {v : Value} {x : DAct} (hx : rAct.val Q w v x) (hr : rightA x = true) :
    Calls Tryz.prog 15 #[v] w (Res rAct (fun b => Q b ∨ w.heap.size ≤ b) w (plainA x)) := by
  have hfr : Tryz.f15.results = #[.cell 2 35] := rfl
  obtain ⟨A1, c1, A2, c2, A3, c3, rfl, f0, f1, f2, f3, f4, s1, f5, f6, f7, s2, s3⟩ := rAct_val hx
  have HCM := Lib.hid (show rCmd.val Q w (.agg #[.int .i64 x.cmd.kind, .bool x.cmd.loc, .int .i64 x.cmd.id.index, .int .i64 x.cmd.id.gen, .int .i64 x.cmd.comp, .slice A1 x.cmd.data.length c1]) x.cmd from rCmd_agg f1 f2 f3 f4 s1)
  have HFA := Lib.hid s2.val
  have HFU := Lib.hid s3.val
  have HI := Lib.hid (And.intro f0 (And.intro f5 (And.intro f6 f7)))
  unfold rightA at hr
  simp only [Bool.and_eq_true, decide_eq_true_eq, Bool.or_eq_true, Bool.not_eq_true', decide_eq_false_iff_not] at hr
  obtain ⟨⟨⟨⟨h0, h6⟩, hc⟩, _⟩, _⟩ := hr
  have HCK := Lib.hid (show x.kind = 0 → knownB x.cmd.kind = true from fun h => by
    rcases hc with hc | hc
    · exact absurd h hc
    · unfold checkCmd at hc
      split at hc
      · assumption
      · omega)
  have hcase : x.kind = 0 ∨ x.kind = 1 ∨ x.kind = 2 ∨ x.kind = 3 ∨ x.kind = 4 ∨ x.kind = 5 ∨ x.kind = 6 := by omega
  clear hx f0 f1 f2 f3 f4 s1 f5 f6 f7 s2 s3 hc h0 h6
  rcases hcase with h | h | h | h | h | h | h
  · have HKK := Lib.hid h
    have b0 : (x.kind == 0) = true := by simp [h]
    have b4 : (x.kind == 4) = false := by simp [h]
    have b5 : (x.kind == 5) = false := by simp [h]
    have b6 : (x.kind == 6) = false := by simp [h]
    clear h
    obtain ⟨W0, hW0⟩ : ∃ W, ((w.alloc (.cells #[.int .i64 x.kind, .int .i64 x.cmd.kind, .bool x.cmd.loc, .int .i64 x.cmd.id.index, .int .i64 x.cmd.id.gen, .int .i64 x.cmd.comp, .slice A1 x.cmd.data.length c1, .int .i64 x.policy.room, .int .i64 x.policy.frames, .int .i64 x.n, .slice A2 x.fates.length c2, .slice A3 x.fuses.length c3] 35)).alloc (.cells #[.int .i64 0, .int .i64 0, .bool false, .int .i64 0, .int .i64 0, .int .i64 0, .slice none 0 0, .int .i64 0, .int .i64 0, .int .i64 0, .slice none 0 0, .slice none 0 0] 35)) = W := ⟨_, rfl⟩
    have hz0 : W0.heap.size = w.heap.size + 2 := by rw [← hW0]; simp
    have hb0 : Below w.heap.size w W0 := by rw [← hW0]; exact ((Below.refl _ _).alloc (Nat.le_refl _) _).alloc (by first | (simp; done) | (simp; omega)) _
    have HZ := Lib.hid hz0
    have HB0 := Lib.hid hb0
    have R0_0 := Lib.hid (show W0.heap[w.heap.size]? = some (.cells #[.int .i64 x.kind, .int .i64 x.cmd.kind, .bool x.cmd.loc, .int .i64 x.cmd.id.index, .int .i64 x.cmd.id.gen, .int .i64 x.cmd.comp, .slice A1 x.cmd.data.length c1, .int .i64 x.policy.room, .int .i64 x.policy.frames, .int .i64 x.n, .slice A2 x.fates.length c2, .slice A3 x.fuses.length c3] 35 (0, 0)) by rw [← hW0]; exact alloc_old (alloc_at rfl))
    have R1_0 := Lib.hid (show W0.heap[w.heap.size + 1]? = some (.cells #[.int .i64 0, .int .i64 0, .bool false, .int .i64 0, .int .i64 0, .int .i64 0, .slice none 0 0, .int .i64 0, .int .i64 0, .int .i64 0, .slice none 0 0, .slice none 0 0] 35 (0, 0)) by rw [← hW0]; exact alloc_at (by simp))
    have O0 := Lib.hid (Only.refl (Box w 3) W0)
    have Vm_0 := Lib.hid (show rCmd.val (In Q w 3) W0 (.agg #[.int .i64 x.cmd.kind, .bool x.cmd.loc, .int .i64 x.cmd.id.index, .int .i64 x.cmd.id.gen, .int .i64 x.cmd.comp, .slice A1 x.cmd.data.length c1]) x.cmd from val_in HCM.out hb0)
    clear hz0 hb0
    have q0_0 := rw12 R0_0.out
    have q1_0 := rw12 R1_0.out
    go_enter Tryz.func15, Tryz.ntmps15
    go_wp2_with (with_reducible refine stopLoad 3 7 rfl ?_)
    refine Lib.hid ?_
    try rw [hW0]
    clear hW0
    clear q0_0 q1_0
    try rw [show W0.heap.size = w.heap.size + 1 + 1 by have := HZ.out; omega]
    refine nm_list (fun V1 hnm => ?_)
    have S1 := Lib.hid (show Only (Box w 3) W0 V1 from (by rw [hnm]; exact (Only.refl (Box w 3) W0).alloc _))
    have O1 := Lib.hid (O0.out.trans S1.out)
    have R0_1 := Lib.hid (row_nm hnm (alloc_old (R0_0.out)))
    have R1_1 := Lib.hid (row_nm hnm (alloc_old (R1_0.out)))
    have R2_1 := Lib.hid (show V1.heap[w.heap.size + 1 + 1]? = some (.cells #[.int .i64 x.kind, .int .i64 0, .bool false, .int .i64 0, .int .i64 0, .int .i64 0, .slice none 0 0, .int .i64 0, .int .i64 0, .int .i64 0, .slice none 0 0, .slice none 0 0] 35 (0, 0)) from (by rw [hnm]; exact alloc_at (by have := HZ.out; first | omega | (simp <;> omega))))
    have Vm_1 := Lib.hid (val_only Vm_0.out S1.out)
    clear hnm
    have q0_0 := rw12 R0_1.out
    have q1_0 := rw12 R1_1.out
    have q2_0 := rw12 R2_1.out
    go_wp2_with fail
    clear q0_0 q1_0 q2_0
    refine (rplain13_calls Vm_1.out (HCK.out HKK.out)).mono ?_
    rintro e w2 ⟨vd, rfl, hvd, hb⟩
    have S2 := Lib.hid (show Only (Box w 3) V1 w2 from Only.of_below hb)
    have O2 := Lib.hid (O1.out.trans S2.out)
    have R0_2 := Lib.hid (row_call hb R0_1.out)
    have R1_2 := Lib.hid (row_call hb R1_1.out)
    have R2_2 := Lib.hid (row_call hb R2_1.out)
    have Vm_2 := Lib.hid (val_only Vm_1.out S2.out)
    have Ve_2 := Lib.hid (show rCmd.val (In Q w 3) w2 vd (plainC x.cmd) from Rep.val_mono (fun b hb _ => by rcases hb with h | h; exact h; exact .inr (by have h9 := (Array.getElem?_eq_some_iff.1 R2_1.out).1; omega)) hvd)
    obtain ⟨Bd, dd, rfl, _⟩ := rCmd_val hvd
    clear hvd hb
    have q0_0 := rw12 R0_2.out
    have q1_0 := rw12 R1_2.out
    have q2_0 := rw12 R2_2.out
    go_wp2_with (with_reducible refine stopLoad 3 14 rfl ?_)
    refine Lib.hid ?_
    clear q0_0 q1_0 q2_0
    refine nm_list (fun V3 hnm => ?_)
    have S3 := Lib.hid (show Only (Box w 3) w2 V3 from (by rw [hnm]; exact ((((((Only.refl (Box w 3) w2).put ⟨by omega, by omega⟩).put ⟨by omega, by omega⟩).put ⟨by omega, by omega⟩).put ⟨by omega, by omega⟩).put ⟨by omega, by omega⟩).put ⟨by omega, by omega⟩))
    have O3 := Lib.hid (O2.out.trans S3.out)
    have R0_3 := Lib.hid (row_nm hnm (row_other (row_other (row_other (row_other (row_other (row_other (R0_2.out) (by omega)) (by omega)) (by omega)) (by omega)) (by omega)) (by omega)))
    have R1_3 := Lib.hid (row_nm hnm (row_other (row_other (row_other (row_other (row_other (row_other (R1_2.out) (by omega)) (by omega)) (by omega)) (by omega)) (by omega)) (by omega)))
    have R2_3 := Lib.hid (show V3.heap[w.heap.size + 1 + 1]? = some (.cells #[.int .i64 x.kind, .int .i64 (plainC x.cmd).kind, .bool (plainC x.cmd).loc, .int .i64 (plainC x.cmd).id.index, .int .i64 (plainC x.cmd).id.gen, .int .i64 (plainC x.cmd).comp, .slice Bd (plainC x.cmd).data.length dd, .int .i64 0, .int .i64 0, .int .i64 0, .slice none 0 0, .slice none 0 0] 35 (0, 0)) from (by rw [hnm]; exact heap_setList (heap_setList (heap_setList (heap_setList (heap_setList (heap_setList (R2_2.out))))))))
    have Vm_3 := Lib.hid (val_only Vm_2.out S3.out)
    have Ve_3 := Lib.hid (val_only Ve_2.out S3.out)
    clear hnm
    have q0_0 := rw12 R0_3.out
    have q1_0 := rw12 R1_3.out
    have q2_0 := rw12 R2_3.out
    go_wp2_with fail
    clear q0_0 q1_0 q2_0
    refine nm_post (fun V9 hnm => ?_)
    have S4 := Lib.hid (show Only (Box w 3) V3 V9 from (by rw [hnm]; exact ((((((((((((Only.refl (Box w 3) V3).put ⟨by omega, by omega⟩).put ⟨by omega, by omega⟩).put ⟨by omega, by omega⟩).put ⟨by omega, by omega⟩).put ⟨by omega, by omega⟩).put ⟨by omega, by omega⟩).put ⟨by omega, by omega⟩).put ⟨by omega, by omega⟩).put ⟨by omega, by omega⟩).put ⟨by omega, by omega⟩).put ⟨by omega, by omega⟩).put ⟨by omega, by omega⟩))
    have O4 := Lib.hid (O3.out.trans S4.out)
    have R0_4 := Lib.hid (row_nm hnm (row_other (row_other (row_other (row_other (row_other (row_other (row_other (row_other (row_other (row_other (row_other (row_other (R0_3.out) (by omega)) (by omega)) (by omega)) (by omega)) (by omega)) (by omega)) (by omega)) (by omega)) (by omega)) (by omega)) (by omega)) (by omega)))
    have R1_4 := Lib.hid (show V9.heap[w.heap.size + 1]? = some (.cells #[.int .i64 x.kind, .int .i64 (plainC x.cmd).kind, .bool (plainC x.cmd).loc, .int .i64 (plainC x.cmd).id.index, .int .i64 (plainC x.cmd).id.gen, .int .i64 (plainC x.cmd).comp, .slice Bd (plainC x.cmd).data.length dd, .int .i64 0, .int .i64 0, .int .i64 0, .slice none 0 0, .slice none 0 0] 35 (0, 0)) from (by rw [hnm]; exact heap_setList (heap_setList (heap_setList (heap_setList (heap_setList (heap_setList (heap_setList (heap_setList (heap_setList (heap_setList (heap_setList (heap_setList (R1_3.out))))))))))))))
    have R2_4 := Lib.hid (row_nm hnm (row_other (row_other (row_other (row_other (row_other (row_other (row_other (row_other (row_other (row_other (row_other (row_other (R2_3.out) (by omega)) (by omega)) (by omega)) (by omega)) (by omega)) (by omega)) (by omega)) (by omega)) (by omega)) (by omega)) (by omega)) (by omega)))
    have Vm_4 := Lib.hid (val_only Vm_3.out S4.out)
    have Ve_4 := Lib.hid (val_only Ve_3.out S4.out)
    clear hnm
    have q1_0 := cl12 R1_4.out
    refine ⟨rfl, .agg #[.int .i64 x.kind, .int .i64 (plainC x.cmd).kind, .bool (plainC x.cmd).loc, .int .i64 (plainC x.cmd).id.index, .int .i64 (plainC x.cmd).id.gen, .int .i64 (plainC x.cmd).comp, .slice Bd (plainC x.cmd).data.length dd, .int .i64 0, .int .i64 0, .int .i64 0, .slice none 0 0, .slice none 0 0], by simp only [results, hfr]; go_simp, ?_⟩
    clear q1_0
    have HP := Lib.hid (show plainA x = ⟨x.kind, plainC x.cmd, ⟨0, 0⟩, 0, [], []⟩ by unfold plainA; simp [HKK.out])
    obtain ⟨A7, c7, e7, g1, g2, g3, g4, gs⟩ := rCmd_val (Rep.val_mono (Q' := fun b => Q b ∨ w.heap.size ≤ b) (fun b hb _ => by rcases hb with h | h; exact .inl h.1; exact .inr (by omega)) Ve_4.out)
    obtain ⟨rfl, rfl⟩ : Bd = A7 ∧ dd = c7 := by simpa using e7
    exact ⟨_, rfl, by rw [HP.out]; exact rAct_agg (x := ⟨x.kind, plainC x.cmd, ⟨0, 0⟩, 0, [], []⟩) (A_fates := none) (c_fates := 0) (A_fuses := none) (c_fuses := 0) HI.out.1 g1 g2 g3 g4 gs wf0 wf0 wf0 ⟨by simp, by simp [maxLen], [], rfl, fun h => absurd h (by simp)⟩ ⟨by simp, by simp [maxLen], [], rfl, fun h => absurd h (by simp)⟩, Only.fin HB0.out O4.out⟩
  · have HKK := Lib.hid h
    have b0 : (x.kind == 0) = false := by simp [h]
    have b4 : (x.kind == 4) = false := by simp [h]
    have b5 : (x.kind == 5) = false := by simp [h]
    have b6 : (x.kind == 6) = false := by simp [h]
    clear h
    obtain ⟨W0, hW0⟩ : ∃ W, ((w.alloc (.cells #[.int .i64 x.kind, .int .i64 x.cmd.kind, .bool x.cmd.loc, .int .i64 x.cmd.id.index, .int .i64 x.cmd.id.gen, .int .i64 x.cmd.comp, .slice A1 x.cmd.data.length c1, .int .i64 x.policy.room, .int .i64 x.policy.frames, .int .i64 x.n, .slice A2 x.fates.length c2, .slice A3 x.fuses.length c3] 35)).alloc (.cells #[.int .i64 0, .int .i64 0, .bool false, .int .i64 0, .int .i64 0, .int .i64 0, .slice none 0 0, .int .i64 0, .int .i64 0, .int .i64 0, .slice none 0 0, .slice none 0 0] 35)) = W := ⟨_, rfl⟩
    have hz0 : W0.heap.size = w.heap.size + 2 := by rw [← hW0]; simp
    have hb0 : Below w.heap.size w W0 := by rw [← hW0]; exact ((Below.refl _ _).alloc (Nat.le_refl _) _).alloc (by first | (simp; done) | (simp; omega)) _
    have HZ := Lib.hid hz0
    have HB0 := Lib.hid hb0
    have R0_0 := Lib.hid (show W0.heap[w.heap.size]? = some (.cells #[.int .i64 x.kind, .int .i64 x.cmd.kind, .bool x.cmd.loc, .int .i64 x.cmd.id.index, .int .i64 x.cmd.id.gen, .int .i64 x.cmd.comp, .slice A1 x.cmd.data.length c1, .int .i64 x.policy.room, .int .i64 x.policy.frames, .int .i64 x.n, .slice A2 x.fates.length c2, .slice A3 x.fuses.length c3] 35 (0, 0)) by rw [← hW0]; exact alloc_old (alloc_at rfl))
    have R1_0 := Lib.hid (show W0.heap[w.heap.size + 1]? = some (.cells #[.int .i64 0, .int .i64 0, .bool false, .int .i64 0, .int .i64 0, .int .i64 0, .slice none 0 0, .int .i64 0, .int .i64 0, .int .i64 0, .slice none 0 0, .slice none 0 0] 35 (0, 0)) by rw [← hW0]; exact alloc_at (by simp))
    have O0 := Lib.hid (Only.refl (Box w 3) W0)
    clear hz0 hb0
    have q0_0 := rw12 R0_0.out
    have q1_0 := rw12 R1_0.out
    go_enter Tryz.func15, Tryz.ntmps15
    go_wp2_with (with_reducible refine stopLoad 3 7 rfl ?_)
    refine Lib.hid ?_
    try rw [hW0]
    clear hW0
    clear q0_0 q1_0
    try rw [show W0.heap.size = w.heap.size + 1 + 1 by have := HZ.out; omega]
    refine nm_list (fun V1 hnm => ?_)
    have S1 := Lib.hid (show Only (Box w 3) W0 V1 from (by rw [hnm]; exact (Only.refl (Box w 3) W0).alloc _))
    have O1 := Lib.hid (O0.out.trans S1.out)
    have R0_1 := Lib.hid (row_nm hnm (alloc_old (R0_0.out)))
    have R1_1 := Lib.hid (row_nm hnm (alloc_old (R1_0.out)))
    have R2_1 := Lib.hid (show V1.heap[w.heap.size + 1 + 1]? = some (.cells #[.int .i64 x.kind, .int .i64 0, .bool false, .int .i64 0, .int .i64 0, .int .i64 0, .slice none 0 0, .int .i64 0, .int .i64 0, .int .i64 0, .slice none 0 0, .slice none 0 0] 35 (0, 0)) from (by rw [hnm]; exact alloc_at (by have := HZ.out; first | omega | (simp <;> omega))))
    clear hnm
    have q0_0 := rw12 R0_1.out
    have q1_0 := rw12 R1_1.out
    have q2_0 := rw12 R2_1.out
    go_wp2_with fail
    clear q0_0 q1_0 q2_0
    refine nm_post (fun V9 hnm => ?_)
    have S2 := Lib.hid (show Only (Box w 3) V1 V9 from (by rw [hnm]; exact ((((((((((((Only.refl (Box w 3) V1).put ⟨by omega, by omega⟩).put ⟨by omega, by omega⟩).put ⟨by omega, by omega⟩).put ⟨by omega, by omega⟩).put ⟨by omega, by omega⟩).put ⟨by omega, by omega⟩).put ⟨by omega, by omega⟩).put ⟨by omega, by omega⟩).put ⟨by omega, by omega⟩).put ⟨by omega, by omega⟩).put ⟨by omega, by omega⟩).put ⟨by omega, by omega⟩))
    have O2 := Lib.hid (O1.out.trans S2.out)
    have R0_2 := Lib.hid (row_nm hnm (row_other (row_other (row_other (row_other (row_other (row_other (row_other (row_other (row_other (row_other (row_other (row_other (R0_1.out) (by omega)) (by omega)) (by omega)) (by omega)) (by omega)) (by omega)) (by omega)) (by omega)) (by omega)) (by omega)) (by omega)) (by omega)))
    have R1_2 := Lib.hid (show V9.heap[w.heap.size + 1]? = some (.cells #[.int .i64 x.kind, .int .i64 0, .bool false, .int .i64 0, .int .i64 0, .int .i64 0, .slice none 0 0, .int .i64 0, .int .i64 0, .int .i64 0, .slice none 0 0, .slice none 0 0] 35 (0, 0)) from (by rw [hnm]; exact heap_setList (heap_setList (heap_setList (heap_setList (heap_setList (heap_setList (heap_setList (heap_setList (heap_setList (heap_setList (heap_setList (heap_setList (R1_1.out))))))))))))))
    have R2_2 := Lib.hid (row_nm hnm (row_other (row_other (row_other (row_other (row_other (row_other (row_other (row_other (row_other (row_other (row_other (row_other (R2_1.out) (by omega)) (by omega)) (by omega)) (by omega)) (by omega)) (by omega)) (by omega)) (by omega)) (by omega)) (by omega)) (by omega)) (by omega)))
    clear hnm
    have q1_0 := cl12 R1_2.out
    refine ⟨rfl, .agg #[.int .i64 x.kind, .int .i64 0, .bool false, .int .i64 0, .int .i64 0, .int .i64 0, .slice none 0 0, .int .i64 0, .int .i64 0, .int .i64 0, .slice none 0 0, .slice none 0 0], by simp only [results, hfr]; go_simp, ?_⟩
    clear q1_0
    have HP := Lib.hid (show plainA x = ⟨x.kind, zeroC, ⟨0, 0⟩, 0, [], []⟩ by unfold plainA; simp [HKK.out])
    exact ⟨_, rfl, by rw [HP.out]; exact rAct_agg (x := ⟨x.kind, zeroC, ⟨0, 0⟩, 0, [], []⟩) (A_cmd_data := none) (c_cmd_data := 0) (A_fates := none) (c_fates := 0) (A_fuses := none) (c_fuses := 0) HI.out.1 wf0 wf0 wf0 wf0 ⟨by simp [zeroC], by simp [maxLen], [], rfl, fun h => absurd h (by simp [zeroC])⟩ wf0 wf0 wf0 ⟨by simp, by simp [maxLen], [], rfl, fun h => absurd h (by simp)⟩ ⟨by simp, by simp [maxLen], [], rfl, fun h => absurd h (by simp)⟩, Only.fin HB0.out O2.out⟩
  · have HKK := Lib.hid h
    have b0 : (x.kind == 0) = false := by simp [h]
    have b4 : (x.kind == 4) = false := by simp [h]
    have b5 : (x.kind == 5) = false := by simp [h]
    have b6 : (x.kind == 6) = false := by simp [h]
    clear h
    obtain ⟨W0, hW0⟩ : ∃ W, ((w.alloc (.cells #[.int .i64 x.kind, .int .i64 x.cmd.kind, .bool x.cmd.loc, .int .i64 x.cmd.id.index, .int .i64 x.cmd.id.gen, .int .i64 x.cmd.comp, .slice A1 x.cmd.data.length c1, .int .i64 x.policy.room, .int .i64 x.policy.frames, .int .i64 x.n, .slice A2 x.fates.length c2, .slice A3 x.fuses.length c3] 35)).alloc (.cells #[.int .i64 0, .int .i64 0, .bool false, .int .i64 0, .int .i64 0, .int .i64 0, .slice none 0 0, .int .i64 0, .int .i64 0, .int .i64 0, .slice none 0 0, .slice none 0 0] 35)) = W := ⟨_, rfl⟩
    have hz0 : W0.heap.size = w.heap.size + 2 := by rw [← hW0]; simp
    have hb0 : Below w.heap.size w W0 := by rw [← hW0]; exact ((Below.refl _ _).alloc (Nat.le_refl _) _).alloc (by first | (simp; done) | (simp; omega)) _
    have HZ := Lib.hid hz0
    have HB0 := Lib.hid hb0
    have R0_0 := Lib.hid (show W0.heap[w.heap.size]? = some (.cells #[.int .i64 x.kind, .int .i64 x.cmd.kind, .bool x.cmd.loc, .int .i64 x.cmd.id.index, .int .i64 x.cmd.id.gen, .int .i64 x.cmd.comp, .slice A1 x.cmd.data.length c1, .int .i64 x.policy.room, .int .i64 x.policy.frames, .int .i64 x.n, .slice A2 x.fates.length c2, .slice A3 x.fuses.length c3] 35 (0, 0)) by rw [← hW0]; exact alloc_old (alloc_at rfl))
    have R1_0 := Lib.hid (show W0.heap[w.heap.size + 1]? = some (.cells #[.int .i64 0, .int .i64 0, .bool false, .int .i64 0, .int .i64 0, .int .i64 0, .slice none 0 0, .int .i64 0, .int .i64 0, .int .i64 0, .slice none 0 0, .slice none 0 0] 35 (0, 0)) by rw [← hW0]; exact alloc_at (by simp))
    have O0 := Lib.hid (Only.refl (Box w 3) W0)
    clear hz0 hb0
    have q0_0 := rw12 R0_0.out
    have q1_0 := rw12 R1_0.out
    go_enter Tryz.func15, Tryz.ntmps15
    go_wp2_with (with_reducible refine stopLoad 3 7 rfl ?_)
    refine Lib.hid ?_
    try rw [hW0]
    clear hW0
    clear q0_0 q1_0
    try rw [show W0.heap.size = w.heap.size + 1 + 1 by have := HZ.out; omega]
    refine nm_list (fun V1 hnm => ?_)
    have S1 := Lib.hid (show Only (Box w 3) W0 V1 from (by rw [hnm]; exact (Only.refl (Box w 3) W0).alloc _))
    have O1 := Lib.hid (O0.out.trans S1.out)
    have R0_1 := Lib.hid (row_nm hnm (alloc_old (R0_0.out)))
    have R1_1 := Lib.hid (row_nm hnm (alloc_old (R1_0.out)))
    have R2_1 := Lib.hid (show V1.heap[w.heap.size + 1 + 1]? = some (.cells #[.int .i64 x.kind, .int .i64 0, .bool false, .int .i64 0, .int .i64 0, .int .i64 0, .slice none 0 0, .int .i64 0, .int .i64 0, .int .i64 0, .slice none 0 0, .slice none 0 0] 35 (0, 0)) from (by rw [hnm]; exact alloc_at (by have := HZ.out; first | omega | (simp <;> omega))))
    clear hnm
    have q0_0 := rw12 R0_1.out
    have q1_0 := rw12 R1_1.out
    have q2_0 := rw12 R2_1.out
    go_wp2_with fail
    clear q0_0 q1_0 q2_0
    refine nm_post (fun V9 hnm => ?_)
    have S2 := Lib.hid (show Only (Box w 3) V1 V9 from (by rw [hnm]; exact ((((((((((((Only.refl (Box w 3) V1).put ⟨by omega, by omega⟩).put ⟨by omega, by omega⟩).put ⟨by omega, by omega⟩).put ⟨by omega, by omega⟩).put ⟨by omega, by omega⟩).put ⟨by omega, by omega⟩).put ⟨by omega, by omega⟩).put ⟨by omega, by omega⟩).put ⟨by omega, by omega⟩).put ⟨by omega, by omega⟩).put ⟨by omega, by omega⟩).put ⟨by omega, by omega⟩))
    have O2 := Lib.hid (O1.out.trans S2.out)
    have R0_2 := Lib.hid (row_nm hnm (row_other (row_other (row_other (row_other (row_other (row_other (row_other (row_other (row_other (row_other (row_other (row_other (R0_1.out) (by omega)) (by omega)) (by omega)) (by omega)) (by omega)) (by omega)) (by omega)) (by omega)) (by omega)) (by omega)) (by omega)) (by omega)))
    have R1_2 := Lib.hid (show V9.heap[w.heap.size + 1]? = some (.cells #[.int .i64 x.kind, .int .i64 0, .bool false, .int .i64 0, .int .i64 0, .int .i64 0, .slice none 0 0, .int .i64 0, .int .i64 0, .int .i64 0, .slice none 0 0, .slice none 0 0] 35 (0, 0)) from (by rw [hnm]; exact heap_setList (heap_setList (heap_setList (heap_setList (heap_setList (heap_setList (heap_setList (heap_setList (heap_setList (heap_setList (heap_setList (heap_setList (R1_1.out))))))))))))))
    have R2_2 := Lib.hid (row_nm hnm (row_other (row_other (row_other (row_other (row_other (row_other (row_other (row_other (row_other (row_other (row_other (row_other (R2_1.out) (by omega)) (by omega)) (by omega)) (by omega)) (by omega)) (by omega)) (by omega)) (by omega)) (by omega)) (by omega)) (by omega)) (by omega)))
    clear hnm
    have q1_0 := cl12 R1_2.out
    refine ⟨rfl, .agg #[.int .i64 x.kind, .int .i64 0, .bool false, .int .i64 0, .int .i64 0, .int .i64 0, .slice none 0 0, .int .i64 0, .int .i64 0, .int .i64 0, .slice none 0 0, .slice none 0 0], by simp only [results, hfr]; go_simp, ?_⟩
    clear q1_0
    have HP := Lib.hid (show plainA x = ⟨x.kind, zeroC, ⟨0, 0⟩, 0, [], []⟩ by unfold plainA; simp [HKK.out])
    exact ⟨_, rfl, by rw [HP.out]; exact rAct_agg (x := ⟨x.kind, zeroC, ⟨0, 0⟩, 0, [], []⟩) (A_cmd_data := none) (c_cmd_data := 0) (A_fates := none) (c_fates := 0) (A_fuses := none) (c_fuses := 0) HI.out.1 wf0 wf0 wf0 wf0 ⟨by simp [zeroC], by simp [maxLen], [], rfl, fun h => absurd h (by simp [zeroC])⟩ wf0 wf0 wf0 ⟨by simp, by simp [maxLen], [], rfl, fun h => absurd h (by simp)⟩ ⟨by simp, by simp [maxLen], [], rfl, fun h => absurd h (by simp)⟩, Only.fin HB0.out O2.out⟩
  · have HKK := Lib.hid h
    have b0 : (x.kind == 0) = false := by simp [h]
    have b4 : (x.kind == 4) = false := by simp [h]
    have b5 : (x.kind == 5) = false := by simp [h]
    have b6 : (x.kind == 6) = false := by simp [h]
    clear h
    obtain ⟨W0, hW0⟩ : ∃ W, ((w.alloc (.cells #[.int .i64 x.kind, .int .i64 x.cmd.kind, .bool x.cmd.loc, .int .i64 x.cmd.id.index, .int .i64 x.cmd.id.gen, .int .i64 x.cmd.comp, .slice A1 x.cmd.data.length c1, .int .i64 x.policy.room, .int .i64 x.policy.frames, .int .i64 x.n, .slice A2 x.fates.length c2, .slice A3 x.fuses.length c3] 35)).alloc (.cells #[.int .i64 0, .int .i64 0, .bool false, .int .i64 0, .int .i64 0, .int .i64 0, .slice none 0 0, .int .i64 0, .int .i64 0, .int .i64 0, .slice none 0 0, .slice none 0 0] 35)) = W := ⟨_, rfl⟩
    have hz0 : W0.heap.size = w.heap.size + 2 := by rw [← hW0]; simp
    have hb0 : Below w.heap.size w W0 := by rw [← hW0]; exact ((Below.refl _ _).alloc (Nat.le_refl _) _).alloc (by first | (simp; done) | (simp; omega)) _
    have HZ := Lib.hid hz0
    have HB0 := Lib.hid hb0
    have R0_0 := Lib.hid (show W0.heap[w.heap.size]? = some (.cells #[.int .i64 x.kind, .int .i64 x.cmd.kind, .bool x.cmd.loc, .int .i64 x.cmd.id.index, .int .i64 x.cmd.id.gen, .int .i64 x.cmd.comp, .slice A1 x.cmd.data.length c1, .int .i64 x.policy.room, .int .i64 x.policy.frames, .int .i64 x.n, .slice A2 x.fates.length c2, .slice A3 x.fuses.length c3] 35 (0, 0)) by rw [← hW0]; exact alloc_old (alloc_at rfl))
    have R1_0 := Lib.hid (show W0.heap[w.heap.size + 1]? = some (.cells #[.int .i64 0, .int .i64 0, .bool false, .int .i64 0, .int .i64 0, .int .i64 0, .slice none 0 0, .int .i64 0, .int .i64 0, .int .i64 0, .slice none 0 0, .slice none 0 0] 35 (0, 0)) by rw [← hW0]; exact alloc_at (by simp))
    have O0 := Lib.hid (Only.refl (Box w 3) W0)
    clear hz0 hb0
    have q0_0 := rw12 R0_0.out
    have q1_0 := rw12 R1_0.out
    go_enter Tryz.func15, Tryz.ntmps15
    go_wp2_with (with_reducible refine stopLoad 3 7 rfl ?_)
    refine Lib.hid ?_
    try rw [hW0]
    clear hW0
    clear q0_0 q1_0
    try rw [show W0.heap.size = w.heap.size + 1 + 1 by have := HZ.out; omega]
    refine nm_list (fun V1 hnm => ?_)
    have S1 := Lib.hid (show Only (Box w 3) W0 V1 from (by rw [hnm]; exact (Only.refl (Box w 3) W0).alloc _))
    have O1 := Lib.hid (O0.out.trans S1.out)
    have R0_1 := Lib.hid (row_nm hnm (alloc_old (R0_0.out)))
    have R1_1 := Lib.hid (row_nm hnm (alloc_old (R1_0.out)))
    have R2_1 := Lib.hid (show V1.heap[w.heap.size + 1 + 1]? = some (.cells #[.int .i64 x.kind, .int .i64 0, .bool false, .int .i64 0, .int .i64 0, .int .i64 0, .slice none 0 0, .int .i64 0, .int .i64 0, .int .i64 0, .slice none 0 0, .slice none 0 0] 35 (0, 0)) from (by rw [hnm]; exact alloc_at (by have := HZ.out; first | omega | (simp <;> omega))))
    clear hnm
    have q0_0 := rw12 R0_1.out
    have q1_0 := rw12 R1_1.out
    have q2_0 := rw12 R2_1.out
    go_wp2_with fail
    clear q0_0 q1_0 q2_0
    refine nm_post (fun V9 hnm => ?_)
    have S2 := Lib.hid (show Only (Box w 3) V1 V9 from (by rw [hnm]; exact ((((((((((((Only.refl (Box w 3) V1).put ⟨by omega, by omega⟩).put ⟨by omega, by omega⟩).put ⟨by omega, by omega⟩).put ⟨by omega, by omega⟩).put ⟨by omega, by omega⟩).put ⟨by omega, by omega⟩).put ⟨by omega, by omega⟩).put ⟨by omega, by omega⟩).put ⟨by omega, by omega⟩).put ⟨by omega, by omega⟩).put ⟨by omega, by omega⟩).put ⟨by omega, by omega⟩))
    have O2 := Lib.hid (O1.out.trans S2.out)
    have R0_2 := Lib.hid (row_nm hnm (row_other (row_other (row_other (row_other (row_other (row_other (row_other (row_other (row_other (row_other (row_other (row_other (R0_1.out) (by omega)) (by omega)) (by omega)) (by omega)) (by omega)) (by omega)) (by omega)) (by omega)) (by omega)) (by omega)) (by omega)) (by omega)))
    have R1_2 := Lib.hid (show V9.heap[w.heap.size + 1]? = some (.cells #[.int .i64 x.kind, .int .i64 0, .bool false, .int .i64 0, .int .i64 0, .int .i64 0, .slice none 0 0, .int .i64 0, .int .i64 0, .int .i64 0, .slice none 0 0, .slice none 0 0] 35 (0, 0)) from (by rw [hnm]; exact heap_setList (heap_setList (heap_setList (heap_setList (heap_setList (heap_setList (heap_setList (heap_setList (heap_setList (heap_setList (heap_setList (heap_setList (R1_1.out))))))))))))))
    have R2_2 := Lib.hid (row_nm hnm (row_other (row_other (row_other (row_other (row_other (row_other (row_other (row_other (row_other (row_other (row_other (row_other (R2_1.out) (by omega)) (by omega)) (by omega)) (by omega)) (by omega)) (by omega)) (by omega)) (by omega)) (by omega)) (by omega)) (by omega)) (by omega)))
    clear hnm
    have q1_0 := cl12 R1_2.out
    refine ⟨rfl, .agg #[.int .i64 x.kind, .int .i64 0, .bool false, .int .i64 0, .int .i64 0, .int .i64 0, .slice none 0 0, .int .i64 0, .int .i64 0, .int .i64 0, .slice none 0 0, .slice none 0 0], by simp only [results, hfr]; go_simp, ?_⟩
    clear q1_0
    have HP := Lib.hid (show plainA x = ⟨x.kind, zeroC, ⟨0, 0⟩, 0, [], []⟩ by unfold plainA; simp [HKK.out])
    exact ⟨_, rfl, by rw [HP.out]; exact rAct_agg (x := ⟨x.kind, zeroC, ⟨0, 0⟩, 0, [], []⟩) (A_cmd_data := none) (c_cmd_data := 0) (A_fates := none) (c_fates := 0) (A_fuses := none) (c_fuses := 0) HI.out.1 wf0 wf0 wf0 wf0 ⟨by simp [zeroC], by simp [maxLen], [], rfl, fun h => absurd h (by simp [zeroC])⟩ wf0 wf0 wf0 ⟨by simp, by simp [maxLen], [], rfl, fun h => absurd h (by simp)⟩ ⟨by simp, by simp [maxLen], [], rfl, fun h => absurd h (by simp)⟩, Only.fin HB0.out O2.out⟩
  · have HKK := Lib.hid h
    have b0 : (x.kind == 0) = false := by simp [h]
    have b4 : (x.kind == 4) = true := by simp [h]
    have b5 : (x.kind == 5) = false := by simp [h]
    have b6 : (x.kind == 6) = false := by simp [h]
    clear h
    obtain ⟨W0, hW0⟩ : ∃ W, ((w.alloc (.cells #[.int .i64 x.kind, .int .i64 x.cmd.kind, .bool x.cmd.loc, .int .i64 x.cmd.id.index, .int .i64 x.cmd.id.gen, .int .i64 x.cmd.comp, .slice A1 x.cmd.data.length c1, .int .i64 x.policy.room, .int .i64 x.policy.frames, .int .i64 x.n, .slice A2 x.fates.length c2, .slice A3 x.fuses.length c3] 35)).alloc (.cells #[.int .i64 0, .int .i64 0, .bool false, .int .i64 0, .int .i64 0, .int .i64 0, .slice none 0 0, .int .i64 0, .int .i64 0, .int .i64 0, .slice none 0 0, .slice none 0 0] 35)) = W := ⟨_, rfl⟩
    have hz0 : W0.heap.size = w.heap.size + 2 := by rw [← hW0]; simp
    have hb0 : Below w.heap.size w W0 := by rw [← hW0]; exact ((Below.refl _ _).alloc (Nat.le_refl _) _).alloc (by first | (simp; done) | (simp; omega)) _
    have HZ := Lib.hid hz0
    have HB0 := Lib.hid hb0
    have R0_0 := Lib.hid (show W0.heap[w.heap.size]? = some (.cells #[.int .i64 x.kind, .int .i64 x.cmd.kind, .bool x.cmd.loc, .int .i64 x.cmd.id.index, .int .i64 x.cmd.id.gen, .int .i64 x.cmd.comp, .slice A1 x.cmd.data.length c1, .int .i64 x.policy.room, .int .i64 x.policy.frames, .int .i64 x.n, .slice A2 x.fates.length c2, .slice A3 x.fuses.length c3] 35 (0, 0)) by rw [← hW0]; exact alloc_old (alloc_at rfl))
    have R1_0 := Lib.hid (show W0.heap[w.heap.size + 1]? = some (.cells #[.int .i64 0, .int .i64 0, .bool false, .int .i64 0, .int .i64 0, .int .i64 0, .slice none 0 0, .int .i64 0, .int .i64 0, .int .i64 0, .slice none 0 0, .slice none 0 0] 35 (0, 0)) by rw [← hW0]; exact alloc_at (by simp))
    have O0 := Lib.hid (Only.refl (Box w 3) W0)
    clear hz0 hb0
    have q0_0 := rw12 R0_0.out
    have q1_0 := rw12 R1_0.out
    go_enter Tryz.func15, Tryz.ntmps15
    go_wp2_with (with_reducible refine stopLoad 3 7 rfl ?_)
    refine Lib.hid ?_
    try rw [hW0]
    clear hW0
    clear q0_0 q1_0
    try rw [show W0.heap.size = w.heap.size + 1 + 1 by have := HZ.out; omega]
    refine nm_list (fun V1 hnm => ?_)
    have S1 := Lib.hid (show Only (Box w 3) W0 V1 from (by rw [hnm]; exact (Only.refl (Box w 3) W0).alloc _))
    have O1 := Lib.hid (O0.out.trans S1.out)
    have R0_1 := Lib.hid (row_nm hnm (alloc_old (R0_0.out)))
    have R1_1 := Lib.hid (row_nm hnm (alloc_old (R1_0.out)))
    have R2_1 := Lib.hid (show V1.heap[w.heap.size + 1 + 1]? = some (.cells #[.int .i64 x.kind, .int .i64 0, .bool false, .int .i64 0, .int .i64 0, .int .i64 0, .slice none 0 0, .int .i64 0, .int .i64 0, .int .i64 0, .slice none 0 0, .slice none 0 0] 35 (0, 0)) from (by rw [hnm]; exact alloc_at (by have := HZ.out; first | omega | (simp <;> omega))))
    clear hnm
    have q0_0 := rw12 R0_1.out
    have q1_0 := rw12 R1_1.out
    have q2_0 := rw12 R2_1.out
    go_wp2_with (with_reducible refine stopLoad 3 20 rfl ?_)
    refine Lib.hid ?_
    clear q0_0 q1_0 q2_0
    refine nm_list (fun V3 hnm => ?_)
    have S2 := Lib.hid (show Only (Box w 3) V1 V3 from (by rw [hnm]; exact ((Only.refl (Box w 3) V1).put ⟨by omega, by omega⟩).put ⟨by omega, by omega⟩))
    have O2 := Lib.hid (O1.out.trans S2.out)
    have R0_2 := Lib.hid (row_nm hnm (row_other (row_other (R0_1.out) (by omega)) (by omega)))
    have R1_2 := Lib.hid (row_nm hnm (row_other (row_other (R1_1.out) (by omega)) (by omega)))
    have R2_2 := Lib.hid (show V3.heap[w.heap.size + 1 + 1]? = some (.cells #[.int .i64 x.kind, .int .i64 0, .bool false, .int .i64 0, .int .i64 0, .int .i64 0, .slice none 0 0, .int .i64 x.policy.room, .int .i64 x.policy.frames, .int .i64 0, .slice none 0 0, .slice none 0 0] 35 (0, 0)) from (by rw [hnm]; exact heap_setList (heap_setList (R2_1.out))))
    clear hnm
    have q0_0 := rw12 R0_2.out
    have q1_0 := rw12 R1_2.out
    have q2_0 := rw12 R2_2.out
    go_wp2_with fail
    clear q0_0 q1_0 q2_0
    refine nm_post (fun V9 hnm => ?_)
    have S3 := Lib.hid (show Only (Box w 3) V3 V9 from (by rw [hnm]; exact ((((((((((((Only.refl (Box w 3) V3).put ⟨by omega, by omega⟩).put ⟨by omega, by omega⟩).put ⟨by omega, by omega⟩).put ⟨by omega, by omega⟩).put ⟨by omega, by omega⟩).put ⟨by omega, by omega⟩).put ⟨by omega, by omega⟩).put ⟨by omega, by omega⟩).put ⟨by omega, by omega⟩).put ⟨by omega, by omega⟩).put ⟨by omega, by omega⟩).put ⟨by omega, by omega⟩))
    have O3 := Lib.hid (O2.out.trans S3.out)
    have R0_3 := Lib.hid (row_nm hnm (row_other (row_other (row_other (row_other (row_other (row_other (row_other (row_other (row_other (row_other (row_other (row_other (R0_2.out) (by omega)) (by omega)) (by omega)) (by omega)) (by omega)) (by omega)) (by omega)) (by omega)) (by omega)) (by omega)) (by omega)) (by omega)))
    have R1_3 := Lib.hid (show V9.heap[w.heap.size + 1]? = some (.cells #[.int .i64 x.kind, .int .i64 0, .bool false, .int .i64 0, .int .i64 0, .int .i64 0, .slice none 0 0, .int .i64 x.policy.room, .int .i64 x.policy.frames, .int .i64 0, .slice none 0 0, .slice none 0 0] 35 (0, 0)) from (by rw [hnm]; exact heap_setList (heap_setList (heap_setList (heap_setList (heap_setList (heap_setList (heap_setList (heap_setList (heap_setList (heap_setList (heap_setList (heap_setList (R1_2.out))))))))))))))
    have R2_3 := Lib.hid (row_nm hnm (row_other (row_other (row_other (row_other (row_other (row_other (row_other (row_other (row_other (row_other (row_other (row_other (R2_2.out) (by omega)) (by omega)) (by omega)) (by omega)) (by omega)) (by omega)) (by omega)) (by omega)) (by omega)) (by omega)) (by omega)) (by omega)))
    clear hnm
    have q1_0 := cl12 R1_3.out
    refine ⟨rfl, .agg #[.int .i64 x.kind, .int .i64 0, .bool false, .int .i64 0, .int .i64 0, .int .i64 0, .slice none 0 0, .int .i64 x.policy.room, .int .i64 x.policy.frames, .int .i64 0, .slice none 0 0, .slice none 0 0], by simp only [results, hfr]; go_simp, ?_⟩
    clear q1_0
    have HP := Lib.hid (show plainA x = ⟨x.kind, zeroC, x.policy, 0, [], []⟩ by unfold plainA; simp [HKK.out])
    exact ⟨_, rfl, by rw [HP.out]; exact rAct_agg (x := ⟨x.kind, zeroC, x.policy, 0, [], []⟩) (A_cmd_data := none) (c_cmd_data := 0) (A_fates := none) (c_fates := 0) (A_fuses := none) (c_fuses := 0) HI.out.1 wf0 wf0 wf0 wf0 ⟨by simp [zeroC], by simp [maxLen], [], rfl, fun h => absurd h (by simp [zeroC])⟩ HI.out.2.1 HI.out.2.2.1 wf0 ⟨by simp, by simp [maxLen], [], rfl, fun h => absurd h (by simp)⟩ ⟨by simp, by simp [maxLen], [], rfl, fun h => absurd h (by simp)⟩, Only.fin HB0.out O3.out⟩
  · have HKK := Lib.hid h
    have b0 : (x.kind == 0) = false := by simp [h]
    have b4 : (x.kind == 4) = false := by simp [h]
    have b5 : (x.kind == 5) = true := by simp [h]
    have b6 : (x.kind == 6) = false := by simp [h]
    clear h
    obtain ⟨W0, hW0⟩ : ∃ W, ((w.alloc (.cells #[.int .i64 x.kind, .int .i64 x.cmd.kind, .bool x.cmd.loc, .int .i64 x.cmd.id.index, .int .i64 x.cmd.id.gen, .int .i64 x.cmd.comp, .slice A1 x.cmd.data.length c1, .int .i64 x.policy.room, .int .i64 x.policy.frames, .int .i64 x.n, .slice A2 x.fates.length c2, .slice A3 x.fuses.length c3] 35)).alloc (.cells #[.int .i64 0, .int .i64 0, .bool false, .int .i64 0, .int .i64 0, .int .i64 0, .slice none 0 0, .int .i64 0, .int .i64 0, .int .i64 0, .slice none 0 0, .slice none 0 0] 35)) = W := ⟨_, rfl⟩
    have hz0 : W0.heap.size = w.heap.size + 2 := by rw [← hW0]; simp
    have hb0 : Below w.heap.size w W0 := by rw [← hW0]; exact ((Below.refl _ _).alloc (Nat.le_refl _) _).alloc (by first | (simp; done) | (simp; omega)) _
    have HZ := Lib.hid hz0
    have HB0 := Lib.hid hb0
    have R0_0 := Lib.hid (show W0.heap[w.heap.size]? = some (.cells #[.int .i64 x.kind, .int .i64 x.cmd.kind, .bool x.cmd.loc, .int .i64 x.cmd.id.index, .int .i64 x.cmd.id.gen, .int .i64 x.cmd.comp, .slice A1 x.cmd.data.length c1, .int .i64 x.policy.room, .int .i64 x.policy.frames, .int .i64 x.n, .slice A2 x.fates.length c2, .slice A3 x.fuses.length c3] 35 (0, 0)) by rw [← hW0]; exact alloc_old (alloc_at rfl))
    have R1_0 := Lib.hid (show W0.heap[w.heap.size + 1]? = some (.cells #[.int .i64 0, .int .i64 0, .bool false, .int .i64 0, .int .i64 0, .int .i64 0, .slice none 0 0, .int .i64 0, .int .i64 0, .int .i64 0, .slice none 0 0, .slice none 0 0] 35 (0, 0)) by rw [← hW0]; exact alloc_at (by simp))
    have O0 := Lib.hid (Only.refl (Box w 3) W0)
    clear hz0 hb0
    have q0_0 := rw12 R0_0.out
    have q1_0 := rw12 R1_0.out
    go_enter Tryz.func15, Tryz.ntmps15
    go_wp2_with (with_reducible refine stopLoad 3 7 rfl ?_)
    refine Lib.hid ?_
    try rw [hW0]
    clear hW0
    clear q0_0 q1_0
    try rw [show W0.heap.size = w.heap.size + 1 + 1 by have := HZ.out; omega]
    refine nm_list (fun V1 hnm => ?_)
    have S1 := Lib.hid (show Only (Box w 3) W0 V1 from (by rw [hnm]; exact (Only.refl (Box w 3) W0).alloc _))
    have O1 := Lib.hid (O0.out.trans S1.out)
    have R0_1 := Lib.hid (row_nm hnm (alloc_old (R0_0.out)))
    have R1_1 := Lib.hid (row_nm hnm (alloc_old (R1_0.out)))
    have R2_1 := Lib.hid (show V1.heap[w.heap.size + 1 + 1]? = some (.cells #[.int .i64 x.kind, .int .i64 0, .bool false, .int .i64 0, .int .i64 0, .int .i64 0, .slice none 0 0, .int .i64 0, .int .i64 0, .int .i64 0, .slice none 0 0, .slice none 0 0] 35 (0, 0)) from (by rw [hnm]; exact alloc_at (by have := HZ.out; first | omega | (simp <;> omega))))
    clear hnm
    have q0_0 := rw12 R0_1.out
    have q1_0 := rw12 R1_1.out
    have q2_0 := rw12 R2_1.out
    go_wp2_with (with_reducible refine stopLoad 3 26 rfl ?_)
    refine Lib.hid ?_
    clear q0_0 q1_0 q2_0
    refine nm_list (fun V3 hnm => ?_)
    have S2 := Lib.hid (show Only (Box w 3) V1 V3 from (by rw [hnm]; exact (Only.refl (Box w 3) V1).put ⟨by omega, by omega⟩))
    have O2 := Lib.hid (O1.out.trans S2.out)
    have R0_2 := Lib.hid (row_nm hnm (row_other (R0_1.out) (by omega)))
    have R1_2 := Lib.hid (row_nm hnm (row_other (R1_1.out) (by omega)))
    have R2_2 := Lib.hid (show V3.heap[w.heap.size + 1 + 1]? = some (.cells #[.int .i64 x.kind, .int .i64 0, .bool false, .int .i64 0, .int .i64 0, .int .i64 0, .slice none 0 0, .int .i64 0, .int .i64 0, .int .i64 x.n, .slice none 0 0, .slice none 0 0] 35 (0, 0)) from (by rw [hnm]; exact heap_setList (R2_1.out)))
    clear hnm
    have q0_0 := rw12 R0_2.out
    have q1_0 := rw12 R1_2.out
    have q2_0 := rw12 R2_2.out
    go_wp2_with fail
    clear q0_0 q1_0 q2_0
    refine nm_post (fun V9 hnm => ?_)
    have S3 := Lib.hid (show Only (Box w 3) V3 V9 from (by rw [hnm]; exact ((((((((((((Only.refl (Box w 3) V3).put ⟨by omega, by omega⟩).put ⟨by omega, by omega⟩).put ⟨by omega, by omega⟩).put ⟨by omega, by omega⟩).put ⟨by omega, by omega⟩).put ⟨by omega, by omega⟩).put ⟨by omega, by omega⟩).put ⟨by omega, by omega⟩).put ⟨by omega, by omega⟩).put ⟨by omega, by omega⟩).put ⟨by omega, by omega⟩).put ⟨by omega, by omega⟩))
    have O3 := Lib.hid (O2.out.trans S3.out)
    have R0_3 := Lib.hid (row_nm hnm (row_other (row_other (row_other (row_other (row_other (row_other (row_other (row_other (row_other (row_other (row_other (row_other (R0_2.out) (by omega)) (by omega)) (by omega)) (by omega)) (by omega)) (by omega)) (by omega)) (by omega)) (by omega)) (by omega)) (by omega)) (by omega)))
    have R1_3 := Lib.hid (show V9.heap[w.heap.size + 1]? = some (.cells #[.int .i64 x.kind, .int .i64 0, .bool false, .int .i64 0, .int .i64 0, .int .i64 0, .slice none 0 0, .int .i64 0, .int .i64 0, .int .i64 x.n, .slice none 0 0, .slice none 0 0] 35 (0, 0)) from (by rw [hnm]; exact heap_setList (heap_setList (heap_setList (heap_setList (heap_setList (heap_setList (heap_setList (heap_setList (heap_setList (heap_setList (heap_setList (heap_setList (R1_2.out))))))))))))))
    have R2_3 := Lib.hid (row_nm hnm (row_other (row_other (row_other (row_other (row_other (row_other (row_other (row_other (row_other (row_other (row_other (row_other (R2_2.out) (by omega)) (by omega)) (by omega)) (by omega)) (by omega)) (by omega)) (by omega)) (by omega)) (by omega)) (by omega)) (by omega)) (by omega)))
    clear hnm
    have q1_0 := cl12 R1_3.out
    refine ⟨rfl, .agg #[.int .i64 x.kind, .int .i64 0, .bool false, .int .i64 0, .int .i64 0, .int .i64 0, .slice none 0 0, .int .i64 0, .int .i64 0, .int .i64 x.n, .slice none 0 0, .slice none 0 0], by simp only [results, hfr]; go_simp, ?_⟩
    clear q1_0
    have HP := Lib.hid (show plainA x = ⟨x.kind, zeroC, ⟨0, 0⟩, x.n, [], []⟩ by unfold plainA; simp [HKK.out])
    exact ⟨_, rfl, by rw [HP.out]; exact rAct_agg (x := ⟨x.kind, zeroC, ⟨0, 0⟩, x.n, [], []⟩) (A_cmd_data := none) (c_cmd_data := 0) (A_fates := none) (c_fates := 0) (A_fuses := none) (c_fuses := 0) HI.out.1 wf0 wf0 wf0 wf0 ⟨by simp [zeroC], by simp [maxLen], [], rfl, fun h => absurd h (by simp [zeroC])⟩ wf0 wf0 HI.out.2.2.2 ⟨by simp, by simp [maxLen], [], rfl, fun h => absurd h (by simp)⟩ ⟨by simp, by simp [maxLen], [], rfl, fun h => absurd h (by simp)⟩, Only.fin HB0.out O3.out⟩
  · have HKK := Lib.hid h
    have b0 : (x.kind == 0) = false := by simp [h]
    have b4 : (x.kind == 4) = false := by simp [h]
    have b5 : (x.kind == 5) = false := by simp [h]
    have b6 : (x.kind == 6) = true := by simp [h]
    clear h
    obtain ⟨W0, hW0⟩ : ∃ W, ((w.alloc (.cells #[.int .i64 x.kind, .int .i64 x.cmd.kind, .bool x.cmd.loc, .int .i64 x.cmd.id.index, .int .i64 x.cmd.id.gen, .int .i64 x.cmd.comp, .slice A1 x.cmd.data.length c1, .int .i64 x.policy.room, .int .i64 x.policy.frames, .int .i64 x.n, .slice A2 x.fates.length c2, .slice A3 x.fuses.length c3] 35)).alloc (.cells #[.int .i64 0, .int .i64 0, .bool false, .int .i64 0, .int .i64 0, .int .i64 0, .slice none 0 0, .int .i64 0, .int .i64 0, .int .i64 0, .slice none 0 0, .slice none 0 0] 35)) = W := ⟨_, rfl⟩
    have hz0 : W0.heap.size = w.heap.size + 2 := by rw [← hW0]; simp
    have hb0 : Below w.heap.size w W0 := by rw [← hW0]; exact ((Below.refl _ _).alloc (Nat.le_refl _) _).alloc (by first | (simp; done) | (simp; omega)) _
    have HZ := Lib.hid hz0
    have HB0 := Lib.hid hb0
    have R0_0 := Lib.hid (show W0.heap[w.heap.size]? = some (.cells #[.int .i64 x.kind, .int .i64 x.cmd.kind, .bool x.cmd.loc, .int .i64 x.cmd.id.index, .int .i64 x.cmd.id.gen, .int .i64 x.cmd.comp, .slice A1 x.cmd.data.length c1, .int .i64 x.policy.room, .int .i64 x.policy.frames, .int .i64 x.n, .slice A2 x.fates.length c2, .slice A3 x.fuses.length c3] 35 (0, 0)) by rw [← hW0]; exact alloc_old (alloc_at rfl))
    have R1_0 := Lib.hid (show W0.heap[w.heap.size + 1]? = some (.cells #[.int .i64 0, .int .i64 0, .bool false, .int .i64 0, .int .i64 0, .int .i64 0, .slice none 0 0, .int .i64 0, .int .i64 0, .int .i64 0, .slice none 0 0, .slice none 0 0] 35 (0, 0)) by rw [← hW0]; exact alloc_at (by simp))
    have O0 := Lib.hid (Only.refl (Box w 3) W0)
    have Vf_0 := Lib.hid (show rFate.list.val (In Q w 3) W0 (.slice A2 x.fates.length c2) x.fates from val_in HFA.out hb0)
    have Vu_0 := Lib.hid (show (Rep.int .i64).list.val (In Q w 3) W0 (.slice A3 x.fuses.length c3) x.fuses from val_in HFU.out hb0)
    clear hz0 hb0
    have q0_0 := rw12 R0_0.out
    have q1_0 := rw12 R1_0.out
    go_enter Tryz.func15, Tryz.ntmps15
    go_wp2_with (with_reducible refine stopLoad 3 7 rfl ?_)
    refine Lib.hid ?_
    try rw [hW0]
    clear hW0
    clear q0_0 q1_0
    try rw [show W0.heap.size = w.heap.size + 1 + 1 by have := HZ.out; omega]
    refine nm_list (fun V1 hnm => ?_)
    have S1 := Lib.hid (show Only (Box w 3) W0 V1 from (by rw [hnm]; exact (Only.refl (Box w 3) W0).alloc _))
    have O1 := Lib.hid (O0.out.trans S1.out)
    have R0_1 := Lib.hid (row_nm hnm (alloc_old (R0_0.out)))
    have R1_1 := Lib.hid (row_nm hnm (alloc_old (R1_0.out)))
    have R2_1 := Lib.hid (show V1.heap[w.heap.size + 1 + 1]? = some (.cells #[.int .i64 x.kind, .int .i64 0, .bool false, .int .i64 0, .int .i64 0, .int .i64 0, .slice none 0 0, .int .i64 0, .int .i64 0, .int .i64 0, .slice none 0 0, .slice none 0 0] 35 (0, 0)) from (by rw [hnm]; exact alloc_at (by have := HZ.out; first | omega | (simp <;> omega))))
    have Vf_1 := Lib.hid (val_only Vf_0.out S1.out)
    have Vu_1 := Lib.hid (val_only Vu_0.out S1.out)
    clear hnm
    have q0_0 := rw12 R0_1.out
    have q1_0 := rw12 R1_1.out
    have q2_0 := rw12 R2_1.out
    go_wp2_with (with_reducible refine stopLoad 35 3 rfl ?_)
    refine Lib.hid ?_
    clear q0_0 q1_0 q2_0
    refine nm_list (fun V3 hnm => ?_)
    have S2 := Lib.hid (show Only (Box w 3) V1 V3 from (by rw [hnm]; exact ((Only.refl (Box w 3) V1).put ⟨by omega, by omega⟩).put ⟨by omega, by omega⟩))
    have O2 := Lib.hid (O1.out.trans S2.out)
    have R0_2 := Lib.hid (row_nm hnm (row_other (row_other (R0_1.out) (by omega)) (by omega)))
    have R1_2 := Lib.hid (row_nm hnm (row_other (row_other (R1_1.out) (by omega)) (by omega)))
    have R2_2 := Lib.hid (show V3.heap[w.heap.size + 1 + 1]? = some (.cells #[.int .i64 x.kind, .int .i64 0, .bool false, .int .i64 0, .int .i64 0, .int .i64 0, .slice none 0 0, .int .i64 0, .int .i64 0, .int .i64 0, .slice A2 x.fates.length c2, .slice A3 x.fuses.length c3] 35 (0, 0)) from (by rw [hnm]; exact heap_setList (heap_setList (R2_1.out))))
    have Vf_2 := Lib.hid (val_only Vf_1.out S2.out)
    have Vu_2 := Lib.hid (val_only Vu_1.out S2.out)
    clear hnm
    have q0_0 := rw12 R0_2.out
    have q1_0 := rw12 R1_2.out
    have q2_0 := rw12 R2_2.out
    go_wp2_with fail
    clear q0_0 q1_0 q2_0
    refine nm_post (fun V9 hnm => ?_)
    have S3 := Lib.hid (show Only (Box w 3) V3 V9 from (by rw [hnm]; exact ((((((((((((Only.refl (Box w 3) V3).put ⟨by omega, by omega⟩).put ⟨by omega, by omega⟩).put ⟨by omega, by omega⟩).put ⟨by omega, by omega⟩).put ⟨by omega, by omega⟩).put ⟨by omega, by omega⟩).put ⟨by omega, by omega⟩).put ⟨by omega, by omega⟩).put ⟨by omega, by omega⟩).put ⟨by omega, by omega⟩).put ⟨by omega, by omega⟩).put ⟨by omega, by omega⟩))
    have O3 := Lib.hid (O2.out.trans S3.out)
    have R0_3 := Lib.hid (row_nm hnm (row_other (row_other (row_other (row_other (row_other (row_other (row_other (row_other (row_other (row_other (row_other (row_other (R0_2.out) (by omega)) (by omega)) (by omega)) (by omega)) (by omega)) (by omega)) (by omega)) (by omega)) (by omega)) (by omega)) (by omega)) (by omega)))
    have R1_3 := Lib.hid (show V9.heap[w.heap.size + 1]? = some (.cells #[.int .i64 x.kind, .int .i64 0, .bool false, .int .i64 0, .int .i64 0, .int .i64 0, .slice none 0 0, .int .i64 0, .int .i64 0, .int .i64 0, .slice A2 x.fates.length c2, .slice A3 x.fuses.length c3] 35 (0, 0)) from (by rw [hnm]; exact heap_setList (heap_setList (heap_setList (heap_setList (heap_setList (heap_setList (heap_setList (heap_setList (heap_setList (heap_setList (heap_setList (heap_setList (R1_2.out))))))))))))))
    have R2_3 := Lib.hid (row_nm hnm (row_other (row_other (row_other (row_other (row_other (row_other (row_other (row_other (row_other (row_other (row_other (row_other (R2_2.out) (by omega)) (by omega)) (by omega)) (by omega)) (by omega)) (by omega)) (by omega)) (by omega)) (by omega)) (by omega)) (by omega)) (by omega)))
    have Vf_3 := Lib.hid (val_only Vf_2.out S3.out)
    have Vu_3 := Lib.hid (val_only Vu_2.out S3.out)
    clear hnm
    have q1_0 := cl12 R1_3.out
    refine ⟨rfl, .agg #[.int .i64 x.kind, .int .i64 0, .bool false, .int .i64 0, .int .i64 0, .int .i64 0, .slice none 0 0, .int .i64 0, .int .i64 0, .int .i64 0, .slice A2 x.fates.length c2, .slice A3 x.fuses.length c3], by simp only [results, hfr]; go_simp, ?_⟩
    clear q1_0
    have HP := Lib.hid (show plainA x = ⟨x.kind, zeroC, ⟨0, 0⟩, 0, x.fates, x.fuses⟩ by unfold plainA; simp [HKK.out])
    exact ⟨_, rfl, by rw [HP.out]; exact rAct_agg (x := ⟨x.kind, zeroC, ⟨0, 0⟩, 0, x.fates, x.fuses⟩) (A_cmd_data := none) (c_cmd_data := 0) HI.out.1 wf0 wf0 wf0 wf0 ⟨by simp [zeroC], by simp [maxLen], [], rfl, fun h => absurd h (by simp [zeroC])⟩ wf0 wf0 wf0 (sl_of (Rep.val_mono (fun b hb _ => by rcases hb with h | h; exact .inl h.1; exact .inr (by omega)) Vf_3.out)) (sl_of (Rep.val_mono (fun b hb _ => by rcases hb with h | h; exact .inl h.1; exact .inr (by omega)) Vu_3.out)), Only.fin HB0.out O3.out⟩
end Go.Proofs.YtejibngkeaamkaaGreatDoor
