/- Texts on which the proofs stand: RExact, Much31, ConsoleShows, LiftConsoleShows. No condition is laid on any input. -/
import Derived.Test.YtejibngkeaamkaaGreatDoorCoG7
namespace Go.Proofs.YtejibngkeaamkaaGreatDoor
open Go.RowKit

set_option maxRecDepth 100000 in
set_option maxHeartbeats 2000000 in
/-- ref13.Exact, of equal commands -/
theorem rexact13_calls {Q Q' : Nat → Prop} {w : World} {u v : Value} {x : DCmd} (hu : rCmd.val Q w u x) (hv : rCmd.val Q' w v x) :
    Calls Tryz.prog 36 #[u, v] w fun e w' => e = .returned (.bool true) ∧ Below w.heap.size w w' := by
  obtain ⟨Ad, cd, rfl, f0, f1, f2, f3, hs⟩ := rCmd_val hu
  obtain ⟨Bd, dd, rfl, _, _, _, _, ht⟩ := rCmd_val hv
  have HS := Lib.hid hs.val
  have HU := Lib.hid ht.val
  have s0 : (x.kind == x.kind) = true := by simp
  have s1 : (x.loc == x.loc) = true := by simp
  have s2 : (x.comp == x.comp) = true := by simp
  clear hu hv hs ht f0 f1 f2 f3
  obtain ⟨W0, hW0⟩ : ∃ W, ((w.alloc (.cells #[.int .i64 x.kind, .bool x.loc, .int .i64 x.id.index, .int .i64 x.id.gen, .int .i64 x.comp, .slice Ad x.data.length cd] 29)).alloc (.cells #[.int .i64 x.kind, .bool x.loc, .int .i64 x.id.index, .int .i64 x.id.gen, .int .i64 x.comp, .slice Bd x.data.length dd] 29)) = W := ⟨_, rfl⟩
  have hz0 : W0.heap.size = w.heap.size + 2 := by rw [← hW0]; simp
  have hb0 : Below w.heap.size w W0 := by rw [← hW0]; exact ((Below.refl _ _).alloc (Nat.le_refl _) _).alloc (by first | (simp; done) | (simp; omega)) _
  have HZ := Lib.hid hz0
  have HB0 := Lib.hid hb0
  have R0_0 := Lib.hid (show W0.heap[w.heap.size]? = some (.cells #[.int .i64 x.kind, .bool x.loc, .int .i64 x.id.index, .int .i64 x.id.gen, .int .i64 x.comp, .slice Ad x.data.length cd] 29 (0, 0)) by rw [← hW0]; exact alloc_old (alloc_at rfl))
  have R1_0 := Lib.hid (show W0.heap[w.heap.size + 1]? = some (.cells #[.int .i64 x.kind, .bool x.loc, .int .i64 x.id.index, .int .i64 x.id.gen, .int .i64 x.comp, .slice Bd x.data.length dd] 29 (0, 0)) by rw [← hW0]; exact alloc_at (by simp))
  have O0 := Lib.hid (Only.refl (Box w 2) W0)
  have Va_0 := Lib.hid (show Rep.byte.list.val (In Q w 2) W0 (.slice Ad x.data.length cd) x.data from val_in HS.out hb0)
  have Vb_0 := Lib.hid (show Rep.byte.list.val (In Q' w 2) W0 (.slice Bd x.data.length dd) x.data from val_in HU.out hb0)
  clear hz0 hb0
  have q0_0 := rw6 R0_0.out
  have q1_0 := rw6 R1_0.out
  go_enter Tryz.func36, Tryz.ntmps36
  go_wp2_with fail
  try rw [hW0]
  clear hW0
  try go_wp2_with fail
  clear q0_0 q1_0
  refine (sameBytes Va_0.out Vb_0.out).mono ?_
  rintro e w1 ⟨rfl, rfl⟩
  rw [show decide (x.data = x.data) = true by simp]
  go_wp2_with fail
  go_ret
  exact ⟨rfl, Only.fin HB0.out O0.out⟩

set_option maxRecDepth 100000 in
set_option maxHeartbeats 2000000 in
/-- ref31.Exact, of equal acts -/
theorem rexact31_calls {Q Q' : Nat → Prop} {w : World} {u v : Value} {x : DAct} (hu : rAct.val Q w u x) (hv : rAct.val Q' w v x) :
    Calls Tryz.prog 14 #[u, v] w fun e w' => e = .returned (.bool true) ∧ Below w.heap.size w w' := by
  obtain ⟨A1, c1, A2, c2, A3, c3, rfl, f0, f1, f2, f3, f4, s1, f5, f6, f7, s2, s3⟩ := rAct_val hu
  obtain ⟨B1, d1, B2, d2, B3, d3, rfl, _, _, _, _, _, t1, _, _, _, t2, t3⟩ := rAct_val hv
  have HA := Lib.hid (show rCmd.val Q w (.agg #[.int .i64 x.cmd.kind, .bool x.cmd.loc, .int .i64 x.cmd.id.index, .int .i64 x.cmd.id.gen, .int .i64 x.cmd.comp, .slice A1 x.cmd.data.length c1]) x.cmd from rCmd_agg f1 f2 f3 f4 s1)
  have HB := Lib.hid (show rCmd.val Q' w (.agg #[.int .i64 x.cmd.kind, .bool x.cmd.loc, .int .i64 x.cmd.id.index, .int .i64 x.cmd.id.gen, .int .i64 x.cmd.comp, .slice B1 x.cmd.data.length d1]) x.cmd from rCmd_agg f1 f2 f3 f4 t1)
  have HUA := Lib.hid s3.val
  have HUB := Lib.hid t3.val
  have HFA := Lib.hid s2.2.2
  have HFB := Lib.hid t2.2.2
  have hc2 := s2.1
  have hc2m := s2.2.1
  have hd2 := t2.1
  have hd2m := t2.2.1
  unfold maxLen at hc2m hd2m
  clear hu hv s1 s2 s3 t1 t2 t3 f0 f1 f2 f3 f4 f5 f6 f7
  obtain ⟨W0, hW0⟩ : ∃ W, ((w.alloc (.cells #[.int .i64 x.kind, .int .i64 x.cmd.kind, .bool x.cmd.loc, .int .i64 x.cmd.id.index, .int .i64 x.cmd.id.gen, .int .i64 x.cmd.comp, .slice A1 x.cmd.data.length c1, .int .i64 x.policy.room, .int .i64 x.policy.frames, .int .i64 x.n, .slice A2 x.fates.length c2, .slice A3 x.fuses.length c3] 35)).alloc (.cells #[.int .i64 x.kind, .int .i64 x.cmd.kind, .bool x.cmd.loc, .int .i64 x.cmd.id.index, .int .i64 x.cmd.id.gen, .int .i64 x.cmd.comp, .slice B1 x.cmd.data.length d1, .int .i64 x.policy.room, .int .i64 x.policy.frames, .int .i64 x.n, .slice B2 x.fates.length d2, .slice B3 x.fuses.length d3] 35)) = W := ⟨_, rfl⟩
  have hz0 : W0.heap.size = w.heap.size + 2 := by rw [← hW0]; simp
  have hb0 : Below w.heap.size w W0 := by rw [← hW0]; exact ((Below.refl _ _).alloc (Nat.le_refl _) _).alloc (by first | (simp; done) | (simp; omega)) _
  have HZ := Lib.hid hz0
  have HB0 := Lib.hid hb0
  have R0_0 := Lib.hid (show W0.heap[w.heap.size]? = some (.cells #[.int .i64 x.kind, .int .i64 x.cmd.kind, .bool x.cmd.loc, .int .i64 x.cmd.id.index, .int .i64 x.cmd.id.gen, .int .i64 x.cmd.comp, .slice A1 x.cmd.data.length c1, .int .i64 x.policy.room, .int .i64 x.policy.frames, .int .i64 x.n, .slice A2 x.fates.length c2, .slice A3 x.fuses.length c3] 35 (0, 0)) by rw [← hW0]; exact alloc_old (alloc_at rfl))
  have R1_0 := Lib.hid (show W0.heap[w.heap.size + 1]? = some (.cells #[.int .i64 x.kind, .int .i64 x.cmd.kind, .bool x.cmd.loc, .int .i64 x.cmd.id.index, .int .i64 x.cmd.id.gen, .int .i64 x.cmd.comp, .slice B1 x.cmd.data.length d1, .int .i64 x.policy.room, .int .i64 x.policy.frames, .int .i64 x.n, .slice B2 x.fates.length d2, .slice B3 x.fuses.length d3] 35 (0, 0)) by rw [← hW0]; exact alloc_at (by simp))
  have O0 := Lib.hid (Only.refl (Box w 2) W0)
  have Va_0 := Lib.hid (show rCmd.val (In Q w 2) W0 (.agg #[.int .i64 x.cmd.kind, .bool x.cmd.loc, .int .i64 x.cmd.id.index, .int .i64 x.cmd.id.gen, .int .i64 x.cmd.comp, .slice A1 x.cmd.data.length c1]) x.cmd from val_in HA.out hb0)
  have Vb_0 := Lib.hid (show rCmd.val (In Q' w 2) W0 (.agg #[.int .i64 x.cmd.kind, .bool x.cmd.loc, .int .i64 x.cmd.id.index, .int .i64 x.cmd.id.gen, .int .i64 x.cmd.comp, .slice B1 x.cmd.data.length d1]) x.cmd from val_in HB.out hb0)
  have Vc_0 := Lib.hid (show (Rep.int .i64).list.val (In Q w 2) W0 (.slice A3 x.fuses.length c3) x.fuses from val_in HUA.out hb0)
  have Vd_0 := Lib.hid (show (Rep.int .i64).list.val (In Q' w 2) W0 (.slice B3 x.fuses.length d3) x.fuses from val_in HUB.out hb0)
  have HAV := Lib.hid (show ∀ V, Below w.heap.size w V → rFate.At Q V A2 x.fates from fun V hv => Rep.At.keep (fun b hq hl => ⟨hq, hv.block b hl.lt⟩) HFA.out)
  have HBV := Lib.hid (show ∀ V, Below w.heap.size w V → rFate.At Q' V B2 x.fates from fun V hv => Rep.At.keep (fun b hq hl => ⟨hq, hv.block b hl.lt⟩) HFB.out)
  clear hz0 hb0
  have q0_0 := rw12 R0_0.out
  have q1_0 := rw12 R1_0.out
  go_enter Tryz.func14, Tryz.ntmps14
  go_wp2_with fail
  try rw [hW0]
  clear hW0
  try go_wp2_with fail
  clear q0_0 q1_0
  refine (rexact13_calls Va_0.out Vb_0.out).mono ?_
  rintro e w1 ⟨rfl, hb⟩
  have S1 := Lib.hid (show Only (Box w 2) W0 w1 from Only.of_below hb)
  have O1 := Lib.hid (O0.out.trans S1.out)
  have R0_1 := Lib.hid (row_call hb R0_0.out)
  have R1_1 := Lib.hid (row_call hb R1_0.out)
  have Va_1 := Lib.hid (val_only Va_0.out S1.out)
  have Vb_1 := Lib.hid (val_only Vb_0.out S1.out)
  have Vc_1 := Lib.hid (val_only Vc_0.out S1.out)
  have Vd_1 := Lib.hid (val_only Vd_0.out S1.out)
  clear hb
  have q0_0 := rw12 R0_1.out
  have q1_0 := rw12 R1_1.out
  go_wp2_with fail
  clear q0_0 q1_0
  refine (sameList Vc_1.out Vd_1.out).mono ?_
  rintro e w2 ⟨rfl, n2, hw⟩
  have hb : Below w1.heap.size w1 w2 := by rw [hw]; exact below_drewN (Below.refl _ _) n2
  clear hw
  have S2 := Lib.hid (show Only (Box w 2) w1 w2 from Only.of_below hb)
  have O2 := Lib.hid (O1.out.trans S2.out)
  have R0_2 := Lib.hid (row_call hb R0_1.out)
  have R1_2 := Lib.hid (row_call hb R1_1.out)
  have Va_2 := Lib.hid (val_only Va_1.out S2.out)
  have Vb_2 := Lib.hid (val_only Vb_1.out S2.out)
  have Vc_2 := Lib.hid (val_only Vc_1.out S2.out)
  have Vd_2 := Lib.hid (val_only Vd_1.out S2.out)
  clear hb
  rw [show decide (x.fuses = x.fuses) = true by simp]
  have q0_0 := rw12 R0_2.out
  have q1_0 := rw12 R1_2.out
  go_wp2_with fail
  clear q0_0 q1_0
  go_loopw [5] (fun i wr => ∃ j : Nat, i = .int .i64 j ∧ j ≤ x.fates.length ∧ Hid (Below w2.heap.size w2 wr)) (fun i _ => x.fates.length - (intOf i).toNat)
  case atStart => exact ⟨0, rfl, Nat.zero_le _, Lib.hid (Below.refl _ _)⟩
  case round =>
    obtain ⟨j, rfl, hj, HBR⟩ := hrel
    have S3 := Lib.hid (show Only (Box w 2) w2 wr from Only.of_below HBR.out)
    have O3 := Lib.hid (O2.out.trans S3.out)
    have R0_3 := Lib.hid (row_call HBR.out R0_2.out)
    have R1_3 := Lib.hid (row_call HBR.out R1_2.out)
    have Va_3 := Lib.hid (val_only Va_2.out S3.out)
    have Vb_3 := Lib.hid (val_only Vb_2.out S3.out)
    have Vc_3 := Lib.hid (val_only Vc_2.out S3.out)
    have Vd_3 := Lib.hid (val_only Vd_2.out S3.out)
    have BW := Lib.hid (show Below w.heap.size w wr from Only.fin HB0.out O3.out)
    by_cases hlt : (j : Int) < x.fates.length
    · obtain ⟨y, hy⟩ : ∃ y, x.fates[j]? = some y := ⟨_, List.getElem?_eq_getElem (by omega)⟩
      have HY := Lib.hid hy
      obtain ⟨ba, oa, rfl⟩ := HAV.out _ BW.out |>.addr (by omega)
      obtain ⟨bb, ob, rfl⟩ := HBV.out _ BW.out |>.addr (by omega)
      have EA := Lib.hid (show ∀ V, Below wr.heap.size wr V → World.cell? V ⟨ba, oa + j * 2, none⟩ = some (.int .i64 y.kept) ∧ World.cell? V ⟨ba, oa + j * 2 + 1, none⟩ = some (.int .i64 y.torn) from fun V hv => by
        obtain ⟨b2, off2, he2, _, e0, e1, _⟩ := rFate_at (HAV.out V (BW.out.trans (hv.mono BW.out.size))) HY.out
        obtain ⟨rfl, rfl⟩ : ba = b2 ∧ oa = off2 := by simpa using he2
        exact ⟨e0, e1⟩)
      have EB := Lib.hid (show ∀ V, Below wr.heap.size wr V → World.cell? V ⟨bb, ob + j * 2, none⟩ = some (.int .i64 y.kept) ∧ World.cell? V ⟨bb, ob + j * 2 + 1, none⟩ = some (.int .i64 y.torn) from fun V hv => by
        obtain ⟨b2, off2, he2, _, e0, e1, _⟩ := rFate_at (HBV.out V (BW.out.trans (hv.mono BW.out.size))) HY.out
        obtain ⟨rfl, rfl⟩ : bb = b2 ∧ ob = off2 := by simpa using he2
        exact ⟨e0, e1⟩)
      clear hy
      have q0_0 := rw12 R0_3.out
      have q1_0 := rw12 R1_3.out
      go_wp2_with fail
      clear q0_0 q1_0
      refine wp_region_held_drew (S := fun W => Below wr.heap.size wr W) (by kernel_rfl) ((Below.refl _ _).drew) (fun s0 => ?_)
      obtain ⟨v1, hv0⟩ : ∃ V, V = wr.drew := ⟨_, rfl⟩
      rw [← hv0] at s0 ⊢
      have t1 : Below wr.heap.size wr v1 := s0
      clear hv0 s0
      refine tkHV (i := 0) (v := .pointer (some ⟨w.heap.size, 10, none⟩)) rfl t1 ?_
      go_simp
      refine tkH (i := 1) (v := .slice (some ⟨ba, oa, none⟩) x.fates.length c2) rfl (Or.inl ⟨by rfl, fun w' h => by have e := row_call (h : Below wr.heap.size wr w') R0_3.out; have e0 := cell_row e 0; have e1 := cell_row e 1; have e2 := cell_row e 2; have e3 := cell_row e 3; have e4 := cell_row e 4; have e5 := cell_row e 5; have e6 := cell_row e 6; have e7 := cell_row e 7; have e8 := cell_row e 8; have e9 := cell_row e 9; have e10 := cell_row e 10; have e11 := cell_row e 11; go_simp⟩) t1 ?_
      go_simp
      refine tkHV (i := 2) (v := .int .i64 j) rfl t1 ?_
      go_simp
      refine tkHV (i := 3) (v := .pointer (some ⟨ba, oa + j * 2, none⟩)) rfl t1 ?_
      go_simp
      refine tkH (i := 4) (v := .agg #[.int .i64 y.kept, .int .i64 y.torn]) rfl (Or.inl ⟨by rfl, fun w' h => by obtain ⟨e0, e1⟩ := EA.out w' h; go_simp⟩) t1 ?_
      go_simp
      refine tkHV (i := 5) (v := .pointer (some ⟨w.heap.size + 1, 10, none⟩)) rfl t1 ?_
      go_simp
      refine tkH (i := 6) (v := .slice (some ⟨bb, ob, none⟩) x.fates.length d2) rfl (Or.inl ⟨by rfl, fun w' h => by have e := row_call (h : Below wr.heap.size wr w') R1_3.out; have e0 := cell_row e 0; have e1 := cell_row e 1; have e2 := cell_row e 2; have e3 := cell_row e 3; have e4 := cell_row e 4; have e5 := cell_row e 5; have e6 := cell_row e 6; have e7 := cell_row e 7; have e8 := cell_row e 8; have e9 := cell_row e 9; have e10 := cell_row e 10; have e11 := cell_row e 11; go_simp⟩) t1 ?_
      go_simp
      refine tkHV (i := 7) (v := .int .i64 j) rfl t1 ?_
      go_simp
      refine tkHV (i := 8) (v := .pointer (some ⟨bb, ob + j * 2, none⟩)) rfl t1 ?_
      go_simp
      refine tkH (i := 9) (v := .agg #[.int .i64 y.kept, .int .i64 y.torn]) rfl (Or.inl ⟨by rfl, fun w' h => by obtain ⟨e0, e1⟩ := EB.out w' h; go_simp⟩) t1 ?_
      go_simp
      refine tkHV (i := 10) (v := .bool false) rfl t1 ?_
      go_simp
      refine wpAnyH_done (by kernel_rfl) ?_ _
      have S4 := Lib.hid (show Only (Box w 2) wr v1 from Only.of_below t1)
      have O4 := Lib.hid (O3.out.trans S4.out)
      have R0_4 := Lib.hid (row_call t1 R0_3.out)
      have R1_4 := Lib.hid (row_call t1 R1_3.out)
      have Va_4 := Lib.hid (val_only Va_3.out S4.out)
      have Vb_4 := Lib.hid (val_only Vb_3.out S4.out)
      have Vc_4 := Lib.hid (val_only Vc_3.out S4.out)
      have Vd_4 := Lib.hid (val_only Vd_3.out S4.out)
      have HBG := Lib.hid (show Below w2.heap.size w2 v1 from HBR.out.trans (Below.mono t1 HBR.out.size))
      have q0_0 := rw12 R0_4.out
      have q1_0 := rw12 R1_4.out
      go_wp2_with fail
      exact ⟨⟨j + 1, by go_num, by omega, HBG⟩, by simp [intOf]; omega⟩
    · obtain rfl : j = x.fates.length := by omega
      have q0_0 := rw12 R0_3.out
      have q1_0 := rw12 R1_3.out
      go_wp2_with fail
      go_ret
      exact ⟨rfl, BW.out⟩
end Go.Proofs.YtejibngkeaamkaaGreatDoor
namespace Go.Proofs.YtejibngkeaamkaaGreatDoor
open Go.RowKit

/-- Few data, fates and fuses. -/
def FewA (x : DAct) : Prop := x.cmd.data.length ≤ 200 ∧ x.fates.length ≤ 40 ∧ x.fuses.length ≤ 10
def MuchActs (w : World) (l : List DAct) (e : Ending) (w' : World) : Prop := ∃ r : Bool, e = .returned (.bool r) ∧ (r = false → l.length ≤ 80 ∧ ∀ x ∈ l, FewA x) ∧ w' = w
set_option maxRecDepth 100000 in
set_option maxHeartbeats 2000000 in
/-- ref31.Much -/
theorem muchActs_calls {Q : Nat → Prop} {w : World} {v : Value} {l : List DAct} (hx : rAct.list.val Q w v l) :
    Calls Tryz.prog 6 #[v] w (MuchActs w l) := by
  obtain ⟨A, c, rfl, hc1, hc2, hA⟩ := Rep.val_list hx
  unfold maxLen at hc2
  have HA := Lib.hid hA
  clear hx hA
  go_enter Tryz.func6, Tryz.ntmps6
  go_wp2_with fail
  go_loop [3] (fun i => ∃ k : Nat, i = .int .i64 k ∧ k ≤ l.length ∧ k ≤ 100 ∧ Hid (∀ x ∈ l.take k, FewA x)) (fun i => l.length - (intOf i).toNat)
  case atStart => exact ⟨0, rfl, by omega, by omega, Lib.hid (by simp)⟩
  case round =>
    obtain ⟨k, rfl, hk, hk5, HF⟩ := hrel
    by_cases hlt : (k : Int) < l.length
    · by_cases h50 : (k : Int) < 100
      · have hk' : k < l.length := by omega
        obtain ⟨b, off, A1, c1, A2, c2, A3, c3, rfl, _, d0, d1, d2, d3, d4, d5, d6, d7, d8, d9, d10, d11, _, _, _, _, _, s1, _, _, _, s2, s3⟩ := rAct_at HA.out (List.getElem?_eq_getElem hk')
        have hp1 := s1.1
        have hp2 := s1.2.1
        have hq1 := s2.1
        have hq2 := s2.2.1
        have hr1 := s3.1
        have hr2 := s3.2.1
        unfold maxLen at hp2 hq2 hr2
        have HN := Lib.hid (fun (hf : FewA l[k]) => show ∀ x ∈ l.take (k + 1), FewA x from fun x hm => by
          rw [List.take_succ_eq_append_getElem hk', List.mem_append, List.mem_singleton] at hm
          rcases hm with hm | rfl
          · exact HF.out x hm
          · exact hf)
        generalize l[k] = x at *
        clear s1 s2 s3
        by_cases h2 : (200 : Int) < x.cmd.data.length
        · go_wp2_with fail
          go_ret
          exact ⟨true, rfl, (fun h => (by cases h)), rfl⟩
        · by_cases h3 : (40 : Int) < x.fates.length
          · go_wp2_with fail
            go_ret
            exact ⟨true, rfl, (fun h => (by cases h)), rfl⟩
          · by_cases h4 : (10 : Int) < x.fuses.length
            · go_wp2_with fail
              go_ret
              exact ⟨true, rfl, (fun h => (by cases h)), rfl⟩
            · have HN2 := Lib.hid (HN.out ⟨by omega, by omega, by omega⟩)
              go_wp2_with fail
              go_round
              case rel => exact ⟨k + 1, by go_num, by omega, by omega, HN2⟩
              case measure => simp [intOf]; omega
      · have h20 : (80 : Int) < l.length := by omega
        go_wp2_with fail
        go_ret
        exact ⟨true, rfl, (fun h => (by cases h)), rfl⟩
    · obtain rfl : k = l.length := by omega
      rw [List.take_length] at HF
      by_cases h20 : (80 : Int) < l.length
      · go_wp2_with fail
        go_ret
        exact ⟨true, rfl, (fun h => (by cases h)), rfl⟩
      · go_wp2_with fail
        go_ret
        exact ⟨false, rfl, fun _ => ⟨by omega, HF.out⟩, rfl⟩
end Go.Proofs.YtejibngkeaamkaaGreatDoor
namespace Go.Proofs.YtejibngkeaamkaaGreatDoor
open Go.RowKit

/-- What console.Line answers, at any line. -/
def LineAns (w : World) (c : DConf) (s : Word) (e : Ending) (W : World) : Prop := ∃ u y n, e = .returned (.tuple #[u, .int .i64 n]) ∧ rAct.val (fun b => w.heap.size ≤ b) W u y ∧ Below w.heap.size w W ∧ (∀ z, lineS c s = some z → n = 0 ∧ y = z)
theorem lineAny_calls {Q : Nat → Prop} {w : World} {v : Value} {c : DConf} {s : List UInt8} (hx : rConf.val Q w v c) (hs : s.length ≤ 90000) (hm : ∀ z ∈ c.comps, z.name.length ≤ 1000000) (ht : Tabs w) :
    Calls Tryz.prog 10 #[v, .string ⟨s.toArray⟩] w (LineAns w c s) := by
  cases hy : lineS c s with
  | none =>
    refine (lineNone_calls hx hs hm ht hy).mono ?_
    rintro e W ⟨u, rfl, hv, hb⟩
    exact ⟨u, zeroA, 11, rfl, hv, hb, fun z h => by rw [hy] at h; cases h⟩
  | some y =>
    refine (line_calls hx hs hm ht hy).mono ?_
    rintro e W ⟨u, rfl, hv, hb⟩
    exact ⟨u, y, 0, rfl, hv, hb, fun z h => by rw [hy] at h; cases h; exact ⟨rfl, rfl⟩⟩
/-- A short act of short names is a short line. -/
theorem show_len {l : List DComp} {x : DAct} (h : FewA x) (hi : ActIn x) (hm : ∀ y ∈ l, y.name.length ≤ 100) : (showS l x).length ≤ 90000 := by
  have hw : ∀ y ∈ wordsS l x, y.length ≤ 500 := by
    have i1 := (itoa_len hi.r).1
    have i2 := (itoa_len hi.f).1
    have i3 := (itoa_len hi.n).1
    have i4 := whom_len (x := x.cmd) ⟨hi.c.i, hi.c.g⟩
    have i5 := cpart_len hi.c.k hm (by omega)
    have i6 := hex_len x.cmd.data
    have i7 := h.1
    have hc : ∀ y ∈ crashS x, y.length ≤ 500 := by
      intro y hy
      unfold crashS at hy
      rcases List.mem_cons.1 hy with rfl | hy
      · decide
      · rcases List.mem_append.1 hy with hy | hy
        · rcases List.mem_append.1 hy with hy | hy
          · obtain ⟨f, hf, rfl⟩ := List.mem_map.1 hy
            have := fate_len (hi.fa f hf); omega
          · split at hy
            · cases hy
            · rw [List.mem_singleton] at hy; subst hy; decide
        · obtain ⟨n, hn, rfl⟩ := List.mem_map.1 hy
          have := (itoa_len (hi.fu n hn)).1; omega
    unfold wordsS commandS
    intro y hy
    repeat' split at hy
    all_goals first
      | exact hc y hy
      | (simp only [List.mem_cons, List.not_mem_nil, or_false] at hy
         first
         | (rcases hy with hy | hy | hy | hy <;> (rw [hy]; first | decide | omega))
         | (rcases hy with hy | hy | hy <;> (rw [hy]; first | decide | omega))
         | (rcases hy with hy | hy <;> (rw [hy]; first | decide | omega))
         | (rw [hy]; decide))
  have hn : (wordsS l x).length ≤ 60 := by
    have h1 := h.2.1
    have h2 := h.2.2
    unfold wordsS commandS crashS
    repeat' split
    all_goals simp
    all_goals omega
  have := join_len (c := 32) _ hw
  have h3 : (wordsS l x).length * (500 + 1) ≤ 60 * 501 := Nat.mul_le_mul hn (Nat.le_refl _)
  unfold showS
  split
  · omega
  · simp
theorem short_names {c : DConf} (h : muchConf c = false) : ∀ y ∈ c.comps, y.name.length ≤ 100 := by
  unfold muchConf at h
  rw [Bool.or_eq_false_iff] at h
  have h2 : c.comps.length ≤ 40 := by simpa using h.2
  rw [List.take_of_length_le (by omega)] at h
  intro y hy
  have := List.any_eq_false.1 h.1 y hy
  simpa using this
theorem act_list {Q : Nat → Prop} {W : World} {B : Nat} {x : DAct} {cs : Array Value} (hv : rAct.val Q W (.agg cs) x) (h : W.heap[B]? = some (.cells cs 35 (0, 0))) : rAct.list.val (fun b => Q b ∨ b = B) W (.slice (some ⟨B, 0, none⟩) 1 1) [x] := by
  obtain ⟨A1, c1, A2, c2, A3, c3, he, f0, f1, f2, f3, f4, s1, f5, f6, f7, s2, s3⟩ := rAct_val hv
  obtain rfl := Value.agg.inj he
  have hd := rAct.keep (Q' := fun b => Q b ∨ b = B) (w' := W) (fun b hq _ => ⟨.inl hq, rfl⟩) (rAct_mk f0 f1 f2 f3 f4 s1 f5 f6 f7 s2 s3)
  refine Rep.list_val (xs := [x]) rfl (Nat.le_refl _) (by simp [maxLen]) ⟨_, ⟨_, [], by rfl, hd, rfl⟩, fun _ => ⟨B, 0, rfl, .inr rfl, ⟨_, _, _, h⟩, fun j u hj => ?_⟩⟩
  rw [cell_row h, Nat.zero_add, ← hj]
  simp

set_option maxRecDepth 100000 in
set_option maxHeartbeats 4000000 in
/-- law39.ConsoleShows -/
theorem consoleShows_calls {Q Q' : Nat → Prop} {w : World} {u v : Value} {c : DConf} {x : DAct} (hu : rConf.val Q w u c) (hx : rAct.val Q' w v x) (ht : Tabs w) :
    Calls Tryz.prog 3 #[u, v] w fun e w' => e = .returned (.bool true) ∧ Below w.heap.size w w' := by
  have HT := Lib.hid ht
  have HI := Lib.hid (act_in hx)
  obtain ⟨A, cap, rfl, _, _, _, _, _, _, _⟩ := rConf_val hu
  obtain ⟨A1, c1, A2, c2, A3, c3, rfl, f0, f1, f2, f3, f4, s1, f5, f6, f7, s2, s3⟩ := rAct_val hx
  have HU := Lib.hid hu
  have HX := Lib.hid hx
  clear hx hu ht f0 f1 f2 f3 f4 s1 f5 f6 f7 s2 s3
  cases hmc : muchConf c
  case true =>
    have HM := Lib.hid hmc
    clear hmc
    obtain ⟨W0, hW0⟩ : ∃ W, ((w.alloc (.cells #[.int .i64 c.log, .int .i64 c.pages, .int .i64 c.entities, .int .i64 c.gens, .slice A c.comps.length cap] 24)).alloc (.cells #[.int .i64 x.kind, .int .i64 x.cmd.kind, .bool x.cmd.loc, .int .i64 x.cmd.id.index, .int .i64 x.cmd.id.gen, .int .i64 x.cmd.comp, .slice A1 x.cmd.data.length c1, .int .i64 x.policy.room, .int .i64 x.policy.frames, .int .i64 x.n, .slice A2 x.fates.length c2, .slice A3 x.fuses.length c3] 35)) = W := ⟨_, rfl⟩
    have hz0 : W0.heap.size = w.heap.size + 2 := by rw [← hW0]; simp
    have hb0 : Below w.heap.size w W0 := by rw [← hW0]; exact ((Below.refl _ _).alloc (Nat.le_refl _) _).alloc (by first | (simp; done) | (simp; omega)) _
    have HZ := Lib.hid hz0
    have HB0 := Lib.hid hb0
    have R0_0 := Lib.hid (show W0.heap[w.heap.size]? = some (.cells #[.int .i64 c.log, .int .i64 c.pages, .int .i64 c.entities, .int .i64 c.gens, .slice A c.comps.length cap] 24 (0, 0)) by rw [← hW0]; exact alloc_old (alloc_at rfl))
    have R1_0 := Lib.hid (show W0.heap[w.heap.size + 1]? = some (.cells #[.int .i64 x.kind, .int .i64 x.cmd.kind, .bool x.cmd.loc, .int .i64 x.cmd.id.index, .int .i64 x.cmd.id.gen, .int .i64 x.cmd.comp, .slice A1 x.cmd.data.length c1, .int .i64 x.policy.room, .int .i64 x.policy.frames, .int .i64 x.n, .slice A2 x.fates.length c2, .slice A3 x.fuses.length c3] 35 (0, 0)) by rw [← hW0]; exact alloc_at (by simp))
    have O0 := Lib.hid (Only.refl (Box w 2) W0)
    have Vc_0 := Lib.hid (show rConf.val (In Q w 2) W0 (.agg #[.int .i64 c.log, .int .i64 c.pages, .int .i64 c.entities, .int .i64 c.gens, .slice A c.comps.length cap]) c from val_in HU.out hb0)
    have Vx_0 := Lib.hid (show rAct.val (In Q' w 2) W0 (.agg #[.int .i64 x.kind, .int .i64 x.cmd.kind, .bool x.cmd.loc, .int .i64 x.cmd.id.index, .int .i64 x.cmd.id.gen, .int .i64 x.cmd.comp, .slice A1 x.cmd.data.length c1, .int .i64 x.policy.room, .int .i64 x.policy.frames, .int .i64 x.n, .slice A2 x.fates.length c2, .slice A3 x.fuses.length c3]) x from val_in HX.out hb0)
    clear hz0 hb0
    have q0_0 := rw5 R0_0.out
    have q1_0 := rw12 R1_0.out
    go_enter Tryz.func3, Tryz.ntmps3
    go_wp2_with fail
    try rw [hW0]
    clear hW0
    try go_wp2_with fail
    clear q0_0 q1_0
    refine (much_calls Vc_0.out).mono ?_
    rintro e w1 ⟨rfl, hb⟩
    have S1 := Lib.hid (show Only (Box w 2) W0 w1 from Only.of_below hb)
    have O1 := Lib.hid (O0.out.trans S1.out)
    have R0_1 := Lib.hid (row_call hb R0_0.out)
    have R1_1 := Lib.hid (row_call hb R1_0.out)
    have Vc_1 := Lib.hid (val_only Vc_0.out S1.out)
    have Vx_1 := Lib.hid (val_only Vx_0.out S1.out)
    clear hb
    rw [HM.out]
    have q0_0 := rw5 R0_1.out
    have q1_0 := rw12 R1_1.out
    go_wp2_with fail
    clear q0_0 q1_0
    refine (live39_calls (HT.out.call (Only.fin HB0.out O1.out))).mono ?_
    rintro e w9 ⟨rfl, hb⟩
    have HBL := Lib.hid (show Below w.heap.size w w9 from (Only.fin HB0.out O1.out).trans (hb.mono (Below.size (Only.fin HB0.out O1.out))))
    clear hb
    go_wp2_with fail
    go_ret
    exact ⟨rfl, HBL.out⟩
  case false =>
    have HM := Lib.hid hmc
    have HN := Lib.hid (short_names hmc)
    clear hmc
    obtain ⟨W0, hW0⟩ : ∃ W, ((w.alloc (.cells #[.int .i64 c.log, .int .i64 c.pages, .int .i64 c.entities, .int .i64 c.gens, .slice A c.comps.length cap] 24)).alloc (.cells #[.int .i64 x.kind, .int .i64 x.cmd.kind, .bool x.cmd.loc, .int .i64 x.cmd.id.index, .int .i64 x.cmd.id.gen, .int .i64 x.cmd.comp, .slice A1 x.cmd.data.length c1, .int .i64 x.policy.room, .int .i64 x.policy.frames, .int .i64 x.n, .slice A2 x.fates.length c2, .slice A3 x.fuses.length c3] 35)) = W := ⟨_, rfl⟩
    have hz0 : W0.heap.size = w.heap.size + 2 := by rw [← hW0]; simp
    have hb0 : Below w.heap.size w W0 := by rw [← hW0]; exact ((Below.refl _ _).alloc (Nat.le_refl _) _).alloc (by first | (simp; done) | (simp; omega)) _
    have HZ := Lib.hid hz0
    have HB0 := Lib.hid hb0
    have R0_0 := Lib.hid (show W0.heap[w.heap.size]? = some (.cells #[.int .i64 c.log, .int .i64 c.pages, .int .i64 c.entities, .int .i64 c.gens, .slice A c.comps.length cap] 24 (0, 0)) by rw [← hW0]; exact alloc_old (alloc_at rfl))
    have R1_0 := Lib.hid (show W0.heap[w.heap.size + 1]? = some (.cells #[.int .i64 x.kind, .int .i64 x.cmd.kind, .bool x.cmd.loc, .int .i64 x.cmd.id.index, .int .i64 x.cmd.id.gen, .int .i64 x.cmd.comp, .slice A1 x.cmd.data.length c1, .int .i64 x.policy.room, .int .i64 x.policy.frames, .int .i64 x.n, .slice A2 x.fates.length c2, .slice A3 x.fuses.length c3] 35 (0, 0)) by rw [← hW0]; exact alloc_at (by simp))
    have O0 := Lib.hid (Only.refl (Box w 2) W0)
    have Vc_0 := Lib.hid (show rConf.val (In Q w 2) W0 (.agg #[.int .i64 c.log, .int .i64 c.pages, .int .i64 c.entities, .int .i64 c.gens, .slice A c.comps.length cap]) c from val_in HU.out hb0)
    have Vx_0 := Lib.hid (show rAct.val (In Q' w 2) W0 (.agg #[.int .i64 x.kind, .int .i64 x.cmd.kind, .bool x.cmd.loc, .int .i64 x.cmd.id.index, .int .i64 x.cmd.id.gen, .int .i64 x.cmd.comp, .slice A1 x.cmd.data.length c1, .int .i64 x.policy.room, .int .i64 x.policy.frames, .int .i64 x.n, .slice A2 x.fates.length c2, .slice A3 x.fuses.length c3]) x from val_in HX.out hb0)
    clear hz0 hb0
    have q0_0 := rw5 R0_0.out
    have q1_0 := rw12 R1_0.out
    go_enter Tryz.func3, Tryz.ntmps3
    go_wp2_with fail
    try rw [hW0]
    clear hW0
    try go_wp2_with fail
    clear q0_0 q1_0
    refine (much_calls Vc_0.out).mono ?_
    rintro e w1 ⟨rfl, hb⟩
    have S1 := Lib.hid (show Only (Box w 2) W0 w1 from Only.of_below hb)
    have O1 := Lib.hid (O0.out.trans S1.out)
    have R0_1 := Lib.hid (row_call hb R0_0.out)
    have R1_1 := Lib.hid (row_call hb R1_0.out)
    have Vc_1 := Lib.hid (val_only Vc_0.out S1.out)
    have Vx_1 := Lib.hid (val_only Vx_0.out S1.out)
    clear hb
    rw [HM.out]
    have q0_0 := rw5 R0_1.out
    have q1_0 := rw12 R1_1.out
    go_wp2_with fail
    clear q0_0 q1_0
    refine nm_calls (fun w2 hnm => ?_)
    have HF1 := Lib.hid (show w.heap.size + 2 ≤ w1.heap.size by have := O1.out.size; have := HZ.out; omega)
    have S2 := Lib.hid (show Only (Box w 2) w1 w2 from (by rw [hnm]; exact (Only.refl (Box w 2) w1).alloc _))
    have O2 := Lib.hid (O1.out.trans S2.out)
    have R0_2 := Lib.hid (row_nm hnm (alloc_old (R0_1.out)))
    have R1_2 := Lib.hid (row_nm hnm (alloc_old (R1_1.out)))
    have Rw1_heap_size_2 := Lib.hid (show w2.heap[w1.heap.size]? = some (.cells #[.int .i64 x.kind, .int .i64 x.cmd.kind, .bool x.cmd.loc, .int .i64 x.cmd.id.index, .int .i64 x.cmd.id.gen, .int .i64 x.cmd.comp, .slice A1 x.cmd.data.length c1, .int .i64 x.policy.room, .int .i64 x.policy.frames, .int .i64 x.n, .slice A2 x.fates.length c2, .slice A3 x.fuses.length c3] 35 (0, 0)) from (by rw [hnm]; exact alloc_at rfl))
    have Vc_2 := Lib.hid (val_only Vc_1.out S2.out)
    have Vx_2 := Lib.hid (val_only Vx_1.out S2.out)
    clear hnm
    refine (muchActs_calls (act_list Vx_2.out Rw1_heap_size_2.out)).mono ?_
    rintro e w3 ⟨r, rfl, hr, hw3⟩
    obtain rfl := hw3.symm
    cases r with
    | true =>
      have q0_0 := rw5 R0_2.out
      have q1_0 := rw12 R1_2.out
      have qn0_0 := rw12 Rw1_heap_size_2.out
      clear hr
      go_wp2_with fail
      clear q0_0 q1_0 qn0_0
      refine (live39_calls (HT.out.call (Only.fin HB0.out O2.out))).mono ?_
      rintro e w9 ⟨rfl, hb⟩
      have HBL := Lib.hid (show Below w.heap.size w w9 from (Only.fin HB0.out O2.out).trans (hb.mono (Below.size (Only.fin HB0.out O2.out))))
      clear hb
      go_wp2_with fail
      go_ret
      exact ⟨rfl, HBL.out⟩
    | false =>
      have HF := Lib.hid ((hr rfl).2 x (by simp))
      have HS := Lib.hid (show ActSmall x from ⟨HI.out, by have := HF.out.1; omega, by have := HF.out.2.1; omega, by have := HF.out.2.2; omega⟩)
      have HN2 := Lib.hid (show ∀ y ∈ c.comps, y.name.length ≤ 1000000 from fun y hy => by have := HN.out y hy; omega)
      have HSL := Lib.hid (show_len HF.out HI.out HN.out)
      clear hr
      have q0_0 := rw5 R0_2.out
      have q1_0 := rw12 R1_2.out
      go_wp2_with fail
      clear q0_0 q1_0
      refine (show_calls Vc_2.out Vx_2.out (HT.out.call (Only.fin HB0.out O2.out)) HS.out HN2.out).mono ?_
      rintro e w4 ⟨rfl, hb⟩
      have S3 := Lib.hid (show Only (Box w 2) w2 w4 from Only.of_below hb)
      have O3 := Lib.hid (O2.out.trans S3.out)
      have R0_3 := Lib.hid (row_call hb R0_2.out)
      have R1_3 := Lib.hid (row_call hb R1_2.out)
      have Vc_3 := Lib.hid (val_only Vc_2.out S3.out)
      have Vx_3 := Lib.hid (val_only Vx_2.out S3.out)
      clear hb
      have q0_0 := rw5 R0_3.out
      have q1_0 := rw12 R1_3.out
      go_wp2_with fail
      clear q0_0 q1_0
      refine (rshow39_calls Vc_3.out Vx_3.out HS.out HN2.out).mono ?_
      rintro e w5 ⟨rfl, hb⟩
      have S4 := Lib.hid (show Only (Box w 2) w4 w5 from Only.of_below hb)
      have O4 := Lib.hid (O3.out.trans S4.out)
      have R0_4 := Lib.hid (row_call hb R0_3.out)
      have R1_4 := Lib.hid (row_call hb R1_3.out)
      have Vc_4 := Lib.hid (val_only Vc_3.out S4.out)
      have Vx_4 := Lib.hid (val_only Vx_3.out S4.out)
      clear hb
      obtain ⟨s, hs⟩ : ∃ s, showS c.comps x = s := ⟨_, rfl⟩
      have HLS := Lib.hid (show confRight c = true → rightA x = true → lineS c s = some (plainA x) from fun h1 h2 => by rw [← hs]; exact line_show h1 HI.out h2)
      have hsl : s.length ≤ 90000 := by rw [← hs]; exact HSL.out
      have HSB := Lib.hid hsl
      rw [hs]
      have hss : (s == s) = true := by simp
      clear hs hsl
      have q0_0 := rw5 R0_4.out
      have q1_0 := rw12 R1_4.out
      go_wp2_with fail
      clear q0_0 q1_0
      refine (lineAny_calls Vc_4.out HSB.out HN2.out (HT.out.call (Only.fin HB0.out O4.out))).mono ?_
      rintro e w6 ⟨u6, y, n, rfl, hv, hb, hl⟩
      have S5 := Lib.hid (show Only (Box w 2) w5 w6 from Only.of_below hb)
      have O5 := Lib.hid (O4.out.trans S5.out)
      have R0_5 := Lib.hid (row_call hb R0_4.out)
      have R1_5 := Lib.hid (row_call hb R1_4.out)
      have Vc_5 := Lib.hid (val_only Vc_4.out S5.out)
      have Vx_5 := Lib.hid (val_only Vx_4.out S5.out)
      clear hb
      have Vy_5 := Lib.hid (show rAct.val (In (fun _ => True) w 2) w6 (u6) y from val_fresh (w := w) (n := 2) hv (by have := O4.out.size; have := HZ.out; omega))
      obtain ⟨B1, d1, B2, d2, B3, d3, rfl, _, _, _, _, _, _, _, _, _, _, _⟩ := rAct_val hv
      have HL := Lib.hid hl
      clear hv hl
      have q0_0 := rw5 R0_5.out
      have q1_0 := rw12 R1_5.out
      go_wp2_with fail
      clear q0_0 q1_0
      refine nm_region (fun w7 hnm => ?_)
      have HF2 := Lib.hid (show w.heap.size + 2 ≤ w6.heap.size by have := O5.out.size; have := HZ.out; omega)
      have S6 := Lib.hid (show Only (Box w 2) w6 w7 from (by rw [hnm]; exact (Only.refl (Box w 2) w6).alloc _))
      have O6 := Lib.hid (O5.out.trans S6.out)
      have R0_6 := Lib.hid (row_nm hnm (alloc_old (R0_5.out)))
      have R1_6 := Lib.hid (row_nm hnm (alloc_old (R1_5.out)))
      have Rw6_heap_size_6 := Lib.hid (show w7.heap[w6.heap.size]? = some (.cells #[.int .i64 y.kind, .int .i64 y.cmd.kind, .bool y.cmd.loc, .int .i64 y.cmd.id.index, .int .i64 y.cmd.id.gen, .int .i64 y.cmd.comp, .slice B1 y.cmd.data.length d1, .int .i64 y.policy.room, .int .i64 y.policy.frames, .int .i64 y.n, .slice B2 y.fates.length d2, .slice B3 y.fuses.length d3] 35 (0, 0)) from (by rw [hnm]; exact alloc_at rfl))
      have Vc_6 := Lib.hid (val_only Vc_5.out S6.out)
      have Vx_6 := Lib.hid (val_only Vx_5.out S6.out)
      have Vy_6 := Lib.hid (val_only Vy_5.out S6.out)
      clear hnm
      cases hcr : confRight c with
      | false =>
        have HCR := Lib.hid hcr
        clear hcr
        refine wp_region_held_drew (S := fun W => Below w7.heap.size w7 W) (by kernel_rfl) ((Below.refl _ _).drew) (fun s0 => ?_)
        obtain ⟨v1, hv0⟩ : ∃ V, V = w7.drew := ⟨_, rfl⟩
        rw [← hv0] at s0 ⊢
        have t1 : Below w7.heap.size w7 v1 := s0
        clear hv0 s0
        refine tkH (i := 0) (v := .agg #[.int .i64 c.log, .int .i64 c.pages, .int .i64 c.entities, .int .i64 c.gens, .slice A c.comps.length cap]) rfl (Or.inl ⟨by rfl, fun w' h => by have e := row_call (h : Below w7.heap.size w7 w') R0_6.out; have e0 := cell_row e 0; have e1 := cell_row e 1; have e2 := cell_row e 2; have e3 := cell_row e 3; have e4 := cell_row e 4; go_simp⟩) t1 ?_
        go_simp
        refine wpAnyH_all (rs := [1]) (by kernel_rfl) (by simp) ?_
        intro i hi
        obtain rfl : i = 1 := by simpa using hi
        clear hi
        refine wpOp_step rfl (fun K hK => ?_)
        go_simp
        refine (right_calls (val_only Vc_6.out (Only.of_below t1))).mono ?_
        rintro e v2 ⟨rfl, hb⟩
        rw [HCR.out]
        have t2 : Below w7.heap.size w7 v2 := Below.trans t1 (hb.mono (Below.size t1))
        refine hK _ _ ⟨t2, ?_⟩
        clear hb
        clear hK K
        refine tkHV (i := 2) (v := .bool true) rfl t2 ?_
        go_simp
        refine tkHV (i := 3) (v := .bool true) rfl t2 ?_
        go_simp
        refine tkH (i := 4) (v := undef) rfl (Or.inr ⟨by rfl, rfl⟩) t2 ?_
        go_simp
        refine tkH (i := 5) (v := undef) rfl (Or.inr ⟨by rfl, rfl⟩) t2 ?_
        go_simp
        refine tkH (i := 6) (v := undef) rfl (Or.inr ⟨by rfl, rfl⟩) t2 ?_
        go_simp
        refine tkHV (i := 7) (v := .bool true) rfl t2 ?_
        go_simp
        refine tkHV (i := 8) (v := .bool true) rfl t2 ?_
        go_simp
        refine tkH (i := 9) (v := undef) rfl (Or.inr ⟨by rfl, rfl⟩) t2 ?_
        go_simp
        refine tkH (i := 10) (v := undef) rfl (Or.inr ⟨by rfl, rfl⟩) t2 ?_
        go_simp
        refine tkH (i := 11) (v := undef) rfl (Or.inr ⟨by rfl, rfl⟩) t2 ?_
        go_simp
        refine tkH (i := 12) (v := undef) rfl (Or.inr ⟨by rfl, rfl⟩) t2 ?_
        go_simp
        refine tkH (i := 13) (v := undef) rfl (Or.inr ⟨by rfl, rfl⟩) t2 ?_
        go_simp
        refine tkH (i := 14) (v := undef) rfl (Or.inr ⟨by rfl, rfl⟩) t2 ?_
        go_simp
        refine tkH (i := 15) (v := undef) rfl (Or.inr ⟨by rfl, rfl⟩) t2 ?_
        go_simp
        refine tkH (i := 16) (v := undef) rfl (Or.inr ⟨by rfl, rfl⟩) t2 ?_
        go_simp
        refine tkH (i := 17) (v := undef) rfl (Or.inr ⟨by rfl, rfl⟩) t2 ?_
        go_simp
        refine tkHV (i := 18) (v := .bool true) rfl t2 ?_
        go_simp
        refine tkHV (i := 19) (v := .bool true) rfl t2 ?_
        go_simp
        refine wpAnyH_all (rs := [20]) (by kernel_rfl) (by simp) ?_
        intro i hi
        obtain rfl : i = 20 := by simpa using hi
        clear hi
        refine wpOp_step rfl (fun K hK => ?_)
        go_simp
        refine (live39_calls (HT.out.call ((Only.fin HB0.out O6.out).trans (Below.mono t2 (Below.size (Only.fin HB0.out O6.out)))))).mono ?_
        rintro e v3 ⟨rfl, hb⟩
        have t3 : Below w7.heap.size w7 v3 := Below.trans t2 (hb.mono (Below.size t2))
        refine hK _ _ ⟨t3, ?_⟩
        clear hb
        clear hK K
        refine tkHV (i := 21) (v := .bool true) rfl t3 ?_
        go_simp
        refine tkHV (i := 22) (v := .bool true) rfl t3 ?_
        go_simp
        refine wpAnyH_done (by kernel_rfl) ?_ _
        have S7 := Lib.hid (show Only (Box w 2) w7 v3 from Only.of_below t3)
        have O7 := Lib.hid (O6.out.trans S7.out)
        have R0_7 := Lib.hid (row_call t3 R0_6.out)
        have R1_7 := Lib.hid (row_call t3 R1_6.out)
        have Rw6_heap_size_7 := Lib.hid (row_call t3 Rw6_heap_size_6.out)
        have Vc_7 := Lib.hid (val_only Vc_6.out S7.out)
        have Vx_7 := Lib.hid (val_only Vx_6.out S7.out)
        have Vy_7 := Lib.hid (val_only Vy_6.out S7.out)
        go_wp2_with fail
        go_ret
        exact ⟨rfl, Only.fin HB0.out O7.out⟩
      | true =>
        have HCR := Lib.hid hcr
        clear hcr
        cases hra : rightA x with
        | false =>
          have HRA := Lib.hid hra
          clear hra
          refine wp_region_held_drew (S := fun W => Below w7.heap.size w7 W) (by kernel_rfl) ((Below.refl _ _).drew) (fun s0 => ?_)
          obtain ⟨v1, hv0⟩ : ∃ V, V = w7.drew := ⟨_, rfl⟩
          rw [← hv0] at s0 ⊢
          have t1 : Below w7.heap.size w7 v1 := s0
          clear hv0 s0
          refine tkH (i := 0) (v := .agg #[.int .i64 c.log, .int .i64 c.pages, .int .i64 c.entities, .int .i64 c.gens, .slice A c.comps.length cap]) rfl (Or.inl ⟨by rfl, fun w' h => by have e := row_call (h : Below w7.heap.size w7 w') R0_6.out; have e0 := cell_row e 0; have e1 := cell_row e 1; have e2 := cell_row e 2; have e3 := cell_row e 3; have e4 := cell_row e 4; go_simp⟩) t1 ?_
          go_simp
          refine wpAnyH_all (rs := [1]) (by kernel_rfl) (by simp) ?_
          intro i hi
          obtain rfl : i = 1 := by simpa using hi
          clear hi
          refine wpOp_step rfl (fun K hK => ?_)
          go_simp
          refine (right_calls (val_only Vc_6.out (Only.of_below t1))).mono ?_
          rintro e v2 ⟨rfl, hb⟩
          rw [HCR.out]
          have t2 : Below w7.heap.size w7 v2 := Below.trans t1 (hb.mono (Below.size t1))
          refine hK _ _ ⟨t2, ?_⟩
          clear hb
          clear hK K
          refine tkHV (i := 2) (v := .bool false) rfl t2 ?_
          go_simp
          refine tkHV (i := 3) (v := .bool false) rfl t2 ?_
          go_simp
          refine tkH (i := 4) (v := .agg #[.int .i64 x.kind, .int .i64 x.cmd.kind, .bool x.cmd.loc, .int .i64 x.cmd.id.index, .int .i64 x.cmd.id.gen, .int .i64 x.cmd.comp, .slice A1 x.cmd.data.length c1, .int .i64 x.policy.room, .int .i64 x.policy.frames, .int .i64 x.n, .slice A2 x.fates.length c2, .slice A3 x.fuses.length c3]) rfl (Or.inl ⟨by rfl, fun w' h => by have e := row_call (h : Below w7.heap.size w7 w') R1_6.out; have e0 := cell_row e 0; have e1 := cell_row e 1; have e2 := cell_row e 2; have e3 := cell_row e 3; have e4 := cell_row e 4; have e5 := cell_row e 5; have e6 := cell_row e 6; have e7 := cell_row e 7; have e8 := cell_row e 8; have e9 := cell_row e 9; have e10 := cell_row e 10; have e11 := cell_row e 11; go_simp⟩) t2 ?_
          go_simp
          refine wpAnyH_all (rs := [5]) (by kernel_rfl) (by simp) ?_
          intro i hi
          obtain rfl : i = 5 := by simpa using hi
          clear hi
          refine wpOp_step rfl (fun K hK => ?_)
          go_simp
          refine (rright31_calls (val_only Vx_6.out (Only.of_below t2))).mono ?_
          rintro e v3 ⟨rfl, hb⟩
          rw [HRA.out]
          have t3 : Below w7.heap.size w7 v3 := Below.trans t2 (hb.mono (Below.size t2))
          refine hK _ _ ⟨t3, ?_⟩
          clear hb
          clear hK K
          refine tkHV (i := 6) (v := .bool true) rfl t3 ?_
          go_simp
          refine tkHV (i := 7) (v := .bool true) rfl t3 ?_
          go_simp
          refine tkHV (i := 8) (v := .bool true) rfl t3 ?_
          go_simp
          refine tkH (i := 9) (v := undef) rfl (Or.inr ⟨by rfl, rfl⟩) t3 ?_
          go_simp
          refine tkH (i := 10) (v := undef) rfl (Or.inr ⟨by rfl, rfl⟩) t3 ?_
          go_simp
          refine tkH (i := 11) (v := undef) rfl (Or.inr ⟨by rfl, rfl⟩) t3 ?_
          go_simp
          refine tkH (i := 12) (v := undef) rfl (Or.inr ⟨by rfl, rfl⟩) t3 ?_
          go_simp
          refine tkH (i := 13) (v := undef) rfl (Or.inr ⟨by rfl, rfl⟩) t3 ?_
          go_simp
          refine tkH (i := 14) (v := undef) rfl (Or.inr ⟨by rfl, rfl⟩) t3 ?_
          go_simp
          refine tkH (i := 15) (v := undef) rfl (Or.inr ⟨by rfl, rfl⟩) t3 ?_
          go_simp
          refine tkH (i := 16) (v := undef) rfl (Or.inr ⟨by rfl, rfl⟩) t3 ?_
          go_simp
          refine tkH (i := 17) (v := undef) rfl (Or.inr ⟨by rfl, rfl⟩) t3 ?_
          go_simp
          refine tkHV (i := 18) (v := .bool true) rfl t3 ?_
          go_simp
          refine tkHV (i := 19) (v := .bool true) rfl t3 ?_
          go_simp
          refine wpAnyH_all (rs := [20]) (by kernel_rfl) (by simp) ?_
          intro i hi
          obtain rfl : i = 20 := by simpa using hi
          clear hi
          refine wpOp_step rfl (fun K hK => ?_)
          go_simp
          refine (live39_calls (HT.out.call ((Only.fin HB0.out O6.out).trans (Below.mono t3 (Below.size (Only.fin HB0.out O6.out)))))).mono ?_
          rintro e v4 ⟨rfl, hb⟩
          have t4 : Below w7.heap.size w7 v4 := Below.trans t3 (hb.mono (Below.size t3))
          refine hK _ _ ⟨t4, ?_⟩
          clear hb
          clear hK K
          refine tkHV (i := 21) (v := .bool true) rfl t4 ?_
          go_simp
          refine tkHV (i := 22) (v := .bool true) rfl t4 ?_
          go_simp
          refine wpAnyH_done (by kernel_rfl) ?_ _
          have S7 := Lib.hid (show Only (Box w 2) w7 v4 from Only.of_below t4)
          have O7 := Lib.hid (O6.out.trans S7.out)
          have R0_7 := Lib.hid (row_call t4 R0_6.out)
          have R1_7 := Lib.hid (row_call t4 R1_6.out)
          have Rw6_heap_size_7 := Lib.hid (row_call t4 Rw6_heap_size_6.out)
          have Vc_7 := Lib.hid (val_only Vc_6.out S7.out)
          have Vx_7 := Lib.hid (val_only Vx_6.out S7.out)
          have Vy_7 := Lib.hid (val_only Vy_6.out S7.out)
          go_wp2_with fail
          go_ret
          exact ⟨rfl, Only.fin HB0.out O7.out⟩
        | true =>
          have HRA := Lib.hid hra
          clear hra
          obtain ⟨rfl, rfl⟩ : n = 0 ∧ y = plainA x := HL.out _ (HLS.out HCR.out HRA.out)
          refine wp_region_held_drew (S := fun W => Below w7.heap.size w7 W) (by kernel_rfl) ((Below.refl _ _).drew) (fun s0 => ?_)
          obtain ⟨v1, hv0⟩ : ∃ V, V = w7.drew := ⟨_, rfl⟩
          rw [← hv0] at s0 ⊢
          have t1 : Below w7.heap.size w7 v1 := s0
          clear hv0 s0
          refine tkH (i := 0) (v := .agg #[.int .i64 c.log, .int .i64 c.pages, .int .i64 c.entities, .int .i64 c.gens, .slice A c.comps.length cap]) rfl (Or.inl ⟨by rfl, fun w' h => by have e := row_call (h : Below w7.heap.size w7 w') R0_6.out; have e0 := cell_row e 0; have e1 := cell_row e 1; have e2 := cell_row e 2; have e3 := cell_row e 3; have e4 := cell_row e 4; go_simp⟩) t1 ?_
          go_simp
          refine wpAnyH_all (rs := [1]) (by kernel_rfl) (by simp) ?_
          intro i hi
          obtain rfl : i = 1 := by simpa using hi
          clear hi
          refine wpOp_step rfl (fun K hK => ?_)
          go_simp
          refine (right_calls (val_only Vc_6.out (Only.of_below t1))).mono ?_
          rintro e v2 ⟨rfl, hb⟩
          rw [HCR.out]
          have t2 : Below w7.heap.size w7 v2 := Below.trans t1 (hb.mono (Below.size t1))
          refine hK _ _ ⟨t2, ?_⟩
          clear hb
          clear hK K
          refine tkHV (i := 2) (v := .bool false) rfl t2 ?_
          go_simp
          refine tkHV (i := 3) (v := .bool false) rfl t2 ?_
          go_simp
          refine tkH (i := 4) (v := .agg #[.int .i64 x.kind, .int .i64 x.cmd.kind, .bool x.cmd.loc, .int .i64 x.cmd.id.index, .int .i64 x.cmd.id.gen, .int .i64 x.cmd.comp, .slice A1 x.cmd.data.length c1, .int .i64 x.policy.room, .int .i64 x.policy.frames, .int .i64 x.n, .slice A2 x.fates.length c2, .slice A3 x.fuses.length c3]) rfl (Or.inl ⟨by rfl, fun w' h => by have e := row_call (h : Below w7.heap.size w7 w') R1_6.out; have e0 := cell_row e 0; have e1 := cell_row e 1; have e2 := cell_row e 2; have e3 := cell_row e 3; have e4 := cell_row e 4; have e5 := cell_row e 5; have e6 := cell_row e 6; have e7 := cell_row e 7; have e8 := cell_row e 8; have e9 := cell_row e 9; have e10 := cell_row e 10; have e11 := cell_row e 11; go_simp⟩) t2 ?_
          go_simp
          refine wpAnyH_all (rs := [5]) (by kernel_rfl) (by simp) ?_
          intro i hi
          obtain rfl : i = 5 := by simpa using hi
          clear hi
          refine wpOp_step rfl (fun K hK => ?_)
          go_simp
          refine (rright31_calls (val_only Vx_6.out (Only.of_below t2))).mono ?_
          rintro e v3 ⟨rfl, hb⟩
          rw [HRA.out]
          have t3 : Below w7.heap.size w7 v3 := Below.trans t2 (hb.mono (Below.size t2))
          refine hK _ _ ⟨t3, ?_⟩
          clear hb
          clear hK K
          refine tkHV (i := 6) (v := .bool false) rfl t3 ?_
          go_simp
          refine tkHV (i := 7) (v := .bool false) rfl t3 ?_
          go_simp
          refine tkHV (i := 8) (v := .bool false) rfl t3 ?_
          go_simp
          refine tkHV (i := 9) (v := .int .i64 0) rfl t3 ?_
          go_simp
          refine wpAnyH_all (rs := [10]) (by kernel_rfl) (by simp) ?_
          intro i hi
          obtain rfl : i = 10 := by simpa using hi
          clear hi
          refine wpOp_step rfl (fun K hK => ?_)
          go_simp
          refine (code39_calls _ _).mono ?_
          rintro e v4 ⟨rfl, hw⟩
          have hb : Below v3.heap.size v3 v4 := by rw [hw]; exact Below.refl _ _
          clear hw
          have t4 : Below w7.heap.size w7 v4 := Below.trans t3 (hb.mono (Below.size t3))
          refine hK _ _ ⟨t4, ?_⟩
          clear hb
          clear hK K
          refine tkHV (i := 11) (v := .bool true) rfl t4 ?_
          go_simp
          refine tkHV (i := 12) (v := .bool true) rfl t4 ?_
          go_simp
          refine tkH (i := 13) (v := .agg #[.int .i64 (plainA x).kind, .int .i64 (plainA x).cmd.kind, .bool (plainA x).cmd.loc, .int .i64 (plainA x).cmd.id.index, .int .i64 (plainA x).cmd.id.gen, .int .i64 (plainA x).cmd.comp, .slice B1 (plainA x).cmd.data.length d1, .int .i64 (plainA x).policy.room, .int .i64 (plainA x).policy.frames, .int .i64 (plainA x).n, .slice B2 (plainA x).fates.length d2, .slice B3 (plainA x).fuses.length d3]) rfl (Or.inl ⟨by rfl, fun w' h => by have e := row_call (h : Below w7.heap.size w7 w') Rw6_heap_size_6.out; have e0 := cell_row e 0; have e1 := cell_row e 1; have e2 := cell_row e 2; have e3 := cell_row e 3; have e4 := cell_row e 4; have e5 := cell_row e 5; have e6 := cell_row e 6; have e7 := cell_row e 7; have e8 := cell_row e 8; have e9 := cell_row e 9; have e10 := cell_row e 10; have e11 := cell_row e 11; go_simp⟩) t4 ?_
          go_simp
          refine tkH (i := 14) (v := .agg #[.int .i64 x.kind, .int .i64 x.cmd.kind, .bool x.cmd.loc, .int .i64 x.cmd.id.index, .int .i64 x.cmd.id.gen, .int .i64 x.cmd.comp, .slice A1 x.cmd.data.length c1, .int .i64 x.policy.room, .int .i64 x.policy.frames, .int .i64 x.n, .slice A2 x.fates.length c2, .slice A3 x.fuses.length c3]) rfl (Or.inl ⟨by rfl, fun w' h => by have e := row_call (h : Below w7.heap.size w7 w') R1_6.out; have e0 := cell_row e 0; have e1 := cell_row e 1; have e2 := cell_row e 2; have e3 := cell_row e 3; have e4 := cell_row e 4; have e5 := cell_row e 5; have e6 := cell_row e 6; have e7 := cell_row e 7; have e8 := cell_row e 8; have e9 := cell_row e 9; have e10 := cell_row e 10; have e11 := cell_row e 11; go_simp⟩) t4 ?_
          go_simp
          refine wpAnyH_all (rs := [15]) (by kernel_rfl) (by simp) ?_
          intro i hi
          obtain rfl : i = 15 := by simpa using hi
          clear hi
          refine wpOp_step rfl (fun K hK => ?_)
          go_simp
          refine (rplain31_calls (val_only Vx_6.out (Only.of_below t4)) HRA.out).mono ?_
          rintro e v5 ⟨v9, rfl, hv9, hb⟩
          have HV9 := Lib.hid (show rAct.val (fun _ => True) v5 v9 (plainA x) from Rep.val_mono (fun _ _ _ => trivial) hv9)
          clear hv9
          have t5 : Below w7.heap.size w7 v5 := Below.trans t4 (hb.mono (Below.size t4))
          refine hK _ _ ⟨t5, ?_⟩
          clear hb
          clear hK K
          refine wpAnyH_all (rs := [16]) (by kernel_rfl) (by simp) ?_
          intro i hi
          obtain rfl : i = 16 := by simpa using hi
          clear hi
          refine wpOp_step rfl (fun K hK => ?_)
          go_simp
          refine (rexact31_calls (val_only Vy_6.out (Only.of_below t5)) HV9.out).mono ?_
          rintro e v6 ⟨rfl, hb⟩
          have t6 : Below w7.heap.size w7 v6 := Below.trans t5 (hb.mono (Below.size t5))
          refine hK _ _ ⟨t6, ?_⟩
          clear hb
          clear hK K
          refine tkHV (i := 17) (v := .bool true) rfl t6 ?_
          go_simp
          refine tkHV (i := 18) (v := .bool true) rfl t6 ?_
          go_simp
          refine tkHV (i := 19) (v := .bool true) rfl t6 ?_
          go_simp
          refine wpAnyH_all (rs := [20]) (by kernel_rfl) (by simp) ?_
          intro i hi
          obtain rfl : i = 20 := by simpa using hi
          clear hi
          refine wpOp_step rfl (fun K hK => ?_)
          go_simp
          refine (live39_calls (HT.out.call ((Only.fin HB0.out O6.out).trans (Below.mono t6 (Below.size (Only.fin HB0.out O6.out)))))).mono ?_
          rintro e v7 ⟨rfl, hb⟩
          have t7 : Below w7.heap.size w7 v7 := Below.trans t6 (hb.mono (Below.size t6))
          refine hK _ _ ⟨t7, ?_⟩
          clear hb
          clear hK K
          refine tkHV (i := 21) (v := .bool true) rfl t7 ?_
          go_simp
          refine tkHV (i := 22) (v := .bool true) rfl t7 ?_
          go_simp
          refine wpAnyH_done (by kernel_rfl) ?_ _
          have S7 := Lib.hid (show Only (Box w 2) w7 v7 from Only.of_below t7)
          have O7 := Lib.hid (O6.out.trans S7.out)
          have R0_7 := Lib.hid (row_call t7 R0_6.out)
          have R1_7 := Lib.hid (row_call t7 R1_6.out)
          have Rw6_heap_size_7 := Lib.hid (row_call t7 Rw6_heap_size_6.out)
          have Vc_7 := Lib.hid (val_only Vc_6.out S7.out)
          have Vx_7 := Lib.hid (val_only Vx_6.out S7.out)
          have Vy_7 := Lib.hid (val_only Vy_6.out S7.out)
          go_wp2_with fail
          go_ret
          exact ⟨rfl, Only.fin HB0.out O7.out⟩
end Go.Proofs.YtejibngkeaamkaaGreatDoor
namespace Go.Proofs.YtejibngkeaamkaaGreatDoor.ConsoleShowsLaw
open Go.ChangeShapes Go.WideShapes Go.ChangeAt Go.RowKit

set_option maxRecDepth 100000 in
theorem lifted (os : Os) (started : os.Started) (H : Type) (enc : TypeId × Value → H) :
    ReturnsInHanded {} Tryz.checked os 3 .any (fun w args => (Rows.consoleShowsSpec.pre enc Tryz.prog Tryz.f3 Rows.consoleShowsRow.domain false w args ∧ laidMetH Tryz.prog laid39 w) ∧ sizedMet enc Tryz.prog Tryz.f3 (OpenSpec.ofChange Rows.consoleShowsSpec) false w args)
      (Rows.consoleShowsSpec.post enc Tryz.prog Tryz.f3 false true false false) := by
  refine lift_laid (C := Tryz.checked) (X := fun w => laidMetH Tryz.prog laid39 w) (fun _ _ hh h => h.of_heap hh) own started (by kernel_rfl) Tryz.func3
    (ChangeSpec.witness_shaped (enc := enc) (C := Tryz.checked) (os := os) (X := fun w _ => laidMetH Tryz.prog laid39 w) false (World.laidAll Tryz.prog os laid39) #[.agg #[.int .i64 0, .int .i64 0, .int .i64 0, .int .i64 0, .slice none 0 0], .agg #[.int .i64 0, .int .i64 0, .bool false, .int .i64 0, .int .i64 0, .int .i64 0, .slice none 0 0, .int .i64 0, .int .i64 0, .int .i64 0, .slice none 0 0, .slice none 0 0]] 8 (World.laidAll_os _ _ _) (shaped39 os _) (by kernel_rfl) (by kernel_rfl) (by kernel_rfl) (door39 os _)) ?_
  intro W base args ds gs before hval0 hW hL hsh
  have hval : ∀ (j : Nat) t v, Tryz.f3.params[j]? = some t → args[j]? = some v → Value.okWide Tryz.prog W .any base t v := hval0
  have hW' := hW
  obtain ⟨p, q, hA0, hV, rfl, _, _⟩ := hW
  have hA : DataW.TrodAll enc Tryz.prog W 0 (fun _ => true) true Tryz.f3.params.toList args.toList ds p := hA0
  rw [Tryz.params3] at hA hval
  have hA2 := hA
  obtain ⟨v0, vs0, d0, ds0, p0, q0, hargs, rfl, rfl, h0, r0⟩ := trodAll_cons hA
  obtain ⟨v1, vs1, d1, ds1, p1, q1, rfl, rfl, rfl, h1, r1⟩ := trodAll_cons r0
  obtain ⟨rfl, rfl, rfl⟩ := trodAll_nil r1
  obtain rfl : args = #[v0, v1] := by cases args; simp_all
  obtain ⟨rfl, rfl⟩ := trodVars_none hV
  obtain ⟨y0, k0⟩ := Rep.opens of_Conf (Rep.wrap_agg Tryz.underlying24 (fun _ => rfl)) (hval 0 24 v0 rfl rfl) h0
  obtain ⟨y1, k1⟩ := Rep.opens of_Act (Rep.wrap_agg Tryz.underlying35 (fun _ => rfl)) (hval 1 35 v1 rfl rfl) h1
  refine (consoleShows_calls k0 k1 (tabs_of hL hsh)).mono fun e W' ⟨he, bel⟩ => ?_
  subst he
  exact ⟨_, rfl, _, _, _, [], _, [], hW', trodAll_mk1 (shut_bool Tryz.underlying4 _), trodAll_below laidOut bel (of_decide_eq_true (by kernel_rfl)) hA2, rfl, bel.frame _, fun h => by cases h⟩

end ConsoleShowsLaw
end Go.Proofs.YtejibngkeaamkaaGreatDoor
