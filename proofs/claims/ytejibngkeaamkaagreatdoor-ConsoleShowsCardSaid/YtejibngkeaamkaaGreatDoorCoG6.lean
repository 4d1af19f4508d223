/- Texts on which the proofs stand: SPlain, CLine, Live39, RShowMath, RWhom, RPart, RRight31. No condition is laid on any input. -/
import Derived.Test.YtejibngkeaamkaaGreatDoorCoG5
namespace Go.Proofs.YtejibngkeaamkaaGreatDoor
open Go.RowKit

theorem rFate_leaf : rFate.Leaf := fun _ _ _ _ _ x h => by
  obtain ⟨rfl, f0, f1⟩ := rFate_open h
  exact rFate_mk f0 f1

/-- slices.Clone[[]api.Fate,api.Fate] -/
theorem cloneFates_calls {Q : Nat → Prop} {w : World} {v : Value} {l : List DFate} (hx : rFate.list.val Q w v l) (hl : l.length ≤ 1000000) :
    Calls Tryz.prog 58 #[v] w (Res rFate.list (fun b => w.heap.size ≤ b) w l) := by
  obtain ⟨A, c, rfl, hc1, hc2, hA⟩ := Rep.val_list hx
  unfold maxLen at hc2
  cases A with
  | none =>
    have hnil : l = [] := by
      rcases Nat.eq_zero_or_pos l.length with h | h
      · exact List.eq_nil_of_length_eq_zero h
      · obtain ⟨b, off, h⟩ := hA.addr h; cases h
    subst hnil
    have he := fun w => Lib.run_eql_slice_nil (P := Tryz.prog) w 32 65 none 0 c 0 0 Tryz.underlying32
    go_enter Tryz.func58, Tryz.ntmps58
    go_wp2_with fail
    go_ret
    exact ⟨_, rfl, Rep.val_nil (by simp [maxLen]), Below.refl _ _⟩
  | some a =>
    have he := fun w => Lib.run_eql_slice_nil (P := Tryz.prog) w 32 65 (some a) l.length c 0 0 Tryz.underlying32
    have HX := Lib.hid (show rFate.list.val (fun b => b < w.heap.size) (w.alloc (.cells #[] 65)) (.slice (some a) l.length c) l from Rep.val_keep (w := w) (fun b _ hl => ⟨hl.lt, Below.heap_alloc _ _ _ hl.lt⟩) hx)
    have HA := Lib.hid (show rFate.acc 65 w.heap.size (fun _ => False) (w.alloc (.cells #[] 65)) (.slice (some ⟨w.heap.size, 0, none⟩) 0 0) [] from Rep.acc_made w #[] 0 (Nat.le_refl _) (by simp [maxLen]) (by simp))
    have HB1 := Lib.hid (show ([] : List DFate).length + l.length ≤ maxLen from by simp [maxLen]; omega)
    have HB2 := Lib.hid (show (([] : List DFate).length + l.length) * 16 ≤ 140737488355328 from by simp; omega)
    have HB3 := Lib.hid (show w.heap.size ≤ (w.alloc (.cells #[] 65)).heap.size from by simp)
    clear hx hA
    go_enter Tryz.func58, Tryz.ntmps58
    go_wp2_with (refine wpList_spread_leaf (e := 65) (base := w.heap.size) (Q := fun _ => False) rFate_leaf rfl _ _ 32 rfl (.agg #[.int .i64 0, .int .i64 0]) 2 16 Tryz.underlying32 infoFate rfl (by decide) rfl _ [] (by exact rfl) HA.out _ l (by exact rfl) HX.out HB1.out HB2.out HB3.out ?_; intro v' w' hacc' hgr hat)
    go_ret
    exact ⟨_, rfl, by have := Rep.acc_fresh hacc'; simpa using this, Rep.acc_below HA.out ((Below.refl _ w).alloc (Nat.le_refl _) _) hgr HB3.out⟩

/-- slices.Clone[[]int,int] -/
theorem cloneNums_calls {Q : Nat → Prop} {w : World} {v : Value} {l : List Int} (hx : (Rep.int .i64).list.val Q w v l) (hl : l.length ≤ 1000000) :
    Calls Tryz.prog 59 #[v] w (Res (Rep.int .i64).list (fun b => w.heap.size ≤ b) w l) := by
  obtain ⟨A, c, rfl, hc1, hc2, hA⟩ := Rep.val_list hx
  unfold maxLen at hc2
  cases A with
  | none =>
    have hnil : l = [] := by
      rcases Nat.eq_zero_or_pos l.length with h | h
      · exact List.eq_nil_of_length_eq_zero h
      · obtain ⟨b, off, h⟩ := hA.addr h; cases h
    subst hnil
    have he := fun w => Lib.run_eql_slice_nil (P := Tryz.prog) w 33 3 none 0 c 0 0 Tryz.underlying33
    go_enter Tryz.func59, Tryz.ntmps59
    go_wp2_with fail
    go_ret
    exact ⟨_, rfl, Rep.val_nil (by simp [maxLen]), Below.refl _ _⟩
  | some a =>
    have he := fun w => Lib.run_eql_slice_nil (P := Tryz.prog) w 33 3 (some a) l.length c 0 0 Tryz.underlying33
    have HX := Lib.hid (show (Rep.int .i64).list.val (fun b => b < w.heap.size) (w.alloc (.cells #[] 3)) (.slice (some a) l.length c) l from Rep.val_keep (w := w) (fun b _ hl => ⟨hl.lt, Below.heap_alloc _ _ _ hl.lt⟩) hx)
    have HA := Lib.hid (show (Rep.int .i64).acc 3 w.heap.size (fun _ => False) (w.alloc (.cells #[] 3)) (.slice (some ⟨w.heap.size, 0, none⟩) 0 0) [] from Rep.acc_made w #[] 0 (Nat.le_refl _) (by simp [maxLen]) (by simp))
    have HB1 := Lib.hid (show ([] : List Int).length + l.length ≤ maxLen from by simp [maxLen]; omega)
    have HB2 := Lib.hid (show (([] : List Int).length + l.length) * 8 ≤ 140737488355328 from by simp; omega)
    have HB3 := Lib.hid (show w.heap.size ≤ (w.alloc (.cells #[] 3)).heap.size from by simp)
    clear hx hA
    go_enter Tryz.func59, Tryz.ntmps59
    go_wp2_with (refine wpList_spread_leaf (e := 3) (base := w.heap.size) (Q := fun _ => False) (Rep.leaf_int .i64) rfl _ _ 33 rfl (.int .i64 0) 1 8 Tryz.underlying33 infoIntA rfl (by decide) rfl _ [] (by exact rfl) HA.out _ l (by exact rfl) HX.out HB1.out HB2.out HB3.out ?_; intro v' w' hacc' hgr hat)
    go_ret
    exact ⟨_, rfl, by have := Rep.acc_fresh hacc'; simpa using this, Rep.acc_below HA.out ((Below.refl _ w).alloc (Nat.le_refl _) _) hgr HB3.out⟩

set_option maxRecDepth 100000 in
set_option maxHeartbeats 2000000 in
/-- script.Plain, of an act that may be -/
theorem splain_calls {Q : Nat → Prop} {w : World} {v : Value} {x : DAct} (hx : rAct.val Q w v x) (hr : rightA x = true) (hs : ActSmall x) :
    Calls Tryz.prog 32 #[v] w (Res rAct (fun b => w.heap.size ≤ b) w (plainA x)) := by
  have hfr : Tryz.f32.results = #[.cell 2 35] := rfl
  obtain ⟨A1, c1, A2, c2, A3, c3, rfl, f0, f1, f2, f3, f4, s1, f5, f6, f7, s2, s3⟩ := rAct_val hx
  have HCM := Lib.hid (show rCmd.val Q w (.agg #[.int .i64 x.cmd.kind, .bool x.cmd.loc, .int .i64 x.cmd.id.index, .int .i64 x.cmd.id.gen, .int .i64 x.cmd.comp, .slice A1 x.cmd.data.length c1]) x.cmd from rCmd_agg f1 f2 f3 f4 s1)
  have HFA := Lib.hid s2.val
  have HFU := Lib.hid s3.val
  have HS := Lib.hid hs
  have HI := Lib.hid (And.intro f0 (And.intro f5 (And.intro f6 f7)))
  unfold rightA at hr
  simp only [Bool.and_eq_true, decide_eq_true_eq, Bool.or_eq_true, Bool.not_eq_true', decide_eq_false_iff_not] at hr
  obtain ⟨⟨⟨⟨h0, h6⟩, hc⟩, _⟩, _⟩ := hr
  have HCK := Lib.hid (show x.kind = 0 → knownB x.cmd.kind = true from fun h => by
    rcases hc with hc | hc
    · exact absurd h hc
    · unfold checkCmd at hc
      split at hc
      · assumption
      · omega)
  have hcase : x.kind = 0 ∨ x.kind = 1 ∨ x.kind = 2 ∨ x.kind = 3 ∨ x.kind = 4 ∨ x.kind = 5 ∨ x.kind = 6 := by omega
  clear hx hs f0 f1 f2 f3 f4 s1 f5 f6 f7 s2 s3 hc h0 h6
  rcases hcase with h | h | h | h | h | h | h
  · have HKK := Lib.hid h
    have b0 : (x.kind == 0) = true := by simp [h]
    have b4 : (x.kind == 4) = false := by simp [h]
    have b5 : (x.kind == 5) = false := by simp [h]
    have b6 : (x.kind == 6) = false := by simp [h]
    clear h
    obtain ⟨W0, hW0⟩ : ∃ W, ((w.alloc (.cells #[.int .i64 x.kind, .int .i64 x.cmd.kind, .bool x.cmd.loc, .int .i64 x.cmd.id.index, .int .i64 x.cmd.id.gen, .int .i64 x.cmd.comp, .slice A1 x.cmd.data.length c1, .int .i64 x.policy.room, .int .i64 x.policy.frames, .int .i64 x.n, .slice A2 x.fates.length c2, .slice A3 x.fuses.length c3] 35)).alloc (.cells #[.int .i64 0, .int .i64 0, .bool false, .int .i64 0, .int .i64 0, .int .i64 0, .slice none 0 0, .int .i64 0, .int .i64 0, .int .i64 0, .slice none 0 0, .slice none 0 0] 35)) = W := ⟨_, rfl⟩
    have hz0 : W0.heap.size = w.heap.size + 2 := by rw [← hW0]; simp
    have hb0 : Below w.heap.size w W0 := by rw [← hW0]; exact ((Below.refl _ _).alloc (Nat.le_refl _) _).alloc (by first | (simp; done) | (simp; omega)) _
    have HZ := Lib.hid hz0
    have HB0 := Lib.hid hb0
    have R0_0 := Lib.hid (show W0.heap[w.heap.size]? = some (.cells #[.int .i64 x.kind, .int .i64 x.cmd.kind, .bool x.cmd.loc, .int .i64 x.cmd.id.index, .int .i64 x.cmd.id.gen, .int .i64 x.cmd.comp, .slice A1 x.cmd.data.length c1, .int .i64 x.policy.room, .int .i64 x.policy.frames, .int .i64 x.n, .slice A2 x.fates.length c2, .slice A3 x.fuses.length c3] 35 (0, 0)) by rw [← hW0]; exact alloc_old (alloc_at rfl))
    have R1_0 := Lib.hid (show W0.heap[w.heap.size + 1]? = some (.cells #[.int .i64 0, .int .i64 0, .bool false, .int .i64 0, .int .i64 0, .int .i64 0, .slice none 0 0, .int .i64 0, .int .i64 0, .int .i64 0, .slice none 0 0, .slice none 0 0] 35 (0, 0)) by rw [← hW0]; exact alloc_at (by simp))
    have O0 := Lib.hid (Only.refl (Box w 3) W0)
    have Vm_0 := Lib.hid (show rCmd.val (In Q w 3) W0 (.agg #[.int .i64 x.cmd.kind, .bool x.cmd.loc, .int .i64 x.cmd.id.index, .int .i64 x.cmd.id.gen, .int .i64 x.cmd.comp, .slice A1 x.cmd.data.length c1]) x.cmd from val_in HCM.out hb0)
    clear hz0 hb0
    have q0_0 := rw12 R0_0.out
    have q1_0 := rw12 R1_0.out
    go_enter Tryz.func32, Tryz.ntmps32
    go_wp2_with (with_reducible refine stopLoad 3 7 rfl ?_)
    refine Lib.hid ?_
    try rw [hW0]
    clear hW0
    clear q0_0 q1_0
    try rw [show W0.heap.size = w.heap.size + 1 + 1 by have := HZ.out; omega]
    refine nm_list (fun V1 hnm => ?_)
    have S1 := Lib.hid (show Only (Box w 3) W0 V1 from (by rw [hnm]; exact (Only.refl (Box w 3) W0).alloc _))
    have O1 := Lib.hid (O0.out.trans S1.out)
    have R0_1 := Lib.hid (row_nm hnm (alloc_old (R0_0.out)))
    have R1_1 := Lib.hid (row_nm hnm (alloc_old (R1_0.out)))
    have R2_1 := Lib.hid (show V1.heap[w.heap.size + 1 + 1]? = some (.cells #[.int .i64 x.kind, .int .i64 0, .bool false, .int .i64 0, .int .i64 0, .int .i64 0, .slice none 0 0, .int .i64 0, .int .i64 0, .int .i64 0, .slice none 0 0, .slice none 0 0] 35 (0, 0)) from (by rw [hnm]; exact alloc_at (by have := HZ.out; first | omega | (simp <;> omega))))
    have Vm_1 := Lib.hid (val_only Vm_0.out S1.out)
    clear hnm
    have q0_0 := rw12 R0_1.out
    have q1_0 := rw12 R1_1.out
    have q2_0 := rw12 R2_1.out
    go_wp2_with fail
    clear q0_0 q1_0 q2_0
    refine (cplain_calls Vm_1.out (HCK.out HKK.out) HS.out.d).mono ?_
    rintro e w2 ⟨vd, rfl, hvd, hb⟩
    have S2 := Lib.hid (show Only (Box w 3) V1 w2 from Only.of_below hb)
    have O2 := Lib.hid (O1.out.trans S2.out)
    have R0_2 := Lib.hid (row_call hb R0_1.out)
    have R1_2 := Lib.hid (row_call hb R1_1.out)
    have R2_2 := Lib.hid (row_call hb R2_1.out)
    have Vm_2 := Lib.hid (val_only Vm_1.out S2.out)
    have Ve_2 := Lib.hid (val_fresh (Q := fun _ => False) (w := w) (n := 3) hvd (by have h9 := (Array.getElem?_eq_some_iff.1 R2_1.out).1; omega))
    obtain ⟨Bd, dd, rfl, _⟩ := rCmd_val hvd
    clear hvd hb
    have q0_0 := rw12 R0_2.out
    have q1_0 := rw12 R1_2.out
    have q2_0 := rw12 R2_2.out
    go_wp2_with (with_reducible refine stopLoad 35 3 rfl ?_)
    refine Lib.hid ?_
    clear q0_0 q1_0 q2_0
    refine nm_list (fun V3 hnm => ?_)
    have S3 := Lib.hid (show Only (Box w 3) w2 V3 from (by rw [hnm]; exact ((((((Only.refl (Box w 3) w2).put ⟨by omega, by omega⟩).put ⟨by omega, by omega⟩).put ⟨by omega, by omega⟩).put ⟨by omega, by omega⟩).put ⟨by omega, by omega⟩).put ⟨by omega, by omega⟩))
    have O3 := Lib.hid (O2.out.trans S3.out)
    have R0_3 := Lib.hid (row_nm hnm (row_other (row_other (row_other (row_other (row_other (row_other (R0_2.out) (by omega)) (by omega)) (by omega)) (by omega)) (by omega)) (by omega)))
    have R1_3 := Lib.hid (row_nm hnm (row_other (row_other (row_other (row_other (row_other (row_other (R1_2.out) (by omega)) (by omega)) (by omega)) (by omega)) (by omega)) (by omega)))
    have R2_3 := Lib.hid (show V3.heap[w.heap.size + 1 + 1]? = some (.cells #[.int .i64 x.kind, .int .i64 (plainC x.cmd).kind, .bool (plainC x.cmd).loc, .int .i64 (plainC x.cmd).id.index, .int .i64 (plainC x.cmd).id.gen, .int .i64 (plainC x.cmd).comp, .slice Bd (plainC x.cmd).data.length dd, .int .i64 0, .int .i64 0, .int .i64 0, .slice none 0 0, .slice none 0 0] 35 (0, 0)) from (by rw [hnm]; exact heap_setList (heap_setList (heap_setList (heap_setList (heap_setList (heap_setList (R2_2.out))))))))
    have Vm_3 := Lib.hid (val_only Vm_2.out S3.out)
    have Ve_3 := Lib.hid (val_only Ve_2.out S3.out)
    clear hnm
    have q0_0 := rw12 R0_3.out
    have q1_0 := rw12 R1_3.out
    have q2_0 := rw12 R2_3.out
    go_wp2_with fail
    clear q0_0 q1_0 q2_0
    refine nm_post (fun V9 hnm => ?_)
    have S4 := Lib.hid (show Only (Box w 3) V3 V9 from (by rw [hnm]; exact ((((((((((((Only.refl (Box w 3) V3).put ⟨by omega, by omega⟩).put ⟨by omega, by omega⟩).put ⟨by omega, by omega⟩).put ⟨by omega, by omega⟩).put ⟨by omega, by omega⟩).put ⟨by omega, by omega⟩).put ⟨by omega, by omega⟩).put ⟨by omega, by omega⟩).put ⟨by omega, by omega⟩).put ⟨by omega, by omega⟩).put ⟨by omega, by omega⟩).put ⟨by omega, by omega⟩))
    have O4 := Lib.hid (O3.out.trans S4.out)
    have R0_4 := Lib.hid (row_nm hnm (row_other (row_other (row_other (row_other (row_other (row_other (row_other (row_other (row_other (row_other (row_other (row_other (R0_3.out) (by omega)) (by omega)) (by omega)) (by omega)) (by omega)) (by omega)) (by omega)) (by omega)) (by omega)) (by omega)) (by omega)) (by omega)))
    have R1_4 := Lib.hid (show V9.heap[w.heap.size + 1]? = some (.cells #[.int .i64 x.kind, .int .i64 (plainC x.cmd).kind, .bool (plainC x.cmd).loc, .int .i64 (plainC x.cmd).id.index, .int .i64 (plainC x.cmd).id.gen, .int .i64 (plainC x.cmd).comp, .slice Bd (plainC x.cmd).data.length dd, .int .i64 0, .int .i64 0, .int .i64 0, .slice none 0 0, .slice none 0 0] 35 (0, 0)) from (by rw [hnm]; exact heap_setList (heap_setList (heap_setList (heap_setList (heap_setList (heap_setList (heap_setList (heap_setList (heap_setList (heap_setList (heap_setList (heap_setList (R1_3.out))))))))))))))
    have R2_4 := Lib.hid (row_nm hnm (row_other (row_other (row_other (row_other (row_other (row_other (row_other (row_other (row_other (row_other (row_other (row_other (R2_3.out) (by omega)) (by omega)) (by omega)) (by omega)) (by omega)) (by omega)) (by omega)) (by omega)) (by omega)) (by omega)) (by omega)) (by omega)))
    have Vm_4 := Lib.hid (val_only Vm_3.out S4.out)
    have Ve_4 := Lib.hid (val_only Ve_3.out S4.out)
    clear hnm
    have q1_0 := cl12 R1_4.out
    refine ⟨rfl, .agg #[.int .i64 x.kind, .int .i64 (plainC x.cmd).kind, .bool (plainC x.cmd).loc, .int .i64 (plainC x.cmd).id.index, .int .i64 (plainC x.cmd).id.gen, .int .i64 (plainC x.cmd).comp, .slice Bd (plainC x.cmd).data.length dd, .int .i64 0, .int .i64 0, .int .i64 0, .slice none 0 0, .slice none 0 0], by simp only [results, hfr]; go_simp, ?_⟩
    clear q1_0
    have HP := Lib.hid (show plainA x = ⟨x.kind, plainC x.cmd, ⟨0, 0⟩, 0, [], []⟩ by unfold plainA; simp [HKK.out])
    obtain ⟨A7, c7, e7, g1, g2, g3, g4, gs⟩ := rCmd_val (Rep.val_mono (Q' := fun b => w.heap.size ≤ b) (fun b hb _ => by rcases hb with h | h; exact absurd h.1 id; omega) Ve_4.out)
    obtain ⟨rfl, rfl⟩ : Bd = A7 ∧ dd = c7 := by simpa using e7
    exact ⟨_, rfl, by rw [HP.out]; exact rAct_agg (x := ⟨x.kind, plainC x.cmd, ⟨0, 0⟩, 0, [], []⟩) (A_fates := none) (c_fates := 0) (A_fuses := none) (c_fuses := 0) HI.out.1 g1 g2 g3 g4 gs wf0 wf0 wf0 ⟨by simp, by simp [maxLen], [], rfl, fun h => absurd h (by simp)⟩ ⟨by simp, by simp [maxLen], [], rfl, fun h => absurd h (by simp)⟩, Only.fin HB0.out O4.out⟩
  · have HKK := Lib.hid h
    have b0 : (x.kind == 0) = false := by simp [h]
    have b4 : (x.kind == 4) = false := by simp [h]
    have b5 : (x.kind == 5) = false := by simp [h]
    have b6 : (x.kind == 6) = false := by simp [h]
    clear h
    obtain ⟨W0, hW0⟩ : ∃ W, ((w.alloc (.cells #[.int .i64 x.kind, .int .i64 x.cmd.kind, .bool x.cmd.loc, .int .i64 x.cmd.id.index, .int .i64 x.cmd.id.gen, .int .i64 x.cmd.comp, .slice A1 x.cmd.data.length c1, .int .i64 x.policy.room, .int .i64 x.policy.frames, .int .i64 x.n, .slice A2 x.fates.length c2, .slice A3 x.fuses.length c3] 35)).alloc (.cells #[.int .i64 0, .int .i64 0, .bool false, .int .i64 0, .int .i64 0, .int .i64 0, .slice none 0 0, .int .i64 0, .int .i64 0, .int .i64 0, .slice none 0 0, .slice none 0 0] 35)) = W := ⟨_, rfl⟩
    have hz0 : W0.heap.size = w.heap.size + 2 := by rw [← hW0]; simp
    have hb0 : Below w.heap.size w W0 := by rw [← hW0]; exact ((Below.refl _ _).alloc (Nat.le_refl _) _).alloc (by first | (simp; done) | (simp; omega)) _
    have HZ := Lib.hid hz0
    have HB0 := Lib.hid hb0
    have R0_0 := Lib.hid (show W0.heap[w.heap.size]? = some (.cells #[.int .i64 x.kind, .int .i64 x.cmd.kind, .bool x.cmd.loc, .int .i64 x.cmd.id.index, .int .i64 x.cmd.id.gen, .int .i64 x.cmd.comp, .slice A1 x.cmd.data.length c1, .int .i64 x.policy.room, .int .i64 x.policy.frames, .int .i64 x.n, .slice A2 x.fates.length c2, .slice A3 x.fuses.length c3] 35 (0, 0)) by rw [← hW0]; exact alloc_old (alloc_at rfl))
    have R1_0 := Lib.hid (show W0.heap[w.heap.size + 1]? = some (.cells #[.int .i64 0, .int .i64 0, .bool false, .int .i64 0, .int .i64 0, .int .i64 0, .slice none 0 0, .int .i64 0, .int .i64 0, .int .i64 0, .slice none 0 0, .slice none 0 0] 35 (0, 0)) by rw [← hW0]; exact alloc_at (by simp))
    have O0 := Lib.hid (Only.refl (Box w 3) W0)
    clear hz0 hb0
    have q0_0 := rw12 R0_0.out
    have q1_0 := rw12 R1_0.out
    go_enter Tryz.func32, Tryz.ntmps32
    go_wp2_with (with_reducible refine stopLoad 3 7 rfl ?_)
    refine Lib.hid ?_
    try rw [hW0]
    clear hW0
    clear q0_0 q1_0
    try rw [show W0.heap.size = w.heap.size + 1 + 1 by have := HZ.out; omega]
    refine nm_list (fun V1 hnm => ?_)
    have S1 := Lib.hid (show Only (Box w 3) W0 V1 from (by rw [hnm]; exact (Only.refl (Box w 3) W0).alloc _))
    have O1 := Lib.hid (O0.out.trans S1.out)
    have R0_1 := Lib.hid (row_nm hnm (alloc_old (R0_0.out)))
    have R1_1 := Lib.hid (row_nm hnm (alloc_old (R1_0.out)))
    have R2_1 := Lib.hid (show V1.heap[w.heap.size + 1 + 1]? = some (.cells #[.int .i64 x.kind, .int .i64 0, .bool false, .int .i64 0, .int .i64 0, .int .i64 0, .slice none 0 0, .int .i64 0, .int .i64 0, .int .i64 0, .slice none 0 0, .slice none 0 0] 35 (0, 0)) from (by rw [hnm]; exact alloc_at (by have := HZ.out; first | omega | (simp <;> omega))))
    clear hnm
    have q0_0 := rw12 R0_1.out
    have q1_0 := rw12 R1_1.out
    have q2_0 := rw12 R2_1.out
    go_wp2_with fail
    clear q0_0 q1_0 q2_0
    refine nm_post (fun V9 hnm => ?_)
    have S2 := Lib.hid (show Only (Box w 3) V1 V9 from (by rw [hnm]; exact ((((((((((((Only.refl (Box w 3) V1).put ⟨by omega, by omega⟩).put ⟨by omega, by omega⟩).put ⟨by omega, by omega⟩).put ⟨by omega, by omega⟩).put ⟨by omega, by omega⟩).put ⟨by omega, by omega⟩).put ⟨by omega, by omega⟩).put ⟨by omega, by omega⟩).put ⟨by omega, by omega⟩).put ⟨by omega, by omega⟩).put ⟨by omega, by omega⟩).put ⟨by omega, by omega⟩))
    have O2 := Lib.hid (O1.out.trans S2.out)
    have R0_2 := Lib.hid (row_nm hnm (row_other (row_other (row_other (row_other (row_other (row_other (row_other (row_other (row_other (row_other (row_other (row_other (R0_1.out) (by omega)) (by omega)) (by omega)) (by omega)) (by omega)) (by omega)) (by omega)) (by omega)) (by omega)) (by omega)) (by omega)) (by omega)))
    have R1_2 := Lib.hid (show V9.heap[w.heap.size + 1]? = some (.cells #[.int .i64 x.kind, .int .i64 0, .bool false, .int .i64 0, .int .i64 0, .int .i64 0, .slice none 0 0, .int .i64 0, .int .i64 0, .int .i64 0, .slice none 0 0, .slice none 0 0] 35 (0, 0)) from (by rw [hnm]; exact heap_setList (heap_setList (heap_setList (heap_setList (heap_setList (heap_setList (heap_setList (heap_setList (heap_setList (heap_setList (heap_setList (heap_setList (R1_1.out))))))))))))))
    have R2_2 := Lib.hid (row_nm hnm (row_other (row_other (row_other (row_other (row_other (row_other (row_other (row_other (row_other (row_other (row_other (row_other (R2_1.out) (by omega)) (by omega)) (by omega)) (by omega)) (by omega)) (by omega)) (by omega)) (by omega)) (by omega)) (by omega)) (by omega)) (by omega)))
    clear hnm
    have q1_0 := cl12 R1_2.out
    refine ⟨rfl, .agg #[.int .i64 x.kind, .int .i64 0, .bool false, .int .i64 0, .int .i64 0, .int .i64 0, .slice none 0 0, .int .i64 0, .int .i64 0, .int .i64 0, .slice none 0 0, .slice none 0 0], by simp only [results, hfr]; go_simp, ?_⟩
    clear q1_0
    have HP := Lib.hid (show plainA x = ⟨x.kind, zeroC, ⟨0, 0⟩, 0, [], []⟩ by unfold plainA; simp [HKK.out])
    exact ⟨_, rfl, by rw [HP.out]; exact rAct_agg (x := ⟨x.kind, zeroC, ⟨0, 0⟩, 0, [], []⟩) (A_cmd_data := none) (c_cmd_data := 0) (A_fates := none) (c_fates := 0) (A_fuses := none) (c_fuses := 0) HI.out.1 wf0 wf0 wf0 wf0 ⟨by simp [zeroC], by simp [maxLen], [], rfl, fun h => absurd h (by simp [zeroC])⟩ wf0 wf0 wf0 ⟨by simp, by simp [maxLen], [], rfl, fun h => absurd h (by simp)⟩ ⟨by simp, by simp [maxLen], [], rfl, fun h => absurd h (by simp)⟩, Only.fin HB0.out O2.out⟩
  · have HKK := Lib.hid h
    have b0 : (x.kind == 0) = false := by simp [h]
    have b4 : (x.kind == 4) = false := by simp [h]
    have b5 : (x.kind == 5) = false := by simp [h]
    have b6 : (x.kind == 6) = false := by simp [h]
    clear h
    obtain ⟨W0, hW0⟩ : ∃ W, ((w.alloc (.cells #[.int .i64 x.kind, .int .i64 x.cmd.kind, .bool x.cmd.loc, .int .i64 x.cmd.id.index, .int .i64 x.cmd.id.gen, .int .i64 x.cmd.comp, .slice A1 x.cmd.data.length c1, .int .i64 x.policy.room, .int .i64 x.policy.frames, .int .i64 x.n, .slice A2 x.fates.length c2, .slice A3 x.fuses.length c3] 35)).alloc (.cells #[.int .i64 0, .int .i64 0, .bool false, .int .i64 0, .int .i64 0, .int .i64 0, .slice none 0 0, .int .i64 0, .int .i64 0, .int .i64 0, .slice none 0 0, .slice none 0 0] 35)) = W := ⟨_, rfl⟩
    have hz0 : W0.heap.size = w.heap.size + 2 := by rw [← hW0]; simp
    have hb0 : Below w.heap.size w W0 := by rw [← hW0]; exact ((Below.refl _ _).alloc (Nat.le_refl _) _).alloc (by first | (simp; done) | (simp; omega)) _
    have HZ := Lib.hid hz0
    have HB0 := Lib.hid hb0
    have R0_0 := Lib.hid (show W0.heap[w.heap.size]? = some (.cells #[.int .i64 x.kind, .int .i64 x.cmd.kind, .bool x.cmd.loc, .int .i64 x.cmd.id.index, .int .i64 x.cmd.id.gen, .int .i64 x.cmd.comp, .slice A1 x.cmd.data.length c1, .int .i64 x.policy.room, .int .i64 x.policy.frames, .int .i64 x.n, .slice A2 x.fates.length c2, .slice A3 x.fuses.length c3] 35 (0, 0)) by rw [← hW0]; exact alloc_old (alloc_at rfl))
    have R1_0 := Lib.hid (show W0.heap[w.heap.size + 1]? = some (.cells #[.int .i64 0, .int .i64 0, .bool false, .int .i64 0, .int .i64 0, .int .i64 0, .slice none 0 0, .int .i64 0, .int .i64 0, .int .i64 0, .slice none 0 0, .slice none 0 0] 35 (0, 0)) by rw [← hW0]; exact alloc_at (by simp))
    have O0 := Lib.hid (Only.refl (Box w 3) W0)
    clear hz0 hb0
    have q0_0 := rw12 R0_0.out
    have q1_0 := rw12 R1_0.out
    go_enter Tryz.func32, Tryz.ntmps32
    go_wp2_with (with_reducible refine stopLoad 3 7 rfl ?_)
    refine Lib.hid ?_
    try rw [hW0]
    clear hW0
    clear q0_0 q1_0
    try rw [show W0.heap.size = w.heap.size + 1 + 1 by have := HZ.out; omega]
    refine nm_list (fun V1 hnm => ?_)
    have S1 := Lib.hid (show Only (Box w 3) W0 V1 from (by rw [hnm]; exact (Only.refl (Box w 3) W0).alloc _))
    have O1 := Lib.hid (O0.out.trans S1.out)
    have R0_1 := Lib.hid (row_nm hnm (alloc_old (R0_0.out)))
    have R1_1 := Lib.hid (row_nm hnm (alloc_old (R1_0.out)))
    have R2_1 := Lib.hid (show V1.heap[w.heap.size + 1 + 1]? = some (.cells #[.int .i64 x.kind, .int .i64 0, .bool false, .int .i64 0, .int .i64 0, .int .i64 0, .slice none 0 0, .int .i64 0, .int .i64 0, .int .i64 0, .slice none 0 0, .slice none 0 0] 35 (0, 0)) from (by rw [hnm]; exact alloc_at (by have := HZ.out; first | omega | (simp <;> omega))))
    clear hnm
    have q0_0 := rw12 R0_1.out
    have q1_0 := rw12 R1_1.out
    have q2_0 := rw12 R2_1.out
    go_wp2_with fail
    clear q0_0 q1_0 q2_0
    refine nm_post (fun V9 hnm => ?_)
    have S2 := Lib.hid (show Only (Box w 3) V1 V9 from (by rw [hnm]; exact ((((((((((((Only.refl (Box w 3) V1).put ⟨by omega, by omega⟩).put ⟨by omega, by omega⟩).put ⟨by omega, by omega⟩).put ⟨by omega, by omega⟩).put ⟨by omega, by omega⟩).put ⟨by omega, by omega⟩).put ⟨by omega, by omega⟩).put ⟨by omega, by omega⟩).put ⟨by omega, by omega⟩).put ⟨by omega, by omega⟩).put ⟨by omega, by omega⟩).put ⟨by omega, by omega⟩))
    have O2 := Lib.hid (O1.out.trans S2.out)
    have R0_2 := Lib.hid (row_nm hnm (row_other (row_other (row_other (row_other (row_other (row_other (row_other (row_other (row_other (row_other (row_other (row_other (R0_1.out) (by omega)) (by omega)) (by omega)) (by omega)) (by omega)) (by omega)) (by omega)) (by omega)) (by omega)) (by omega)) (by omega)) (by omega)))
    have R1_2 := Lib.hid (show V9.heap[w.heap.size + 1]? = some (.cells #[.int .i64 x.kind, .int .i64 0, .bool false, .int .i64 0, .int .i64 0, .int .i64 0, .slice none 0 0, .int .i64 0, .int .i64 0, .int .i64 0, .slice none 0 0, .slice none 0 0] 35 (0, 0)) from (by rw [hnm]; exact heap_setList (heap_setList (heap_setList (heap_setList (heap_setList (heap_setList (heap_setList (heap_setList (heap_setList (heap_setList (heap_setList (heap_setList (R1_1.out))))))))))))))
    have R2_2 := Lib.hid (row_nm hnm (row_other (row_other (row_other (row_other (row_other (row_other (row_other (row_other (row_other (row_other (row_other (row_other (R2_1.out) (by omega)) (by omega)) (by omega)) (by omega)) (by omega)) (by omega)) (by omega)) (by omega)) (by omega)) (by omega)) (by omega)) (by omega)))
    clear hnm
    have q1_0 := cl12 R1_2.out
    refine ⟨rfl, .agg #[.int .i64 x.kind, .int .i64 0, .bool false, .int .i64 0, .int .i64 0, .int .i64 0, .slice none 0 0, .int .i64 0, .int .i64 0, .int .i64 0, .slice none 0 0, .slice none 0 0], by simp only [results, hfr]; go_simp, ?_⟩
    clear q1_0
    have HP := Lib.hid (show plainA x = ⟨x.kind, zeroC, ⟨0, 0⟩, 0, [], []⟩ by unfold plainA; simp [HKK.out])
    exact ⟨_, rfl, by rw [HP.out]; exact rAct_agg (x := ⟨x.kind, zeroC, ⟨0, 0⟩, 0, [], []⟩) (A_cmd_data := none) (c_cmd_data := 0) (A_fates := none) (c_fates := 0) (A_fuses := none) (c_fuses := 0) HI.out.1 wf0 wf0 wf0 wf0 ⟨by simp [zeroC], by simp [maxLen], [], rfl, fun h => absurd h (by simp [zeroC])⟩ wf0 wf0 wf0 ⟨by simp, by simp [maxLen], [], rfl, fun h => absurd h (by simp)⟩ ⟨by simp, by simp [maxLen], [], rfl, fun h => absurd h (by simp)⟩, Only.fin HB0.out O2.out⟩
  · have HKK := Lib.hid h
    have b0 : (x.kind == 0) = false := by simp [h]
    have b4 : (x.kind == 4) = false := by simp [h]
    have b5 : (x.kind == 5) = false := by simp [h]
    have b6 : (x.kind == 6) = false := by simp [h]
    clear h
    obtain ⟨W0, hW0⟩ : ∃ W, ((w.alloc (.cells #[.int .i64 x.kind, .int .i64 x.cmd.kind, .bool x.cmd.loc, .int .i64 x.cmd.id.index, .int .i64 x.cmd.id.gen, .int .i64 x.cmd.comp, .slice A1 x.cmd.data.length c1, .int .i64 x.policy.room, .int .i64 x.policy.frames, .int .i64 x.n, .slice A2 x.fates.length c2, .slice A3 x.fuses.length c3] 35)).alloc (.cells #[.int .i64 0, .int .i64 0, .bool false, .int .i64 0, .int .i64 0, .int .i64 0, .slice none 0 0, .int .i64 0, .int .i64 0, .int .i64 0, .slice none 0 0, .slice none 0 0] 35)) = W := ⟨_, rfl⟩
    have hz0 : W0.heap.size = w.heap.size + 2 := by rw [← hW0]; simp
    have hb0 : Below w.heap.size w W0 := by rw [← hW0]; exact ((Below.refl _ _).alloc (Nat.le_refl _) _).alloc (by first | (simp; done) | (simp; omega)) _
    have HZ := Lib.hid hz0
    have HB0 := Lib.hid hb0
    have R0_0 := Lib.hid (show W0.heap[w.heap.size]? = some (.cells #[.int .i64 x.kind, .int .i64 x.cmd.kind, .bool x.cmd.loc, .int .i64 x.cmd.id.index, .int .i64 x.cmd.id.gen, .int .i64 x.cmd.comp, .slice A1 x.cmd.data.length c1, .int .i64 x.policy.room, .int .i64 x.policy.frames, .int .i64 x.n, .slice A2 x.fates.length c2, .slice A3 x.fuses.length c3] 35 (0, 0)) by rw [← hW0]; exact alloc_old (alloc_at rfl))
    have R1_0 := Lib.hid (show W0.heap[w.heap.size + 1]? = some (.cells #[.int .i64 0, .int .i64 0, .bool false, .int .i64 0, .int .i64 0, .int .i64 0, .slice none 0 0, .int .i64 0, .int .i64 0, .int .i64 0, .slice none 0 0, .slice none 0 0] 35 (0, 0)) by rw [← hW0]; exact alloc_at (by simp))
    have O0 := Lib.hid (Only.refl (Box w 3) W0)
    clear hz0 hb0
    have q0_0 := rw12 R0_0.out
    have q1_0 := rw12 R1_0.out
    go_enter Tryz.func32, Tryz.ntmps32
    go_wp2_with (with_reducible refine stopLoad 3 7 rfl ?_)
    refine Lib.hid ?_
    try rw [hW0]
    clear hW0
    clear q0_0 q1_0
    try rw [show W0.heap.size = w.heap.size + 1 + 1 by have := HZ.out; omega]
    refine nm_list (fun V1 hnm => ?_)
    have S1 := Lib.hid (show Only (Box w 3) W0 V1 from (by rw [hnm]; exact (Only.refl (Box w 3) W0).alloc _))
    have O1 := Lib.hid (O0.out.trans S1.out)
    have R0_1 := Lib.hid (row_nm hnm (alloc_old (R0_0.out)))
    have R1_1 := Lib.hid (row_nm hnm (alloc_old (R1_0.out)))
    have R2_1 := Lib.hid (show V1.heap[w.heap.size + 1 + 1]? = some (.cells #[.int .i64 x.kind, .int .i64 0, .bool false, .int .i64 0, .int .i64 0, .int .i64 0, .slice none 0 0, .int .i64 0, .int .i64 0, .int .i64 0, .slice none 0 0, .slice none 0 0] 35 (0, 0)) from (by rw [hnm]; exact alloc_at (by have := HZ.out; first | omega | (simp <;> omega))))
    clear hnm
    have q0_0 := rw12 R0_1.out
    have q1_0 := rw12 R1_1.out
    have q2_0 := rw12 R2_1.out
    go_wp2_with fail
    clear q0_0 q1_0 q2_0
    refine nm_post (fun V9 hnm => ?_)
    have S2 := Lib.hid (show Only (Box w 3) V1 V9 from (by rw [hnm]; exact ((((((((((((Only.refl (Box w 3) V1).put ⟨by omega, by omega⟩).put ⟨by omega, by omega⟩).put ⟨by omega, by omega⟩).put ⟨by omega, by omega⟩).put ⟨by omega, by omega⟩).put ⟨by omega, by omega⟩).put ⟨by omega, by omega⟩).put ⟨by omega, by omega⟩).put ⟨by omega, by omega⟩).put ⟨by omega, by omega⟩).put ⟨by omega, by omega⟩).put ⟨by omega, by omega⟩))
    have O2 := Lib.hid (O1.out.trans S2.out)
    have R0_2 := Lib.hid (row_nm hnm (row_other (row_other (row_other (row_other (row_other (row_other (row_other (row_other (row_other (row_other (row_other (row_other (R0_1.out) (by omega)) (by omega)) (by omega)) (by omega)) (by omega)) (by omega)) (by omega)) (by omega)) (by omega)) (by omega)) (by omega)) (by omega)))
    have R1_2 := Lib.hid (show V9.heap[w.heap.size + 1]? = some (.cells #[.int .i64 x.kind, .int .i64 0, .bool false, .int .i64 0, .int .i64 0, .int .i64 0, .slice none 0 0, .int .i64 0, .int .i64 0, .int .i64 0, .slice none 0 0, .slice none 0 0] 35 (0, 0)) from (by rw [hnm]; exact heap_setList (heap_setList (heap_setList (heap_setList (heap_setList (heap_setList (heap_setList (heap_setList (heap_setList (heap_setList (heap_setList (heap_setList (R1_1.out))))))))))))))
    have R2_2 := Lib.hid (row_nm hnm (row_other (row_other (row_other (row_other (row_other (row_other (row_other (row_other (row_other (row_other (row_other (row_other (R2_1.out) (by omega)) (by omega)) (by omega)) (by omega)) (by omega)) (by omega)) (by omega)) (by omega)) (by omega)) (by omega)) (by omega)) (by omega)))
    clear hnm
    have q1_0 := cl12 R1_2.out
    refine ⟨rfl, .agg #[.int .i64 x.kind, .int .i64 0, .bool false, .int .i64 0, .int .i64 0, .int .i64 0, .slice none 0 0, .int .i64 0, .int .i64 0, .int .i64 0, .slice none 0 0, .slice none 0 0], by simp only [results, hfr]; go_simp, ?_⟩
    clear q1_0
    have HP := Lib.hid (show plainA x = ⟨x.kind, zeroC, ⟨0, 0⟩, 0, [], []⟩ by unfold plainA; simp [HKK.out])
    exact ⟨_, rfl, by rw [HP.out]; exact rAct_agg (x := ⟨x.kind, zeroC, ⟨0, 0⟩, 0, [], []⟩) (A_cmd_data := none) (c_cmd_data := 0) (A_fates := none) (c_fates := 0) (A_fuses := none) (c_fuses := 0) HI.out.1 wf0 wf0 wf0 wf0 ⟨by simp [zeroC], by simp [maxLen], [], rfl, fun h => absurd h (by simp [zeroC])⟩ wf0 wf0 wf0 ⟨by simp, by simp [maxLen], [], rfl, fun h => absurd h (by simp)⟩ ⟨by simp, by simp [maxLen], [], rfl, fun h => absurd h (by simp)⟩, Only.fin HB0.out O2.out⟩
  · have HKK := Lib.hid h
    have b0 : (x.kind == 0) = false := by simp [h]
    have b4 : (x.kind == 4) = true := by simp [h]
    have b5 : (x.kind == 5) = false := by simp [h]
    have b6 : (x.kind == 6) = false := by simp [h]
    clear h
    obtain ⟨W0, hW0⟩ : ∃ W, ((w.alloc (.cells #[.int .i64 x.kind, .int .i64 x.cmd.kind, .bool x.cmd.loc, .int .i64 x.cmd.id.index, .int .i64 x.cmd.id.gen, .int .i64 x.cmd.comp, .slice A1 x.cmd.data.length c1, .int .i64 x.policy.room, .int .i64 x.policy.frames, .int .i64 x.n, .slice A2 x.fates.length c2, .slice A3 x.fuses.length c3] 35)).alloc (.cells #[.int .i64 0, .int .i64 0, .bool false, .int .i64 0, .int .i64 0, .int .i64 0, .slice none 0 0, .int .i64 0, .int .i64 0, .int .i64 0, .slice none 0 0, .slice none 0 0] 35)) = W := ⟨_, rfl⟩
    have hz0 : W0.heap.size = w.heap.size + 2 := by rw [← hW0]; simp
    have hb0 : Below w.heap.size w W0 := by rw [← hW0]; exact ((Below.refl _ _).alloc (Nat.le_refl _) _).alloc (by first | (simp; done) | (simp; omega)) _
    have HZ := Lib.hid hz0
    have HB0 := Lib.hid hb0
    have R0_0 := Lib.hid (show W0.heap[w.heap.size]? = some (.cells #[.int .i64 x.kind, .int .i64 x.cmd.kind, .bool x.cmd.loc, .int .i64 x.cmd.id.index, .int .i64 x.cmd.id.gen, .int .i64 x.cmd.comp, .slice A1 x.cmd.data.length c1, .int .i64 x.policy.room, .int .i64 x.policy.frames, .int .i64 x.n, .slice A2 x.fates.length c2, .slice A3 x.fuses.length c3] 35 (0, 0)) by rw [← hW0]; exact alloc_old (alloc_at rfl))
    have R1_0 := Lib.hid (show W0.heap[w.heap.size + 1]? = some (.cells #[.int .i64 0, .int .i64 0, .bool false, .int .i64 0, .int .i64 0, .int .i64 0, .slice none 0 0, .int .i64 0, .int .i64 0, .int .i64 0, .slice none 0 0, .slice none 0 0] 35 (0, 0)) by rw [← hW0]; exact alloc_at (by simp))
    have O0 := Lib.hid (Only.refl (Box w 3) W0)
    clear hz0 hb0
    have q0_0 := rw12 R0_0.out
    have q1_0 := rw12 R1_0.out
    go_enter Tryz.func32, Tryz.ntmps32
    go_wp2_with (with_reducible refine stopLoad 3 7 rfl ?_)
    refine Lib.hid ?_
    try rw [hW0]
    clear hW0
    clear q0_0 q1_0
    try rw [show W0.heap.size = w.heap.size + 1 + 1 by have := HZ.out; omega]
    refine nm_list (fun V1 hnm => ?_)
    have S1 := Lib.hid (show Only (Box w 3) W0 V1 from (by rw [hnm]; exact (Only.refl (Box w 3) W0).alloc _))
    have O1 := Lib.hid (O0.out.trans S1.out)
    have R0_1 := Lib.hid (row_nm hnm (alloc_old (R0_0.out)))
    have R1_1 := Lib.hid (row_nm hnm (alloc_old (R1_0.out)))
    have R2_1 := Lib.hid (show V1.heap[w.heap.size + 1 + 1]? = some (.cells #[.int .i64 x.kind, .int .i64 0, .bool false, .int .i64 0, .int .i64 0, .int .i64 0, .slice none 0 0, .int .i64 0, .int .i64 0, .int .i64 0, .slice none 0 0, .slice none 0 0] 35 (0, 0)) from (by rw [hnm]; exact alloc_at (by have := HZ.out; first | omega | (simp <;> omega))))
    clear hnm
    have q0_0 := rw12 R0_1.out
    have q1_0 := rw12 R1_1.out
    have q2_0 := rw12 R2_1.out
    go_wp2_with (with_reducible refine stopLoad 35 3 rfl ?_)
    refine Lib.hid ?_
    clear q0_0 q1_0 q2_0
    refine nm_list (fun V3 hnm => ?_)
    have S2 := Lib.hid (show Only (Box w 3) V1 V3 from (by rw [hnm]; exact ((Only.refl (Box w 3) V1).put ⟨by omega, by omega⟩).put ⟨by omega, by omega⟩))
    have O2 := Lib.hid (O1.out.trans S2.out)
    have R0_2 := Lib.hid (row_nm hnm (row_other (row_other (R0_1.out) (by omega)) (by omega)))
    have R1_2 := Lib.hid (row_nm hnm (row_other (row_other (R1_1.out) (by omega)) (by omega)))
    have R2_2 := Lib.hid (show V3.heap[w.heap.size + 1 + 1]? = some (.cells #[.int .i64 x.kind, .int .i64 0, .bool false, .int .i64 0, .int .i64 0, .int .i64 0, .slice none 0 0, .int .i64 x.policy.room, .int .i64 x.policy.frames, .int .i64 0, .slice none 0 0, .slice none 0 0] 35 (0, 0)) from (by rw [hnm]; exact heap_setList (heap_setList (R2_1.out))))
    clear hnm
    have q0_0 := rw12 R0_2.out
    have q1_0 := rw12 R1_2.out
    have q2_0 := rw12 R2_2.out
    go_wp2_with fail
    clear q0_0 q1_0 q2_0
    refine nm_post (fun V9 hnm => ?_)
    have S3 := Lib.hid (show Only (Box w 3) V3 V9 from (by rw [hnm]; exact ((((((((((((Only.refl (Box w 3) V3).put ⟨by omega, by omega⟩).put ⟨by omega, by omega⟩).put ⟨by omega, by omega⟩).put ⟨by omega, by omega⟩).put ⟨by omega, by omega⟩).put ⟨by omega, by omega⟩).put ⟨by omega, by omega⟩).put ⟨by omega, by omega⟩).put ⟨by omega, by omega⟩).put ⟨by omega, by omega⟩).put ⟨by omega, by omega⟩).put ⟨by omega, by omega⟩))
    have O3 := Lib.hid (O2.out.trans S3.out)
    have R0_3 := Lib.hid (row_nm hnm (row_other (row_other (row_other (row_other (row_other (row_other (row_other (row_other (row_other (row_other (row_other (row_other (R0_2.out) (by omega)) (by omega)) (by omega)) (by omega)) (by omega)) (by omega)) (by omega)) (by omega)) (by omega)) (by omega)) (by omega)) (by omega)))
    have R1_3 := Lib.hid (show V9.heap[w.heap.size + 1]? = some (.cells #[.int .i64 x.kind, .int .i64 0, .bool false, .int .i64 0, .int .i64 0, .int .i64 0, .slice none 0 0, .int .i64 x.policy.room, .int .i64 x.policy.frames, .int .i64 0, .slice none 0 0, .slice none 0 0] 35 (0, 0)) from (by rw [hnm]; exact heap_setList (heap_setList (heap_setList (heap_setList (heap_setList (heap_setList (heap_setList (heap_setList (heap_setList (heap_setList (heap_setList (heap_setList (R1_2.out))))))))))))))
    have R2_3 := Lib.hid (row_nm hnm (row_other (row_other (row_other (row_other (row_other (row_other (row_other (row_other (row_other (row_other (row_other (row_other (R2_2.out) (by omega)) (by omega)) (by omega)) (by omega)) (by omega)) (by omega)) (by omega)) (by omega)) (by omega)) (by omega)) (by omega)) (by omega)))
    clear hnm
    have q1_0 := cl12 R1_3.out
    refine ⟨rfl, .agg #[.int .i64 x.kind, .int .i64 0, .bool false, .int .i64 0, .int .i64 0, .int .i64 0, .slice none 0 0, .int .i64 x.policy.room, .int .i64 x.policy.frames, .int .i64 0, .slice none 0 0, .slice none 0 0], by simp only [results, hfr]; go_simp, ?_⟩
    clear q1_0
    have HP := Lib.hid (show plainA x = ⟨x.kind, zeroC, x.policy, 0, [], []⟩ by unfold plainA; simp [HKK.out])
    exact ⟨_, rfl, by rw [HP.out]; exact rAct_agg (x := ⟨x.kind, zeroC, x.policy, 0, [], []⟩) (A_cmd_data := none) (c_cmd_data := 0) (A_fates := none) (c_fates := 0) (A_fuses := none) (c_fuses := 0) HI.out.1 wf0 wf0 wf0 wf0 ⟨by simp [zeroC], by simp [maxLen], [], rfl, fun h => absurd h (by simp [zeroC])⟩ HI.out.2.1 HI.out.2.2.1 wf0 ⟨by simp, by simp [maxLen], [], rfl, fun h => absurd h (by simp)⟩ ⟨by simp, by simp [maxLen], [], rfl, fun h => absurd h (by simp)⟩, Only.fin HB0.out O3.out⟩
  · have HKK := Lib.hid h
    have b0 : (x.kind == 0) = false := by simp [h]
    have b4 : (x.kind == 4) = false := by simp [h]
    have b5 : (x.kind == 5) = true := by simp [h]
    have b6 : (x.kind == 6) = false := by simp [h]
    clear h
    obtain ⟨W0, hW0⟩ : ∃ W, ((w.alloc (.cells #[.int .i64 x.kind, .int .i64 x.cmd.kind, .bool x.cmd.loc, .int .i64 x.cmd.id.index, .int .i64 x.cmd.id.gen, .int .i64 x.cmd.comp, .slice A1 x.cmd.data.length c1, .int .i64 x.policy.room, .int .i64 x.policy.frames, .int .i64 x.n, .slice A2 x.fates.length c2, .slice A3 x.fuses.length c3] 35)).alloc (.cells #[.int .i64 0, .int .i64 0, .bool false, .int .i64 0, .int .i64 0, .int .i64 0, .slice none 0 0, .int .i64 0, .int .i64 0, .int .i64 0, .slice none 0 0, .slice none 0 0] 35)) = W := ⟨_, rfl⟩
    have hz0 : W0.heap.size = w.heap.size + 2 := by rw [← hW0]; simp
    have hb0 : Below w.heap.size w W0 := by rw [← hW0]; exact ((Below.refl _ _).alloc (Nat.le_refl _) _).alloc (by first | (simp; done) | (simp; omega)) _
    have HZ := Lib.hid hz0
    have HB0 := Lib.hid hb0
    have R0_0 := Lib.hid (show W0.heap[w.heap.size]? = some (.cells #[.int .i64 x.kind, .int .i64 x.cmd.kind, .bool x.cmd.loc, .int .i64 x.cmd.id.index, .int .i64 x.cmd.id.gen, .int .i64 x.cmd.comp, .slice A1 x.cmd.data.length c1, .int .i64 x.policy.room, .int .i64 x.policy.frames, .int .i64 x.n, .slice A2 x.fates.length c2, .slice A3 x.fuses.length c3] 35 (0, 0)) by rw [← hW0]; exact alloc_old (alloc_at rfl))
    have R1_0 := Lib.hid (show W0.heap[w.heap.size + 1]? = some (.cells #[.int .i64 0, .int .i64 0, .bool false, .int .i64 0, .int .i64 0, .int .i64 0, .slice none 0 0, .int .i64 0, .int .i64 0, .int .i64 0, .slice none 0 0, .slice none 0 0] 35 (0, 0)) by rw [← hW0]; exact alloc_at (by simp))
    have O0 := Lib.hid (Only.refl (Box w 3) W0)
    clear hz0 hb0
    have q0_0 := rw12 R0_0.out
    have q1_0 := rw12 R1_0.out
    go_enter Tryz.func32, Tryz.ntmps32
    go_wp2_with (with_reducible refine stopLoad 3 7 rfl ?_)
    refine Lib.hid ?_
    try rw [hW0]
    clear hW0
    clear q0_0 q1_0
    try rw [show W0.heap.size = w.heap.size + 1 + 1 by have := HZ.out; omega]
    refine nm_list (fun V1 hnm => ?_)
    have S1 := Lib.hid (show Only (Box w 3) W0 V1 from (by rw [hnm]; exact (Only.refl (Box w 3) W0).alloc _))
    have O1 := Lib.hid (O0.out.trans S1.out)
    have R0_1 := Lib.hid (row_nm hnm (alloc_old (R0_0.out)))
    have R1_1 := Lib.hid (row_nm hnm (alloc_old (R1_0.out)))
    have R2_1 := Lib.hid (show V1.heap[w.heap.size + 1 + 1]? = some (.cells #[.int .i64 x.kind, .int .i64 0, .bool false, .int .i64 0, .int .i64 0, .int .i64 0, .slice none 0 0, .int .i64 0, .int .i64 0, .int .i64 0, .slice none 0 0, .slice none 0 0] 35 (0, 0)) from (by rw [hnm]; exact alloc_at (by have := HZ.out; first | omega | (simp <;> omega))))
    clear hnm
    have q0_0 := rw12 R0_1.out
    have q1_0 := rw12 R1_1.out
    have q2_0 := rw12 R2_1.out
    go_wp2_with (with_reducible refine stopLoad 35 3 rfl ?_)
    refine Lib.hid ?_
    clear q0_0 q1_0 q2_0
    refine nm_list (fun V3 hnm => ?_)
    have S2 := Lib.hid (show Only (Box w 3) V1 V3 from (by rw [hnm]; exact (Only.refl (Box w 3) V1).put ⟨by omega, by omega⟩))
    have O2 := Lib.hid (O1.out.trans S2.out)
    have R0_2 := Lib.hid (row_nm hnm (row_other (R0_1.out) (by omega)))
    have R1_2 := Lib.hid (row_nm hnm (row_other (R1_1.out) (by omega)))
    have R2_2 := Lib.hid (show V3.heap[w.heap.size + 1 + 1]? = some (.cells #[.int .i64 x.kind, .int .i64 0, .bool false, .int .i64 0, .int .i64 0, .int .i64 0, .slice none 0 0, .int .i64 0, .int .i64 0, .int .i64 x.n, .slice none 0 0, .slice none 0 0] 35 (0, 0)) from (by rw [hnm]; exact heap_setList (R2_1.out)))
    clear hnm
    have q0_0 := rw12 R0_2.out
    have q1_0 := rw12 R1_2.out
    have q2_0 := rw12 R2_2.out
    go_wp2_with fail
    clear q0_0 q1_0 q2_0
    refine nm_post (fun V9 hnm => ?_)
    have S3 := Lib.hid (show Only (Box w 3) V3 V9 from (by rw [hnm]; exact ((((((((((((Only.refl (Box w 3) V3).put ⟨by omega, by omega⟩).put ⟨by omega, by omega⟩).put ⟨by omega, by omega⟩).put ⟨by omega, by omega⟩).put ⟨by omega, by omega⟩).put ⟨by omega, by omega⟩).put ⟨by omega, by omega⟩).put ⟨by omega, by omega⟩).put ⟨by omega, by omega⟩).put ⟨by omega, by omega⟩).put ⟨by omega, by omega⟩).put ⟨by omega, by omega⟩))
    have O3 := Lib.hid (O2.out.trans S3.out)
    have R0_3 := Lib.hid (row_nm hnm (row_other (row_other (row_other (row_other (row_other (row_other (row_other (row_other (row_other (row_other (row_other (row_other (R0_2.out) (by omega)) (by omega)) (by omega)) (by omega)) (by omega)) (by omega)) (by omega)) (by omega)) (by omega)) (by omega)) (by omega)) (by omega)))
    have R1_3 := Lib.hid (show V9.heap[w.heap.size + 1]? = some (.cells #[.int .i64 x.kind, .int .i64 0, .bool false, .int .i64 0, .int .i64 0, .int .i64 0, .slice none 0 0, .int .i64 0, .int .i64 0, .int .i64 x.n, .slice none 0 0, .slice none 0 0] 35 (0, 0)) from (by rw [hnm]; exact heap_setList (heap_setList (heap_setList (heap_setList (heap_setList (heap_setList (heap_setList (heap_setList (heap_setList (heap_setList (heap_setList (heap_setList (R1_2.out))))))))))))))
    have R2_3 := Lib.hid (row_nm hnm (row_other (row_other (row_other (row_other (row_other (row_other (row_other (row_other (row_other (row_other (row_other (row_other (R2_2.out) (by omega)) (by omega)) (by omega)) (by omega)) (by omega)) (by omega)) (by omega)) (by omega)) (by omega)) (by omega)) (by omega)) (by omega)))
    clear hnm
    have q1_0 := cl12 R1_3.out
    refine ⟨rfl, .agg #[.int .i64 x.kind, .int .i64 0, .bool false, .int .i64 0, .int .i64 0, .int .i64 0, .slice none 0 0, .int .i64 0, .int .i64 0, .int .i64 x.n, .slice none 0 0, .slice none 0 0], by simp only [results, hfr]; go_simp, ?_⟩
    clear q1_0
    have HP := Lib.hid (show plainA x = ⟨x.kind, zeroC, ⟨0, 0⟩, x.n, [], []⟩ by unfold plainA; simp [HKK.out])
    exact ⟨_, rfl, by rw [HP.out]; exact rAct_agg (x := ⟨x.kind, zeroC, ⟨0, 0⟩, x.n, [], []⟩) (A_cmd_data := none) (c_cmd_data := 0) (A_fates := none) (c_fates := 0) (A_fuses := none) (c_fuses := 0) HI.out.1 wf0 wf0 wf0 wf0 ⟨by simp [zeroC], by simp [maxLen], [], rfl, fun h => absurd h (by simp [zeroC])⟩ wf0 wf0 HI.out.2.2.2 ⟨by simp, by simp [maxLen], [], rfl, fun h => absurd h (by simp)⟩ ⟨by simp, by simp [maxLen], [], rfl, fun h => absurd h (by simp)⟩, Only.fin HB0.out O3.out⟩
  · have HKK := Lib.hid h
    have b0 : (x.kind == 0) = false := by simp [h]
    have b4 : (x.kind == 4) = false := by simp [h]
    have b5 : (x.kind == 5) = false := by simp [h]
    have b6 : (x.kind == 6) = true := by simp [h]
    clear h
    obtain ⟨W0, hW0⟩ : ∃ W, ((w.alloc (.cells #[.int .i64 x.kind, .int .i64 x.cmd.kind, .bool x.cmd.loc, .int .i64 x.cmd.id.index, .int .i64 x.cmd.id.gen, .int .i64 x.cmd.comp, .slice A1 x.cmd.data.length c1, .int .i64 x.policy.room, .int .i64 x.policy.frames, .int .i64 x.n, .slice A2 x.fates.length c2, .slice A3 x.fuses.length c3] 35)).alloc (.cells #[.int .i64 0, .int .i64 0, .bool false, .int .i64 0, .int .i64 0, .int .i64 0, .slice none 0 0, .int .i64 0, .int .i64 0, .int .i64 0, .slice none 0 0, .slice none 0 0] 35)) = W := ⟨_, rfl⟩
    have hz0 : W0.heap.size = w.heap.size + 2 := by rw [← hW0]; simp
    have hb0 : Below w.heap.size w W0 := by rw [← hW0]; exact ((Below.refl _ _).alloc (Nat.le_refl _) _).alloc (by first | (simp; done) | (simp; omega)) _
    have HZ := Lib.hid hz0
    have HB0 := Lib.hid hb0
    have R0_0 := Lib.hid (show W0.heap[w.heap.size]? = some (.cells #[.int .i64 x.kind, .int .i64 x.cmd.kind, .bool x.cmd.loc, .int .i64 x.cmd.id.index, .int .i64 x.cmd.id.gen, .int .i64 x.cmd.comp, .slice A1 x.cmd.data.length c1, .int .i64 x.policy.room, .int .i64 x.policy.frames, .int .i64 x.n, .slice A2 x.fates.length c2, .slice A3 x.fuses.length c3] 35 (0, 0)) by rw [← hW0]; exact alloc_old (alloc_at rfl))
    have R1_0 := Lib.hid (show W0.heap[w.heap.size + 1]? = some (.cells #[.int .i64 0, .int .i64 0, .bool false, .int .i64 0, .int .i64 0, .int .i64 0, .slice none 0 0, .int .i64 0, .int .i64 0, .int .i64 0, .slice none 0 0, .slice none 0 0] 35 (0, 0)) by rw [← hW0]; exact alloc_at (by simp))
    have O0 := Lib.hid (Only.refl (Box w 3) W0)
    have Vf_0 := Lib.hid (show rFate.list.val (In Q w 3) W0 (.slice A2 x.fates.length c2) x.fates from val_in HFA.out hb0)
    have Vu_0 := Lib.hid (show (Rep.int .i64).list.val (In Q w 3) W0 (.slice A3 x.fuses.length c3) x.fuses from val_in HFU.out hb0)
    clear hz0 hb0
    have q0_0 := rw12 R0_0.out
    have q1_0 := rw12 R1_0.out
    go_enter Tryz.func32, Tryz.ntmps32
    go_wp2_with (with_reducible refine stopLoad 3 7 rfl ?_)
    refine Lib.hid ?_
    try rw [hW0]
    clear hW0
    clear q0_0 q1_0
    try rw [show W0.heap.size = w.heap.size + 1 + 1 by have := HZ.out; omega]
    refine nm_list (fun V1 hnm => ?_)
    have S1 := Lib.hid (show Only (Box w 3) W0 V1 from (by rw [hnm]; exact (Only.refl (Box w 3) W0).alloc _))
    have O1 := Lib.hid (O0.out.trans S1.out)
    have R0_1 := Lib.hid (row_nm hnm (alloc_old (R0_0.out)))
    have R1_1 := Lib.hid (row_nm hnm (alloc_old (R1_0.out)))
    have R2_1 := Lib.hid (show V1.heap[w.heap.size + 1 + 1]? = some (.cells #[.int .i64 x.kind, .int .i64 0, .bool false, .int .i64 0, .int .i64 0, .int .i64 0, .slice none 0 0, .int .i64 0, .int .i64 0, .int .i64 0, .slice none 0 0, .slice none 0 0] 35 (0, 0)) from (by rw [hnm]; exact alloc_at (by have := HZ.out; first | omega | (simp <;> omega))))
    have Vf_1 := Lib.hid (val_only Vf_0.out S1.out)
    have Vu_1 := Lib.hid (val_only Vu_0.out S1.out)
    clear hnm
    have q0_0 := rw12 R0_1.out
    have q1_0 := rw12 R1_1.out
    have q2_0 := rw12 R2_1.out
    go_wp2_with fail
    clear q0_0 q1_0 q2_0
    refine wp_region_held_drew (S := fun W => Only (fun b => b = w.heap.size + 1 + 1) V1 W) (by kernel_rfl) ((Only.refl _ _).drw) (fun s0 => ?_)
    obtain ⟨u0, hu0⟩ : ∃ V, V = V1.drew := ⟨_, rfl⟩
    rw [← hu0] at s0 ⊢
    have t0 : Only (fun b => b = w.heap.size + 1 + 1) V1 u0 := s0
    have D0 := Lib.hid (show Only (Box w 3) V1 u0 by rw [hu0]; exact (Only.refl _ _).drw)
    have RY0 := Lib.hid (show u0.heap[w.heap.size + 1 + 1]? = some (.cells #[.int .i64 x.kind, .int .i64 0, .bool false, .int .i64 0, .int .i64 0, .int .i64 0, .slice none 0 0, .int .i64 0, .int .i64 0, .int .i64 0, .slice none 0 0, .slice none 0 0] 35 (0, 0)) by rw [hu0]; exact R2_1.out)
    clear hu0 s0
    refine tkHV (i := 0) (v := .pointer (some ⟨w.heap.size, 10, none⟩)) rfl t0 ?_
    go_simp
    refine tkH (i := 1) (v := .slice A2 x.fates.length c2) rfl (Or.inl ⟨by rfl, fun w' h => by have e := row_only (h : Only (fun b => b = w.heap.size + 1 + 1) V1 w') R0_1.out (by omega); have e10 := cell_row e 10; have e11 := cell_row e 11; go_simp⟩) t0 ?_
    go_simp
    refine tkHV (i := 3) (v := .pointer (some ⟨w.heap.size, 11, none⟩)) rfl t0 ?_
    go_simp
    refine tkH (i := 4) (v := .slice A3 x.fuses.length c3) rfl (Or.inl ⟨by rfl, fun w' h => by have e := row_only (h : Only (fun b => b = w.heap.size + 1 + 1) V1 w') R0_1.out (by omega); have e10 := cell_row e 10; have e11 := cell_row e 11; go_simp⟩) t0 ?_
    go_simp
    refine wpAnyH_all (rs := [2]) (by kernel_rfl) (by simp) ?_
    intro i hi
    obtain rfl : i = 2 := by simpa using hi
    clear hi
    refine wpOp_step rfl (fun K hK => ?_)
    go_simp
    refine (cloneFates_calls (val_only Vf_1.out D0.out) (by have := HS.out.f; omega)).mono ?_
    rintro e u1 ⟨v1, rfl, hv, hb⟩
    have t1 : Only (fun b => b = w.heap.size + 1 + 1) V1 u1 := t0.trans (Only.of_below hb)
    have D1 := Lib.hid (D0.out.trans (Only.of_below hb))
    have RY1 := Lib.hid (row_call hb RY0.out)
    have G1_1 := Lib.hid (val_fresh (Q := fun _ => False) (w := w) (n := 3) hv (by have h9 := (Array.getElem?_eq_some_iff.1 RY0.out).1; omega))
    obtain ⟨B1, d1, rfl, _⟩ := Rep.val_sl hv
    refine hK _ _ ⟨t1, ?_⟩
    clear hv hb
    clear hK K
    refine tkHV (i := 6) (v := .pointer (some ⟨w.heap.size + 1 + 1, 10, none⟩)) rfl t1 ?_
    go_simp
    refine wpAnyH_all (rs := [5]) (by kernel_rfl) (by simp) ?_
    intro i hi
    obtain rfl : i = 5 := by simpa using hi
    clear hi
    refine wpOp_step rfl (fun K hK => ?_)
    go_simp
    refine (cloneNums_calls (val_only Vu_1.out D1.out) (by have := HS.out.u; omega)).mono ?_
    rintro e u2 ⟨v2, rfl, hv, hb⟩
    have t2 : Only (fun b => b = w.heap.size + 1 + 1) V1 u2 := t1.trans (Only.of_below hb)
    have D2 := Lib.hid (D1.out.trans (Only.of_below hb))
    have RY2 := Lib.hid (row_call hb RY1.out)
    have G2_2 := Lib.hid (val_fresh (Q := fun _ => False) (w := w) (n := 3) hv (by have h9 := (Array.getElem?_eq_some_iff.1 RY1.out).1; omega))
    have G1_1' := Lib.hid (val_only G1_1.out (Only.of_below hb : Only (Box w 3) _ u2))
    obtain ⟨B2, d2, rfl, _⟩ := Rep.val_sl hv
    refine hK _ _ ⟨t2, ?_⟩
    clear hv hb
    clear hK K
    refine wpAnyH_all (rs := [7]) (by kernel_rfl) (by simp) ?_
    intro i hi
    obtain rfl : i = 7 := by simpa using hi
    clear hi
    refine wpOp_step rfl (fun K hK => ?_)
    go_simp
    have eb : World.cell? _ ⟨w.heap.size + 1 + 1, 10, none⟩ = some (.slice none 0 0) := cell_row RY2.out 10
    have ez := frozen_row RY2.out 10
    go_simp
    refine hK _ _ ⟨t2.put rfl, ?_⟩
    clear hK K eb ez
    refine nm_any (fun u3 hnm => ?_)
    have t3 : Only (fun b => b = w.heap.size + 1 + 1) V1 u3 := by rw [hnm]; exact t2.put rfl
    have RY3 := Lib.hid (show u3.heap[w.heap.size + 1 + 1]? = some (.cells #[.int .i64 x.kind, .int .i64 0, .bool false, .int .i64 0, .int .i64 0, .int .i64 0, .slice none 0 0, .int .i64 0, .int .i64 0, .int .i64 0, .slice B1 x.fates.length d1, .slice none 0 0] 35 (0, 0)) by rw [hnm]; exact heap_setList RY2.out)
    have DD3 := Lib.hid (show Only (Box w 3) u2 u3 by rw [hnm]; exact (Only.refl _ _).put ⟨by omega, by omega⟩)
    have D3 := Lib.hid (D2.out.trans DD3.out)
    have G1_1'' := Lib.hid (val_only G1_1'.out DD3.out)
    have G2_2' := Lib.hid (val_only G2_2.out DD3.out)
    clear hnm
    refine tkHV (i := 8) (v := .pointer (some ⟨w.heap.size + 1 + 1, 11, none⟩)) rfl t3 ?_
    go_simp
    refine wpAnyH_all (rs := [9]) (by kernel_rfl) (by simp) ?_
    intro i hi
    obtain rfl : i = 9 := by simpa using hi
    clear hi
    refine wpOp_step rfl (fun K hK => ?_)
    go_simp
    have eb : World.cell? _ ⟨w.heap.size + 1 + 1, 11, none⟩ = some (.slice none 0 0) := cell_row RY3.out 11
    have ez := frozen_row RY3.out 11
    go_simp
    refine hK _ _ ⟨t3.put rfl, ?_⟩
    clear hK K eb ez
    refine nm_any (fun u4 hnm => ?_)
    have t4 : Only (fun b => b = w.heap.size + 1 + 1) V1 u4 := by rw [hnm]; exact t3.put rfl
    have RY4 := Lib.hid (show u4.heap[w.heap.size + 1 + 1]? = some (.cells #[.int .i64 x.kind, .int .i64 0, .bool false, .int .i64 0, .int .i64 0, .int .i64 0, .slice none 0 0, .int .i64 0, .int .i64 0, .int .i64 0, .slice B1 x.fates.length d1, .slice B2 x.fuses.length d2] 35 (0, 0)) by rw [hnm]; exact heap_setList RY3.out)
    have DD4 := Lib.hid (show Only (Box w 3) u3 u4 by rw [hnm]; exact (Only.refl _ _).put ⟨by omega, by omega⟩)
    have D4 := Lib.hid (D3.out.trans DD4.out)
    have G1_1''' := Lib.hid (val_only G1_1''.out DD4.out)
    have G2_2'' := Lib.hid (val_only G2_2'.out DD4.out)
    clear hnm
    refine wpAnyH_done (by kernel_rfl) ?_ _
    have S2 := Lib.hid (show Only (Box w 3) V1 u4 from D4.out)
    have O2 := Lib.hid (O1.out.trans S2.out)
    have R0_2 := Lib.hid (row_only t4 R0_1.out (by omega))
    have R1_2 := Lib.hid (row_only t4 R1_1.out (by omega))
    have R2_2 := Lib.hid (show u4.heap[w.heap.size + 1 + 1]? = some (.cells #[.int .i64 x.kind, .int .i64 0, .bool false, .int .i64 0, .int .i64 0, .int .i64 0, .slice none 0 0, .int .i64 0, .int .i64 0, .int .i64 0, .slice B1 x.fates.length d1, .slice B2 x.fuses.length d2] 35 (0, 0)) from RY4.out)
    have Vf_2 := Lib.hid (val_only Vf_1.out S2.out)
    have Vu_2 := Lib.hid (val_only Vu_1.out S2.out)
    have q0_0 := rw12 R0_2.out
    have q1_0 := rw12 R1_2.out
    have q2_0 := rw12 R2_2.out
    go_wp2_with fail
    clear q0_0 q1_0 q2_0
    refine nm_post (fun V9 hnm => ?_)
    have S3 := Lib.hid (show Only (Box w 3) u4 V9 from (by rw [hnm]; exact ((((((((((((Only.refl (Box w 3) u4).put ⟨by omega, by omega⟩).put ⟨by omega, by omega⟩).put ⟨by omega, by omega⟩).put ⟨by omega, by omega⟩).put ⟨by omega, by omega⟩).put ⟨by omega, by omega⟩).put ⟨by omega, by omega⟩).put ⟨by omega, by omega⟩).put ⟨by omega, by omega⟩).put ⟨by omega, by omega⟩).put ⟨by omega, by omega⟩).put ⟨by omega, by omega⟩))
    have O3 := Lib.hid (O2.out.trans S3.out)
    have R0_3 := Lib.hid (row_nm hnm (row_other (row_other (row_other (row_other (row_other (row_other (row_other (row_other (row_other (row_other (row_other (row_other (R0_2.out) (by omega)) (by omega)) (by omega)) (by omega)) (by omega)) (by omega)) (by omega)) (by omega)) (by omega)) (by omega)) (by omega)) (by omega)))
    have R1_3 := Lib.hid (show V9.heap[w.heap.size + 1]? = some (.cells #[.int .i64 x.kind, .int .i64 0, .bool false, .int .i64 0, .int .i64 0, .int .i64 0, .slice none 0 0, .int .i64 0, .int .i64 0, .int .i64 0, .slice B1 x.fates.length d1, .slice B2 x.fuses.length d2] 35 (0, 0)) from (by rw [hnm]; exact heap_setList (heap_setList (heap_setList (heap_setList (heap_setList (heap_setList (heap_setList (heap_setList (heap_setList (heap_setList (heap_setList (heap_setList (R1_2.out))))))))))))))
    have R2_3 := Lib.hid (row_nm hnm (row_other (row_other (row_other (row_other (row_other (row_other (row_other (row_other (row_other (row_other (row_other (row_other (R2_2.out) (by omega)) (by omega)) (by omega)) (by omega)) (by omega)) (by omega)) (by omega)) (by omega)) (by omega)) (by omega)) (by omega)) (by omega)))
    have Vf_3 := Lib.hid (val_only Vf_2.out S3.out)
    have Vu_3 := Lib.hid (val_only Vu_2.out S3.out)
    have Vg_3 := Lib.hid (val_only G1_1'''.out S3.out)
    have Vh_3 := Lib.hid (val_only G2_2''.out S3.out)
    clear hnm
    have q1_0 := cl12 R1_3.out
    refine ⟨rfl, .agg #[.int .i64 x.kind, .int .i64 0, .bool false, .int .i64 0, .int .i64 0, .int .i64 0, .slice none 0 0, .int .i64 0, .int .i64 0, .int .i64 0, .slice B1 x.fates.length d1, .slice B2 x.fuses.length d2], by simp only [results, hfr]; go_simp, ?_⟩
    clear q1_0
    have HP := Lib.hid (show plainA x = ⟨x.kind, zeroC, ⟨0, 0⟩, 0, x.fates, x.fuses⟩ by unfold plainA; simp [HKK.out])
    exact ⟨_, rfl, by rw [HP.out]; exact rAct_agg (x := ⟨x.kind, zeroC, ⟨0, 0⟩, 0, x.fates, x.fuses⟩) (A_cmd_data := none) (c_cmd_data := 0) HI.out.1 wf0 wf0 wf0 wf0 ⟨by simp [zeroC], by simp [maxLen], [], rfl, fun h => absurd h (by simp [zeroC])⟩ wf0 wf0 wf0 (sl_of (Rep.val_mono (fun b hb _ => by rcases hb with h | h; exact absurd h.1 id; omega) Vg_3.out)) (sl_of (Rep.val_mono (fun b hb _ => by rcases hb with h | h; exact absurd h.1 id; omega) Vh_3.out)), Only.fin HB0.out O3.out⟩
end Go.Proofs.YtejibngkeaamkaaGreatDoor
namespace Go.Proofs.YtejibngkeaamkaaGreatDoor
open Go.RowKit

theorem splitC_len (c : UInt8) : ∀ (n : Nat) (s : List UInt8), s.length < n → (splitC c s).length = Lib.count s [c] + 1 ∧ (splitC c s).length ≤ s.length + 1 ∧ ∀ x ∈ splitC c s, x.length ≤ s.length := by
  intro n
  induction n with
  | zero => intro s h; omega
  | succ n ih =>
    intro s hs
    rcases split_byte c s with ⟨a, b, h1, rfl⟩ | h1
    · have ih' := ih b (by simp at hs; omega)
      have e : splitC c (a ++ c :: b) = a :: splitC c b := by rw [splitC_word c a _ h1, splitC, if_pos rfl]; simp
      rw [e, count_at h1]
      refine ⟨by simp [ih'.1], by simp; omega, fun x hx => ?_⟩
      rcases List.mem_cons.1 hx with rfl | hx
      · simp
      · have := ih'.2.2 x hx; simp; omega
    · have e : splitC c s = [s] := by have := splitC_word c s [] h1; simpa [splitC] using this
      rw [e, count_none h1]
      simp
/-- strings.Split at a space. -/
theorem split32_calls {w : World} (s : List UInt8) (hs : s.length ≤ 90000) (ht : Tabs w) : Calls Tryz.prog 29 #[.string ⟨s.toArray⟩, .string ⟨#[32]⟩] w fun e w' => ∃ v, e = .returned v ∧ Rep.text.list.val (fun b => w.heap.size ≤ b) w' v (splitC 32 s) ∧ Below w.heap.size w w' := by
  obtain ⟨m, hm⟩ := ht.max
  have hsz : (ByteArray.mk s.toArray).size = s.length := by simp [ByteArray.size]
  refine (Tryz.strings_Split ⟨s.toArray⟩ ⟨#[32]⟩ m w (by rw [hsz]; omega) hm (by decide)).mono ?_
  rintro e w' ⟨rfl, rfl⟩
  obtain ⟨h1, h2, h3⟩ := splitC_len 32 (s.length + 1) s (by omega)
  have hc : Lib.countB ⟨s.toArray⟩ ⟨#[32]⟩ + 1 = (splitC 32 s).length := by rw [h1] <;> rfl
  have hd : (Lib.splitB ⟨#[32]⟩ 0 (Lib.countB ⟨s.toArray⟩ ⟨#[32]⟩) ⟨s.toArray⟩).map (·.data.toList) = splitC 32 s := by
    rw [Lib.splitB_data, ← split_is]
    simp [Lib.split, Lib.countB]
  have hv : (Lib.splitB ⟨#[32]⟩ 0 (Lib.countB ⟨s.toArray⟩ ⟨#[32]⟩) ⟨s.toArray⟩).map Value.string = (splitC 32 s).map fun x => Value.string ⟨x.toArray⟩ := by
    rw [← hd, List.map_map]
    apply List.map_congr_left
    intro b _
    simp
  rw [hc, hv]
  refine ⟨_, rfl, texts_val _ (alloc_at rfl) (fun x hx => by have := h3 x hx; unfold maxLen; omega) (by unfold maxLen; omega) (Nat.le_refl _), (Below.refl _ _).alloc (Nat.le_refl _) _⟩

/-- Few words, and short ones. -/
def Wfew (r : Wds) : Prop := r.l.length ≤ 90001 ∧ ∀ x ∈ r.l, x.length ≤ 90000
theorem Wfew.word {r : Wds} (h : Wfew r) : Wfew r.word.2 ∧ r.word.1.length ≤ 90000 := by
  unfold Wds.word
  split
  · exact ⟨⟨by simp, by simp⟩, by simp⟩
  · rename_i x l hl
    have h1 := h.1
    have h2 := h.2
    rw [hl] at h1 h2
    exact ⟨⟨by simp at h1 ⊢; omega, fun y hy => h2 y (by simp [hy])⟩, h2 x (by simp)⟩
theorem Wfew.num {r : Wds} (h : Wfew r) (s : List UInt8) : Wfew (r.num s).2 := h
theorem Wfew.target {r : Wds} (h : Wfew r) (x : DCmd) : Wfew (r.target x).2 := by
  unfold Wds.target
  split
  · exact h.word.1
  · exact h.word.1
theorem Wfew.part {r : Wds} (h : Wfew r) (l : List DComp) : Wfew (r.part l).2 := by
  unfold Wds.part
  split
  · exact h.word.1
  · exact h.word.1
theorem unhex_len {s b : List UInt8} (h : unhexS s = some b) : b.length ≤ s.length := by
  have := hex_unhex h
  unfold hexS at this
  split at this
  · rename_i hb; rw [hb]; simp
  · rw [← this, hexOf_len]; omega
theorem data_few {r : Wds} (h : Wfew r) : r.data.1.length ≤ 90000 := by
  unfold Wds.data
  have := h.word.2
  cases hu : unhexS r.word.1 with
  | none => simp
  | some b => have := unhex_len hu; simp; omega
theorem command_few {r : Wds} (h : Wfew r) (l : List DComp) (w : List UInt8) : (r.command l w).1.data.length ≤ 90000 := by
  have ht : ∀ (r : Wds) (x : DCmd), (r.target x).1.data = x.data := fun r x => by unfold Wds.target; split <;> rfl
  unfold Wds.command
  split
  · simp [zeroC]
  · split
    · rw [ht]; simp [zeroC]
    · split
      · simp only []; rw [ht]; simp [zeroC]
      · split
        · simp only []; exact data_few ((h.target _).part l)
        · simp [zeroC]
theorem fates_few : ∀ (n : Nat) (r : Wds) (fs : List DFate), r.l.length ≤ n → (r.fates fs).1.length + (r.fates fs).2.l.length ≤ fs.length + r.l.length
  | n, ⟨[], bad⟩, fs, _ => by simp [Wds.fates]
  | 0, ⟨w :: l, bad⟩, fs, h => by simp at h
  | n + 1, ⟨w :: l, bad⟩, fs, h => by
    rw [Wds.fates]
    split
    · simp
    · have := fates_few n ⟨l, (bad || (numS (Lib.cut w [58]).1).isNone) || (numS (Lib.cut w [58]).2.1).isNone⟩ (fs ++ [⟨(numS (Lib.cut w [58]).1).getD 0, (numS (Lib.cut w [58]).2.1).getD 0⟩]) (by simp at h ⊢; omega)
      simp at this ⊢
      omega
theorem fuses_few : ∀ (n : Nat) (r : Wds) (ns : List Int), r.l.length ≤ n → (r.fuses ns).1.length ≤ ns.length + r.l.length
  | n, ⟨[], bad⟩, ns, _ => by simp [Wds.fuses]
  | 0, ⟨w :: l, bad⟩, ns, h => by simp at h
  | n + 1, ⟨w :: l, bad⟩, ns, h => by
    rw [Wds.fuses]
    have := fuses_few n ⟨l, bad || (numS w).isNone⟩ (ns ++ [(numS w).getD 0]) (by simp at h ⊢; omega)
    simp at this ⊢
    omega
theorem crash_few {r : Wds} (h : r.l.length ≤ 90001) : r.crash.1.1.length ≤ 100000 ∧ r.crash.1.2.length ≤ 100000 := by
  have h1 := fates_few _ r [] (Nat.le_refl _)
  simp at h1
  have h2 : (r.fates []).2.skip.l.length ≤ (r.fates []).2.l.length := by
    unfold Wds.skip
    split
    · omega
    · rename_i x l hl; rw [hl]; simp
  have h3 := fuses_few _ (r.fates []).2.skip [] (Nat.le_refl _)
  simp at h3
  unfold Wds.crash
  constructor <;> simp only [] <;> omega
theorem act_few {r : Wds} (h : Wfew r) (l : List DComp) : (r.act l).1.cmd.data.length ≤ 1000000 ∧ (r.act l).1.fates.length ≤ 100000 ∧ (r.act l).1.fuses.length ≤ 100000 := by
  have hw := h.word.1
  have hc := crash_few hw.1
  have hd := command_few hw l r.word.1
  show (r.act0 l).1.cmd.data.length ≤ 1000000 ∧ (r.act0 l).1.fates.length ≤ 100000 ∧ (r.act0 l).1.fuses.length ≤ 100000
  unfold Wds.act0
  simp only []
  repeat' split
  all_goals simp [zeroA, zeroC]
  · exact hc
  · omega
theorem act_in {Q : Nat → Prop} {W : World} {v : Value} {x : DAct} (h : rAct.val Q W v x) : ActIn x := by
  obtain ⟨A1, c1, A2, c2, A3, c3, _, f0, f1, f2, f3, f4, s1, f5, f6, f7, s2, s3⟩ := rAct_val h
  refine ⟨⟨in_wf f2, in_wf f3, in_wf f4⟩, in_wf f5, in_wf f6, in_wf f7, fun f hf => ?_, fun n hn => ?_⟩
  · obtain ⟨i, hi, rfl⟩ := List.mem_iff_getElem.1 hf
    obtain ⟨_, _, _, _, _, _, g0, g1⟩ := rFate_at s2.2.2 (List.getElem?_eq_getElem hi)
    exact ⟨in_wf g0, in_wf g1⟩
  · obtain ⟨i, hi, rfl⟩ := List.mem_iff_getElem.1 hn
    obtain ⟨_, _, _, _, _, g0⟩ := int_at s3.2.2 (List.getElem?_eq_getElem hi)
    exact in_wf g0

theorem only_ovr {F G : Nat → Prop} {X Y Z : World} (h : Only F X Y) (h2 : Only G Y Z) (hg : ∀ b, G b → X.heap.size ≤ b) : Only F X Z := only_new h h2 fun b hb => .inr (hg b hb)

set_option maxRecDepth 100000 in
set_option maxHeartbeats 4000000 in
/-- console.Line, at a line that is one -/
theorem line_calls {Q : Nat → Prop} {w : World} {v : Value} {c : DConf} {s : List UInt8} {y : DAct} (hx : rConf.val Q w v c) (hs : s.length ≤ 90000) (hm : ∀ z ∈ c.comps, z.name.length ≤ 1000000) (ht : Tabs w) (hy : lineS c s = some y) :
    Calls Tryz.prog 10 #[v, .string ⟨s.toArray⟩] w fun e W => ∃ u, e = .returned (.tuple #[u, .int .i64 0]) ∧ rAct.val (fun b => w.heap.size ≤ b) W u y ∧ Below w.heap.size w W := by
  have hfr : Tryz.f10.results = #[.cell 4 35, .tmp 5] := rfl
  have HT := Lib.hid ht
  have HS := Lib.hid hs
  have HM := Lib.hid hm
  obtain ⟨A, cap, rfl, _, _, _, _, _, _, _⟩ := rConf_val hx
  have HX := Lib.hid hx
  unfold lineS at hy
  split at hy
  rotate_left
  · cases hy
  rename_i hgood
  obtain ⟨g1, g2, g3, g4⟩ := hgood
  obtain rfl := Option.some.inj hy
  obtain ⟨h1, h2, h3⟩ := splitC_len 32 (s.length + 1) s (by omega)
  have hfew : Wfew ⟨splitC 32 s, false⟩ := ⟨by show (splitC 32 s).length ≤ 90001; omega, fun x hx => by have := h3 x hx; omega⟩
  have HAF := Lib.hid (act_few hfew c.comps)
  obtain ⟨x, hxe⟩ : ∃ x, (Wds.act ⟨splitC 32 s, false⟩ c.comps).1 = x := ⟨_, rfl⟩
  obtain ⟨r9, hre⟩ : ∃ r, (Wds.act ⟨splitC 32 s, false⟩ c.comps).2 = r := ⟨_, rfl⟩
  rw [hxe] at g3 g4 HAF ⊢
  rw [hre] at g1
  have HXE := Lib.hid hxe
  have HRE := Lib.hid hre
  have G := Lib.hid (And.intro g1 (And.intro g2 (And.intro g3 g4)))
  have HW2 := Lib.hid (show (splitC 32 s).length ≤ 1000000 by omega)
  have HW3 := Lib.hid (show ∀ x ∈ splitC 32 s, x.length ≤ 1000000 from fun x hx => by have := h3 x hx; omega)
  clear hx ht hs hm hy g1 g2 g3 g4 h1 h2 h3 hfew hxe hre
  obtain ⟨W0, hW0⟩ : ∃ W, ((w.alloc (.cells #[.int .i64 c.log, .int .i64 c.pages, .int .i64 c.entities, .int .i64 c.gens, .slice A c.comps.length cap] 24)).alloc (.cells #[.int .i64 0, .int .i64 0, .bool false, .int .i64 0, .int .i64 0, .int .i64 0, .slice none 0 0, .int .i64 0, .int .i64 0, .int .i64 0, .slice none 0 0, .slice none 0 0] 35)) = W := ⟨_, rfl⟩
  have hz0 : W0.heap.size = w.heap.size + 2 := by rw [← hW0]; simp
  have hb0 : Below w.heap.size w W0 := by rw [← hW0]; exact ((Below.refl _ _).alloc (Nat.le_refl _) _).alloc (by first | (simp; done) | (simp; omega)) _
  have HZ := Lib.hid hz0
  have HB0 := Lib.hid hb0
  have R0_0 := Lib.hid (show W0.heap[w.heap.size]? = some (.cells #[.int .i64 c.log, .int .i64 c.pages, .int .i64 c.entities, .int .i64 c.gens, .slice A c.comps.length cap] 24 (0, 0)) by rw [← hW0]; exact alloc_old (alloc_at rfl))
  have R1_0 := Lib.hid (show W0.heap[w.heap.size + 1]? = some (.cells #[.int .i64 0, .int .i64 0, .bool false, .int .i64 0, .int .i64 0, .int .i64 0, .slice none 0 0, .int .i64 0, .int .i64 0, .int .i64 0, .slice none 0 0, .slice none 0 0] 35 (0, 0)) by rw [← hW0]; exact alloc_at (by simp))
  have O0 := Lib.hid (Only.refl (Box w 2) W0)
  have Vc_0 := Lib.hid (show rConf.val (In Q w 2) W0 (.agg #[.int .i64 c.log, .int .i64 c.pages, .int .i64 c.entities, .int .i64 c.gens, .slice A c.comps.length cap]) c from val_in HX.out hb0)
  clear hz0 hb0
  have q0_0 := rw5 R0_0.out
  have q1_0 := rw12 R1_0.out
  go_enter Tryz.func10, Tryz.ntmps10
  go_wp2_with fail
  try rw [hW0]
  clear hW0
  try go_wp2_with fail
  clear q0_0 q1_0
  refine wp_region_held_drew (S := fun W => Below W0.heap.size W0 W) (by kernel_rfl) ((Below.refl _ _).drew) (fun s0 => ?_)
  obtain ⟨v1, hv0⟩ : ∃ V, V = W0.drew := ⟨_, rfl⟩
  rw [← hv0] at s0 ⊢
  have t1 : Below W0.heap.size W0 v1 := s0
  clear hv0 s0
  refine tkH (i := 0) (v := .agg #[.int .i64 c.log, .int .i64 c.pages, .int .i64 c.entities, .int .i64 c.gens, .slice A c.comps.length cap]) rfl (Or.inl ⟨by rfl, fun w' h => by have e := row_call (h : Below W0.heap.size W0 w') R0_0.out; have e0 := cell_row e 0; have e1 := cell_row e 1; have e2 := cell_row e 2; have e3 := cell_row e 3; have e4 := cell_row e 4; go_simp⟩) t1 ?_
  go_simp
  refine tkHV (i := 1) (v := .string ⟨s.toArray⟩) rfl t1 ?_
  go_simp
  refine wpAnyH_all (rs := [2]) (by kernel_rfl) (by simp) ?_
  intro i hi
  obtain rfl : i = 2 := by simpa using hi
  clear hi
  refine wpOp_step rfl (fun K hK => ?_)
  go_simp
  refine (split32_calls s HS.out (HT.out.call ((Only.fin HB0.out O0.out).trans (Below.mono t1 (Only.fin HB0.out O0.out).size)))).mono ?_
  rintro e v2 ⟨v9, rfl, hv, hb⟩
  obtain ⟨AW, cW, rfl, hsw⟩ := Rep.val_sl hv
  have HSW := Lib.hid hsw
  have ZS := Lib.hid (And.intro (Below.size t1) (Below.size hb))
  clear hv hsw
  have t2 : Below W0.heap.size W0 v2 := Below.trans t1 (hb.mono (Below.size t1))
  refine hK _ _ ⟨t2, ?_⟩
  clear hb
  clear hK K
  refine tkHV (i := 3) (v := .agg #[.int .i64 c.log, .int .i64 c.pages, .int .i64 c.entities, .int .i64 c.gens, .slice A c.comps.length cap, .slice AW (splitC 32 s).length cW, .bool false]) rfl t2 ?_
  go_simp
  refine wpAnyH_all (rs := [4]) (by kernel_rfl) (by simp) ?_
  intro i hi
  obtain rfl : i = 4 := by simpa using hi
  clear hi
  refine wpOp_step rfl (fun K hK => ?_)
  go_simp
  obtain ⟨B, hBdef⟩ : ∃ B, B = v2.heap.size := ⟨_, rfl⟩
  have BV := Lib.hid (show rConf.val (fun b => In Q w 2 b ∧ b < B) v2 (.agg #[.int .i64 c.log, .int .i64 c.pages, .int .i64 c.entities, .int .i64 c.gens, .slice A c.comps.length cap]) c from Rep.val_keep (w := v2) (fun b hb hl => ⟨⟨hb, by rw [hBdef]; exact hl.lt⟩, rfl⟩) (val_only Vc_0.out (Only.of_below t2 : Only (Box w 2) W0 v2)))
  have BW := Lib.hid (show Rep.text.Sl (fun b => In Q w 2 b ∧ b < B) v2 AW cW (splitC 32 s) from HSW.out.keep (fun b hb hl => ⟨⟨.inr (by have := ZS.out.1; have := HZ.out; omega), by rw [hBdef]; exact hl.lt⟩, rfl⟩))
  go_simp
  rw [← hBdef]
  refine hK _ _ ⟨Below.alloc t2 (Below.size t2) _, ?_⟩
  clear hK K
  refine nm_any (fun v3 hnm => ?_)
  have t3 : Below W0.heap.size W0 v3 := by rw [hnm]; exact Below.alloc t2 (Below.size t2) _
  have HRD := Lib.hid (show Rdr (fun b => In Q w 2 b ∧ b < B) B v3 c ⟨splitC 32 s, false⟩ from ⟨fun b hb => Nat.ne_of_lt hb.2, A, cap, AW, cW, by rw [hnm, hBdef]; exact alloc_at rfl, Rep.val_keep (fun b hb _ => ⟨hb, by rw [hnm]; exact Below.heap_alloc _ _ _ (by rw [← hBdef]; exact hb.2)⟩) BV.out, BW.out.keep (fun b hb _ => ⟨hb, by rw [hnm]; exact Below.heap_alloc _ _ _ (by rw [← hBdef]; exact hb.2)⟩), HW3.out⟩)
  have ZB := Lib.hid (show B < v3.heap.size ∧ W0.heap.size ≤ B from ⟨HRD.out.lt, by rw [hBdef]; exact Below.size t2⟩)
  clear hnm hBdef
  refine tkHV (i := 5) (v := .pointer (some ⟨B, 0, none⟩)) rfl t3 ?_
  go_simp
  refine wpAnyH_done (by kernel_rfl) ?_ _
  have S1 := Lib.hid (show Only (Box w 2) W0 v3 from Only.of_below t3)
  have O1 := Lib.hid (O0.out.trans S1.out)
  have R0_1 := Lib.hid (row_call t3 R0_0.out)
  have R1_1 := Lib.hid (row_call t3 R1_0.out)
  have Vc_1 := Lib.hid (val_only Vc_0.out S1.out)
  go_wp2_with fail
  have T3 := Lib.hid (HT.out.call (Only.fin HB0.out O1.out))
  refine (cact_calls HRD.out T3.out (by have := ZB.out.2; have := T3.out.big; have := HZ.out; have := HT.out.big; omega) (fun b hb => Nat.lt_trans hb.2 ZB.out.1) HW2.out).mono ?_
  rw [HXE.out, HRE.out]
  rintro e w4 ⟨v4, rfl, hv4, hr4, o4⟩
  have HI := Lib.hid (act_in hv4)
  obtain ⟨A1, c1, A2, c2, A3, c3, rfl, f0, f1, f2, f3, f4, s1, f5, f6, f7, s2, s3⟩ := rAct_val hv4
  have HV4 := Lib.hid (show rAct.val (In (fun _ => False) w 2) w4 _ x from Rep.val_mono (fun b hb _ => .inr (by have := (Only.fin HB0.out O1.out).size; have := ZB.out; have := HZ.out; omega)) hv4)
  have R4 := Lib.hid hr4
  have SM := Lib.hid (show ActSmall x from ⟨HI.out, HAF.out.1, HAF.out.2.1, HAF.out.2.2⟩)
  clear f0 f1 f2 f3 f4 s1 f5 f6 f7 s2 s3 hv4 hr4
  have O2 := Lib.hid (only_ovr O1.out o4 (show ∀ b, b = B → W0.heap.size ≤ b from fun b e => by rw [e]; exact ZB.out.2))
  have R0_2 := Lib.hid (row_only o4 R0_1.out (fun e => by have := (show ∀ b, b = B → W0.heap.size ≤ b from fun b e => by rw [e]; exact ZB.out.2) _ e; have := HZ.out; omega))
  have R1_2 := Lib.hid (row_only o4 R1_1.out (fun e => by have := (show ∀ b, b = B → W0.heap.size ≤ b from fun b e => by rw [e]; exact ZB.out.2) _ e; have := HZ.out; omega))
  clear o4
  have Vc_9 := Lib.hid (val_only Vc_0.out O2.out)
  go_wp2_with (with_reducible refine stopNil 15 rfl ?_)
  refine Lib.hid ?_
  refine nm_list (fun V5 hnm => ?_)
  have HF1 := Lib.hid (show w.heap.size + 2 ≤ w4.heap.size by have := O2.out.size; have := HZ.out; omega)
  have S3 := Lib.hid (show Only (Box w 2) w4 V5 from (by rw [hnm]; exact (Only.refl (Box w 2) w4).alloc _))
  have O3 := Lib.hid (O2.out.trans S3.out)
  have R0_3 := Lib.hid (row_nm hnm (alloc_old (R0_2.out)))
  have R1_3 := Lib.hid (row_nm hnm (alloc_old (R1_2.out)))
  have Rw4_heap_size_3 := Lib.hid (show V5.heap[w4.heap.size]? = some (.cells #[.int .i64 x.kind, .int .i64 x.cmd.kind, .bool x.cmd.loc, .int .i64 x.cmd.id.index, .int .i64 x.cmd.id.gen, .int .i64 x.cmd.comp, .slice A1 x.cmd.data.length c1, .int .i64 x.policy.room, .int .i64 x.policy.frames, .int .i64 x.n, .slice A2 x.fates.length c2, .slice A3 x.fuses.length c3] 35 (0, 0)) from (by rw [hnm]; exact alloc_at rfl))
  have Vc_3 := Lib.hid (val_only Vc_9.out S3.out)
  have Vx_3 := Lib.hid (val_only HV4.out S3.out)
  clear hnm
  have R5 := Lib.hid (show Rdr (fun b => In Q w 2 b ∧ b < B) B V5 c r9 from R4.out.keep (S3.out.block B R4.out.lt (by unfold Box; have := ZB.out; have := HZ.out; omega)) (fun b hb hl => ⟨hb, S3.out.block b hl (fun hbx => hb.1.no hbx)⟩) R4.out.1)
  have q0_0 := rw5 R0_3.out
  have q1_0 := rw12 R1_3.out
  have qn0_0 := rw12 Rw4_heap_size_3.out
  have q6 : World.cell? V5 ⟨B, 6, none⟩ = some (.bool false) := by have := R5.out.c6; rwa [G.out.1] at this
  go_wp2_with fail
  clear q6
  clear q0_0 q1_0 qn0_0
  refine (check_calls Vc_3.out).mono ?_
  rintro e w6 ⟨rfl, hb⟩
  have S4 := Lib.hid (show Only (Box w 2) V5 w6 from Only.of_below hb)
  have O4 := Lib.hid (O3.out.trans S4.out)
  have R0_4 := Lib.hid (row_call hb R0_3.out)
  have R1_4 := Lib.hid (row_call hb R1_3.out)
  have Rw4_heap_size_4 := Lib.hid (row_call hb Rw4_heap_size_3.out)
  have Vc_4 := Lib.hid (val_only Vc_3.out S4.out)
  have Vx_4 := Lib.hid (val_only Vx_3.out S4.out)
  clear hb
  rw [G.out.2.1]
  have q0_0 := rw5 R0_4.out
  have q1_0 := rw12 R1_4.out
  have qn0_0 := rw12 Rw4_heap_size_4.out
  go_wp2_with fail
  clear q0_0 q1_0 qn0_0
  refine (sright_calls Vx_4.out).mono ?_
  rintro e w7 ⟨rfl, hb⟩
  have S5 := Lib.hid (show Only (Box w 2) w6 w7 from Only.of_below hb)
  have O5 := Lib.hid (O4.out.trans S5.out)
  have R0_5 := Lib.hid (row_call hb R0_4.out)
  have R1_5 := Lib.hid (row_call hb R1_4.out)
  have Rw4_heap_size_5 := Lib.hid (row_call hb Rw4_heap_size_4.out)
  have Vc_5 := Lib.hid (val_only Vc_4.out S5.out)
  have Vx_5 := Lib.hid (val_only Vx_4.out S5.out)
  clear hb
  rw [G.out.2.2.1]
  have q0_0 := rw5 R0_5.out
  have q1_0 := rw12 R1_5.out
  have qn0_0 := rw12 Rw4_heap_size_5.out
  go_wp2_with fail
  clear q0_0 q1_0 qn0_0
  refine (show_calls Vc_5.out Vx_5.out (HT.out.call (Only.fin HB0.out O5.out)) SM.out HM.out).mono ?_
  rintro e w8 ⟨rfl, hb⟩
  have S6 := Lib.hid (show Only (Box w 2) w7 w8 from Only.of_below hb)
  have O6 := Lib.hid (O5.out.trans S6.out)
  have R0_6 := Lib.hid (row_call hb R0_5.out)
  have R1_6 := Lib.hid (row_call hb R1_5.out)
  have Rw4_heap_size_6 := Lib.hid (row_call hb Rw4_heap_size_5.out)
  have Vc_6 := Lib.hid (val_only Vc_5.out S6.out)
  have Vx_6 := Lib.hid (val_only Vx_5.out S6.out)
  clear hb
  rw [G.out.2.2.2]
  have hss : (s == s) = true := by simp
  have q0_0 := rw5 R0_6.out
  have q1_0 := rw12 R1_6.out
  have qn0_0 := rw12 Rw4_heap_size_6.out
  go_wp2_with fail
  clear q0_0 q1_0 qn0_0
  refine (splain_calls Vx_6.out G.out.2.2.1 SM.out).mono ?_
  rintro e w9 ⟨v9, rfl, hv, hb⟩
  have S7 := Lib.hid (show Only (Box w 2) w8 w9 from Only.of_below hb)
  have O7 := Lib.hid (O6.out.trans S7.out)
  have R0_7 := Lib.hid (row_call hb R0_6.out)
  have R1_7 := Lib.hid (row_call hb R1_6.out)
  have Rw4_heap_size_7 := Lib.hid (row_call hb Rw4_heap_size_6.out)
  have Vc_7 := Lib.hid (val_only Vc_6.out S7.out)
  have Vx_7 := Lib.hid (val_only Vx_6.out S7.out)
  have Vz_9 := Lib.hid (val_fresh (Q := fun _ => False) (w := w) (n := 2) hv (by have := O6.out.size; have := HZ.out; omega))
  obtain ⟨A4, c4, A5, c5, A6, c6, rfl, _⟩ := rAct_val hv
  clear hv hb
  have q0_0 := rw5 R0_7.out
  have q1_0 := rw12 R1_7.out
  have qn0_0 := rw12 Rw4_heap_size_7.out
  go_wp2_with fail
  clear q0_0 q1_0 qn0_0
  refine nm_post (fun V10 hnm => ?_)
  have S8 := Lib.hid (show Only (Box w 2) w9 V10 from (by rw [hnm]; exact ((((((((((((Only.refl (Box w 2) w9).put ⟨by omega, by omega⟩).put ⟨by omega, by omega⟩).put ⟨by omega, by omega⟩).put ⟨by omega, by omega⟩).put ⟨by omega, by omega⟩).put ⟨by omega, by omega⟩).put ⟨by omega, by omega⟩).put ⟨by omega, by omega⟩).put ⟨by omega, by omega⟩).put ⟨by omega, by omega⟩).put ⟨by omega, by omega⟩).put ⟨by omega, by omega⟩))
  have O8 := Lib.hid (O7.out.trans S8.out)
  have R0_8 := Lib.hid (row_nm hnm (row_other (row_other (row_other (row_other (row_other (row_other (row_other (row_other (row_other (row_other (row_other (row_other (R0_7.out) (by omega)) (by omega)) (by omega)) (by omega)) (by omega)) (by omega)) (by omega)) (by omega)) (by omega)) (by omega)) (by omega)) (by omega)))
  have R1_8 := Lib.hid (show V10.heap[w.heap.size + 1]? = some (.cells #[.int .i64 (plainA x).kind, .int .i64 (plainA x).cmd.kind, .bool (plainA x).cmd.loc, .int .i64 (plainA x).cmd.id.index, .int .i64 (plainA x).cmd.id.gen, .int .i64 (plainA x).cmd.comp, .slice A4 (plainA x).cmd.data.length c4, .int .i64 (plainA x).policy.room, .int .i64 (plainA x).policy.frames, .int .i64 (plainA x).n, .slice A5 (plainA x).fates.length c5, .slice A6 (plainA x).fuses.length c6] 35 (0, 0)) from (by rw [hnm]; exact heap_setList (heap_setList (heap_setList (heap_setList (heap_setList (heap_setList (heap_setList (heap_setList (heap_setList (heap_setList (heap_setList (heap_setList (R1_7.out))))))))))))))
  have Rw4_heap_size_8 := Lib.hid (row_nm hnm (row_other (row_other (row_other (row_other (row_other (row_other (row_other (row_other (row_other (row_other (row_other (row_other (Rw4_heap_size_7.out) (by have := HF1.out; omega)) (by have := HF1.out; omega)) (by have := HF1.out; omega)) (by have := HF1.out; omega)) (by have := HF1.out; omega)) (by have := HF1.out; omega)) (by have := HF1.out; omega)) (by have := HF1.out; omega)) (by have := HF1.out; omega)) (by have := HF1.out; omega)) (by have := HF1.out; omega)) (by have := HF1.out; omega)))
  have Vc_8 := Lib.hid (val_only Vc_7.out S8.out)
  have Vx_8 := Lib.hid (val_only Vx_7.out S8.out)
  have Vz_8 := Lib.hid (val_only Vz_9.out S8.out)
  clear hnm
  have q1_0 := cl12 R1_8.out
  refine ⟨rfl, .tuple #[.agg #[.int .i64 (plainA x).kind, .int .i64 (plainA x).cmd.kind, .bool (plainA x).cmd.loc, .int .i64 (plainA x).cmd.id.index, .int .i64 (plainA x).cmd.id.gen, .int .i64 (plainA x).cmd.comp, .slice A4 (plainA x).cmd.data.length c4, .int .i64 (plainA x).policy.room, .int .i64 (plainA x).policy.frames, .int .i64 (plainA x).n, .slice A5 (plainA x).fates.length c5, .slice A6 (plainA x).fuses.length c6], .int .i64 0], by simp only [results, hfr]; go_simp, ?_⟩
  clear q1_0
  exact ⟨_, rfl, Rep.val_mono (fun b hb _ => by rcases hb with h | h; exact absurd h.1 id; omega) Vz_8.out, Only.fin HB0.out O8.out⟩

set_option maxRecDepth 100000 in
set_option maxHeartbeats 4000000 in
/-- console.Line, at a line that is none -/
theorem lineNone_calls {Q : Nat → Prop} {w : World} {v : Value} {c : DConf} {s : List UInt8} (hx : rConf.val Q w v c) (hs : s.length ≤ 90000) (hm : ∀ z ∈ c.comps, z.name.length ≤ 1000000) (ht : Tabs w) (hy : lineS c s = none) :
    Calls Tryz.prog 10 #[v, .string ⟨s.toArray⟩] w fun e W => ∃ u, e = .returned (.tuple #[u, .int .i64 11]) ∧ rAct.val (fun b => w.heap.size ≤ b) W u zeroA ∧ Below w.heap.size w W := by
  have hfr : Tryz.f10.results = #[.cell 4 35, .tmp 5] := rfl
  have HT := Lib.hid ht
  have HS := Lib.hid hs
  have HM := Lib.hid hm
  obtain ⟨A, cap, rfl, _, _, _, _, _, _, _⟩ := rConf_val hx
  have HX := Lib.hid hx
  unfold lineS at hy
  split at hy
  · cases hy
  rename_i hbad0
  obtain ⟨h1, h2, h3⟩ := splitC_len 32 (s.length + 1) s (by omega)
  have hfew : Wfew ⟨splitC 32 s, false⟩ := ⟨by show (splitC 32 s).length ≤ 90001; omega, fun x hx => by have := h3 x hx; omega⟩
  have HAF := Lib.hid (act_few hfew c.comps)
  obtain ⟨x, hxe⟩ : ∃ x, (Wds.act ⟨splitC 32 s, false⟩ c.comps).1 = x := ⟨_, rfl⟩
  obtain ⟨r9, hre⟩ : ∃ r, (Wds.act ⟨splitC 32 s, false⟩ c.comps).2 = r := ⟨_, rfl⟩
  rw [hxe] at hbad0 HAF
  rw [hre] at hbad0
  have HXE := Lib.hid hxe
  have HRE := Lib.hid hre
  have HW2 := Lib.hid (show (splitC 32 s).length ≤ 1000000 by omega)
  have HW3 := Lib.hid (show ∀ x ∈ splitC 32 s, x.length ≤ 1000000 from fun x hx => by have := h3 x hx; omega)
  have hcases : r9.bad = true ∨ (r9.bad = false ∧ confRight c = false) ∨ (r9.bad = false ∧ confRight c = true ∧ rightA x = false) ∨ (r9.bad = false ∧ confRight c = true ∧ rightA x = true ∧ showS c.comps x ≠ s) := by
    cases e1 : r9.bad
    · cases e2 : confRight c
      · exact .inr (.inl ⟨rfl, rfl⟩)
      · cases e3 : rightA x
        · exact .inr (.inr (.inl ⟨rfl, rfl, rfl⟩))
        · exact .inr (.inr (.inr ⟨rfl, rfl, rfl, fun e4 => hbad0 ⟨e1, e2, e3, e4⟩⟩))
    · exact .inl rfl
  clear hx ht hs hm hy h1 h2 h3 hfew hxe hre hbad0
  rcases hcases with g | g | g | g
  · have G := Lib.hid g
    clear g
    obtain ⟨W0, hW0⟩ : ∃ W, ((w.alloc (.cells #[.int .i64 c.log, .int .i64 c.pages, .int .i64 c.entities, .int .i64 c.gens, .slice A c.comps.length cap] 24)).alloc (.cells #[.int .i64 0, .int .i64 0, .bool false, .int .i64 0, .int .i64 0, .int .i64 0, .slice none 0 0, .int .i64 0, .int .i64 0, .int .i64 0, .slice none 0 0, .slice none 0 0] 35)) = W := ⟨_, rfl⟩
    have hz0 : W0.heap.size = w.heap.size + 2 := by rw [← hW0]; simp
    have hb0 : Below w.heap.size w W0 := by rw [← hW0]; exact ((Below.refl _ _).alloc (Nat.le_refl _) _).alloc (by first | (simp; done) | (simp; omega)) _
    have HZ := Lib.hid hz0
    have HB0 := Lib.hid hb0
    have R0_0 := Lib.hid (show W0.heap[w.heap.size]? = some (.cells #[.int .i64 c.log, .int .i64 c.pages, .int .i64 c.entities, .int .i64 c.gens, .slice A c.comps.length cap] 24 (0, 0)) by rw [← hW0]; exact alloc_old (alloc_at rfl))
    have R1_0 := Lib.hid (show W0.heap[w.heap.size + 1]? = some (.cells #[.int .i64 0, .int .i64 0, .bool false, .int .i64 0, .int .i64 0, .int .i64 0, .slice none 0 0, .int .i64 0, .int .i64 0, .int .i64 0, .slice none 0 0, .slice none 0 0] 35 (0, 0)) by rw [← hW0]; exact alloc_at (by simp))
    have O0 := Lib.hid (Only.refl (Box w 2) W0)
    have Vc_0 := Lib.hid (show rConf.val (In Q w 2) W0 (.agg #[.int .i64 c.log, .int .i64 c.pages, .int .i64 c.entities, .int .i64 c.gens, .slice A c.comps.length cap]) c from val_in HX.out hb0)
    clear hz0 hb0
    have q0_0 := rw5 R0_0.out
    have q1_0 := rw12 R1_0.out
    go_enter Tryz.func10, Tryz.ntmps10
    go_wp2_with fail
    try rw [hW0]
    clear hW0
    try go_wp2_with fail
    clear q0_0 q1_0
    refine wp_region_held_drew (S := fun W => Below W0.heap.size W0 W) (by kernel_rfl) ((Below.refl _ _).drew) (fun s0 => ?_)
    obtain ⟨v1, hv0⟩ : ∃ V, V = W0.drew := ⟨_, rfl⟩
    rw [← hv0] at s0 ⊢
    have t1 : Below W0.heap.size W0 v1 := s0
    clear hv0 s0
    refine tkH (i := 0) (v := .agg #[.int .i64 c.log, .int .i64 c.pages, .int .i64 c.entities, .int .i64 c.gens, .slice A c.comps.length cap]) rfl (Or.inl ⟨by rfl, fun w' h => by have e := row_call (h : Below W0.heap.size W0 w') R0_0.out; have e0 := cell_row e 0; have e1 := cell_row e 1; have e2 := cell_row e 2; have e3 := cell_row e 3; have e4 := cell_row e 4; go_simp⟩) t1 ?_
    go_simp
    refine tkHV (i := 1) (v := .string ⟨s.toArray⟩) rfl t1 ?_
    go_simp
    refine wpAnyH_all (rs := [2]) (by kernel_rfl) (by simp) ?_
    intro i hi
    obtain rfl : i = 2 := by simpa using hi
    clear hi
    refine wpOp_step rfl (fun K hK => ?_)
    go_simp
    refine (split32_calls s HS.out (HT.out.call ((Only.fin HB0.out O0.out).trans (Below.mono t1 (Only.fin HB0.out O0.out).size)))).mono ?_
    rintro e v2 ⟨v9, rfl, hv, hb⟩
    obtain ⟨AW, cW, rfl, hsw⟩ := Rep.val_sl hv
    have HSW := Lib.hid hsw
    have ZS := Lib.hid (And.intro (Below.size t1) (Below.size hb))
    clear hv hsw
    have t2 : Below W0.heap.size W0 v2 := Below.trans t1 (hb.mono (Below.size t1))
    refine hK _ _ ⟨t2, ?_⟩
    clear hb
    clear hK K
    refine tkHV (i := 3) (v := .agg #[.int .i64 c.log, .int .i64 c.pages, .int .i64 c.entities, .int .i64 c.gens, .slice A c.comps.length cap, .slice AW (splitC 32 s).length cW, .bool false]) rfl t2 ?_
    go_simp
    refine wpAnyH_all (rs := [4]) (by kernel_rfl) (by simp) ?_
    intro i hi
    obtain rfl : i = 4 := by simpa using hi
    clear hi
    refine wpOp_step rfl (fun K hK => ?_)
    go_simp
    obtain ⟨B, hBdef⟩ : ∃ B, B = v2.heap.size := ⟨_, rfl⟩
    have BV := Lib.hid (show rConf.val (fun b => In Q w 2 b ∧ b < B) v2 (.agg #[.int .i64 c.log, .int .i64 c.pages, .int .i64 c.entities, .int .i64 c.gens, .slice A c.comps.length cap]) c from Rep.val_keep (w := v2) (fun b hb hl => ⟨⟨hb, by rw [hBdef]; exact hl.lt⟩, rfl⟩) (val_only Vc_0.out (Only.of_below t2 : Only (Box w 2) W0 v2)))
    have BW := Lib.hid (show Rep.text.Sl (fun b => In Q w 2 b ∧ b < B) v2 AW cW (splitC 32 s) from HSW.out.keep (fun b hb hl => ⟨⟨.inr (by have := ZS.out.1; have := HZ.out; omega), by rw [hBdef]; exact hl.lt⟩, rfl⟩))
    go_simp
    rw [← hBdef]
    refine hK _ _ ⟨Below.alloc t2 (Below.size t2) _, ?_⟩
    clear hK K
    refine nm_any (fun v3 hnm => ?_)
    have t3 : Below W0.heap.size W0 v3 := by rw [hnm]; exact Below.alloc t2 (Below.size t2) _
    have HRD := Lib.hid (show Rdr (fun b => In Q w 2 b ∧ b < B) B v3 c ⟨splitC 32 s, false⟩ from ⟨fun b hb => Nat.ne_of_lt hb.2, A, cap, AW, cW, by rw [hnm, hBdef]; exact alloc_at rfl, Rep.val_keep (fun b hb _ => ⟨hb, by rw [hnm]; exact Below.heap_alloc _ _ _ (by rw [← hBdef]; exact hb.2)⟩) BV.out, BW.out.keep (fun b hb _ => ⟨hb, by rw [hnm]; exact Below.heap_alloc _ _ _ (by rw [← hBdef]; exact hb.2)⟩), HW3.out⟩)
    have ZB := Lib.hid (show B < v3.heap.size ∧ W0.heap.size ≤ B from ⟨HRD.out.lt, by rw [hBdef]; exact Below.size t2⟩)
    clear hnm hBdef
    refine tkHV (i := 5) (v := .pointer (some ⟨B, 0, none⟩)) rfl t3 ?_
    go_simp
    refine wpAnyH_done (by kernel_rfl) ?_ _
    have S1 := Lib.hid (show Only (Box w 2) W0 v3 from Only.of_below t3)
    have O1 := Lib.hid (O0.out.trans S1.out)
    have R0_1 := Lib.hid (row_call t3 R0_0.out)
    have R1_1 := Lib.hid (row_call t3 R1_0.out)
    have Vc_1 := Lib.hid (val_only Vc_0.out S1.out)
    go_wp2_with fail
    have T3 := Lib.hid (HT.out.call (Only.fin HB0.out O1.out))
    refine (cact_calls HRD.out T3.out (by have := ZB.out.2; have := T3.out.big; have := HZ.out; have := HT.out.big; omega) (fun b hb => Nat.lt_trans hb.2 ZB.out.1) HW2.out).mono ?_
    rw [HXE.out, HRE.out]
    rintro e w4 ⟨v4, rfl, hv4, hr4, o4⟩
    have HI := Lib.hid (act_in hv4)
    obtain ⟨A1, c1, A2, c2, A3, c3, rfl, f0, f1, f2, f3, f4, s1, f5, f6, f7, s2, s3⟩ := rAct_val hv4
    have HV4 := Lib.hid (show rAct.val (In (fun _ => False) w 2) w4 _ x from Rep.val_mono (fun b hb _ => .inr (by have := (Only.fin HB0.out O1.out).size; have := ZB.out; have := HZ.out; omega)) hv4)
    have R4 := Lib.hid hr4
    have SM := Lib.hid (show ActSmall x from ⟨HI.out, HAF.out.1, HAF.out.2.1, HAF.out.2.2⟩)
    clear f0 f1 f2 f3 f4 s1 f5 f6 f7 s2 s3 hv4 hr4
    have O2 := Lib.hid (only_ovr O1.out o4 (show ∀ b, b = B → W0.heap.size ≤ b from fun b e => by rw [e]; exact ZB.out.2))
    have R0_2 := Lib.hid (row_only o4 R0_1.out (fun e => by have := (show ∀ b, b = B → W0.heap.size ≤ b from fun b e => by rw [e]; exact ZB.out.2) _ e; have := HZ.out; omega))
    have R1_2 := Lib.hid (row_only o4 R1_1.out (fun e => by have := (show ∀ b, b = B → W0.heap.size ≤ b from fun b e => by rw [e]; exact ZB.out.2) _ e; have := HZ.out; omega))
    clear o4
    have Vc_9 := Lib.hid (val_only Vc_0.out O2.out)
    go_wp2_with (with_reducible refine stopNil 15 rfl ?_)
    refine Lib.hid ?_
    refine nm_list (fun V5 hnm => ?_)
    have HF1 := Lib.hid (show w.heap.size + 2 ≤ w4.heap.size by have := O2.out.size; have := HZ.out; omega)
    have S3 := Lib.hid (show Only (Box w 2) w4 V5 from (by rw [hnm]; exact (Only.refl (Box w 2) w4).alloc _))
    have O3 := Lib.hid (O2.out.trans S3.out)
    have R0_3 := Lib.hid (row_nm hnm (alloc_old (R0_2.out)))
    have R1_3 := Lib.hid (row_nm hnm (alloc_old (R1_2.out)))
    have Rw4_heap_size_3 := Lib.hid (show V5.heap[w4.heap.size]? = some (.cells #[.int .i64 x.kind, .int .i64 x.cmd.kind, .bool x.cmd.loc, .int .i64 x.cmd.id.index, .int .i64 x.cmd.id.gen, .int .i64 x.cmd.comp, .slice A1 x.cmd.data.length c1, .int .i64 x.policy.room, .int .i64 x.policy.frames, .int .i64 x.n, .slice A2 x.fates.length c2, .slice A3 x.fuses.length c3] 35 (0, 0)) from (by rw [hnm]; exact alloc_at rfl))
    have Vc_3 := Lib.hid (val_only Vc_9.out S3.out)
    have Vx_3 := Lib.hid (val_only HV4.out S3.out)
    clear hnm
    have R5 := Lib.hid (show Rdr (fun b => In Q w 2 b ∧ b < B) B V5 c r9 from R4.out.keep (S3.out.block B R4.out.lt (by unfold Box; have := ZB.out; have := HZ.out; omega)) (fun b hb hl => ⟨hb, S3.out.block b hl (fun hbx => hb.1.no hbx)⟩) R4.out.1)
    have q0_0 := rw5 R0_3.out
    have q1_0 := rw12 R1_3.out
    have qn0_0 := rw12 Rw4_heap_size_3.out
    have q6 : World.cell? V5 ⟨B, 6, none⟩ = some (.bool true) := by have := R5.out.c6; rwa [G.out] at this
    go_wp2_with fail
    clear q6
    clear q0_0 q1_0 qn0_0
    refine nm_post (fun V10 hnm => ?_)
    have S4 := Lib.hid (show Only (Box w 2) V5 V10 from (by rw [hnm]; exact ((((((((((((Only.refl (Box w 2) V5).put ⟨by omega, by omega⟩).put ⟨by omega, by omega⟩).put ⟨by omega, by omega⟩).put ⟨by omega, by omega⟩).put ⟨by omega, by omega⟩).put ⟨by omega, by omega⟩).put ⟨by omega, by omega⟩).put ⟨by omega, by omega⟩).put ⟨by omega, by omega⟩).put ⟨by omega, by omega⟩).put ⟨by omega, by omega⟩).put ⟨by omega, by omega⟩))
    have O4 := Lib.hid (O3.out.trans S4.out)
    have R0_4 := Lib.hid (row_nm hnm (row_other (row_other (row_other (row_other (row_other (row_other (row_other (row_other (row_other (row_other (row_other (row_other (R0_3.out) (by omega)) (by omega)) (by omega)) (by omega)) (by omega)) (by omega)) (by omega)) (by omega)) (by omega)) (by omega)) (by omega)) (by omega)))
    have R1_4 := Lib.hid (show V10.heap[w.heap.size + 1]? = some (.cells #[.int .i64 0, .int .i64 0, .bool false, .int .i64 0, .int .i64 0, .int .i64 0, .slice none 0 0, .int .i64 0, .int .i64 0, .int .i64 0, .slice none 0 0, .slice none 0 0] 35 (0, 0)) from (by rw [hnm]; exact heap_setList (heap_setList (heap_setList (heap_setList (heap_setList (heap_setList (heap_setList (heap_setList (heap_setList (heap_setList (heap_setList (heap_setList (R1_3.out))))))))))))))
    have Rw4_heap_size_4 := Lib.hid (row_nm hnm (row_other (row_other (row_other (row_other (row_other (row_other (row_other (row_other (row_other (row_other (row_other (row_other (Rw4_heap_size_3.out) (by have := HF1.out; omega)) (by have := HF1.out; omega)) (by have := HF1.out; omega)) (by have := HF1.out; omega)) (by have := HF1.out; omega)) (by have := HF1.out; omega)) (by have := HF1.out; omega)) (by have := HF1.out; omega)) (by have := HF1.out; omega)) (by have := HF1.out; omega)) (by have := HF1.out; omega)) (by have := HF1.out; omega)))
    have Vc_4 := Lib.hid (val_only Vc_3.out S4.out)
    have Vx_4 := Lib.hid (val_only Vx_3.out S4.out)
    clear hnm
    have q1_0 := cl12 R1_4.out
    refine ⟨rfl, .tuple #[.agg #[.int .i64 0, .int .i64 0, .bool false, .int .i64 0, .int .i64 0, .int .i64 0, .slice none 0 0, .int .i64 0, .int .i64 0, .int .i64 0, .slice none 0 0, .slice none 0 0], .int .i64 11], by simp only [results, hfr]; go_simp, ?_⟩
    clear q1_0
    exact ⟨_, rfl, act_bare (x := zeroA) (by decide) rfl in0 in0 in0 rfl rfl, Only.fin HB0.out O4.out⟩
  · have G := Lib.hid g
    clear g
    obtain ⟨W0, hW0⟩ : ∃ W, ((w.alloc (.cells #[.int .i64 c.log, .int .i64 c.pages, .int .i64 c.entities, .int .i64 c.gens, .slice A c.comps.length cap] 24)).alloc (.cells #[.int .i64 0, .int .i64 0, .bool false, .int .i64 0, .int .i64 0, .int .i64 0, .slice none 0 0, .int .i64 0, .int .i64 0, .int .i64 0, .slice none 0 0, .slice none 0 0] 35)) = W := ⟨_, rfl⟩
    have hz0 : W0.heap.size = w.heap.size + 2 := by rw [← hW0]; simp
    have hb0 : Below w.heap.size w W0 := by rw [← hW0]; exact ((Below.refl _ _).alloc (Nat.le_refl _) _).alloc (by first | (simp; done) | (simp; omega)) _
    have HZ := Lib.hid hz0
    have HB0 := Lib.hid hb0
    have R0_0 := Lib.hid (show W0.heap[w.heap.size]? = some (.cells #[.int .i64 c.log, .int .i64 c.pages, .int .i64 c.entities, .int .i64 c.gens, .slice A c.comps.length cap] 24 (0, 0)) by rw [← hW0]; exact alloc_old (alloc_at rfl))
    have R1_0 := Lib.hid (show W0.heap[w.heap.size + 1]? = some (.cells #[.int .i64 0, .int .i64 0, .bool false, .int .i64 0, .int .i64 0, .int .i64 0, .slice none 0 0, .int .i64 0, .int .i64 0, .int .i64 0, .slice none 0 0, .slice none 0 0] 35 (0, 0)) by rw [← hW0]; exact alloc_at (by simp))
    have O0 := Lib.hid (Only.refl (Box w 2) W0)
    have Vc_0 := Lib.hid (show rConf.val (In Q w 2) W0 (.agg #[.int .i64 c.log, .int .i64 c.pages, .int .i64 c.entities, .int .i64 c.gens, .slice A c.comps.length cap]) c from val_in HX.out hb0)
    clear hz0 hb0
    have q0_0 := rw5 R0_0.out
    have q1_0 := rw12 R1_0.out
    go_enter Tryz.func10, Tryz.ntmps10
    go_wp2_with fail
    try rw [hW0]
    clear hW0
    try go_wp2_with fail
    clear q0_0 q1_0
    refine wp_region_held_drew (S := fun W => Below W0.heap.size W0 W) (by kernel_rfl) ((Below.refl _ _).drew) (fun s0 => ?_)
    obtain ⟨v1, hv0⟩ : ∃ V, V = W0.drew := ⟨_, rfl⟩
    rw [← hv0] at s0 ⊢
    have t1 : Below W0.heap.size W0 v1 := s0
    clear hv0 s0
    refine tkH (i := 0) (v := .agg #[.int .i64 c.log, .int .i64 c.pages, .int .i64 c.entities, .int .i64 c.gens, .slice A c.comps.length cap]) rfl (Or.inl ⟨by rfl, fun w' h => by have e := row_call (h : Below W0.heap.size W0 w') R0_0.out; have e0 := cell_row e 0; have e1 := cell_row e 1; have e2 := cell_row e 2; have e3 := cell_row e 3; have e4 := cell_row e 4; go_simp⟩) t1 ?_
    go_simp
    refine tkHV (i := 1) (v := .string ⟨s.toArray⟩) rfl t1 ?_
    go_simp
    refine wpAnyH_all (rs := [2]) (by kernel_rfl) (by simp) ?_
    intro i hi
    obtain rfl : i = 2 := by simpa using hi
    clear hi
    refine wpOp_step rfl (fun K hK => ?_)
    go_simp
    refine (split32_calls s HS.out (HT.out.call ((Only.fin HB0.out O0.out).trans (Below.mono t1 (Only.fin HB0.out O0.out).size)))).mono ?_
    rintro e v2 ⟨v9, rfl, hv, hb⟩
    obtain ⟨AW, cW, rfl, hsw⟩ := Rep.val_sl hv
    have HSW := Lib.hid hsw
    have ZS := Lib.hid (And.intro (Below.size t1) (Below.size hb))
    clear hv hsw
    have t2 : Below W0.heap.size W0 v2 := Below.trans t1 (hb.mono (Below.size t1))
    refine hK _ _ ⟨t2, ?_⟩
    clear hb
    clear hK K
    refine tkHV (i := 3) (v := .agg #[.int .i64 c.log, .int .i64 c.pages, .int .i64 c.entities, .int .i64 c.gens, .slice A c.comps.length cap, .slice AW (splitC 32 s).length cW, .bool false]) rfl t2 ?_
    go_simp
    refine wpAnyH_all (rs := [4]) (by kernel_rfl) (by simp) ?_
    intro i hi
    obtain rfl : i = 4 := by simpa using hi
    clear hi
    refine wpOp_step rfl (fun K hK => ?_)
    go_simp
    obtain ⟨B, hBdef⟩ : ∃ B, B = v2.heap.size := ⟨_, rfl⟩
    have BV := Lib.hid (show rConf.val (fun b => In Q w 2 b ∧ b < B) v2 (.agg #[.int .i64 c.log, .int .i64 c.pages, .int .i64 c.entities, .int .i64 c.gens, .slice A c.comps.length cap]) c from Rep.val_keep (w := v2) (fun b hb hl => ⟨⟨hb, by rw [hBdef]; exact hl.lt⟩, rfl⟩) (val_only Vc_0.out (Only.of_below t2 : Only (Box w 2) W0 v2)))
    have BW := Lib.hid (show Rep.text.Sl (fun b => In Q w 2 b ∧ b < B) v2 AW cW (splitC 32 s) from HSW.out.keep (fun b hb hl => ⟨⟨.inr (by have := ZS.out.1; have := HZ.out; omega), by rw [hBdef]; exact hl.lt⟩, rfl⟩))
    go_simp
    rw [← hBdef]
    refine hK _ _ ⟨Below.alloc t2 (Below.size t2) _, ?_⟩
    clear hK K
    refine nm_any (fun v3 hnm => ?_)
    have t3 : Below W0.heap.size W0 v3 := by rw [hnm]; exact Below.alloc t2 (Below.size t2) _
    have HRD := Lib.hid (show Rdr (fun b => In Q w 2 b ∧ b < B) B v3 c ⟨splitC 32 s, false⟩ from ⟨fun b hb => Nat.ne_of_lt hb.2, A, cap, AW, cW, by rw [hnm, hBdef]; exact alloc_at rfl, Rep.val_keep (fun b hb _ => ⟨hb, by rw [hnm]; exact Below.heap_alloc _ _ _ (by rw [← hBdef]; exact hb.2)⟩) BV.out, BW.out.keep (fun b hb _ => ⟨hb, by rw [hnm]; exact Below.heap_alloc _ _ _ (by rw [← hBdef]; exact hb.2)⟩), HW3.out⟩)
    have ZB := Lib.hid (show B < v3.heap.size ∧ W0.heap.size ≤ B from ⟨HRD.out.lt, by rw [hBdef]; exact Below.size t2⟩)
    clear hnm hBdef
    refine tkHV (i := 5) (v := .pointer (some ⟨B, 0, none⟩)) rfl t3 ?_
    go_simp
    refine wpAnyH_done (by kernel_rfl) ?_ _
    have S1 := Lib.hid (show Only (Box w 2) W0 v3 from Only.of_below t3)
    have O1 := Lib.hid (O0.out.trans S1.out)
    have R0_1 := Lib.hid (row_call t3 R0_0.out)
    have R1_1 := Lib.hid (row_call t3 R1_0.out)
    have Vc_1 := Lib.hid (val_only Vc_0.out S1.out)
    go_wp2_with fail
    have T3 := Lib.hid (HT.out.call (Only.fin HB0.out O1.out))
    refine (cact_calls HRD.out T3.out (by have := ZB.out.2; have := T3.out.big; have := HZ.out; have := HT.out.big; omega) (fun b hb => Nat.lt_trans hb.2 ZB.out.1) HW2.out).mono ?_
    rw [HXE.out, HRE.out]
    rintro e w4 ⟨v4, rfl, hv4, hr4, o4⟩
    have HI := Lib.hid (act_in hv4)
    obtain ⟨A1, c1, A2, c2, A3, c3, rfl, f0, f1, f2, f3, f4, s1, f5, f6, f7, s2, s3⟩ := rAct_val hv4
    have HV4 := Lib.hid (show rAct.val (In (fun _ => False) w 2) w4 _ x from Rep.val_mono (fun b hb _ => .inr (by have := (Only.fin HB0.out O1.out).size; have := ZB.out; have := HZ.out; omega)) hv4)
    have R4 := Lib.hid hr4
    have SM := Lib.hid (show ActSmall x from ⟨HI.out, HAF.out.1, HAF.out.2.1, HAF.out.2.2⟩)
    clear f0 f1 f2 f3 f4 s1 f5 f6 f7 s2 s3 hv4 hr4
    have O2 := Lib.hid (only_ovr O1.out o4 (show ∀ b, b = B → W0.heap.size ≤ b from fun b e => by rw [e]; exact ZB.out.2))
    have R0_2 := Lib.hid (row_only o4 R0_1.out (fun e => by have := (show ∀ b, b = B → W0.heap.size ≤ b from fun b e => by rw [e]; exact ZB.out.2) _ e; have := HZ.out; omega))
    have R1_2 := Lib.hid (row_only o4 R1_1.out (fun e => by have := (show ∀ b, b = B → W0.heap.size ≤ b from fun b e => by rw [e]; exact ZB.out.2) _ e; have := HZ.out; omega))
    clear o4
    have Vc_9 := Lib.hid (val_only Vc_0.out O2.out)
    go_wp2_with (with_reducible refine stopNil 15 rfl ?_)
    refine Lib.hid ?_
    refine nm_list (fun V5 hnm => ?_)
    have HF1 := Lib.hid (show w.heap.size + 2 ≤ w4.heap.size by have := O2.out.size; have := HZ.out; omega)
    have S3 := Lib.hid (show Only (Box w 2) w4 V5 from (by rw [hnm]; exact (Only.refl (Box w 2) w4).alloc _))
    have O3 := Lib.hid (O2.out.trans S3.out)
    have R0_3 := Lib.hid (row_nm hnm (alloc_old (R0_2.out)))
    have R1_3 := Lib.hid (row_nm hnm (alloc_old (R1_2.out)))
    have Rw4_heap_size_3 := Lib.hid (show V5.heap[w4.heap.size]? = some (.cells #[.int .i64 x.kind, .int .i64 x.cmd.kind, .bool x.cmd.loc, .int .i64 x.cmd.id.index, .int .i64 x.cmd.id.gen, .int .i64 x.cmd.comp, .slice A1 x.cmd.data.length c1, .int .i64 x.policy.room, .int .i64 x.policy.frames, .int .i64 x.n, .slice A2 x.fates.length c2, .slice A3 x.fuses.length c3] 35 (0, 0)) from (by rw [hnm]; exact alloc_at rfl))
    have Vc_3 := Lib.hid (val_only Vc_9.out S3.out)
    have Vx_3 := Lib.hid (val_only HV4.out S3.out)
    clear hnm
    have R5 := Lib.hid (show Rdr (fun b => In Q w 2 b ∧ b < B) B V5 c r9 from R4.out.keep (S3.out.block B R4.out.lt (by unfold Box; have := ZB.out; have := HZ.out; omega)) (fun b hb hl => ⟨hb, S3.out.block b hl (fun hbx => hb.1.no hbx)⟩) R4.out.1)
    have q0_0 := rw5 R0_3.out
    have q1_0 := rw12 R1_3.out
    have qn0_0 := rw12 Rw4_heap_size_3.out
    have q6 : World.cell? V5 ⟨B, 6, none⟩ = some (.bool false) := by have := R5.out.c6; rwa [G.out.1] at this
    go_wp2_with fail
    clear q6
    clear q0_0 q1_0 qn0_0
    refine (check_calls Vc_3.out).mono ?_
    rintro e w6 ⟨rfl, hb⟩
    have S4 := Lib.hid (show Only (Box w 2) V5 w6 from Only.of_below hb)
    have O4 := Lib.hid (O3.out.trans S4.out)
    have R0_4 := Lib.hid (row_call hb R0_3.out)
    have R1_4 := Lib.hid (row_call hb R1_3.out)
    have Rw4_heap_size_4 := Lib.hid (row_call hb Rw4_heap_size_3.out)
    have Vc_4 := Lib.hid (val_only Vc_3.out S4.out)
    have Vx_4 := Lib.hid (val_only Vx_3.out S4.out)
    clear hb
    rw [G.out.2]
    have q0_0 := rw5 R0_4.out
    have q1_0 := rw12 R1_4.out
    have qn0_0 := rw12 Rw4_heap_size_4.out
    go_wp2_with fail
    clear q0_0 q1_0 qn0_0
    refine nm_post (fun V10 hnm => ?_)
    have S5 := Lib.hid (show Only (Box w 2) w6 V10 from (by rw [hnm]; exact ((((((((((((Only.refl (Box w 2) w6).put ⟨by omega, by omega⟩).put ⟨by omega, by omega⟩).put ⟨by omega, by omega⟩).put ⟨by omega, by omega⟩).put ⟨by omega, by omega⟩).put ⟨by omega, by omega⟩).put ⟨by omega, by omega⟩).put ⟨by omega, by omega⟩).put ⟨by omega, by omega⟩).put ⟨by omega, by omega⟩).put ⟨by omega, by omega⟩).put ⟨by omega, by omega⟩))
    have O5 := Lib.hid (O4.out.trans S5.out)
    have R0_5 := Lib.hid (row_nm hnm (row_other (row_other (row_other (row_other (row_other (row_other (row_other (row_other (row_other (row_other (row_other (row_other (R0_4.out) (by omega)) (by omega)) (by omega)) (by omega)) (by omega)) (by omega)) (by omega)) (by omega)) (by omega)) (by omega)) (by omega)) (by omega)))
    have R1_5 := Lib.hid (show V10.heap[w.heap.size + 1]? = some (.cells #[.int .i64 0, .int .i64 0, .bool false, .int .i64 0, .int .i64 0, .int .i64 0, .slice none 0 0, .int .i64 0, .int .i64 0, .int .i64 0, .slice none 0 0, .slice none 0 0] 35 (0, 0)) from (by rw [hnm]; exact heap_setList (heap_setList (heap_setList (heap_setList (heap_setList (heap_setList (heap_setList (heap_setList (heap_setList (heap_setList (heap_setList (heap_setList (R1_4.out))))))))))))))
    have Rw4_heap_size_5 := Lib.hid (row_nm hnm (row_other (row_other (row_other (row_other (row_other (row_other (row_other (row_other (row_other (row_other (row_other (row_other (Rw4_heap_size_4.out) (by have := HF1.out; omega)) (by have := HF1.out; omega)) (by have := HF1.out; omega)) (by have := HF1.out; omega)) (by have := HF1.out; omega)) (by have := HF1.out; omega)) (by have := HF1.out; omega)) (by have := HF1.out; omega)) (by have := HF1.out; omega)) (by have := HF1.out; omega)) (by have := HF1.out; omega)) (by have := HF1.out; omega)))
    have Vc_5 := Lib.hid (val_only Vc_4.out S5.out)
    have Vx_5 := Lib.hid (val_only Vx_4.out S5.out)
    clear hnm
    have q1_0 := cl12 R1_5.out
    refine ⟨rfl, .tuple #[.agg #[.int .i64 0, .int .i64 0, .bool false, .int .i64 0, .int .i64 0, .int .i64 0, .slice none 0 0, .int .i64 0, .int .i64 0, .int .i64 0, .slice none 0 0, .slice none 0 0], .int .i64 11], by simp only [results, hfr]; go_simp, ?_⟩
    clear q1_0
    exact ⟨_, rfl, act_bare (x := zeroA) (by decide) rfl in0 in0 in0 rfl rfl, Only.fin HB0.out O5.out⟩
  · have G := Lib.hid g
    clear g
    obtain ⟨W0, hW0⟩ : ∃ W, ((w.alloc (.cells #[.int .i64 c.log, .int .i64 c.pages, .int .i64 c.entities, .int .i64 c.gens, .slice A c.comps.length cap] 24)).alloc (.cells #[.int .i64 0, .int .i64 0, .bool false, .int .i64 0, .int .i64 0, .int .i64 0, .slice none 0 0, .int .i64 0, .int .i64 0, .int .i64 0, .slice none 0 0, .slice none 0 0] 35)) = W := ⟨_, rfl⟩
    have hz0 : W0.heap.size = w.heap.size + 2 := by rw [← hW0]; simp
    have hb0 : Below w.heap.size w W0 := by rw [← hW0]; exact ((Below.refl _ _).alloc (Nat.le_refl _) _).alloc (by first | (simp; done) | (simp; omega)) _
    have HZ := Lib.hid hz0
    have HB0 := Lib.hid hb0
    have R0_0 := Lib.hid (show W0.heap[w.heap.size]? = some (.cells #[.int .i64 c.log, .int .i64 c.pages, .int .i64 c.entities, .int .i64 c.gens, .slice A c.comps.length cap] 24 (0, 0)) by rw [← hW0]; exact alloc_old (alloc_at rfl))
    have R1_0 := Lib.hid (show W0.heap[w.heap.size + 1]? = some (.cells #[.int .i64 0, .int .i64 0, .bool false, .int .i64 0, .int .i64 0, .int .i64 0, .slice none 0 0, .int .i64 0, .int .i64 0, .int .i64 0, .slice none 0 0, .slice none 0 0] 35 (0, 0)) by rw [← hW0]; exact alloc_at (by simp))
    have O0 := Lib.hid (Only.refl (Box w 2) W0)
    have Vc_0 := Lib.hid (show rConf.val (In Q w 2) W0 (.agg #[.int .i64 c.log, .int .i64 c.pages, .int .i64 c.entities, .int .i64 c.gens, .slice A c.comps.length cap]) c from val_in HX.out hb0)
    clear hz0 hb0
    have q0_0 := rw5 R0_0.out
    have q1_0 := rw12 R1_0.out
    go_enter Tryz.func10, Tryz.ntmps10
    go_wp2_with fail
    try rw [hW0]
    clear hW0
    try go_wp2_with fail
    clear q0_0 q1_0
    refine wp_region_held_drew (S := fun W => Below W0.heap.size W0 W) (by kernel_rfl) ((Below.refl _ _).drew) (fun s0 => ?_)
    obtain ⟨v1, hv0⟩ : ∃ V, V = W0.drew := ⟨_, rfl⟩
    rw [← hv0] at s0 ⊢
    have t1 : Below W0.heap.size W0 v1 := s0
    clear hv0 s0
    refine tkH (i := 0) (v := .agg #[.int .i64 c.log, .int .i64 c.pages, .int .i64 c.entities, .int .i64 c.gens, .slice A c.comps.length cap]) rfl (Or.inl ⟨by rfl, fun w' h => by have e := row_call (h : Below W0.heap.size W0 w') R0_0.out; have e0 := cell_row e 0; have e1 := cell_row e 1; have e2 := cell_row e 2; have e3 := cell_row e 3; have e4 := cell_row e 4; go_simp⟩) t1 ?_
    go_simp
    refine tkHV (i := 1) (v := .string ⟨s.toArray⟩) rfl t1 ?_
    go_simp
    refine wpAnyH_all (rs := [2]) (by kernel_rfl) (by simp) ?_
    intro i hi
    obtain rfl : i = 2 := by simpa using hi
    clear hi
    refine wpOp_step rfl (fun K hK => ?_)
    go_simp
    refine (split32_calls s HS.out (HT.out.call ((Only.fin HB0.out O0.out).trans (Below.mono t1 (Only.fin HB0.out O0.out).size)))).mono ?_
    rintro e v2 ⟨v9, rfl, hv, hb⟩
    obtain ⟨AW, cW, rfl, hsw⟩ := Rep.val_sl hv
    have HSW := Lib.hid hsw
    have ZS := Lib.hid (And.intro (Below.size t1) (Below.size hb))
    clear hv hsw
    have t2 : Below W0.heap.size W0 v2 := Below.trans t1 (hb.mono (Below.size t1))
    refine hK _ _ ⟨t2, ?_⟩
    clear hb
    clear hK K
    refine tkHV (i := 3) (v := .agg #[.int .i64 c.log, .int .i64 c.pages, .int .i64 c.entities, .int .i64 c.gens, .slice A c.comps.length cap, .slice AW (splitC 32 s).length cW, .bool false]) rfl t2 ?_
    go_simp
    refine wpAnyH_all (rs := [4]) (by kernel_rfl) (by simp) ?_
    intro i hi
    obtain rfl : i = 4 := by simpa using hi
    clear hi
    refine wpOp_step rfl (fun K hK => ?_)
    go_simp
    obtain ⟨B, hBdef⟩ : ∃ B, B = v2.heap.size := ⟨_, rfl⟩
    have BV := Lib.hid (show rConf.val (fun b => In Q w 2 b ∧ b < B) v2 (.agg #[.int .i64 c.log, .int .i64 c.pages, .int .i64 c.entities, .int .i64 c.gens, .slice A c.comps.length cap]) c from Rep.val_keep (w := v2) (fun b hb hl => ⟨⟨hb, by rw [hBdef]; exact hl.lt⟩, rfl⟩) (val_only Vc_0.out (Only.of_below t2 : Only (Box w 2) W0 v2)))
    have BW := Lib.hid (show Rep.text.Sl (fun b => In Q w 2 b ∧ b < B) v2 AW cW (splitC 32 s) from HSW.out.keep (fun b hb hl => ⟨⟨.inr (by have := ZS.out.1; have := HZ.out; omega), by rw [hBdef]; exact hl.lt⟩, rfl⟩))
    go_simp
    rw [← hBdef]
    refine hK _ _ ⟨Below.alloc t2 (Below.size t2) _, ?_⟩
    clear hK K
    refine nm_any (fun v3 hnm => ?_)
    have t3 : Below W0.heap.size W0 v3 := by rw [hnm]; exact Below.alloc t2 (Below.size t2) _
    have HRD := Lib.hid (show Rdr (fun b => In Q w 2 b ∧ b < B) B v3 c ⟨splitC 32 s, false⟩ from ⟨fun b hb => Nat.ne_of_lt hb.2, A, cap, AW, cW, by rw [hnm, hBdef]; exact alloc_at rfl, Rep.val_keep (fun b hb _ => ⟨hb, by rw [hnm]; exact Below.heap_alloc _ _ _ (by rw [← hBdef]; exact hb.2)⟩) BV.out, BW.out.keep (fun b hb _ => ⟨hb, by rw [hnm]; exact Below.heap_alloc _ _ _ (by rw [← hBdef]; exact hb.2)⟩), HW3.out⟩)
    have ZB := Lib.hid (show B < v3.heap.size ∧ W0.heap.size ≤ B from ⟨HRD.out.lt, by rw [hBdef]; exact Below.size t2⟩)
    clear hnm hBdef
    refine tkHV (i := 5) (v := .pointer (some ⟨B, 0, none⟩)) rfl t3 ?_
    go_simp
    refine wpAnyH_done (by kernel_rfl) ?_ _
    have S1 := Lib.hid (show Only (Box w 2) W0 v3 from Only.of_below t3)
    have O1 := Lib.hid (O0.out.trans S1.out)
    have R0_1 := Lib.hid (row_call t3 R0_0.out)
    have R1_1 := Lib.hid (row_call t3 R1_0.out)
    have Vc_1 := Lib.hid (val_only Vc_0.out S1.out)
    go_wp2_with fail
    have T3 := Lib.hid (HT.out.call (Only.fin HB0.out O1.out))
    refine (cact_calls HRD.out T3.out (by have := ZB.out.2; have := T3.out.big; have := HZ.out; have := HT.out.big; omega) (fun b hb => Nat.lt_trans hb.2 ZB.out.1) HW2.out).mono ?_
    rw [HXE.out, HRE.out]
    rintro e w4 ⟨v4, rfl, hv4, hr4, o4⟩
    have HI := Lib.hid (act_in hv4)
    obtain ⟨A1, c1, A2, c2, A3, c3, rfl, f0, f1, f2, f3, f4, s1, f5, f6, f7, s2, s3⟩ := rAct_val hv4
    have HV4 := Lib.hid (show rAct.val (In (fun _ => False) w 2) w4 _ x from Rep.val_mono (fun b hb _ => .inr (by have := (Only.fin HB0.out O1.out).size; have := ZB.out; have := HZ.out; omega)) hv4)
    have R4 := Lib.hid hr4
    have SM := Lib.hid (show ActSmall x from ⟨HI.out, HAF.out.1, HAF.out.2.1, HAF.out.2.2⟩)
    clear f0 f1 f2 f3 f4 s1 f5 f6 f7 s2 s3 hv4 hr4
    have O2 := Lib.hid (only_ovr O1.out o4 (show ∀ b, b = B → W0.heap.size ≤ b from fun b e => by rw [e]; exact ZB.out.2))
    have R0_2 := Lib.hid (row_only o4 R0_1.out (fun e => by have := (show ∀ b, b = B → W0.heap.size ≤ b from fun b e => by rw [e]; exact ZB.out.2) _ e; have := HZ.out; omega))
    have R1_2 := Lib.hid (row_only o4 R1_1.out (fun e => by have := (show ∀ b, b = B → W0.heap.size ≤ b from fun b e => by rw [e]; exact ZB.out.2) _ e; have := HZ.out; omega))
    clear o4
    have Vc_9 := Lib.hid (val_only Vc_0.out O2.out)
    go_wp2_with (with_reducible refine stopNil 15 rfl ?_)
    refine Lib.hid ?_
    refine nm_list (fun V5 hnm => ?_)
    have HF1 := Lib.hid (show w.heap.size + 2 ≤ w4.heap.size by have := O2.out.size; have := HZ.out; omega)
    have S3 := Lib.hid (show Only (Box w 2) w4 V5 from (by rw [hnm]; exact (Only.refl (Box w 2) w4).alloc _))
    have O3 := Lib.hid (O2.out.trans S3.out)
    have R0_3 := Lib.hid (row_nm hnm (alloc_old (R0_2.out)))
    have R1_3 := Lib.hid (row_nm hnm (alloc_old (R1_2.out)))
    have Rw4_heap_size_3 := Lib.hid (show V5.heap[w4.heap.size]? = some (.cells #[.int .i64 x.kind, .int .i64 x.cmd.kind, .bool x.cmd.loc, .int .i64 x.cmd.id.index, .int .i64 x.cmd.id.gen, .int .i64 x.cmd.comp, .slice A1 x.cmd.data.length c1, .int .i64 x.policy.room, .int .i64 x.policy.frames, .int .i64 x.n, .slice A2 x.fates.length c2, .slice A3 x.fuses.length c3] 35 (0, 0)) from (by rw [hnm]; exact alloc_at rfl))
    have Vc_3 := Lib.hid (val_only Vc_9.out S3.out)
    have Vx_3 := Lib.hid (val_only HV4.out S3.out)
    clear hnm
    have R5 := Lib.hid (show Rdr (fun b => In Q w 2 b ∧ b < B) B V5 c r9 from R4.out.keep (S3.out.block B R4.out.lt (by unfold Box; have := ZB.out; have := HZ.out; omega)) (fun b hb hl => ⟨hb, S3.out.block b hl (fun hbx => hb.1.no hbx)⟩) R4.out.1)
    have q0_0 := rw5 R0_3.out
    have q1_0 := rw12 R1_3.out
    have qn0_0 := rw12 Rw4_heap_size_3.out
    have q6 : World.cell? V5 ⟨B, 6, none⟩ = some (.bool false) := by have := R5.out.c6; rwa [G.out.1] at this
    go_wp2_with fail
    clear q6
    clear q0_0 q1_0 qn0_0
    refine (check_calls Vc_3.out).mono ?_
    rintro e w6 ⟨rfl, hb⟩
    have S4 := Lib.hid (show Only (Box w 2) V5 w6 from Only.of_below hb)
    have O4 := Lib.hid (O3.out.trans S4.out)
    have R0_4 := Lib.hid (row_call hb R0_3.out)
    have R1_4 := Lib.hid (row_call hb R1_3.out)
    have Rw4_heap_size_4 := Lib.hid (row_call hb Rw4_heap_size_3.out)
    have Vc_4 := Lib.hid (val_only Vc_3.out S4.out)
    have Vx_4 := Lib.hid (val_only Vx_3.out S4.out)
    clear hb
    rw [G.out.2.1]
    have q0_0 := rw5 R0_4.out
    have q1_0 := rw12 R1_4.out
    have qn0_0 := rw12 Rw4_heap_size_4.out
    go_wp2_with fail
    clear q0_0 q1_0 qn0_0
    refine (sright_calls Vx_4.out).mono ?_
    rintro e w7 ⟨rfl, hb⟩
    have S5 := Lib.hid (show Only (Box w 2) w6 w7 from Only.of_below hb)
    have O5 := Lib.hid (O4.out.trans S5.out)
    have R0_5 := Lib.hid (row_call hb R0_4.out)
    have R1_5 := Lib.hid (row_call hb R1_4.out)
    have Rw4_heap_size_5 := Lib.hid (row_call hb Rw4_heap_size_4.out)
    have Vc_5 := Lib.hid (val_only Vc_4.out S5.out)
    have Vx_5 := Lib.hid (val_only Vx_4.out S5.out)
    clear hb
    rw [G.out.2.2]
    have q0_0 := rw5 R0_5.out
    have q1_0 := rw12 R1_5.out
    have qn0_0 := rw12 Rw4_heap_size_5.out
    go_wp2_with fail
    clear q0_0 q1_0 qn0_0
    refine nm_post (fun V10 hnm => ?_)
    have S6 := Lib.hid (show Only (Box w 2) w7 V10 from (by rw [hnm]; exact ((((((((((((Only.refl (Box w 2) w7).put ⟨by omega, by omega⟩).put ⟨by omega, by omega⟩).put ⟨by omega, by omega⟩).put ⟨by omega, by omega⟩).put ⟨by omega, by omega⟩).put ⟨by omega, by omega⟩).put ⟨by omega, by omega⟩).put ⟨by omega, by omega⟩).put ⟨by omega, by omega⟩).put ⟨by omega, by omega⟩).put ⟨by omega, by omega⟩).put ⟨by omega, by omega⟩))
    have O6 := Lib.hid (O5.out.trans S6.out)
    have R0_6 := Lib.hid (row_nm hnm (row_other (row_other (row_other (row_other (row_other (row_other (row_other (row_other (row_other (row_other (row_other (row_other (R0_5.out) (by omega)) (by omega)) (by omega)) (by omega)) (by omega)) (by omega)) (by omega)) (by omega)) (by omega)) (by omega)) (by omega)) (by omega)))
    have R1_6 := Lib.hid (show V10.heap[w.heap.size + 1]? = some (.cells #[.int .i64 0, .int .i64 0, .bool false, .int .i64 0, .int .i64 0, .int .i64 0, .slice none 0 0, .int .i64 0, .int .i64 0, .int .i64 0, .slice none 0 0, .slice none 0 0] 35 (0, 0)) from (by rw [hnm]; exact heap_setList (heap_setList (heap_setList (heap_setList (heap_setList (heap_setList (heap_setList (heap_setList (heap_setList (heap_setList (heap_setList (heap_setList (R1_5.out))))))))))))))
    have Rw4_heap_size_6 := Lib.hid (row_nm hnm (row_other (row_other (row_other (row_other (row_other (row_other (row_other (row_other (row_other (row_other (row_other (row_other (Rw4_heap_size_5.out) (by have := HF1.out; omega)) (by have := HF1.out; omega)) (by have := HF1.out; omega)) (by have := HF1.out; omega)) (by have := HF1.out; omega)) (by have := HF1.out; omega)) (by have := HF1.out; omega)) (by have := HF1.out; omega)) (by have := HF1.out; omega)) (by have := HF1.out; omega)) (by have := HF1.out; omega)) (by have := HF1.out; omega)))
    have Vc_6 := Lib.hid (val_only Vc_5.out S6.out)
    have Vx_6 := Lib.hid (val_only Vx_5.out S6.out)
    clear hnm
    have q1_0 := cl12 R1_6.out
    refine ⟨rfl, .tuple #[.agg #[.int .i64 0, .int .i64 0, .bool false, .int .i64 0, .int .i64 0, .int .i64 0, .slice none 0 0, .int .i64 0, .int .i64 0, .int .i64 0, .slice none 0 0, .slice none 0 0], .int .i64 11], by simp only [results, hfr]; go_simp, ?_⟩
    clear q1_0
    exact ⟨_, rfl, act_bare (x := zeroA) (by decide) rfl in0 in0 in0 rfl rfl, Only.fin HB0.out O6.out⟩
  · have G := Lib.hid g
    clear g
    obtain ⟨W0, hW0⟩ : ∃ W, ((w.alloc (.cells #[.int .i64 c.log, .int .i64 c.pages, .int .i64 c.entities, .int .i64 c.gens, .slice A c.comps.length cap] 24)).alloc (.cells #[.int .i64 0, .int .i64 0, .bool false, .int .i64 0, .int .i64 0, .int .i64 0, .slice none 0 0, .int .i64 0, .int .i64 0, .int .i64 0, .slice none 0 0, .slice none 0 0] 35)) = W := ⟨_, rfl⟩
    have hz0 : W0.heap.size = w.heap.size + 2 := by rw [← hW0]; simp
    have hb0 : Below w.heap.size w W0 := by rw [← hW0]; exact ((Below.refl _ _).alloc (Nat.le_refl _) _).alloc (by first | (simp; done) | (simp; omega)) _
    have HZ := Lib.hid hz0
    have HB0 := Lib.hid hb0
    have R0_0 := Lib.hid (show W0.heap[w.heap.size]? = some (.cells #[.int .i64 c.log, .int .i64 c.pages, .int .i64 c.entities, .int .i64 c.gens, .slice A c.comps.length cap] 24 (0, 0)) by rw [← hW0]; exact alloc_old (alloc_at rfl))
    have R1_0 := Lib.hid (show W0.heap[w.heap.size + 1]? = some (.cells #[.int .i64 0, .int .i64 0, .bool false, .int .i64 0, .int .i64 0, .int .i64 0, .slice none 0 0, .int .i64 0, .int .i64 0, .int .i64 0, .slice none 0 0, .slice none 0 0] 35 (0, 0)) by rw [← hW0]; exact alloc_at (by simp))
    have O0 := Lib.hid (Only.refl (Box w 2) W0)
    have Vc_0 := Lib.hid (show rConf.val (In Q w 2) W0 (.agg #[.int .i64 c.log, .int .i64 c.pages, .int .i64 c.entities, .int .i64 c.gens, .slice A c.comps.length cap]) c from val_in HX.out hb0)
    clear hz0 hb0
    have q0_0 := rw5 R0_0.out
    have q1_0 := rw12 R1_0.out
    go_enter Tryz.func10, Tryz.ntmps10
    go_wp2_with fail
    try rw [hW0]
    clear hW0
    try go_wp2_with fail
    clear q0_0 q1_0
    refine wp_region_held_drew (S := fun W => Below W0.heap.size W0 W) (by kernel_rfl) ((Below.refl _ _).drew) (fun s0 => ?_)
    obtain ⟨v1, hv0⟩ : ∃ V, V = W0.drew := ⟨_, rfl⟩
    rw [← hv0] at s0 ⊢
    have t1 : Below W0.heap.size W0 v1 := s0
    clear hv0 s0
    refine tkH (i := 0) (v := .agg #[.int .i64 c.log, .int .i64 c.pages, .int .i64 c.entities, .int .i64 c.gens, .slice A c.comps.length cap]) rfl (Or.inl ⟨by rfl, fun w' h => by have e := row_call (h : Below W0.heap.size W0 w') R0_0.out; have e0 := cell_row e 0; have e1 := cell_row e 1; have e2 := cell_row e 2; have e3 := cell_row e 3; have e4 := cell_row e 4; go_simp⟩) t1 ?_
    go_simp
    refine tkHV (i := 1) (v := .string ⟨s.toArray⟩) rfl t1 ?_
    go_simp
    refine wpAnyH_all (rs := [2]) (by kernel_rfl) (by simp) ?_
    intro i hi
    obtain rfl : i = 2 := by simpa using hi
    clear hi
    refine wpOp_step rfl (fun K hK => ?_)
    go_simp
    refine (split32_calls s HS.out (HT.out.call ((Only.fin HB0.out O0.out).trans (Below.mono t1 (Only.fin HB0.out O0.out).size)))).mono ?_
    rintro e v2 ⟨v9, rfl, hv, hb⟩
    obtain ⟨AW, cW, rfl, hsw⟩ := Rep.val_sl hv
    have HSW := Lib.hid hsw
    have ZS := Lib.hid (And.intro (Below.size t1) (Below.size hb))
    clear hv hsw
    have t2 : Below W0.heap.size W0 v2 := Below.trans t1 (hb.mono (Below.size t1))
    refine hK _ _ ⟨t2, ?_⟩
    clear hb
    clear hK K
    refine tkHV (i := 3) (v := .agg #[.int .i64 c.log, .int .i64 c.pages, .int .i64 c.entities, .int .i64 c.gens, .slice A c.comps.length cap, .slice AW (splitC 32 s).length cW, .bool false]) rfl t2 ?_
    go_simp
    refine wpAnyH_all (rs := [4]) (by kernel_rfl) (by simp) ?_
    intro i hi
    obtain rfl : i = 4 := by simpa using hi
    clear hi
    refine wpOp_step rfl (fun K hK => ?_)
    go_simp
    obtain ⟨B, hBdef⟩ : ∃ B, B = v2.heap.size := ⟨_, rfl⟩
    have BV := Lib.hid (show rConf.val (fun b => In Q w 2 b ∧ b < B) v2 (.agg #[.int .i64 c.log, .int .i64 c.pages, .int .i64 c.entities, .int .i64 c.gens, .slice A c.comps.length cap]) c from Rep.val_keep (w := v2) (fun b hb hl => ⟨⟨hb, by rw [hBdef]; exact hl.lt⟩, rfl⟩) (val_only Vc_0.out (Only.of_below t2 : Only (Box w 2) W0 v2)))
    have BW := Lib.hid (show Rep.text.Sl (fun b => In Q w 2 b ∧ b < B) v2 AW cW (splitC 32 s) from HSW.out.keep (fun b hb hl => ⟨⟨.inr (by have := ZS.out.1; have := HZ.out; omega), by rw [hBdef]; exact hl.lt⟩, rfl⟩))
    go_simp
    rw [← hBdef]
    refine hK _ _ ⟨Below.alloc t2 (Below.size t2) _, ?_⟩
    clear hK K
    refine nm_any (fun v3 hnm => ?_)
    have t3 : Below W0.heap.size W0 v3 := by rw [hnm]; exact Below.alloc t2 (Below.size t2) _
    have HRD := Lib.hid (show Rdr (fun b => In Q w 2 b ∧ b < B) B v3 c ⟨splitC 32 s, false⟩ from ⟨fun b hb => Nat.ne_of_lt hb.2, A, cap, AW, cW, by rw [hnm, hBdef]; exact alloc_at rfl, Rep.val_keep (fun b hb _ => ⟨hb, by rw [hnm]; exact Below.heap_alloc _ _ _ (by rw [← hBdef]; exact hb.2)⟩) BV.out, BW.out.keep (fun b hb _ => ⟨hb, by rw [hnm]; exact Below.heap_alloc _ _ _ (by rw [← hBdef]; exact hb.2)⟩), HW3.out⟩)
    have ZB := Lib.hid (show B < v3.heap.size ∧ W0.heap.size ≤ B from ⟨HRD.out.lt, by rw [hBdef]; exact Below.size t2⟩)
    clear hnm hBdef
    refine tkHV (i := 5) (v := .pointer (some ⟨B, 0, none⟩)) rfl t3 ?_
    go_simp
    refine wpAnyH_done (by kernel_rfl) ?_ _
    have S1 := Lib.hid (show Only (Box w 2) W0 v3 from Only.of_below t3)
    have O1 := Lib.hid (O0.out.trans S1.out)
    have R0_1 := Lib.hid (row_call t3 R0_0.out)
    have R1_1 := Lib.hid (row_call t3 R1_0.out)
    have Vc_1 := Lib.hid (val_only Vc_0.out S1.out)
    go_wp2_with fail
    have T3 := Lib.hid (HT.out.call (Only.fin HB0.out O1.out))
    refine (cact_calls HRD.out T3.out (by have := ZB.out.2; have := T3.out.big; have := HZ.out; have := HT.out.big; omega) (fun b hb => Nat.lt_trans hb.2 ZB.out.1) HW2.out).mono ?_
    rw [HXE.out, HRE.out]
    rintro e w4 ⟨v4, rfl, hv4, hr4, o4⟩
    have HI := Lib.hid (act_in hv4)
    obtain ⟨A1, c1, A2, c2, A3, c3, rfl, f0, f1, f2, f3, f4, s1, f5, f6, f7, s2, s3⟩ := rAct_val hv4
    have HV4 := Lib.hid (show rAct.val (In (fun _ => False) w 2) w4 _ x from Rep.val_mono (fun b hb _ => .inr (by have := (Only.fin HB0.out O1.out).size; have := ZB.out; have := HZ.out; omega)) hv4)
    have R4 := Lib.hid hr4
    have SM := Lib.hid (show ActSmall x from ⟨HI.out, HAF.out.1, HAF.out.2.1, HAF.out.2.2⟩)
    clear f0 f1 f2 f3 f4 s1 f5 f6 f7 s2 s3 hv4 hr4
    have O2 := Lib.hid (only_ovr O1.out o4 (show ∀ b, b = B → W0.heap.size ≤ b from fun b e => by rw [e]; exact ZB.out.2))
    have R0_2 := Lib.hid (row_only o4 R0_1.out (fun e => by have := (show ∀ b, b = B → W0.heap.size ≤ b from fun b e => by rw [e]; exact ZB.out.2) _ e; have := HZ.out; omega))
    have R1_2 := Lib.hid (row_only o4 R1_1.out (fun e => by have := (show ∀ b, b = B → W0.heap.size ≤ b from fun b e => by rw [e]; exact ZB.out.2) _ e; have := HZ.out; omega))
    clear o4
    have Vc_9 := Lib.hid (val_only Vc_0.out O2.out)
    go_wp2_with (with_reducible refine stopNil 15 rfl ?_)
    refine Lib.hid ?_
    refine nm_list (fun V5 hnm => ?_)
    have HF1 := Lib.hid (show w.heap.size + 2 ≤ w4.heap.size by have := O2.out.size; have := HZ.out; omega)
    have S3 := Lib.hid (show Only (Box w 2) w4 V5 from (by rw [hnm]; exact (Only.refl (Box w 2) w4).alloc _))
    have O3 := Lib.hid (O2.out.trans S3.out)
    have R0_3 := Lib.hid (row_nm hnm (alloc_old (R0_2.out)))
    have R1_3 := Lib.hid (row_nm hnm (alloc_old (R1_2.out)))
    have Rw4_heap_size_3 := Lib.hid (show V5.heap[w4.heap.size]? = some (.cells #[.int .i64 x.kind, .int .i64 x.cmd.kind, .bool x.cmd.loc, .int .i64 x.cmd.id.index, .int .i64 x.cmd.id.gen, .int .i64 x.cmd.comp, .slice A1 x.cmd.data.length c1, .int .i64 x.policy.room, .int .i64 x.policy.frames, .int .i64 x.n, .slice A2 x.fates.length c2, .slice A3 x.fuses.length c3] 35 (0, 0)) from (by rw [hnm]; exact alloc_at rfl))
    have Vc_3 := Lib.hid (val_only Vc_9.out S3.out)
    have Vx_3 := Lib.hid (val_only HV4.out S3.out)
    clear hnm
    have R5 := Lib.hid (show Rdr (fun b => In Q w 2 b ∧ b < B) B V5 c r9 from R4.out.keep (S3.out.block B R4.out.lt (by unfold Box; have := ZB.out; have := HZ.out; omega)) (fun b hb hl => ⟨hb, S3.out.block b hl (fun hbx => hb.1.no hbx)⟩) R4.out.1)
    have q0_0 := rw5 R0_3.out
    have q1_0 := rw12 R1_3.out
    have qn0_0 := rw12 Rw4_heap_size_3.out
    have q6 : World.cell? V5 ⟨B, 6, none⟩ = some (.bool false) := by have := R5.out.c6; rwa [G.out.1] at this
    go_wp2_with fail
    clear q6
    clear q0_0 q1_0 qn0_0
    refine (check_calls Vc_3.out).mono ?_
    rintro e w6 ⟨rfl, hb⟩
    have S4 := Lib.hid (show Only (Box w 2) V5 w6 from Only.of_below hb)
    have O4 := Lib.hid (O3.out.trans S4.out)
    have R0_4 := Lib.hid (row_call hb R0_3.out)
    have R1_4 := Lib.hid (row_call hb R1_3.out)
    have Rw4_heap_size_4 := Lib.hid (row_call hb Rw4_heap_size_3.out)
    have Vc_4 := Lib.hid (val_only Vc_3.out S4.out)
    have Vx_4 := Lib.hid (val_only Vx_3.out S4.out)
    clear hb
    rw [G.out.2.1]
    have q0_0 := rw5 R0_4.out
    have q1_0 := rw12 R1_4.out
    have qn0_0 := rw12 Rw4_heap_size_4.out
    go_wp2_with fail
    clear q0_0 q1_0 qn0_0
    refine (sright_calls Vx_4.out).mono ?_
    rintro e w7 ⟨rfl, hb⟩
    have S5 := Lib.hid (show Only (Box w 2) w6 w7 from Only.of_below hb)
    have O5 := Lib.hid (O4.out.trans S5.out)
    have R0_5 := Lib.hid (row_call hb R0_4.out)
    have R1_5 := Lib.hid (row_call hb R1_4.out)
    have Rw4_heap_size_5 := Lib.hid (row_call hb Rw4_heap_size_4.out)
    have Vc_5 := Lib.hid (val_only Vc_4.out S5.out)
    have Vx_5 := Lib.hid (val_only Vx_4.out S5.out)
    clear hb
    rw [G.out.2.2.1]
    have q0_0 := rw5 R0_5.out
    have q1_0 := rw12 R1_5.out
    have qn0_0 := rw12 Rw4_heap_size_5.out
    go_wp2_with fail
    clear q0_0 q1_0 qn0_0
    refine (show_calls Vc_5.out Vx_5.out (HT.out.call (Only.fin HB0.out O5.out)) SM.out HM.out).mono ?_
    rintro e w8 ⟨rfl, hb⟩
    have S6 := Lib.hid (show Only (Box w 2) w7 w8 from Only.of_below hb)
    have O6 := Lib.hid (O5.out.trans S6.out)
    have R0_6 := Lib.hid (row_call hb R0_5.out)
    have R1_6 := Lib.hid (row_call hb R1_5.out)
    have Rw4_heap_size_6 := Lib.hid (row_call hb Rw4_heap_size_5.out)
    have Vc_6 := Lib.hid (val_only Vc_5.out S6.out)
    have Vx_6 := Lib.hid (val_only Vx_5.out S6.out)
    clear hb
    obtain ⟨sh, hsh⟩ : ∃ sh, showS c.comps x = sh := ⟨_, rfl⟩
    have hss : (sh == s) = false := by rw [← hsh]; simpa using G.out.2.2.2
    rw [hsh]
    clear hsh
    have q0_0 := rw5 R0_6.out
    have q1_0 := rw12 R1_6.out
    have qn0_0 := rw12 Rw4_heap_size_6.out
    go_wp2_with fail
    clear q0_0 q1_0 qn0_0
    refine nm_post (fun V10 hnm => ?_)
    have S7 := Lib.hid (show Only (Box w 2) w8 V10 from (by rw [hnm]; exact ((((((((((((Only.refl (Box w 2) w8).put ⟨by omega, by omega⟩).put ⟨by omega, by omega⟩).put ⟨by omega, by omega⟩).put ⟨by omega, by omega⟩).put ⟨by omega, by omega⟩).put ⟨by omega, by omega⟩).put ⟨by omega, by omega⟩).put ⟨by omega, by omega⟩).put ⟨by omega, by omega⟩).put ⟨by omega, by omega⟩).put ⟨by omega, by omega⟩).put ⟨by omega, by omega⟩))
    have O7 := Lib.hid (O6.out.trans S7.out)
    have R0_7 := Lib.hid (row_nm hnm (row_other (row_other (row_other (row_other (row_other (row_other (row_other (row_other (row_other (row_other (row_other (row_other (R0_6.out) (by omega)) (by omega)) (by omega)) (by omega)) (by omega)) (by omega)) (by omega)) (by omega)) (by omega)) (by omega)) (by omega)) (by omega)))
    have R1_7 := Lib.hid (show V10.heap[w.heap.size + 1]? = some (.cells #[.int .i64 0, .int .i64 0, .bool false, .int .i64 0, .int .i64 0, .int .i64 0, .slice none 0 0, .int .i64 0, .int .i64 0, .int .i64 0, .slice none 0 0, .slice none 0 0] 35 (0, 0)) from (by rw [hnm]; exact heap_setList (heap_setList (heap_setList (heap_setList (heap_setList (heap_setList (heap_setList (heap_setList (heap_setList (heap_setList (heap_setList (heap_setList (R1_6.out))))))))))))))
    have Rw4_heap_size_7 := Lib.hid (row_nm hnm (row_other (row_other (row_other (row_other (row_other (row_other (row_other (row_other (row_other (row_other (row_other (row_other (Rw4_heap_size_6.out) (by have := HF1.out; omega)) (by have := HF1.out; omega)) (by have := HF1.out; omega)) (by have := HF1.out; omega)) (by have := HF1.out; omega)) (by have := HF1.out; omega)) (by have := HF1.out; omega)) (by have := HF1.out; omega)) (by have := HF1.out; omega)) (by have := HF1.out; omega)) (by have := HF1.out; omega)) (by have := HF1.out; omega)))
    have Vc_7 := Lib.hid (val_only Vc_6.out S7.out)
    have Vx_7 := Lib.hid (val_only Vx_6.out S7.out)
    clear hnm
    have q1_0 := cl12 R1_7.out
    refine ⟨rfl, .tuple #[.agg #[.int .i64 0, .int .i64 0, .bool false, .int .i64 0, .int .i64 0, .int .i64 0, .slice none 0 0, .int .i64 0, .int .i64 0, .int .i64 0, .slice none 0 0, .slice none 0 0], .int .i64 11], by simp only [results, hfr]; go_simp, ?_⟩
    clear q1_0
    exact ⟨_, rfl, act_bare (x := zeroA) (by decide) rfl in0 in0 in0 rfl rfl, Only.fin HB0.out O7.out⟩
end Go.Proofs.YtejibngkeaamkaaGreatDoor
namespace Go.Proofs.YtejibngkeaamkaaGreatDoor
open Go.RowKit

def liveC : DConf := ⟨2, 4, 1, 1, [⟨[112, 111, 115], 0⟩]⟩
def liveA : DAct := ⟨0, ⟨2, true, ⟨0, 0⟩, 0, [10, 255]⟩, ⟨0, 0⟩, 0, [], []⟩
theorem itoa0 : Lib.itoa 0 = [48] := by
  unfold Lib.itoa
  rw [if_neg (by decide), Lib.decDigits]
  simp
theorem live_line : lineS liveC [115, 101, 116, 32, 36, 48, 32, 112, 111, 115, 32, 48, 97, 102, 102] = some liveA := by
  have h := line_show (c := liveC) (x := liveA) (by decide) ⟨⟨in0, in0, in0⟩, in0, in0, in0, fun f h => absurd h (by simp [liveA]), fun n h => absurd h (by simp [liveA])⟩ (by decide)
  have e : showS liveC.comps liveA = [115, 101, 116, 32, 36, 48, 32, 112, 111, 115, 32, 48, 97, 102, 102] := by
    have e1 : wordsS liveC.comps liveA = [wSet, [36, 48], [112, 111, 115], [48, 97, 102, 102]] := by
      have e2 : whomS liveA.cmd = [36, 48] := by unfold whomS; rw [show liveA.cmd.loc = true from rfl, show liveA.cmd.id.index = 0 from rfl, itoa0]; rfl
      have e3 : partS liveC.comps liveA.cmd.comp = [112, 111, 115] := by decide
      have e4 : hexS liveA.cmd.data = [48, 97, 102, 102] := by decide
      unfold wordsS commandS
      rw [e2, e3, e4]
      rfl
    unfold showS
    rw [if_pos (by decide), e1]
    decide
  rw [e] at h
  rw [h]
  rfl

/-- law39.code -/
theorem code39_calls (e : Int) (w : World) : Calls Tryz.prog 13 #[.int .i64 e] w fun en w' => en = .returned (.int .i64 e) ∧ w' = w := by
  go_enter Tryz.func13, Tryz.ntmps13
  go_wp2_with fail
  go_ret
  exact ⟨rfl, rfl⟩

set_option maxRecDepth 100000 in
set_option maxHeartbeats 2000000 in
/-- law39.live -/
theorem live39_calls {w : World} (ht : Tabs w) : Calls Tryz.prog 7 #[] w fun e w' => e = .returned (.bool true) ∧ Below w.heap.size w w' := by
  have HT := Lib.hid ht
  obtain ⟨W1, hW1⟩ : ∃ W1, w.alloc (.cells #[.string ⟨#[112, 111, 115]⟩, .int .i64 0] 57) = W1 := ⟨_, rfl⟩
  have hb1 : Below w.heap.size w W1 := by rw [← hW1]; exact (Below.refl _ _).alloc (Nat.le_refl _) _
  have hr1 : W1.heap[w.heap.size]? = some (.cells #[.string ⟨#[112, 111, 115]⟩, .int .i64 0] 57 (0, 0)) := by rw [← hW1]; exact alloc_at rfl
  have HB1 := Lib.hid hb1
  have HC := Lib.hid (show rConf.val (fun _ => True) W1 (.agg #[.int .i64 2, .int .i64 4, .int .i64 1, .int .i64 1, .slice (some ⟨w.heap.size, 0, none⟩) 1 1]) liveC from by
    refine rConf_agg (x := liveC) (by decide) (by decide) (by decide) (by decide) ⟨by decide, by simp [maxLen], [.string ⟨#[112, 111, 115]⟩, .int .i64 0], ?_, fun _ => ⟨w.heap.size, 0, rfl, trivial, ⟨_, _, _, hr1⟩, fun j u hj => ?_⟩⟩
    · exact ⟨_, _, rfl, ⟨[.string ⟨#[112, 111, 115]⟩], [.int .i64 0], rfl, ⟨rfl, by simp [maxLen]⟩, ⟨rfl, by decide⟩⟩, rfl⟩
    · rw [cell_row hr1, Nat.zero_add, ← hj]
      simp)
  clear hb1 hr1 ht
  go_enter Tryz.func7, Tryz.ntmps7
  go_wp2_with fail
  try rw [hW1]
  clear hW1
  refine (line_calls (s := [115, 101, 116, 32, 36, 48, 32, 112, 111, 115, 32, 48, 97, 102, 102]) HC.out (by decide) (by decide) (HT.out.call HB1.out) live_line).mono ?_
  rintro e w2 ⟨u, rfl, hu, hb2⟩
  obtain ⟨A1, c1, A2, c2, A3, c3, rfl, f0, f1, f2, f3, f4, s1, f5, f6, f7, s2, s3⟩ := rAct_val hu
  have HS := Lib.hid s1.val
  have HB2 := Lib.hid (HB1.out.trans (hb2.mono HB1.out.size))
  clear hu f0 f1 f2 f3 f4 s1 f5 f6 f7 s2 s3 hb2
  unfold liveA at HS ⊢
  dsimp only at HS ⊢
  go_wp2_with fail
  refine nm_calls (fun w3 hnm => ?_)
  have R3 := Lib.hid (show w3.heap[w2.heap.size]? = some (.cells #[.int .i64 0, .int .i64 2, .bool true, .int .i64 0, .int .i64 0, .int .i64 0, .slice A1 2 c1, .int .i64 0, .int .i64 0, .int .i64 0, .slice A2 0 c2, .slice A3 0 c3] 35 (0, 0)) by rw [hnm]; exact alloc_at rfl)
  have B3 := Lib.hid (show Below w2.heap.size w2 w3 by rw [hnm]; exact (Below.refl _ _).alloc (Nat.le_refl _) _)
  clear hnm
  refine (code39_calls 0 w3).mono ?_
  rintro e w4 ⟨rfl, hw4⟩
  obtain rfl := hw4.symm
  have q0 : World.cell? w3 ⟨w2.heap.size, 1, none⟩ = some (.int .i64 2) := cell_row R3.out 1
  have q1 : World.cell? w3 ⟨w2.heap.size, 2, none⟩ = some (.bool true) := cell_row R3.out 2
  have q2 : World.cell? w3 ⟨w2.heap.size, 5, none⟩ = some (.int .i64 0) := cell_row R3.out 5
  have q3 : World.cell? w3 ⟨w2.heap.size, 6, none⟩ = some (.slice A1 2 c1) := cell_row R3.out 6
  go_wp2_with fail
  clear q0 q1 q2 q3
  refine nm_calls (fun w5 hnm => ?_)
  have B5 := Lib.hid (show Below w3.heap.size w3 w5 by rw [hnm]; exact (Below.refl _ _).alloc (Nat.le_refl _) _)
  have R5 := Lib.hid (show w5.heap[w3.heap.size]? = some (.cells (u8s [10, 255]) 5 (0, 0)) by rw [hnm]; exact alloc_at rfl)
  clear hnm
  have HS5 := Lib.hid (show Rep.byte.list.val (fun _ => True) w5 (.slice A1 2 c1) [10, 255] from Rep.val_keep (w := w2) (fun b hb hl => ⟨trivial, (B5.out.block b (Nat.lt_of_lt_of_le hl.lt B3.out.size)).trans (B3.out.block b hl.lt)⟩) HS.out)
  refine (sameBytes HS5.out (show Rep.byte.list.val _ w5 _ [10, 255] from Rep.list_val (n := 2) rfl (Nat.le_refl _) (by simp [maxLen]) (row_u8s R5.out))).mono ?_
  rintro e w6 ⟨rfl, rfl⟩
  rw [show decide (([10, 255] : List UInt8) = [10, 255]) = true by decide]
  go_wp2_with fail
  go_ret
  exact ⟨rfl, HB2.out.trans ((B3.out.trans (B5.out.mono B3.out.size)).mono HB2.out.size)⟩
end Go.Proofs.YtejibngkeaamkaaGreatDoor
namespace Go.Proofs.YtejibngkeaamkaaGreatDoor
open Go.RowKit

theorem join_flat {c : UInt8} : ∀ (a : Word) (ws : List Word), Lib.join (a :: ws) [c] = a ++ ws.flatMap fun y => c :: y
  | a, [] => by rw [Lib.join_one]; simp
  | a, y :: ws => by
    have e : Lib.join (a :: y :: ws) [c] = a ++ c :: Lib.join (y :: ws) [c] := by simp [Lib.join, List.intercalate, List.intersperse]
    rw [e, join_flat y ws]
    simp
/-- The fates' words, each behind a space. -/
def fatesT (l : List DFate) : Word := l.flatMap fun f => 32 :: fateS f
def fusesT (l : List Int) : Word := l.flatMap fun n => 32 :: Lib.itoa n
theorem fatesT_take {l : List DFate} {k : Nat} {y : DFate} (h : l[k]? = some y) : fatesT (l.take (k + 1)) = fatesT (l.take k) ++ 32 :: fateS y := by
  unfold fatesT
  rw [List.take_add_one, h, List.flatMap_append]
  simp
theorem fusesT_take {l : List Int} {k : Nat} {y : Int} (h : l[k]? = some y) : fusesT (l.take (k + 1)) = fusesT (l.take k) ++ 32 :: Lib.itoa y := by
  unfold fusesT
  rw [List.take_add_one, h, List.flatMap_append]
  simp
theorem fatesT_len : ∀ {l : List DFate}, (∀ f ∈ l, In64 f.kept ∧ In64 f.torn) → (fatesT l).length ≤ 51 * l.length
  | [], _ => by simp [fatesT]
  | f :: l, h => by
    have h1 := fate_len (h f (by simp))
    have h2 := fatesT_len (l := l) fun g hg => h g (by simp [hg])
    have e : fatesT (f :: l) = 32 :: fateS f ++ fatesT l := by simp [fatesT]
    rw [e, List.length_append, List.length_cons, List.length_cons]
    omega
theorem fusesT_len : ∀ {l : List Int}, (∀ n ∈ l, In64 n) → (fusesT l).length ≤ 21 * l.length
  | [], _ => by simp [fusesT]
  | n :: l, h => by
    have h1 := (itoa_len (h n (by simp))).1
    have h2 := fusesT_len (l := l) fun g hg => h g (by simp [hg])
    have e : fusesT (n :: l) = 32 :: Lib.itoa n ++ fusesT l := by simp [fusesT]
    rw [e, List.length_append, List.length_cons, List.length_cons]
    omega
theorem show_not {l : List DComp} {x : DAct} (hr : rightA x = false) : showS l x = [63] := by unfold showS; rw [hr]; rfl
theorem show_crash {l : List DComp} {x : DAct} (hr : rightA x = true) (hk : x.kind = 6) : showS l x = wCrash ++ fatesT x.fates ++ (if x.fuses = [] then [] else [32, 47]) ++ fusesT x.fuses := by
  unfold showS wordsS
  rw [hr, hk]
  simp only [show ¬ (6 : Int) = 0 by decide, show ¬ (6 : Int) = 1 by decide, show ¬ (6 : Int) = 2 by decide, show ¬ (6 : Int) = 3 by decide, show ¬ (6 : Int) = 4 by decide, show ¬ (6 : Int) = 5 by decide, if_false, if_true]
  unfold crashS
  rw [join_flat, List.flatMap_append, List.flatMap_append, List.flatMap_map, List.flatMap_map]
  unfold fatesT fusesT
  by_cases h : x.fuses = [] <;> simp [h]
theorem right_kind {x : DAct} (hr : rightA x = true) : 0 ≤ x.kind ∧ x.kind ≤ 6 ∧ (x.kind = 0 → x.cmd.kind = 0 ∨ x.cmd.kind = 1 ∨ x.cmd.kind = 2 ∨ x.cmd.kind = 3) := by
  unfold rightA at hr
  simp only [Bool.and_eq_true, decide_eq_true_eq, Bool.or_eq_true, Bool.not_eq_true', decide_eq_false_iff_not] at hr
  obtain ⟨⟨⟨⟨h0, h6⟩, hc⟩, _⟩, _⟩ := hr
  refine ⟨h0, h6, fun h => ?_⟩
  rcases hc with hc | hc
  · exact absurd h hc
  · have hk : knownB x.cmd.kind = true := by
      unfold checkCmd at hc
      split at hc
      · assumption
      · omega
    unfold knownB at hk
    simp only [Bool.and_eq_true, decide_eq_true_eq] at hk
    omega
theorem show_spawn {l : List DComp} {x : DAct} (hr : rightA x = true) (hk : x.kind = 0) (hc : x.cmd.kind = 0) : showS l x = wSpawn := by
  unfold showS wordsS commandS; rw [hr, hk, hc]; rfl
theorem show_despawn {l : List DComp} {x : DAct} (hr : rightA x = true) (hk : x.kind = 0) (hc : x.cmd.kind = 1) : showS l x = [100, 101, 115, 112, 97, 119, 110, 32] ++ whomS x.cmd := by
  unfold showS wordsS commandS; rw [hr, hk, hc]; rw [if_pos rfl, if_pos rfl, if_pos rfl, join_flat]; simp [wDespawn]
theorem show_set {l : List DComp} {x : DAct} (hr : rightA x = true) (hk : x.kind = 0) (hc : x.cmd.kind = 2) : showS l x = [115, 101, 116, 32] ++ whomS x.cmd ++ [32] ++ partS l x.cmd.comp ++ [32] ++ hexS x.cmd.data := by
  unfold showS wordsS commandS; rw [hr, hk, hc]; rw [if_pos rfl, if_pos rfl, if_neg (by decide), if_pos rfl, join_flat]; simp [wSet]
theorem show_remove {l : List DComp} {x : DAct} (hr : rightA x = true) (hk : x.kind = 0) (hc : x.cmd.kind = 3) : showS l x = [114, 101, 109, 111, 118, 101, 32] ++ whomS x.cmd ++ [32] ++ partS l x.cmd.comp := by
  unfold showS wordsS commandS; rw [hr, hk, hc]; rw [if_pos rfl, if_pos rfl, if_neg (by decide), if_neg (by decide), if_pos rfl, join_flat]; simp [wRemove]
theorem show_end {l : List DComp} {x : DAct} (hr : rightA x = true) (hk : x.kind = 1) : showS l x = wEnd := by
  unfold showS wordsS; rw [hr, hk]; rfl
theorem show_sync {l : List DComp} {x : DAct} (hr : rightA x = true) (hk : x.kind = 2) : showS l x = wSync := by
  unfold showS wordsS; rw [hr, hk]; rfl
theorem show_check {l : List DComp} {x : DAct} (hr : rightA x = true) (hk : x.kind = 3) : showS l x = wCheck := by
  unfold showS wordsS; rw [hr, hk]; rfl
theorem show_upkeep {l : List DComp} {x : DAct} (hr : rightA x = true) (hk : x.kind = 4) : showS l x = [117, 112, 107, 101, 101, 112, 32] ++ Lib.itoa x.policy.room ++ [32] ++ Lib.itoa x.policy.frames := by
  unfold showS wordsS; rw [hr, hk]; rw [if_pos rfl, if_neg (by decide), if_neg (by decide), if_neg (by decide), if_neg (by decide), if_pos rfl, join_flat]; simp [wUpkeep]
theorem show_fuse {l : List DComp} {x : DAct} (hr : rightA x = true) (hk : x.kind = 5) : showS l x = [102, 117, 115, 101, 32] ++ Lib.itoa x.n := by
  unfold showS wordsS; rw [hr, hk]; rw [if_pos rfl, if_neg (by decide), if_neg (by decide), if_neg (by decide), if_neg (by decide), if_neg (by decide), if_pos rfl, join_flat]; simp [wFuse]
end Go.Proofs.YtejibngkeaamkaaGreatDoor
namespace Go.Proofs.YtejibngkeaamkaaGreatDoor
open Go.RowKit

set_option maxRecDepth 100000 in
set_option maxHeartbeats 2000000 in
/-- ref39.whom -/
theorem rwhom_calls {Q : Nat → Prop} {w : World} {v : Value} {x : DCmd} (hx : rCmd.val Q w v x) :
    Calls Tryz.prog 26 #[v] w fun e w' => e = .returned (.string ⟨(whomS x).toArray⟩) ∧ Below w.heap.size w w' := by
  obtain ⟨A, c, rfl, f0, f1, f2, f3, hs⟩ := rCmd_val hx
  have HF := Lib.hid (show In64 x.id.index ∧ In64 x.id.gen from ⟨in_wf f1, in_wf f2⟩)
  have hl1 : ((Lib.itoa x.id.index).length : Int) ≤ 20 := by have := (itoa_len HF.out.1).1; omega
  have hl2 : ((Lib.itoa x.id.gen).length : Int) ≤ 20 := by have := (itoa_len HF.out.2).1; omega
  clear hx hs f0 f1 f2 f3
  cases hl : x.loc with
  | true =>
    have HW := Lib.hid (show whomS x = 36 :: Lib.itoa x.id.index by unfold whomS; rw [hl]; rfl)
    clear hl
    obtain ⟨W0, hW0⟩ : ∃ W, (w.alloc (.cells #[.int .i64 x.kind, .bool true, .int .i64 x.id.index, .int .i64 x.id.gen, .int .i64 x.comp, .slice A x.data.length c] 29)) = W := ⟨_, rfl⟩
    have hz0 : W0.heap.size = w.heap.size + 1 := by rw [← hW0]; simp
    have hb0 : Below w.heap.size w W0 := by rw [← hW0]; exact (Below.refl _ _).alloc (Nat.le_refl _) _
    have HZ := Lib.hid hz0
    have HB0 := Lib.hid hb0
    have R0_0 := Lib.hid (show W0.heap[w.heap.size]? = some (.cells #[.int .i64 x.kind, .bool true, .int .i64 x.id.index, .int .i64 x.id.gen, .int .i64 x.comp, .slice A x.data.length c] 29 (0, 0)) by rw [← hW0]; exact alloc_at rfl)
    have O0 := Lib.hid (Only.refl (Box w 1) W0)
    clear hz0 hb0
    have q0_0 := rw6 R0_0.out
    go_enter Tryz.func26, Tryz.ntmps26
    go_wp2_with fail
    try rw [hW0]
    clear hW0
    try go_wp2_with fail
    clear q0_0
    refine (dec_calls HF.out.1 _).mono ?_
    rintro e w1 ⟨rfl, hw⟩
    have hb : Below W0.heap.size W0 w1 := by rw [hw]; exact Below.refl _ _
    clear hw
    have S1 := Lib.hid (show Only (Box w 1) W0 w1 from Only.of_below hb)
    have O1 := Lib.hid (O0.out.trans S1.out)
    have R0_1 := Lib.hid (row_call hb R0_0.out)
    clear hb
    go_wp2_with fail
    go_ret
    exact ⟨congrArg _ (bytes_eq (by rw [HW.out]; simp [ByteArray.data_append])), Only.fin HB0.out O1.out⟩
  | false =>
    have HW := Lib.hid (show whomS x = Lib.itoa x.id.index ++ 46 :: Lib.itoa x.id.gen by unfold whomS; rw [hl]; rfl)
    clear hl
    obtain ⟨W0, hW0⟩ : ∃ W, (w.alloc (.cells #[.int .i64 x.kind, .bool false, .int .i64 x.id.index, .int .i64 x.id.gen, .int .i64 x.comp, .slice A x.data.length c] 29)) = W := ⟨_, rfl⟩
    have hz0 : W0.heap.size = w.heap.size + 1 := by rw [← hW0]; simp
    have hb0 : Below w.heap.size w W0 := by rw [← hW0]; exact (Below.refl _ _).alloc (Nat.le_refl _) _
    have HZ := Lib.hid hz0
    have HB0 := Lib.hid hb0
    have R0_0 := Lib.hid (show W0.heap[w.heap.size]? = some (.cells #[.int .i64 x.kind, .bool false, .int .i64 x.id.index, .int .i64 x.id.gen, .int .i64 x.comp, .slice A x.data.length c] 29 (0, 0)) by rw [← hW0]; exact alloc_at rfl)
    have O0 := Lib.hid (Only.refl (Box w 1) W0)
    clear hz0 hb0
    have q0_0 := rw6 R0_0.out
    go_enter Tryz.func26, Tryz.ntmps26
    go_wp2_with fail
    try rw [hW0]
    clear hW0
    try go_wp2_with fail
    clear q0_0
    refine wp_region_held_drew (S := fun W => Below W0.heap.size W0 W) (by kernel_rfl) ((Below.refl _ _).drew) (fun s0 => ?_)
    obtain ⟨v1, hv0⟩ : ∃ V, V = W0.drew := ⟨_, rfl⟩
    rw [← hv0] at s0 ⊢
    have t1 : Below W0.heap.size W0 v1 := s0
    clear hv0 s0
    refine tkHV (i := 0) (v := .pointer (some ⟨w.heap.size, 2, none⟩)) rfl t1 ?_
    go_simp
    refine tkHV (i := 1) (v := .pointer (some ⟨w.heap.size, 2, none⟩)) rfl t1 ?_
    go_simp
    refine tkH (i := 2) (v := .int .i64 x.id.index) rfl (Or.inl ⟨by rfl, fun w' h => by have e := row_call (h : Below W0.heap.size W0 w') R0_0.out; have e0 := cell_row e 0; have e1 := cell_row e 1; have e2 := cell_row e 2; have e3 := cell_row e 3; have e4 := cell_row e 4; have e5 := cell_row e 5; go_simp⟩) t1 ?_
    go_simp
    refine tkHV (i := 5) (v := .pointer (some ⟨w.heap.size, 2, none⟩)) rfl t1 ?_
    go_simp
    refine tkHV (i := 6) (v := .pointer (some ⟨w.heap.size, 3, none⟩)) rfl t1 ?_
    go_simp
    refine tkH (i := 7) (v := .int .i64 x.id.gen) rfl (Or.inl ⟨by rfl, fun w' h => by have e := row_call (h : Below W0.heap.size W0 w') R0_0.out; have e0 := cell_row e 0; have e1 := cell_row e 1; have e2 := cell_row e 2; have e3 := cell_row e 3; have e4 := cell_row e 4; have e5 := cell_row e 5; go_simp⟩) t1 ?_
    go_simp
    refine wpAnyH_all (rs := [3]) (by kernel_rfl) (by simp) ?_
    intro i hi
    obtain rfl : i = 3 := by simpa using hi
    clear hi
    refine wpOp_step rfl (fun K hK => ?_)
    go_simp
    refine (dec_calls HF.out.1 _).mono ?_
    rintro e v2 ⟨rfl, hw⟩
    have hb : Below v1.heap.size v1 v2 := by rw [hw]; exact Below.refl _ _
    clear hw
    have t2 : Below W0.heap.size W0 v2 := Below.trans t1 (hb.mono (Below.size t1))
    refine hK _ _ ⟨t2, ?_⟩
    clear hb
    clear hK K
    refine tkHV (i := 4) (v := .string (⟨(Lib.itoa x.id.index).toArray⟩ ++ ⟨#[46]⟩)) rfl t2 ?_
    go_simp
    refine wpAnyH_all (rs := [8]) (by kernel_rfl) (by simp) ?_
    intro i hi
    obtain rfl : i = 8 := by simpa using hi
    clear hi
    refine wpOp_step rfl (fun K hK => ?_)
    go_simp
    refine (dec_calls HF.out.2 _).mono ?_
    rintro e v3 ⟨rfl, hw⟩
    have hb : Below v2.heap.size v2 v3 := by rw [hw]; exact Below.refl _ _
    clear hw
    have t3 : Below W0.heap.size W0 v3 := Below.trans t2 (hb.mono (Below.size t2))
    refine hK _ _ ⟨t3, ?_⟩
    clear hb
    clear hK K
    refine tkHV (i := 9) (v := .string ((⟨(Lib.itoa x.id.index).toArray⟩ ++ ⟨#[46]⟩) ++ ⟨(Lib.itoa x.id.gen).toArray⟩)) rfl t3 ?_
    go_simp
    refine tkHV (i := 10) (v := .string ((⟨(Lib.itoa x.id.index).toArray⟩ ++ ⟨#[46]⟩) ++ ⟨(Lib.itoa x.id.gen).toArray⟩)) rfl t3 ?_
    go_simp
    refine wpAnyH_done (by kernel_rfl) ?_ _
    have S1 := Lib.hid (show Only (Box w 1) W0 v3 from Only.of_below t3)
    have O1 := Lib.hid (O0.out.trans S1.out)
    have R0_1 := Lib.hid (row_call t3 R0_0.out)
    go_wp2_with fail
    go_ret
    exact ⟨congrArg _ (bytes_eq (by rw [HW.out]; simp [ByteArray.data_append])), Only.fin HB0.out O1.out⟩
end Go.Proofs.YtejibngkeaamkaaGreatDoor
namespace Go.Proofs.YtejibngkeaamkaaGreatDoor
open Go.RowKit

theorem part_step {l : List DComp} {i : Nat} {x : DComp} {k : Int} {j : Nat} (hx : l[i]? = some x) (hj : findC l x.name = some j) : partS l k = if (i : Int) = k ∧ (j : Int) = k then x.name else if (i : Int) = k then 35 :: Lib.itoa k else partS l k := by
  by_cases h1 : (i : Int) = k
  · subst h1
    by_cases h2 : (j : Int) = (i : Int)
    · rw [if_pos ⟨rfl, h2⟩]
      unfold partS
      rw [Int.toNat_natCast, hx]
      have : j = i := by omega
      simp [hj, this]
    · rw [if_neg (fun h => h2 h.2), if_pos rfl]
      unfold partS
      rw [Int.toNat_natCast, hx]
      have : ¬ j = i := by omega
      simp [hj, this]
  · rw [if_neg (fun h => h1 h.1), if_neg h1]
theorem part_high {l : List DComp} {k : Int} (h : (l.length : Int) ≤ k ∨ k < 0) : partS l k = 35 :: Lib.itoa k := by
  unfold partS
  split
  · rename_i x hx
    have := (List.getElem?_eq_some_iff.1 hx).1
    rw [if_neg (fun h' => by omega)]
  · rfl
/-- Is a component's number not shown by one of the first names? -/
def NoPart (l : List DComp) (k : Int) (i : Nat) : Prop := ∀ j, j < i → (j : Int) = k → partS l k = 35 :: Lib.itoa k

set_option maxRecDepth 100000 in
set_option maxHeartbeats 2000000 in
/-- ref39.part -/
theorem rpart_calls {Q : Nat → Prop} {w : World} {v : Value} {c : DConf} {k : Int} (hx : rConf.val Q w v c) (hk : In64 k) :
    Calls Tryz.prog 27 #[v, .int .i64 k] w fun e w' => e = .returned (.string ⟨(partS c.comps k).toArray⟩) ∧ Below w.heap.size w w' := by
  have HK := Lib.hid hk
  obtain ⟨A, cap, rfl, _, _, _, _, hA⟩ := rConf_val hx
  have HX := Lib.hid hx
  have HAT := Lib.hid hA.2.2
  have hlen := hA.2.1
  have hle := hA.1
  unfold maxLen at hlen
  have hl1 : ((Lib.itoa k).length : Int) ≤ 20 := by have := (itoa_len HK.out).1; omega
  clear hk hA hx
  obtain ⟨W0, hW0⟩ : ∃ W, (w.alloc (.cells #[.int .i64 c.log, .int .i64 c.pages, .int .i64 c.entities, .int .i64 c.gens, .slice A c.comps.length cap] 24)) = W := ⟨_, rfl⟩
  have hz0 : W0.heap.size = w.heap.size + 1 := by rw [← hW0]; simp
  have hb0 : Below w.heap.size w W0 := by rw [← hW0]; exact (Below.refl _ _).alloc (Nat.le_refl _) _
  have HZ := Lib.hid hz0
  have HB0 := Lib.hid hb0
  have R0_0 := Lib.hid (show W0.heap[w.heap.size]? = some (.cells #[.int .i64 c.log, .int .i64 c.pages, .int .i64 c.entities, .int .i64 c.gens, .slice A c.comps.length cap] 24 (0, 0)) by rw [← hW0]; exact alloc_at rfl)
  have O0 := Lib.hid (Only.refl (Box w 1) W0)
  have HCV := Lib.hid (show ∀ V, Below W0.heap.size W0 V → rConf.val (fun b => Q b ∧ b < w.heap.size) V (.agg #[.int .i64 c.log, .int .i64 c.pages, .int .i64 c.entities, .int .i64 c.gens, .slice A c.comps.length cap]) c from fun V hv => Rep.val_keep (fun b hq hl => ⟨⟨hq, hl.lt⟩, (hv.block b (by have := hl.lt; omega)).trans (hb0.block b hl.lt)⟩) HX.out)
  have HTV := Lib.hid (show ∀ V, Below W0.heap.size W0 V → rComp.At (fun b => Q b ∧ b < w.heap.size) V A c.comps from fun V hv => Rep.At.keep (fun b hq hl => ⟨⟨hq, hl.lt⟩, (hv.block b (by have := hl.lt; omega)).trans (hb0.block b hl.lt)⟩) HAT.out)
  clear hz0 hb0
  have q0_0 := rw5 R0_0.out
  go_enter Tryz.func27, Tryz.ntmps27
  go_wp2_with fail
  try rw [hW0]
  clear hW0
  try go_wp2_with fail
  clear q0_0
  go_loopw [5] (fun i wr => ∃ j : Nat, i = .int .i64 j ∧ j ≤ c.comps.length ∧ Hid (NoPart c.comps k j) ∧ Hid (Below W0.heap.size W0 wr)) (fun i _ => c.comps.length - (intOf i).toNat)
  case atStart => exact ⟨0, rfl, Nat.zero_le _, Lib.hid (fun j h => by omega), Lib.hid (Below.refl _ _)⟩
  case round =>
    obtain ⟨j, rfl, hj, HN, HBR⟩ := hrel
    have S1 := Lib.hid (show Only (Box w 1) W0 wr from Only.of_below HBR.out)
    have O1 := Lib.hid (O0.out.trans S1.out)
    have R0_1 := Lib.hid (row_call HBR.out R0_0.out)
    by_cases hlt : (j : Int) < c.comps.length
    · obtain ⟨x, hxx⟩ : ∃ x, c.comps[j]? = some x := ⟨_, List.getElem?_eq_getElem (by omega)⟩
      obtain ⟨i, hi, hij⟩ := find_self hxx
      have HS := Lib.hid (part_step (k := k) hxx hi)
      have HXX := Lib.hid hxx
      have HFD := Lib.hid hi
      obtain ⟨b, off, rfl⟩ := HTV.out _ HBR.out |>.addr (by omega)
      have HE := Lib.hid (show ∀ V, Below W0.heap.size W0 V → World.cell? V ⟨b, off + j * 2, none⟩ = some (.string ⟨x.name.toArray⟩) from fun V hv => by
        obtain ⟨b2, off2, he2, _, e0, _⟩ := rComp_at (HTV.out V hv) HXX.out
        obtain ⟨rfl, rfl⟩ : b = b2 ∧ off = off2 := by simpa using he2
        exact e0)
      have hib : (i : Int) ≤ 9223372036854775807 := by omega
      clear hxx hi
      have q0_0 := rw5 R0_1.out
      go_wp2_with fail
      clear q0_0
      refine wp_region_held_drew (S := fun W => Below wr.heap.size wr W) (by kernel_rfl) ((Below.refl _ _).drew) (fun s0 => ?_)
      obtain ⟨v1, hv0⟩ : ∃ V, V = wr.drew := ⟨_, rfl⟩
      rw [← hv0] at s0 ⊢
      have t1 : Below wr.heap.size wr v1 := s0
      clear hv0 s0
      refine tkH (i := 0) (v := .agg #[.int .i64 c.log, .int .i64 c.pages, .int .i64 c.entities, .int .i64 c.gens, .slice (some ⟨b, off, none⟩) c.comps.length cap]) rfl (Or.inl ⟨by rfl, fun w' h => by have e := row_call (h : Below wr.heap.size wr w') R0_1.out; have e0 := cell_row e 0; have e1 := cell_row e 1; have e2 := cell_row e 2; have e3 := cell_row e 3; have e4 := cell_row e 4; go_simp⟩) t1 ?_
      go_simp
      refine tkHV (i := 1) (v := .pointer (some ⟨w.heap.size, 4, none⟩)) rfl t1 ?_
      go_simp
      refine tkH (i := 2) (v := .slice (some ⟨b, off, none⟩) c.comps.length cap) rfl (Or.inl ⟨by rfl, fun w' h => by have e := row_call (h : Below wr.heap.size wr w') R0_1.out; have e0 := cell_row e 0; have e1 := cell_row e 1; have e2 := cell_row e 2; have e3 := cell_row e 3; have e4 := cell_row e 4; go_simp⟩) t1 ?_
      go_simp
      refine tkHV (i := 3) (v := .int .i64 j) rfl t1 ?_
      go_simp
      refine tkHV (i := 4) (v := .pointer (some ⟨b, off + j * 2, none⟩)) rfl t1 ?_
      go_simp
      refine tkHV (i := 5) (v := .pointer (some ⟨b, off + j * 2, none⟩)) rfl t1 ?_
      go_simp
      refine tkH (i := 6) (v := .string ⟨x.name.toArray⟩) rfl (Or.inl ⟨by rfl, fun w' h => by have e := HE.out w' (HBR.out.trans (Below.mono (h : Below wr.heap.size wr w') HBR.out.size)); go_simp⟩) t1 ?_
      go_simp
      refine wpAnyH_all (rs := [7]) (by kernel_rfl) (by simp) ?_
      intro i hi
      obtain rfl : i = 7 := by simpa using hi
      clear hi
      refine wpOp_step rfl (fun K hK => ?_)
      go_simp
      refine (find_calls (s := x.name) (HCV.out _ (HBR.out.trans (Below.mono t1 HBR.out.size)))).mono ?_
      intro e v2 hq
      obtain ⟨rfl, hb⟩ : e = .returned (.tuple #[.int .i64 i, .bool true]) ∧ Below v1.heap.size v1 v2 := by
        rcases rfind_is hq with h | ⟨_, _, hn, _⟩
        · rw [HFD.out] at h; exact h
        · rw [HFD.out] at hn; cases hn
      clear hq
      have t2 : Below wr.heap.size wr v2 := Below.trans t1 (hb.mono (Below.size t1))
      refine hK _ _ ⟨t2, ?_⟩
      clear hb
      clear hK K
      refine tkHV (i := 8) (v := .tuple #[.int .i64 i, .bool true]) rfl t2 ?_
      go_simp
      refine tkHV (i := 9) (v := .int .i64 i) rfl t2 ?_
      go_simp
      refine tkHV (i := 10) (v := .bool true) rfl t2 ?_
      go_simp
      refine tkHV (i := 11) (v := .int .i64 i) rfl t2 ?_
      go_simp
      refine tkHV (i := 12) (v := .bool true) rfl t2 ?_
      go_simp
      refine wpAnyH_done (by kernel_rfl) ?_ _
      have S2 := Lib.hid (show Only (Box w 1) wr v2 from Only.of_below t2)
      have O2 := Lib.hid (O1.out.trans S2.out)
      have R0_2 := Lib.hid (row_call t2 R0_1.out)
      have HBG := Lib.hid (show Below W0.heap.size W0 v2 from HBR.out.trans (Below.mono t2 HBR.out.size))
      have q0_0 := rw5 R0_2.out
      have e0 := HE.out _ HBG.out
      by_cases h1 : (j : Int) = k
      · have b1 : ((j : Int) == k) = true := by simp [h1]
        by_cases h2 : (i : Int) = k
        · have b2 : ((i : Int) == k) = true := by simp [h2]
          have HF := Lib.hid (show partS c.comps k = x.name by rw [HS.out, if_pos ⟨h1, h2⟩])
          clear h1 h2
          go_wp2_with fail
          go_ret
          exact ⟨by rw [HF.out]; rfl, (Only.fin HB0.out O0.out).trans (HBG.out.mono (Only.fin HB0.out O0.out).size)⟩
        · have b2 : ((i : Int) == k) = false := by simpa using h2
          have HF := Lib.hid (show NoPart c.comps k (j + 1) from fun m hm hk => by
            by_cases hmj : m = j
            · subst hmj; rw [HS.out, if_neg (fun h => h2 h.2), if_pos h1]
            · exact HN.out m (by omega) hk)
          clear h1 h2
          go_wp2_with fail
          exact ⟨⟨j + 1, by go_num, by omega, HF, HBG⟩, by simp [intOf]; omega⟩
      · have b1 : ((j : Int) == k) = false := by simpa using h1
        have HF := Lib.hid (show NoPart c.comps k (j + 1) from fun m hm hk => by
          by_cases hmj : m = j
          · subst hmj; exact absurd hk h1
          · exact HN.out m (by omega) hk)
        clear h1
        go_wp2_with fail
        exact ⟨⟨j + 1, by go_num, by omega, HF, HBG⟩, by simp [intOf]; omega⟩
    · obtain rfl : j = c.comps.length := by omega
      have HF := Lib.hid (show partS c.comps k = 35 :: Lib.itoa k by
        by_cases h : 0 ≤ k ∧ k < (c.comps.length : Int)
        · exact HN.out k.toNat (by omega) (by omega)
        · exact part_high (by omega))
      have q0_0 := rw5 R0_1.out
      go_wp2_with fail
      clear q0_0
      refine (dec_calls HK.out _).mono ?_
      rintro e w1 ⟨rfl, hw⟩
      have hb1 : Below W0.heap.size W0 w1 := by rw [hw]; exact HBR.out
      clear hw
      go_wp2_with fail
      go_ret
      exact ⟨congrArg _ (bytes_eq (by rw [HF.out]; simp [ByteArray.data_append])), (Only.fin HB0.out O0.out).trans (hb1.mono (Only.fin HB0.out O0.out).size)⟩
end Go.Proofs.YtejibngkeaamkaaGreatDoor
namespace Go.Proofs.YtejibngkeaamkaaGreatDoor
open Go.RowKit

set_option maxRecDepth 100000 in
set_option maxHeartbeats 2000000 in
/-- ref31.Right -/
theorem rright31_calls {Q : Nat → Prop} {w : World} {v : Value} {x : DAct} (hx : rAct.val Q w v x) :
    Calls Tryz.prog 12 #[v] w fun e w' => e = .returned (.bool (rightA x)) ∧ Below w.heap.size w w' := by
  obtain ⟨A1, c1, A2, c2, A3, c3, rfl, f0, f1, f2, f3, f4, s1, f5, f6, f7, s2, s3⟩ := rAct_val hx
  have HCM := Lib.hid (show rCmd.val Q w (.agg #[.int .i64 x.cmd.kind, .bool x.cmd.loc, .int .i64 x.cmd.id.index, .int .i64 x.cmd.id.gen, .int .i64 x.cmd.comp, .slice A1 x.cmd.data.length c1]) x.cmd from rCmd_agg f1 f2 f3 f4 s1)
  have h1 := s2.1
  have h1m := s2.2.1
  have h2 := s3.1
  have h2m := s3.2.1
  unfold maxLen at h1m h2m
  clear hx f0 f1 f2 f3 f4 s1 f5 f6 f7 s2 s3
  obtain ⟨r, hr⟩ : ∃ r, rightA x = r := ⟨_, rfl⟩
  rw [hr]
  have HR := Lib.hid hr
  clear hr
  by_cases k0 : x.kind < 0
  · skip
    have HE := Lib.hid (show r = false by rw [← HR.out]; simp [rightA]; omega)
    obtain ⟨W0, hW0⟩ : ∃ W, (w.alloc (.cells #[.int .i64 x.kind, .int .i64 x.cmd.kind, .bool x.cmd.loc, .int .i64 x.cmd.id.index, .int .i64 x.cmd.id.gen, .int .i64 x.cmd.comp, .slice A1 x.cmd.data.length c1, .int .i64 x.policy.room, .int .i64 x.policy.frames, .int .i64 x.n, .slice A2 x.fates.length c2, .slice A3 x.fuses.length c3] 35)) = W := ⟨_, rfl⟩
    have hz0 : W0.heap.size = w.heap.size + 1 := by rw [← hW0]; simp
    have hb0 : Below w.heap.size w W0 := by rw [← hW0]; exact (Below.refl _ _).alloc (Nat.le_refl _) _
    have HZ := Lib.hid hz0
    have HB0 := Lib.hid hb0
    have R0_0 := Lib.hid (show W0.heap[w.heap.size]? = some (.cells #[.int .i64 x.kind, .int .i64 x.cmd.kind, .bool x.cmd.loc, .int .i64 x.cmd.id.index, .int .i64 x.cmd.id.gen, .int .i64 x.cmd.comp, .slice A1 x.cmd.data.length c1, .int .i64 x.policy.room, .int .i64 x.policy.frames, .int .i64 x.n, .slice A2 x.fates.length c2, .slice A3 x.fuses.length c3] 35 (0, 0)) by rw [← hW0]; exact alloc_at rfl)
    have O0 := Lib.hid (Only.refl (Box w 1) W0)
    have Vm_0 := Lib.hid (show rCmd.val (In Q w 1) W0 (.agg #[.int .i64 x.cmd.kind, .bool x.cmd.loc, .int .i64 x.cmd.id.index, .int .i64 x.cmd.id.gen, .int .i64 x.cmd.comp, .slice A1 x.cmd.data.length c1]) x.cmd from val_in HCM.out hb0)
    clear hz0 hb0
    have q0_0 := rw12 R0_0.out
    go_enter Tryz.func12, Tryz.ntmps12
    go_wp2_with fail
    try rw [hW0]
    clear hW0
    try go_wp2_with fail
    clear q0_0
    go_ret
    exact ⟨by rw [HE.out]; rfl, Only.fin HB0.out O0.out⟩
  · by_cases k6 : (6 : Int) < x.kind
    · skip
      have HE := Lib.hid (show r = false by rw [← HR.out]; simp [rightA]; omega)
      obtain ⟨W0, hW0⟩ : ∃ W, (w.alloc (.cells #[.int .i64 x.kind, .int .i64 x.cmd.kind, .bool x.cmd.loc, .int .i64 x.cmd.id.index, .int .i64 x.cmd.id.gen, .int .i64 x.cmd.comp, .slice A1 x.cmd.data.length c1, .int .i64 x.policy.room, .int .i64 x.policy.frames, .int .i64 x.n, .slice A2 x.fates.length c2, .slice A3 x.fuses.length c3] 35)) = W := ⟨_, rfl⟩
      have hz0 : W0.heap.size = w.heap.size + 1 := by rw [← hW0]; simp
      have hb0 : Below w.heap.size w W0 := by rw [← hW0]; exact (Below.refl _ _).alloc (Nat.le_refl _) _
      have HZ := Lib.hid hz0
      have HB0 := Lib.hid hb0
      have R0_0 := Lib.hid (show W0.heap[w.heap.size]? = some (.cells #[.int .i64 x.kind, .int .i64 x.cmd.kind, .bool x.cmd.loc, .int .i64 x.cmd.id.index, .int .i64 x.cmd.id.gen, .int .i64 x.cmd.comp, .slice A1 x.cmd.data.length c1, .int .i64 x.policy.room, .int .i64 x.policy.frames, .int .i64 x.n, .slice A2 x.fates.length c2, .slice A3 x.fuses.length c3] 35 (0, 0)) by rw [← hW0]; exact alloc_at rfl)
      have O0 := Lib.hid (Only.refl (Box w 1) W0)
      have Vm_0 := Lib.hid (show rCmd.val (In Q w 1) W0 (.agg #[.int .i64 x.cmd.kind, .bool x.cmd.loc, .int .i64 x.cmd.id.index, .int .i64 x.cmd.id.gen, .int .i64 x.cmd.comp, .slice A1 x.cmd.data.length c1]) x.cmd from val_in HCM.out hb0)
      clear hz0 hb0
      have q0_0 := rw12 R0_0.out
      go_enter Tryz.func12, Tryz.ntmps12
      go_wp2_with fail
      try rw [hW0]
      clear hW0
      try go_wp2_with fail
      clear q0_0
      go_ret
      exact ⟨by rw [HE.out]; rfl, Only.fin HB0.out O0.out⟩
    · by_cases t1 : (65535 : Int) < x.fates.length
      · skip
        have HE := Lib.hid (show r = false by rw [← HR.out]; simp [rightA]; omega)
        obtain ⟨W0, hW0⟩ : ∃ W, (w.alloc (.cells #[.int .i64 x.kind, .int .i64 x.cmd.kind, .bool x.cmd.loc, .int .i64 x.cmd.id.index, .int .i64 x.cmd.id.gen, .int .i64 x.cmd.comp, .slice A1 x.cmd.data.length c1, .int .i64 x.policy.room, .int .i64 x.policy.frames, .int .i64 x.n, .slice A2 x.fates.length c2, .slice A3 x.fuses.length c3] 35)) = W := ⟨_, rfl⟩
        have hz0 : W0.heap.size = w.heap.size + 1 := by rw [← hW0]; simp
        have hb0 : Below w.heap.size w W0 := by rw [← hW0]; exact (Below.refl _ _).alloc (Nat.le_refl _) _
        have HZ := Lib.hid hz0
        have HB0 := Lib.hid hb0
        have R0_0 := Lib.hid (show W0.heap[w.heap.size]? = some (.cells #[.int .i64 x.kind, .int .i64 x.cmd.kind, .bool x.cmd.loc, .int .i64 x.cmd.id.index, .int .i64 x.cmd.id.gen, .int .i64 x.cmd.comp, .slice A1 x.cmd.data.length c1, .int .i64 x.policy.room, .int .i64 x.policy.frames, .int .i64 x.n, .slice A2 x.fates.length c2, .slice A3 x.fuses.length c3] 35 (0, 0)) by rw [← hW0]; exact alloc_at rfl)
        have O0 := Lib.hid (Only.refl (Box w 1) W0)
        have Vm_0 := Lib.hid (show rCmd.val (In Q w 1) W0 (.agg #[.int .i64 x.cmd.kind, .bool x.cmd.loc, .int .i64 x.cmd.id.index, .int .i64 x.cmd.id.gen, .int .i64 x.cmd.comp, .slice A1 x.cmd.data.length c1]) x.cmd from val_in HCM.out hb0)
        clear hz0 hb0
        have q0_0 := rw12 R0_0.out
        go_enter Tryz.func12, Tryz.ntmps12
        go_wp2_with fail
        try rw [hW0]
        clear hW0
        try go_wp2_with fail
        clear q0_0
        go_ret
        exact ⟨by rw [HE.out]; rfl, Only.fin HB0.out O0.out⟩
      · by_cases t2 : (65535 : Int) < x.fuses.length
        · skip
          have HE := Lib.hid (show r = false by rw [← HR.out]; simp [rightA]; omega)
          obtain ⟨W0, hW0⟩ : ∃ W, (w.alloc (.cells #[.int .i64 x.kind, .int .i64 x.cmd.kind, .bool x.cmd.loc, .int .i64 x.cmd.id.index, .int .i64 x.cmd.id.gen, .int .i64 x.cmd.comp, .slice A1 x.cmd.data.length c1, .int .i64 x.policy.room, .int .i64 x.policy.frames, .int .i64 x.n, .slice A2 x.fates.length c2, .slice A3 x.fuses.length c3] 35)) = W := ⟨_, rfl⟩
          have hz0 : W0.heap.size = w.heap.size + 1 := by rw [← hW0]; simp
          have hb0 : Below w.heap.size w W0 := by rw [← hW0]; exact (Below.refl _ _).alloc (Nat.le_refl _) _
          have HZ := Lib.hid hz0
          have HB0 := Lib.hid hb0
          have R0_0 := Lib.hid (show W0.heap[w.heap.size]? = some (.cells #[.int .i64 x.kind, .int .i64 x.cmd.kind, .bool x.cmd.loc, .int .i64 x.cmd.id.index, .int .i64 x.cmd.id.gen, .int .i64 x.cmd.comp, .slice A1 x.cmd.data.length c1, .int .i64 x.policy.room, .int .i64 x.policy.frames, .int .i64 x.n, .slice A2 x.fates.length c2, .slice A3 x.fuses.length c3] 35 (0, 0)) by rw [← hW0]; exact alloc_at rfl)
          have O0 := Lib.hid (Only.refl (Box w 1) W0)
          have Vm_0 := Lib.hid (show rCmd.val (In Q w 1) W0 (.agg #[.int .i64 x.cmd.kind, .bool x.cmd.loc, .int .i64 x.cmd.id.index, .int .i64 x.cmd.id.gen, .int .i64 x.cmd.comp, .slice A1 x.cmd.data.length c1]) x.cmd from val_in HCM.out hb0)
          clear hz0 hb0
          have q0_0 := rw12 R0_0.out
          go_enter Tryz.func12, Tryz.ntmps12
          go_wp2_with fail
          try rw [hW0]
          clear hW0
          try go_wp2_with fail
          clear q0_0
          go_ret
          exact ⟨by rw [HE.out]; rfl, Only.fin HB0.out O0.out⟩
        · have hb : x.fates.length ≤ 65535 ∧ x.fuses.length ≤ 65535 := ⟨by omega, by omega⟩
          have hk : 0 ≤ x.kind ∧ x.kind ≤ 6 := ⟨by omega, by omega⟩
          by_cases kz : x.kind = 0
          · have bz : (x.kind == 0) = true := by simp [kz]
            have bzn : (x.kind != 0) = false := by simp [kz]
            obtain ⟨ck, hck⟩ : ∃ ck, checkCmd x.cmd = ck := ⟨_, rfl⟩
            have HCK := Lib.hid hck
            by_cases ckz : ck = 0
            · have bc : (ck == 0) = true := by simp [ckz]
              have HE := Lib.hid (show r = true by rw [← HR.out]; unfold rightA; rw [hck]; simp [hb, hk, ckz])
              clear kz ckz hck hb hk
              obtain ⟨W0, hW0⟩ : ∃ W, (w.alloc (.cells #[.int .i64 x.kind, .int .i64 x.cmd.kind, .bool x.cmd.loc, .int .i64 x.cmd.id.index, .int .i64 x.cmd.id.gen, .int .i64 x.cmd.comp, .slice A1 x.cmd.data.length c1, .int .i64 x.policy.room, .int .i64 x.policy.frames, .int .i64 x.n, .slice A2 x.fates.length c2, .slice A3 x.fuses.length c3] 35)) = W := ⟨_, rfl⟩
              have hz0 : W0.heap.size = w.heap.size + 1 := by rw [← hW0]; simp
              have hb0 : Below w.heap.size w W0 := by rw [← hW0]; exact (Below.refl _ _).alloc (Nat.le_refl _) _
              have HZ := Lib.hid hz0
              have HB0 := Lib.hid hb0
              have R0_0 := Lib.hid (show W0.heap[w.heap.size]? = some (.cells #[.int .i64 x.kind, .int .i64 x.cmd.kind, .bool x.cmd.loc, .int .i64 x.cmd.id.index, .int .i64 x.cmd.id.gen, .int .i64 x.cmd.comp, .slice A1 x.cmd.data.length c1, .int .i64 x.policy.room, .int .i64 x.policy.frames, .int .i64 x.n, .slice A2 x.fates.length c2, .slice A3 x.fuses.length c3] 35 (0, 0)) by rw [← hW0]; exact alloc_at rfl)
              have O0 := Lib.hid (Only.refl (Box w 1) W0)
              have Vm_0 := Lib.hid (show rCmd.val (In Q w 1) W0 (.agg #[.int .i64 x.cmd.kind, .bool x.cmd.loc, .int .i64 x.cmd.id.index, .int .i64 x.cmd.id.gen, .int .i64 x.cmd.comp, .slice A1 x.cmd.data.length c1]) x.cmd from val_in HCM.out hb0)
              clear hz0 hb0
              have q0_0 := rw12 R0_0.out
              go_enter Tryz.func12, Tryz.ntmps12
              go_wp2_with fail
              try rw [hW0]
              clear hW0
              try go_wp2_with fail
              clear q0_0
              refine (rcmdCheck_calls Vm_0.out).mono ?_
              rintro e w1 ⟨rfl, hb⟩
              have S1 := Lib.hid (show Only (Box w 1) W0 w1 from Only.of_below hb)
              have O1 := Lib.hid (O0.out.trans S1.out)
              have R0_1 := Lib.hid (row_call hb R0_0.out)
              have Vm_1 := Lib.hid (val_only Vm_0.out S1.out)
              rw [HCK.out]
              have q0_0 := rw12 R0_1.out
              clear hb
              go_wp2_with fail
              clear q0_0
              go_ret
              exact ⟨by rw [HE.out]; rfl, Only.fin HB0.out O1.out⟩
            · have bc : (ck == 0) = false := by simpa using ckz
              have HE := Lib.hid (show r = false by rw [← HR.out]; unfold rightA; rw [hck]; simp [kz, ckz])
              clear kz ckz hck hb hk
              obtain ⟨W0, hW0⟩ : ∃ W, (w.alloc (.cells #[.int .i64 x.kind, .int .i64 x.cmd.kind, .bool x.cmd.loc, .int .i64 x.cmd.id.index, .int .i64 x.cmd.id.gen, .int .i64 x.cmd.comp, .slice A1 x.cmd.data.length c1, .int .i64 x.policy.room, .int .i64 x.policy.frames, .int .i64 x.n, .slice A2 x.fates.length c2, .slice A3 x.fuses.length c3] 35)) = W := ⟨_, rfl⟩
              have hz0 : W0.heap.size = w.heap.size + 1 := by rw [← hW0]; simp
              have hb0 : Below w.heap.size w W0 := by rw [← hW0]; exact (Below.refl _ _).alloc (Nat.le_refl _) _
              have HZ := Lib.hid hz0
              have HB0 := Lib.hid hb0
              have R0_0 := Lib.hid (show W0.heap[w.heap.size]? = some (.cells #[.int .i64 x.kind, .int .i64 x.cmd.kind, .bool x.cmd.loc, .int .i64 x.cmd.id.index, .int .i64 x.cmd.id.gen, .int .i64 x.cmd.comp, .slice A1 x.cmd.data.length c1, .int .i64 x.policy.room, .int .i64 x.policy.frames, .int .i64 x.n, .slice A2 x.fates.length c2, .slice A3 x.fuses.length c3] 35 (0, 0)) by rw [← hW0]; exact alloc_at rfl)
              have O0 := Lib.hid (Only.refl (Box w 1) W0)
              have Vm_0 := Lib.hid (show rCmd.val (In Q w 1) W0 (.agg #[.int .i64 x.cmd.kind, .bool x.cmd.loc, .int .i64 x.cmd.id.index, .int .i64 x.cmd.id.gen, .int .i64 x.cmd.comp, .slice A1 x.cmd.data.length c1]) x.cmd from val_in HCM.out hb0)
              clear hz0 hb0
              have q0_0 := rw12 R0_0.out
              go_enter Tryz.func12, Tryz.ntmps12
              go_wp2_with fail
              try rw [hW0]
              clear hW0
              try go_wp2_with fail
              clear q0_0
              refine (rcmdCheck_calls Vm_0.out).mono ?_
              rintro e w1 ⟨rfl, hb⟩
              have S1 := Lib.hid (show Only (Box w 1) W0 w1 from Only.of_below hb)
              have O1 := Lib.hid (O0.out.trans S1.out)
              have R0_1 := Lib.hid (row_call hb R0_0.out)
              have Vm_1 := Lib.hid (val_only Vm_0.out S1.out)
              rw [HCK.out]
              have q0_0 := rw12 R0_1.out
              clear hb
              go_wp2_with fail
              clear q0_0
              go_ret
              exact ⟨by rw [HE.out]; rfl, Only.fin HB0.out O1.out⟩
          · have bz : (x.kind == 0) = false := by simpa using kz
            have bzn : (x.kind != 0) = true := by simpa using kz
            have HE := Lib.hid (show r = true by rw [← HR.out]; unfold rightA; simp [hb, hk, kz])
            clear kz hb hk
            obtain ⟨W0, hW0⟩ : ∃ W, (w.alloc (.cells #[.int .i64 x.kind, .int .i64 x.cmd.kind, .bool x.cmd.loc, .int .i64 x.cmd.id.index, .int .i64 x.cmd.id.gen, .int .i64 x.cmd.comp, .slice A1 x.cmd.data.length c1, .int .i64 x.policy.room, .int .i64 x.policy.frames, .int .i64 x.n, .slice A2 x.fates.length c2, .slice A3 x.fuses.length c3] 35)) = W := ⟨_, rfl⟩
            have hz0 : W0.heap.size = w.heap.size + 1 := by rw [← hW0]; simp
            have hb0 : Below w.heap.size w W0 := by rw [← hW0]; exact (Below.refl _ _).alloc (Nat.le_refl _) _
            have HZ := Lib.hid hz0
            have HB0 := Lib.hid hb0
            have R0_0 := Lib.hid (show W0.heap[w.heap.size]? = some (.cells #[.int .i64 x.kind, .int .i64 x.cmd.kind, .bool x.cmd.loc, .int .i64 x.cmd.id.index, .int .i64 x.cmd.id.gen, .int .i64 x.cmd.comp, .slice A1 x.cmd.data.length c1, .int .i64 x.policy.room, .int .i64 x.policy.frames, .int .i64 x.n, .slice A2 x.fates.length c2, .slice A3 x.fuses.length c3] 35 (0, 0)) by rw [← hW0]; exact alloc_at rfl)
            have O0 := Lib.hid (Only.refl (Box w 1) W0)
            have Vm_0 := Lib.hid (show rCmd.val (In Q w 1) W0 (.agg #[.int .i64 x.cmd.kind, .bool x.cmd.loc, .int .i64 x.cmd.id.index, .int .i64 x.cmd.id.gen, .int .i64 x.cmd.comp, .slice A1 x.cmd.data.length c1]) x.cmd from val_in HCM.out hb0)
            clear hz0 hb0
            have q0_0 := rw12 R0_0.out
            go_enter Tryz.func12, Tryz.ntmps12
            go_wp2_with fail
            try rw [hW0]
            clear hW0
            try go_wp2_with fail
            clear q0_0
            go_ret
            exact ⟨by rw [HE.out]; rfl, Only.fin HB0.out O0.out⟩
end Go.Proofs.YtejibngkeaamkaaGreatDoor
