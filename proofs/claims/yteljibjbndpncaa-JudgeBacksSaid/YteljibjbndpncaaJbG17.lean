/- Texts on which the proofs stand: R11With. No condition is laid on any input. -/
import Derived.Test.YteljibjbndpncaaJbG15
namespace Go.Proofs.Yteljibjbndpncaa
open Go.RowKit

def StatePost (Q : Nat → Prop) (w : World) (s : DState) (e : Ending) (w' : World) : Prop :=
  ∃ z, e = .returned z ∧ rState.val (fun b => Q b ∨ w.heap.size ≤ b) w' z s ∧ Below w.heap.size w w'

set_option maxRecDepth 100000 in
set_option maxHeartbeats 2000000 in
/-- r11.with -/
theorem rwith_calls {Q : Nat → Prop} {w : World} {v u : Value} {s : DState} {e : DEnt} {i : Nat} (hx : rState.val Q w v s) (he : rEnt.val Q w u e) (hi : i < s.ents.length) (hl : s.ents.length ≤ 100000) :
    Calls Try.prog 152 #[v, .int .i64 i, u] w (StatePost Q w ⟨s.gens, s.free, s.ents.set i e⟩) := by
  obtain ⟨A1, c1, A2, c2, A3, c3, rfl, f1, f2, f3⟩ := rState_val hx
  obtain ⟨A4, c4, rfl, g0, g1, g2⟩ := rEnt_val he
  have F1 := Lib.hid f1
  have F2 := Lib.hid f2
  have F3 := Lib.hid f3
  have G0 := Lib.hid g0
  have G1 := Lib.hid g1
  have G2 := Lib.hid g2
  have HI := Lib.hid hi
  have HL := Lib.hid hl
  have l3 := f3.2.1
  have m3 := f3.1
  unfold maxLen at l3
  have hfr : Try.f152.results = #[.cell 6 75] := rfl
  clear hx he f1 f2 f3 g0 g1 g2
  obtain ⟨W0, hW0⟩ : ∃ W, (((w.alloc (.cells #[.slice A1 s.gens.length c1, .slice A2 s.free.length c2, .slice A3 s.ents.length c3] 75)).alloc (.cells #[.int .i64 e.id.index, .int .i64 e.id.gen, .slice A4 e.parts.length c4] 133)).alloc (.cells #[.slice none 0 0, .slice none 0 0, .slice none 0 0] 75)) = W := ⟨_, rfl⟩
  have hz0 : W0.heap.size = w.heap.size + 3 := by rw [← hW0]; simp
  have hb0 : Below w.heap.size w W0 := by rw [← hW0]; exact (((Below.refl _ _).alloc (Nat.le_refl _) _).alloc (by first | (simp; done) | (simp; omega)) _).alloc (by first | (simp; done) | (simp; omega)) _
  have HZ := Lib.hid hz0
  have HB0 := Lib.hid hb0
  have R0_0 := Lib.hid (show W0.heap[w.heap.size]? = some (.cells #[.slice A1 s.gens.length c1, .slice A2 s.free.length c2, .slice A3 s.ents.length c3] 75 (0, 0)) by rw [← hW0]; exact alloc_old (alloc_old (alloc_at rfl)))
  have R1_0 := Lib.hid (show W0.heap[w.heap.size + 1]? = some (.cells #[.int .i64 e.id.index, .int .i64 e.id.gen, .slice A4 e.parts.length c4] 133 (0, 0)) by rw [← hW0]; exact alloc_old (alloc_at (by simp)))
  have R2_0 := Lib.hid (show W0.heap[w.heap.size + 1 + 1]? = some (.cells #[.slice none 0 0, .slice none 0 0, .slice none 0 0] 75 (0, 0)) by rw [← hW0]; exact alloc_at (by simp))
  have O0 := Lib.hid (Only.refl (Box w 3) W0)
  have HVE := Lib.hid (show ∀ V, Below W0.heap.size W0 V → rEnt.list.val (Lo Q w) V (.slice A3 s.ents.length c3) s.ents from fun V h => val_lo_later (val_lo F3.out.val hb0) h)
  obtain ⟨w1, hn1⟩ : ∃ W, W0.alloc (.cells #[] 133) = W := ⟨_, rfl⟩
  have HBw1 := Lib.hid (show Below W0.heap.size W0 w1 by rw [← hn1]; exact (Below.refl _ _).alloc (Nat.le_refl _) _)
  have k1 := row_call HBw1.out R0_0.out
  obtain ⟨k1_0, l1_0, k1_1, l1_1, k1_2, l1_2⟩ := rw3 k1
  clear k1
  have k2 := row_call HBw1.out R1_0.out
  obtain ⟨k2_0, l2_0, k2_1, l2_1, k2_2, l2_2⟩ := rw3 k2
  clear k2
  have k3 := row_call HBw1.out R2_0.out
  obtain ⟨k3_0, l3_0, k3_1, l3_1, k3_2, l3_2⟩ := rw3 k3
  clear k3
  have HA1 := Lib.hid (show rEnt.acc 133 W0.heap.size (Lo Q w) w1 (.slice (some ⟨W0.heap.size, 0, none⟩) 0 0) [] by rw [← hn1]; exact Rep.acc_made W0 #[] 0 (Nat.le_refl _) (by simp [maxLen]) (by simp))
  clear hz0 hb0
  obtain ⟨q0_0, z0_0, q0_1, z0_1, q0_2, z0_2⟩ := rw3 R0_0.out
  obtain ⟨q1_0, z1_0, q1_1, z1_1, q1_2, z1_2⟩ := rw3 R1_0.out
  obtain ⟨q2_0, z2_0, q2_1, z2_1, q2_2, z2_2⟩ := rw3 R2_0.out
  go_enter Try.func152, Try.ntmps152
  go_wp2_with (with_reducible refine stopApp rfl ?_)
  try refine Lib.hid ?_
  try rw [hW0]
  clear hW0
  try rw [hn1]
  clear hn1
  clear k1_0 l1_0 k1_1 l1_1 k1_2 l1_2 k2_0 l2_0 k2_1 l2_1 k2_2 l2_2 k3_0 l3_0 k3_1 l3_1 k3_2 l3_2 q0_0 z0_0 q0_1 z0_1 q0_2 z0_2 q1_0 z1_0 q1_1 z1_1 q1_2 z1_2 q2_0 z2_0 q2_1 z2_1 q2_2 z2_2
  refine wpList_spread (e := 133) (base := W0.heap.size) (Q := Lo Q w) (Q' := Lo Q w) (r := rEnt) rfl _ _ 73 rfl (.agg #[.int .i64 0, .int .i64 0, .slice none 0 0]) 3 40 Try.underlying73 infoEnt rfl (by decide) rfl _ [] (by exact rfl) HA1.out _ s.ents (by exact rfl) (HVE.out _ HBw1.out) (fun b hb _ => ⟨hb, fun e => by have e2 : W0.heap.size = b := Option.some.inj e; have := hb.2; have := HZ.out; omega⟩) (by have := HL.out; unfold maxLen; simp; omega) (by have := HL.out; simp; omega) HBw1.out.size ?_
  intro v2 w2 hacc2 hgr2 hat2
  rw [List.nil_append] at hacc2
  have HB2 := Lib.hid (Rep.acc_below HA1.out HBw1.out hgr2 HBw1.out.size)
  have HA2 := Lib.hid hacc2
  obtain ⟨y, hy⟩ : ∃ y, s.ents[i]? = some y := ⟨_, List.getElem?_eq_getElem HI.out⟩
  obtain ⟨g2, cap2, es2, rfl, hg2, _, hl2, hc2, hrd2, hce2, hfz2⟩ := acc_get hacc2 hy
  obtain ⟨A5, c5, rfl⟩ := rEnt_cell hrd2
  have k0 := hce2 0 _ rfl
  have k1 := hce2 1 _ rfl
  have k2 := hce2 2 _ rfl
  rw [rEnt_size] at k0 k1 k2
  rw [Nat.add_zero] at k0
  have j0 := hfz2 (i * 3)
  have j1 := hfz2 (i * 3 + 1)
  have j2 := hfz2 (i * 3 + 2)
  have HG2 := Lib.hid hg2
  have HI2 := HI.out
  have n0 : ¬ g2 = w.heap.size := by have := HZ.out; omega
  have n1 : ¬ g2 = w.heap.size + 1 := by have := HZ.out; omega
  have n2 : ¬ g2 = w.heap.size + 1 + 1 := by have := HZ.out; omega
  unfold maxLen at hc2
  clear hacc2 hgr2 hat2 hg2 hrd2 hce2 hfz2 hy
  have k4 := row_call HB2.out R0_0.out
  obtain ⟨k4_0, l4_0, k4_1, l4_1, k4_2, l4_2⟩ := rw3 k4
  clear k4
  have k5 := row_call HB2.out R1_0.out
  obtain ⟨k5_0, l5_0, k5_1, l5_1, k5_2, l5_2⟩ := rw3 k5
  clear k5
  have k6 := row_call HB2.out R2_0.out
  obtain ⟨k6_0, l6_0, k6_1, l6_1, k6_2, l6_2⟩ := rw3 k6
  clear k6
  go_wp2_with fail
  clear k0 k1 k2 j0 j1 j2 n0 n1 n2 HI2
  clear k4_0 l4_0 k4_1 l4_1 k4_2 l4_2 k5_0 l5_0 k5_1 l5_1 k5_2 l5_2 k6_0 l6_0 k6_1 l6_1 k6_2 l6_2
  refine nm_post (fun w3 hnm => ?_)
  have S1 := Lib.hid (show Only (Box w 3) W0 w3 from (by rw [hnm]; exact ((((((((Only.of_below HB2.out : Only (Box w 3) W0 w2)).late (by have := HG2.out; omega)).late (by have := HG2.out; omega)).late (by have := HG2.out; omega)).put ⟨by omega, by omega⟩).put ⟨by omega, by omega⟩).put ⟨by omega, by omega⟩).put ⟨by omega, by omega⟩))
  have O1 := Lib.hid (O0.out.trans S1.out)
  have R0_1 := Lib.hid (show w3.heap[w.heap.size]? = some (.cells #[.slice A1 s.gens.length c1, .slice A2 s.free.length c2, .slice (some ⟨g2, 0, none⟩) s.ents.length cap2] 75 (0, 0)) from (by rw [hnm]; exact row_other (row_other (row_other (heap_setRow (row_other (row_other (row_other (row_call HB2.out R0_0.out) (by have := HG2.out; have := O0.out.size; have := HZ.out; omega)) (by have := HG2.out; have := O0.out.size; have := HZ.out; omega)) (by have := HG2.out; have := O0.out.size; have := HZ.out; omega))) (by omega)) (by omega)) (by omega)))
  have R1_1 := Lib.hid (row_nm hnm (row_other (row_other (row_other (row_other (row_other (row_other (row_other (row_call HB2.out R1_0.out) (by have := HG2.out; have := O0.out.size; have := HZ.out; omega)) (by have := HG2.out; have := O0.out.size; have := HZ.out; omega)) (by have := HG2.out; have := O0.out.size; have := HZ.out; omega)) (by omega)) (by omega)) (by omega)) (by omega)))
  have R2_1 := Lib.hid (show w3.heap[w.heap.size + 1 + 1]? = some (.cells #[.slice A1 s.gens.length c1, .slice A2 s.free.length c2, .slice (some ⟨g2, 0, none⟩) s.ents.length cap2] 75 (0, 0)) from (by rw [hnm]; exact heap_setRow (heap_setRow (heap_setRow (row_other (row_other (row_other (row_other (row_call HB2.out R2_0.out) (by have := HG2.out; have := O0.out.size; have := HZ.out; omega)) (by have := HG2.out; have := O0.out.size; have := HZ.out; omega)) (by have := HG2.out; have := O0.out.size; have := HZ.out; omega)) (by omega))))))
  have HA3 := Lib.hid (show rEnt.acc 133 W0.heap.size (Lo Q w) w3 (.slice (some ⟨g2, 0, none⟩) s.ents.length cap2) (s.ents.set i e) by rw [hnm]; exact acc_other (acc_other (acc_other (acc_other (acc_ent_set (x := e) HA2.out rfl HI.out G0.out G1.out ((sl_lo G2.out (HB0.out.trans (HB2.out.mono HB0.out.size))).keep fun b hb _ => ⟨⟨hb, fun e => by have e2 : g2 = b := Option.some.inj e; have := hb.2; have := HG2.out; have := HZ.out; omega⟩, rfl⟩)) (fun b hb => by have := hb.2; omega) (fun e => by have e2 : g2 = w.heap.size := Option.some.inj e; have := HG2.out; have := HZ.out; omega)) (fun b hb => by have := hb.2; omega) (fun e => by have e2 : g2 = w.heap.size + 1 + 1 := Option.some.inj e; have := HG2.out; have := HZ.out; omega)) (fun b hb => by have := hb.2; omega) (fun e => by have e2 : g2 = w.heap.size + 1 + 1 := Option.some.inj e; have := HG2.out; have := HZ.out; omega)) (fun b hb => by have := hb.2; omega) (fun e => by have e2 : g2 = w.heap.size + 1 + 1 := Option.some.inj e; have := HG2.out; have := HZ.out; omega))
  clear hnm
  obtain ⟨q2_0, q2_1, q2_2⟩ := cl3 R2_1.out
  refine ⟨rfl, .agg #[.slice A1 s.gens.length c1, .slice A2 s.free.length c2, .slice (some ⟨g2, 0, none⟩) s.ents.length cap2], by simp only [results, hfr]; go_simp, ?_⟩
  clear q2_0 q2_1 q2_2
  refine ⟨_, rfl, ?_, Only.fin HB0.out O1.out⟩
  have h := rState_agg (x := ⟨s.gens, s.free, s.ents.set i e⟩) (Q := fun b => Q b ∨ w.heap.size ≤ b) (w := w3) (sl_out F1.out (Only.fin HB0.out O1.out)) (sl_out F2.out (Only.fin HB0.out O1.out)) (sl_of (Rep.val_mono (fun b hb _ => hb.elim (fun h => .inl h.1) (fun h => .inr (by have e2 : g2 = b := Option.some.inj h; have := HG2.out; have := HZ.out; omega))) (Rep.acc_val HA3.out)))
  dsimp only at h
  rw [List.length_set] at h
  exact h
end Go.Proofs.Yteljibjbndpncaa
