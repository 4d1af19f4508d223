/- Texts on which the proofs stand: Machine, PutMath. No condition is laid on any input. -/
import Derived.Test.YteljibjbndpncaaJsG19
namespace Go.Proofs.Yteljibjbndpncaa
open Go.RowKit

/-- A machine: a layout and a state in one block. -/
def Mach (Q : Nat → Prop) (M : Nat) (W : World) (c : DConf) (s : DState) : Prop := (∀ b, Q b → b ≠ M) ∧ ∃ A cap A1 c1 A2 c2 A3 c3,
  W.heap[M]? = some (.cells #[.int .i64 c.log, .int .i64 c.pages, .int .i64 c.entities, .int .i64 c.gens, .slice A c.comps.length cap, .slice A1 s.gens.length c1, .slice A2 s.free.length c2, .slice A3 s.ents.length c3] 177 (0, 0)) ∧
  rConf.val Q W (.agg #[.int .i64 c.log, .int .i64 c.pages, .int .i64 c.entities, .int .i64 c.gens, .slice A c.comps.length cap]) c ∧
  rState.val Q W (.agg #[.slice A1 s.gens.length c1, .slice A2 s.free.length c2, .slice A3 s.ents.length c3]) s
section
variable {Q Q' : Nat → Prop} {M : Nat} {w W W' : World} {c : DConf} {s : DState}
theorem Mach.lt (h : Mach Q M W c s) : M < W.heap.size := by
  obtain ⟨_, A, cap, A1, c1, A2, c2, A3, c3, h1, _⟩ := h
  exact (Array.getElem?_eq_some_iff.1 h1).1
theorem Mach.keep (h : Mach Q M W c s) (hm : W'.heap[M]? = W.heap[M]?) (hk : ∀ b, Q b → b < W.heap.size → Q' b ∧ W'.heap[b]? = W.heap[b]?) (hq : ∀ b, Q' b → b ≠ M) : Mach Q' M W' c s := by
  obtain ⟨_, A, cap, A1, c1, A2, c2, A3, c3, h1, h2, h3⟩ := h
  exact ⟨hq, A, cap, A1, c1, A2, c2, A3, c3, hm.trans h1, Rep.val_keep (fun b hb hl => hk b hb hl.lt) h2, Rep.val_keep (fun b hb hl => hk b hb hl.lt) h3⟩
theorem Mach.later (h : Mach Q M W c s) (hb : Below W.heap.size W W') : Mach Q M W' c s := h.keep (hb.block M h.lt) (fun b hq hl => ⟨hq, hb.block b hl⟩) h.1
theorem Mach.lo (h : Mach Q M w c s) (hb : Below w.heap.size w W) : Mach (Lo Q w) M W c s := h.keep (hb.block M h.lt) (fun b hq hl => ⟨⟨hq, hl⟩, hb.block b hl⟩) (fun b hq => h.1 b hq.1)
end
def MachDid (Q : Nat → Prop) (M : Nat) (w : World) (c : DConf) (t : DState) (v : Value) (e : Ending) (W : World) : Prop := e = .returned v ∧ Mach (fun b => Q b ∨ w.heap.size ≤ b) M W c t ∧ Only (fun b => b = M) w W

set_option maxRecDepth 100000 in
set_option maxHeartbeats 2000000 in
/-- machine.spawn -/
theorem machSpawn_calls {Q : Nat → Prop} {M : Nat} {w : World} {c : DConf} {s : DState} (hm : Mach Q M w c s) (hok : StOk c s) :
    Calls Try.prog 179 #[.pointer (some ⟨M, 0, none⟩)] w (MachDid Q M w c (spawnS c s).1 (.tuple #[.agg #[.int .i64 (spawnS c s).2.1.index, .int .i64 (spawnS c s).2.1.gen], .int .i64 (spawnS c s).2.2])) := by
  have HOK := Lib.hid hok
  have HM := Lib.hid hm.lt
  have HQ := Lib.hid hm.1
  obtain ⟨_, A, cap, A1, c1, A2, c2, A3, c3, h1, h2, h3⟩ := hm
  have hfr : Try.f179.results = #[.cell 2 114, .tmp 3] := rfl
  obtain ⟨W0, hW0⟩ : ∃ W, (w.alloc (.cells #[.int .i64 0, .int .i64 0] 114)) = W := ⟨_, rfl⟩
  have hz0 : W0.heap.size = w.heap.size + 1 := by rw [← hW0]; simp
  have hb0 : Below w.heap.size w W0 := by rw [← hW0]; exact (Below.refl _ _).alloc (Nat.le_refl _) _
  have HZ := Lib.hid hz0
  have HB0 := Lib.hid hb0
  have R0_0 := Lib.hid (show W0.heap[w.heap.size]? = some (.cells #[.int .i64 0, .int .i64 0] 114 (0, 0)) by rw [← hW0]; exact alloc_at rfl)
  have O0 := Lib.hid (Only.refl (Box w 1) W0)
  have HRM := Lib.hid (show ∀ V, Below W0.heap.size W0 V → V.heap[M]? = some (.cells #[.int .i64 c.log, .int .i64 c.pages, .int .i64 c.entities, .int .i64 c.gens, .slice A c.comps.length cap, .slice A1 s.gens.length c1, .slice A2 s.free.length c2, .slice A3 s.ents.length c3] 177 (0, 0)) from fun V hv => (hv.block M (by have := HM.out; omega)).trans ((hb0.block M HM.out).trans h1))
  have HCV := Lib.hid (show ∀ V, Below W0.heap.size W0 V → rConf.val (fun b => Q b ∧ b < w.heap.size) V (.agg #[.int .i64 c.log, .int .i64 c.pages, .int .i64 c.entities, .int .i64 c.gens, .slice A c.comps.length cap]) c from fun V hv => Rep.val_keep (fun b hq hl => ⟨⟨hq, hl.lt⟩, (hv.block b (by have := hl.lt; omega)).trans (hb0.block b hl.lt)⟩) h2)
  have HSV := Lib.hid (show ∀ V, Below W0.heap.size W0 V → rState.val (fun b => Q b ∧ b < w.heap.size) V (.agg #[.slice A1 s.gens.length c1, .slice A2 s.free.length c2, .slice A3 s.ents.length c3]) s from fun V hv => Rep.val_keep (fun b hq hl => ⟨⟨hq, hl.lt⟩, (hv.block b (by have := hl.lt; omega)).trans (hb0.block b hl.lt)⟩) h3)
  obtain ⟨r, hr⟩ : ∃ r, spawnS c s = r := ⟨_, rfl⟩
  rw [hr]
  have HR := Lib.hid hr
  clear hr h1 h2 h3 hok
  clear hz0 hb0
  have q0_0 := rw2 R0_0.out
  go_enter Try.func179, Try.ntmps179
  go_wp2_with fail
  try rw [hW0]
  clear hW0
  try go_wp2_with fail
  clear q0_0
  refine wp_region_tail (S := fun W => Below W0.heap.size W0 W) (T := [0, 12, 13, 16, 17, 18]) (by kernel_rfl) ((Below.refl _ _).drew) (fun s0 => ?_)
  obtain ⟨u0, hu0⟩ : ∃ V, V = W0.drew := ⟨_, rfl⟩
  rw [← hu0] at s0 ⊢
  have t0 : Below W0.heap.size W0 u0 := s0
  clear hu0 s0
  refine tk0 (i := 0) (v := .pointer (some ⟨M, 0, none⟩)) rfl (Or.inl ⟨by rfl, fun w' _ => by go_simp⟩) ?_
  go_simp
  refine tkTV (i := 1) (v := .pointer (some ⟨M, 0, none⟩)) rfl t0 ?_
  go_simp
  refine tkTV (i := 2) (v := .pointer (some ⟨M, 0, none⟩)) rfl t0 ?_
  go_simp
  refine tkTV (i := 3) (v := .pointer (some ⟨M, 0, none⟩)) rfl t0 ?_
  go_simp
  refine tkT (i := 4) (v := .agg #[.int .i64 c.log, .int .i64 c.pages, .int .i64 c.entities, .int .i64 c.gens, .slice A c.comps.length cap]) rfl (Or.inl ⟨by rfl, fun w' h => by have e := HRM.out w' h; have e0 := cell_row e 0; have e1 := cell_row e 1; have e2 := cell_row e 2; have e3 := cell_row e 3; have e4 := cell_row e 4; have e5 := cell_row e 5; have e6 := cell_row e 6; have e7 := cell_row e 7; go_simp⟩) t0 ?_
  go_simp
  refine tkTV (i := 5) (v := .pointer (some ⟨M, 0, none⟩)) rfl t0 ?_
  go_simp
  refine tkTV (i := 6) (v := .pointer (some ⟨M, 0, none⟩)) rfl t0 ?_
  go_simp
  refine tkTV (i := 7) (v := .pointer (some ⟨M, 5, none⟩)) rfl t0 ?_
  go_simp
  refine tkT (i := 8) (v := .agg #[.slice A1 s.gens.length c1, .slice A2 s.free.length c2, .slice A3 s.ents.length c3]) rfl (Or.inl ⟨by rfl, fun w' h => by have e := HRM.out w' h; have e0 := cell_row e 0; have e1 := cell_row e 1; have e2 := cell_row e 2; have e3 := cell_row e 3; have e4 := cell_row e 4; have e5 := cell_row e 5; have e6 := cell_row e 6; have e7 := cell_row e 7; go_simp⟩) t0 ?_
  go_simp
  refine wpAnyT_one (i := 9) rfl (by kernel_rfl) rfl (fun K hK => ?_)
  go_simp
  refine (mspawn_calls (HCV.out _ t0) (HSV.out _ t0) HOK.out).mono ?_
  rw [HR.out]
  rintro e u1 ⟨zz, rfl, hz, hb⟩
  obtain ⟨A7, c7, A8, c8, A9, c9, rfl, _⟩ := rState_val hz
  have t1 : Below W0.heap.size W0 u1 := Below.trans t0 (hb.mono (Below.size t0))
  have HZS := Lib.hid (show rState.val (fun b => W0.heap.size ≤ b) u1 (.agg #[.slice A7 r.1.gens.length c7, .slice A8 r.1.free.length c8, .slice A9 r.1.ents.length c9]) r.1 from Rep.val_mono (fun b hb _ => Nat.le_trans (Below.size t0) hb) hz)
  refine hK _ _ ⟨t1, ?_⟩
  clear hz hb hK K
  go_simp
  refine tkTV (i := 10) (v := .tuple #[.agg #[.slice A7 r.1.gens.length c7, .slice A8 r.1.free.length c8, .slice A9 r.1.ents.length c9], .agg #[.int .i64 r.2.1.index, .int .i64 r.2.1.gen], .int .i64 r.2.2]) rfl t1 ?_
  go_simp
  refine tk0 (i := 12) (v := .agg #[.int .i64 r.2.1.index, .int .i64 r.2.1.gen]) rfl (Or.inl ⟨by rfl, fun w' _ => by go_simp⟩) ?_
  go_simp
  refine tk0 (i := 13) (v := .int .i64 r.2.2) rfl (Or.inl ⟨by rfl, fun w' _ => by go_simp⟩) ?_
  go_simp
  refine tkTV (i := 11) (v := .agg #[.slice A7 r.1.gens.length c7, .slice A8 r.1.free.length c8, .slice A9 r.1.ents.length c9]) rfl t1 ?_
  go_simp
  refine tkTV (i := 14) (v := .pointer (some ⟨M, 0, none⟩)) rfl t1 ?_
  go_simp
  refine tkTV (i := 15) (v := .pointer (some ⟨M, 5, none⟩)) rfl t1 ?_
  go_simp
  refine wpAnyT_last (i := 16) rfl (by kernel_rfl) rfl (fun K hK => ?_)
  have eb := HRM.out _ t1
  have q0 := rw8 eb
  go_simp
  refine hK _ _ ?_
  clear hK K eb q0
  refine nm_anyT (fun w5 hnm => ?_)
  have RM5 := Lib.hid (show w5.heap[M]? = some (.cells #[.int .i64 c.log, .int .i64 c.pages, .int .i64 c.entities, .int .i64 c.gens, .slice A c.comps.length cap, .slice A7 r.1.gens.length c7, .slice A8 r.1.free.length c8, .slice A9 r.1.ents.length c9] 177 (0, 0)) by rw [hnm]; exact heap_setRow (heap_setRow (heap_setRow (HRM.out _ t1))))
  have HK5 := Lib.hid (show ∀ b, b ≠ M → w5.heap[b]? = u1.heap[b]? from fun b hb => by rw [hnm]; exact (Below.heap_setCell _ _ _ _ hb).trans ((Below.heap_setCell _ _ _ _ hb).trans (Below.heap_setCell _ _ _ _ hb)))
  have HO5 := Lib.hid (show Only (fun b => b = M) W0 w5 by rw [hnm]; exact ((((Only.of_below t1) : Only (fun b => b = M) W0 u1).put rfl).put rfl).put rfl)
  have HC5 := Lib.hid (show rConf.val (fun b => Q b ∧ b < w.heap.size) w5 (.agg #[.int .i64 c.log, .int .i64 c.pages, .int .i64 c.entities, .int .i64 c.gens, .slice A c.comps.length cap]) c from Rep.val_keep (fun b hq _ => ⟨hq, HK5.out b (HQ.out b hq.1)⟩) (HCV.out _ t1))
  have HS5 := Lib.hid (show rState.val (fun b => W0.heap.size ≤ b) w5 (.agg #[.slice A7 r.1.gens.length c7, .slice A8 r.1.free.length c8, .slice A9 r.1.ents.length c9]) r.1 from Rep.val_keep (fun b hq _ => ⟨hq, HK5.out b (by have := HM.out; have := HB0.out.size; omega)⟩) HZS.out)
  have R5 := Lib.hid (show w5.heap[w.heap.size]? = some (.cells #[.int .i64 0, .int .i64 0] 114 (0, 0)) from (HK5.out _ (by have := HM.out; omega)).trans (row_call t1 R0_0.out))
  clear hnm
  refine wpAnyT_last (i := 17) rfl (by kernel_rfl) rfl (fun K hK => ?_)
  have q0 := rw2 R5.out
  go_simp
  refine hK _ _ ?_
  clear hK K q0
  refine nm_anyT (fun w6 hnm => ?_)
  have HK6 := Lib.hid (show ∀ b, b ≠ w.heap.size → w6.heap[b]? = w5.heap[b]? from fun b hb => by rw [hnm]; exact (Below.heap_setCell _ _ _ _ hb).trans (Below.heap_setCell _ _ _ _ hb))
  have R6 := Lib.hid (show w6.heap[w.heap.size]? = some (.cells #[.int .i64 r.2.1.index, .int .i64 r.2.1.gen] 114 (0, 0)) by rw [hnm]; exact heap_setRow (heap_setRow R5.out))
  have RM6 := Lib.hid ((HK6.out M (by have := HM.out; omega)).trans RM5.out)
  have HO6 := Lib.hid (show Only (fun b => b = M ∨ b = w.heap.size) W0 w6 by rw [hnm]; exact ((HO5.out.wid (fun b h => .inl h)).put (.inr rfl)).put (.inr rfl))
  have HC6 := Lib.hid (Rep.val_keep (Q' := fun b => Q b ∧ b < w.heap.size) (w' := w6) (fun b hq _ => ⟨hq, HK6.out b (by have := hq.2; omega)⟩) HC5.out)
  have HS6 := Lib.hid (Rep.val_keep (Q' := fun b => W0.heap.size ≤ b) (w' := w6) (fun b hq _ => ⟨hq, HK6.out b (by have := HZ.out; omega)⟩) HS5.out)
  clear hnm
  refine tk0 (i := 18) (v := .int .i64 r.2.2) rfl (Or.inl ⟨by rfl, fun w' _ => by go_simp⟩) ?_
  go_simp
  refine wpAnyT_done (by kernel_rfl) ?_ _
  have q0 := rw2 R6.out
  go_wp2_with fail
  clear q0
  refine nm_post (fun w7 hnm => ?_)
  have HK7 := Lib.hid (show ∀ b, b ≠ w.heap.size → w7.heap[b]? = w6.heap[b]? from fun b hb => by rw [hnm]; exact (Below.heap_setCell _ _ _ _ hb).trans (Below.heap_setCell _ _ _ _ hb))
  have R7 := Lib.hid (show w7.heap[w.heap.size]? = some (.cells #[.int .i64 r.2.1.index, .int .i64 r.2.1.gen] 114 (0, 0)) by rw [hnm]; exact heap_setRow (heap_setRow R6.out))
  have RM7 := Lib.hid ((HK7.out M (by have := HM.out; omega)).trans RM6.out)
  have HO7 := Lib.hid (show Only (fun b => b = M ∨ b = w.heap.size) W0 w7 by rw [hnm]; exact ((HO6.out.wid (fun b h => h)).put (.inr rfl)).put (.inr rfl))
  have HC7 := Lib.hid (Rep.val_keep (Q' := fun b => Q b ∧ b < w.heap.size) (w' := w7) (fun b hq _ => ⟨hq, HK7.out b (by have := hq.2; omega)⟩) HC6.out)
  have HS7 := Lib.hid (Rep.val_keep (Q' := fun b => W0.heap.size ≤ b) (w' := w7) (fun b hq _ => ⟨hq, HK7.out b (by have := HZ.out; omega)⟩) HS6.out)
  clear hnm
  have q0 := cl2 R7.out
  refine ⟨rfl, .tuple #[.agg #[.int .i64 r.2.1.index, .int .i64 r.2.1.gen], .int .i64 r.2.2], by simp only [results, hfr]; go_simp, ?_⟩
  clear q0
  refine ⟨rfl, ⟨fun b hb => hb.elim (HQ.out b) (fun h => by have := HM.out; omega), A, cap, A7, c7, A8, c8, A9, c9, RM7.out, Rep.val_mono (fun b hb _ => .inl hb.1) HC7.out, Rep.val_mono (fun b hb _ => .inr (Nat.le_trans HB0.out.size hb)) HS7.out⟩, ?_⟩
  exact ⟨HO7.out.os.trans HB0.out.os, HO7.out.tape.trans HB0.out.tape, HO7.out.output.trans HB0.out.output, Nat.le_trans HB0.out.size HO7.out.size, fun b hl hf => (HO7.out.block b (Nat.lt_of_lt_of_le hl HB0.out.size) (fun e => hf ((by first | exact e | (rcases e with e | e; (· exact e); omega))))).trans (HB0.out.block b hl)⟩

set_option maxRecDepth 100000 in
set_option maxHeartbeats 2000000 in
/-- machine.despawn -/
theorem machDespawn_calls {Q : Nat → Prop} {M : Nat} {w : World} {c : DConf} {s : DState} {id : DID} (hm : Mach Q M w c s) (hok : StOk c s) :
    Calls Try.prog 176 #[.pointer (some ⟨M, 0, none⟩), .agg #[.int .i64 id.index, .int .i64 id.gen]] w (MachDid Q M w c (despawnS c s id).1 (.int .i64 (despawnS c s id).2)) := by
  have HOK := Lib.hid hok
  have HM := Lib.hid hm.lt
  have HQ := Lib.hid hm.1
  obtain ⟨_, A, cap, A1, c1, A2, c2, A3, c3, h1, h2, h3⟩ := hm
  obtain ⟨W0, hW0⟩ : ∃ W, (w.alloc (.cells #[.int .i64 id.index, .int .i64 id.gen] 114)) = W := ⟨_, rfl⟩
  have hz0 : W0.heap.size = w.heap.size + 1 := by rw [← hW0]; simp
  have hb0 : Below w.heap.size w W0 := by rw [← hW0]; exact (Below.refl _ _).alloc (Nat.le_refl _) _
  have HZ := Lib.hid hz0
  have HB0 := Lib.hid hb0
  have R0_0 := Lib.hid (show W0.heap[w.heap.size]? = some (.cells #[.int .i64 id.index, .int .i64 id.gen] 114 (0, 0)) by rw [← hW0]; exact alloc_at rfl)
  have O0 := Lib.hid (Only.refl (Box w 1) W0)
  have HRM := Lib.hid (show ∀ V, Below W0.heap.size W0 V → V.heap[M]? = some (.cells #[.int .i64 c.log, .int .i64 c.pages, .int .i64 c.entities, .int .i64 c.gens, .slice A c.comps.length cap, .slice A1 s.gens.length c1, .slice A2 s.free.length c2, .slice A3 s.ents.length c3] 177 (0, 0)) from fun V hv => (hv.block M (by have := HM.out; omega)).trans ((hb0.block M HM.out).trans h1))
  have HCV := Lib.hid (show ∀ V, Below W0.heap.size W0 V → rConf.val (fun b => Q b ∧ b < w.heap.size) V (.agg #[.int .i64 c.log, .int .i64 c.pages, .int .i64 c.entities, .int .i64 c.gens, .slice A c.comps.length cap]) c from fun V hv => Rep.val_keep (fun b hq hl => ⟨⟨hq, hl.lt⟩, (hv.block b (by have := hl.lt; omega)).trans (hb0.block b hl.lt)⟩) h2)
  have HSV := Lib.hid (show ∀ V, Below W0.heap.size W0 V → rState.val (fun b => Q b ∧ b < w.heap.size) V (.agg #[.slice A1 s.gens.length c1, .slice A2 s.free.length c2, .slice A3 s.ents.length c3]) s from fun V hv => Rep.val_keep (fun b hq hl => ⟨⟨hq, hl.lt⟩, (hv.block b (by have := hl.lt; omega)).trans (hb0.block b hl.lt)⟩) h3)
  obtain ⟨r, hr⟩ : ∃ r, despawnS c s id = r := ⟨_, rfl⟩
  rw [hr]
  have HR := Lib.hid hr
  clear hr h1 h2 h3 hok
  clear hz0 hb0
  have q0_0 := rw2 R0_0.out
  go_enter Try.func176, Try.ntmps176
  go_wp2_with fail
  try rw [hW0]
  clear hW0
  try go_wp2_with fail
  clear q0_0
  refine wp_region_tail (S := fun W => Below W0.heap.size W0 W) (T := [0, 13, 16, 17]) (by kernel_rfl) ((Below.refl _ _).drew) (fun s0 => ?_)
  obtain ⟨u0, hu0⟩ : ∃ V, V = W0.drew := ⟨_, rfl⟩
  rw [← hu0] at s0 ⊢
  have t0 : Below W0.heap.size W0 u0 := s0
  clear hu0 s0
  refine tk0 (i := 0) (v := .pointer (some ⟨M, 0, none⟩)) rfl (Or.inl ⟨by rfl, fun w' _ => by go_simp⟩) ?_
  go_simp
  refine tkTV (i := 1) (v := .pointer (some ⟨M, 0, none⟩)) rfl t0 ?_
  go_simp
  refine tkTV (i := 2) (v := .pointer (some ⟨M, 0, none⟩)) rfl t0 ?_
  go_simp
  refine tkTV (i := 3) (v := .pointer (some ⟨M, 0, none⟩)) rfl t0 ?_
  go_simp
  refine tkT (i := 4) (v := .agg #[.int .i64 c.log, .int .i64 c.pages, .int .i64 c.entities, .int .i64 c.gens, .slice A c.comps.length cap]) rfl (Or.inl ⟨by rfl, fun w' h => by have e := HRM.out w' h; have e0 := cell_row e 0; have e1 := cell_row e 1; have e2 := cell_row e 2; have e3 := cell_row e 3; have e4 := cell_row e 4; have e5 := cell_row e 5; have e6 := cell_row e 6; have e7 := cell_row e 7; go_simp⟩) t0 ?_
  go_simp
  refine tkTV (i := 5) (v := .pointer (some ⟨M, 0, none⟩)) rfl t0 ?_
  go_simp
  refine tkTV (i := 6) (v := .pointer (some ⟨M, 0, none⟩)) rfl t0 ?_
  go_simp
  refine tkTV (i := 7) (v := .pointer (some ⟨M, 5, none⟩)) rfl t0 ?_
  go_simp
  refine tkT (i := 8) (v := .agg #[.slice A1 s.gens.length c1, .slice A2 s.free.length c2, .slice A3 s.ents.length c3]) rfl (Or.inl ⟨by rfl, fun w' h => by have e := HRM.out w' h; have e0 := cell_row e 0; have e1 := cell_row e 1; have e2 := cell_row e 2; have e3 := cell_row e 3; have e4 := cell_row e 4; have e5 := cell_row e 5; have e6 := cell_row e 6; have e7 := cell_row e 7; go_simp⟩) t0 ?_
  go_simp
  refine tkT (i := 9) (v := .agg #[.int .i64 id.index, .int .i64 id.gen]) rfl (Or.inl ⟨by rfl, fun w' h => by have e := row_call (h : Below W0.heap.size W0 w') R0_0.out; have e0 := cell_row e 0; have e1 := cell_row e 1; go_simp⟩) t0 ?_
  go_simp
  refine wpAnyT_one (i := 10) rfl (by kernel_rfl) rfl (fun K hK => ?_)
  go_simp
  refine (mdespawn_calls (id := id) (HCV.out _ t0) (HSV.out _ t0) HOK.out).mono ?_
  rw [HR.out]
  rintro e u1 ⟨zz, rfl, hz, hb⟩
  obtain ⟨A7, c7, A8, c8, A9, c9, rfl, _⟩ := rState_val hz
  have t1 : Below W0.heap.size W0 u1 := Below.trans t0 (hb.mono (Below.size t0))
  have HZS := Lib.hid (show rState.val (fun b => W0.heap.size ≤ b) u1 (.agg #[.slice A7 r.1.gens.length c7, .slice A8 r.1.free.length c8, .slice A9 r.1.ents.length c9]) r.1 from Rep.val_mono (fun b hb _ => Nat.le_trans (Below.size t0) hb) hz)
  refine hK _ _ ⟨t1, ?_⟩
  clear hz hb hK K
  go_simp
  refine tkTV (i := 11) (v := .tuple #[.agg #[.slice A7 r.1.gens.length c7, .slice A8 r.1.free.length c8, .slice A9 r.1.ents.length c9], .int .i64 r.2]) rfl t1 ?_
  go_simp
  refine tk0 (i := 13) (v := .int .i64 r.2) rfl (Or.inl ⟨by rfl, fun w' _ => by go_simp⟩) ?_
  go_simp
  refine tkTV (i := 12) (v := .agg #[.slice A7 r.1.gens.length c7, .slice A8 r.1.free.length c8, .slice A9 r.1.ents.length c9]) rfl t1 ?_
  go_simp
  refine tkTV (i := 14) (v := .pointer (some ⟨M, 0, none⟩)) rfl t1 ?_
  go_simp
  refine tkTV (i := 15) (v := .pointer (some ⟨M, 5, none⟩)) rfl t1 ?_
  go_simp
  refine wpAnyT_last (i := 16) rfl (by kernel_rfl) rfl (fun K hK => ?_)
  have eb := HRM.out _ t1
  have q0 := rw8 eb
  go_simp
  refine hK _ _ ?_
  clear hK K eb q0
  refine nm_anyT (fun w5 hnm => ?_)
  have RM5 := Lib.hid (show w5.heap[M]? = some (.cells #[.int .i64 c.log, .int .i64 c.pages, .int .i64 c.entities, .int .i64 c.gens, .slice A c.comps.length cap, .slice A7 r.1.gens.length c7, .slice A8 r.1.free.length c8, .slice A9 r.1.ents.length c9] 177 (0, 0)) by rw [hnm]; exact heap_setRow (heap_setRow (heap_setRow (HRM.out _ t1))))
  have HK5 := Lib.hid (show ∀ b, b ≠ M → w5.heap[b]? = u1.heap[b]? from fun b hb => by rw [hnm]; exact (Below.heap_setCell _ _ _ _ hb).trans ((Below.heap_setCell _ _ _ _ hb).trans (Below.heap_setCell _ _ _ _ hb)))
  have HO5 := Lib.hid (show Only (fun b => b = M) W0 w5 by rw [hnm]; exact ((((Only.of_below t1) : Only (fun b => b = M) W0 u1).put rfl).put rfl).put rfl)
  have HC5 := Lib.hid (show rConf.val (fun b => Q b ∧ b < w.heap.size) w5 (.agg #[.int .i64 c.log, .int .i64 c.pages, .int .i64 c.entities, .int .i64 c.gens, .slice A c.comps.length cap]) c from Rep.val_keep (fun b hq _ => ⟨hq, HK5.out b (HQ.out b hq.1)⟩) (HCV.out _ t1))
  have HS5 := Lib.hid (show rState.val (fun b => W0.heap.size ≤ b) w5 (.agg #[.slice A7 r.1.gens.length c7, .slice A8 r.1.free.length c8, .slice A9 r.1.ents.length c9]) r.1 from Rep.val_keep (fun b hq _ => ⟨hq, HK5.out b (by have := HM.out; have := HB0.out.size; omega)⟩) HZS.out)
  have R5 := Lib.hid (show w5.heap[w.heap.size]? = some (.cells #[.int .i64 id.index, .int .i64 id.gen] 114 (0, 0)) from (HK5.out _ (by have := HM.out; omega)).trans (row_call t1 R0_0.out))
  clear hnm
  refine tk0 (i := 17) (v := .int .i64 r.2) rfl (Or.inl ⟨by rfl, fun w' _ => by go_simp⟩) ?_
  go_simp
  refine wpAnyT_done (by kernel_rfl) ?_ _
  go_wp2_with fail
  go_ret
  refine ⟨rfl, ⟨fun b hb => hb.elim (HQ.out b) (fun h => by have := HM.out; omega), A, cap, A7, c7, A8, c8, A9, c9, RM5.out, Rep.val_mono (fun b hb _ => .inl hb.1) HC5.out, Rep.val_mono (fun b hb _ => .inr (Nat.le_trans HB0.out.size hb)) HS5.out⟩, ?_⟩
  exact ⟨HO5.out.os.trans HB0.out.os, HO5.out.tape.trans HB0.out.tape, HO5.out.output.trans HB0.out.output, Nat.le_trans HB0.out.size HO5.out.size, fun b hl hf => (HO5.out.block b (Nat.lt_of_lt_of_le hl HB0.out.size) (fun e => hf ((by first | exact e | (rcases e with e | e; (· exact e); omega))))).trans (HB0.out.block b hl)⟩

set_option maxRecDepth 100000 in
set_option maxHeartbeats 2000000 in
/-- machine.remove -/
theorem machRemove_calls {Q : Nat → Prop} {M : Nat} {w : World} {c : DConf} {s : DState} {id : DID} {k : Int} (hm : Mach Q M w c s) (hok : StOk c s) :
    Calls Try.prog 177 #[.pointer (some ⟨M, 0, none⟩), .agg #[.int .i64 id.index, .int .i64 id.gen], .int .i64 k] w (MachDid Q M w c (removeS c s id k).1 (.int .i64 (removeS c s id k).2)) := by
  have HOK := Lib.hid hok
  have HM := Lib.hid hm.lt
  have HQ := Lib.hid hm.1
  obtain ⟨_, A, cap, A1, c1, A2, c2, A3, c3, h1, h2, h3⟩ := hm
  obtain ⟨W0, hW0⟩ : ∃ W, (w.alloc (.cells #[.int .i64 id.index, .int .i64 id.gen] 114)) = W := ⟨_, rfl⟩
  have hz0 : W0.heap.size = w.heap.size + 1 := by rw [← hW0]; simp
  have hb0 : Below w.heap.size w W0 := by rw [← hW0]; exact (Below.refl _ _).alloc (Nat.le_refl _) _
  have HZ := Lib.hid hz0
  have HB0 := Lib.hid hb0
  have R0_0 := Lib.hid (show W0.heap[w.heap.size]? = some (.cells #[.int .i64 id.index, .int .i64 id.gen] 114 (0, 0)) by rw [← hW0]; exact alloc_at rfl)
  have O0 := Lib.hid (Only.refl (Box w 1) W0)
  have HRM := Lib.hid (show ∀ V, Below W0.heap.size W0 V → V.heap[M]? = some (.cells #[.int .i64 c.log, .int .i64 c.pages, .int .i64 c.entities, .int .i64 c.gens, .slice A c.comps.length cap, .slice A1 s.gens.length c1, .slice A2 s.free.length c2, .slice A3 s.ents.length c3] 177 (0, 0)) from fun V hv => (hv.block M (by have := HM.out; omega)).trans ((hb0.block M HM.out).trans h1))
  have HCV := Lib.hid (show ∀ V, Below W0.heap.size W0 V → rConf.val (fun b => Q b ∧ b < w.heap.size) V (.agg #[.int .i64 c.log, .int .i64 c.pages, .int .i64 c.entities, .int .i64 c.gens, .slice A c.comps.length cap]) c from fun V hv => Rep.val_keep (fun b hq hl => ⟨⟨hq, hl.lt⟩, (hv.block b (by have := hl.lt; omega)).trans (hb0.block b hl.lt)⟩) h2)
  have HSV := Lib.hid (show ∀ V, Below W0.heap.size W0 V → rState.val (fun b => Q b ∧ b < w.heap.size) V (.agg #[.slice A1 s.gens.length c1, .slice A2 s.free.length c2, .slice A3 s.ents.length c3]) s from fun V hv => Rep.val_keep (fun b hq hl => ⟨⟨hq, hl.lt⟩, (hv.block b (by have := hl.lt; omega)).trans (hb0.block b hl.lt)⟩) h3)
  obtain ⟨r, hr⟩ : ∃ r, removeS c s id k = r := ⟨_, rfl⟩
  rw [hr]
  have HR := Lib.hid hr
  clear hr h1 h2 h3 hok
  clear hz0 hb0
  have q0_0 := rw2 R0_0.out
  go_enter Try.func177, Try.ntmps177
  go_wp2_with fail
  try rw [hW0]
  clear hW0
  try go_wp2_with fail
  clear q0_0
  refine wp_region_tail (S := fun W => Below W0.heap.size W0 W) (T := [0, 14, 17, 18]) (by kernel_rfl) ((Below.refl _ _).drew) (fun s0 => ?_)
  obtain ⟨u0, hu0⟩ : ∃ V, V = W0.drew := ⟨_, rfl⟩
  rw [← hu0] at s0 ⊢
  have t0 : Below W0.heap.size W0 u0 := s0
  clear hu0 s0
  refine tk0 (i := 0) (v := .pointer (some ⟨M, 0, none⟩)) rfl (Or.inl ⟨by rfl, fun w' _ => by go_simp⟩) ?_
  go_simp
  refine tkTV (i := 1) (v := .pointer (some ⟨M, 0, none⟩)) rfl t0 ?_
  go_simp
  refine tkTV (i := 2) (v := .pointer (some ⟨M, 0, none⟩)) rfl t0 ?_
  go_simp
  refine tkTV (i := 3) (v := .pointer (some ⟨M, 0, none⟩)) rfl t0 ?_
  go_simp
  refine tkT (i := 4) (v := .agg #[.int .i64 c.log, .int .i64 c.pages, .int .i64 c.entities, .int .i64 c.gens, .slice A c.comps.length cap]) rfl (Or.inl ⟨by rfl, fun w' h => by have e := HRM.out w' h; have e0 := cell_row e 0; have e1 := cell_row e 1; have e2 := cell_row e 2; have e3 := cell_row e 3; have e4 := cell_row e 4; have e5 := cell_row e 5; have e6 := cell_row e 6; have e7 := cell_row e 7; go_simp⟩) t0 ?_
  go_simp
  refine tkTV (i := 5) (v := .pointer (some ⟨M, 0, none⟩)) rfl t0 ?_
  go_simp
  refine tkTV (i := 6) (v := .pointer (some ⟨M, 0, none⟩)) rfl t0 ?_
  go_simp
  refine tkTV (i := 7) (v := .pointer (some ⟨M, 5, none⟩)) rfl t0 ?_
  go_simp
  refine tkT (i := 8) (v := .agg #[.slice A1 s.gens.length c1, .slice A2 s.free.length c2, .slice A3 s.ents.length c3]) rfl (Or.inl ⟨by rfl, fun w' h => by have e := HRM.out w' h; have e0 := cell_row e 0; have e1 := cell_row e 1; have e2 := cell_row e 2; have e3 := cell_row e 3; have e4 := cell_row e 4; have e5 := cell_row e 5; have e6 := cell_row e 6; have e7 := cell_row e 7; go_simp⟩) t0 ?_
  go_simp
  refine tkT (i := 9) (v := .agg #[.int .i64 id.index, .int .i64 id.gen]) rfl (Or.inl ⟨by rfl, fun w' h => by have e := row_call (h : Below W0.heap.size W0 w') R0_0.out; have e0 := cell_row e 0; have e1 := cell_row e 1; go_simp⟩) t0 ?_
  go_simp
  refine tkTV (i := 10) (v := .int .i64 k) rfl t0 ?_
  go_simp
  refine wpAnyT_one (i := 11) rfl (by kernel_rfl) rfl (fun K hK => ?_)
  go_simp
  refine (mremove_calls (id := id) (k := k) (HCV.out _ t0) (HSV.out _ t0) HOK.out).mono ?_
  rw [HR.out]
  rintro e u1 ⟨zz, rfl, hz, hb⟩
  obtain ⟨A7, c7, A8, c8, A9, c9, rfl, _⟩ := rState_val hz
  have t1 : Below W0.heap.size W0 u1 := Below.trans t0 (hb.mono (Below.size t0))
  have HZS := Lib.hid (show rState.val (fun b => W0.heap.size ≤ b) u1 (.agg #[.slice A7 r.1.gens.length c7, .slice A8 r.1.free.length c8, .slice A9 r.1.ents.length c9]) r.1 from Rep.val_mono (fun b hb _ => Nat.le_trans (Below.size t0) hb) hz)
  refine hK _ _ ⟨t1, ?_⟩
  clear hz hb hK K
  go_simp
  refine tkTV (i := 12) (v := .tuple #[.agg #[.slice A7 r.1.gens.length c7, .slice A8 r.1.free.length c8, .slice A9 r.1.ents.length c9], .int .i64 r.2]) rfl t1 ?_
  go_simp
  refine tk0 (i := 14) (v := .int .i64 r.2) rfl (Or.inl ⟨by rfl, fun w' _ => by go_simp⟩) ?_
  go_simp
  refine tkTV (i := 13) (v := .agg #[.slice A7 r.1.gens.length c7, .slice A8 r.1.free.length c8, .slice A9 r.1.ents.length c9]) rfl t1 ?_
  go_simp
  refine tkTV (i := 15) (v := .pointer (some ⟨M, 0, none⟩)) rfl t1 ?_
  go_simp
  refine tkTV (i := 16) (v := .pointer (some ⟨M, 5, none⟩)) rfl t1 ?_
  go_simp
  refine wpAnyT_last (i := 17) rfl (by kernel_rfl) rfl (fun K hK => ?_)
  have eb := HRM.out _ t1
  have q0 := rw8 eb
  go_simp
  refine hK _ _ ?_
  clear hK K eb q0
  refine nm_anyT (fun w5 hnm => ?_)
  have RM5 := Lib.hid (show w5.heap[M]? = some (.cells #[.int .i64 c.log, .int .i64 c.pages, .int .i64 c.entities, .int .i64 c.gens, .slice A c.comps.length cap, .slice A7 r.1.gens.length c7, .slice A8 r.1.free.length c8, .slice A9 r.1.ents.length c9] 177 (0, 0)) by rw [hnm]; exact heap_setRow (heap_setRow (heap_setRow (HRM.out _ t1))))
  have HK5 := Lib.hid (show ∀ b, b ≠ M → w5.heap[b]? = u1.heap[b]? from fun b hb => by rw [hnm]; exact (Below.heap_setCell _ _ _ _ hb).trans ((Below.heap_setCell _ _ _ _ hb).trans (Below.heap_setCell _ _ _ _ hb)))
  have HO5 := Lib.hid (show Only (fun b => b = M) W0 w5 by rw [hnm]; exact ((((Only.of_below t1) : Only (fun b => b = M) W0 u1).put rfl).put rfl).put rfl)
  have HC5 := Lib.hid (show rConf.val (fun b => Q b ∧ b < w.heap.size) w5 (.agg #[.int .i64 c.log, .int .i64 c.pages, .int .i64 c.entities, .int .i64 c.gens, .slice A c.comps.length cap]) c from Rep.val_keep (fun b hq _ => ⟨hq, HK5.out b (HQ.out b hq.1)⟩) (HCV.out _ t1))
  have HS5 := Lib.hid (show rState.val (fun b => W0.heap.size ≤ b) w5 (.agg #[.slice A7 r.1.gens.length c7, .slice A8 r.1.free.length c8, .slice A9 r.1.ents.length c9]) r.1 from Rep.val_keep (fun b hq _ => ⟨hq, HK5.out b (by have := HM.out; have := HB0.out.size; omega)⟩) HZS.out)
  have R5 := Lib.hid (show w5.heap[w.heap.size]? = some (.cells #[.int .i64 id.index, .int .i64 id.gen] 114 (0, 0)) from (HK5.out _ (by have := HM.out; omega)).trans (row_call t1 R0_0.out))
  clear hnm
  refine tk0 (i := 18) (v := .int .i64 r.2) rfl (Or.inl ⟨by rfl, fun w' _ => by go_simp⟩) ?_
  go_simp
  refine wpAnyT_done (by kernel_rfl) ?_ _
  go_wp2_with fail
  go_ret
  refine ⟨rfl, ⟨fun b hb => hb.elim (HQ.out b) (fun h => by have := HM.out; omega), A, cap, A7, c7, A8, c8, A9, c9, RM5.out, Rep.val_mono (fun b hb _ => .inl hb.1) HC5.out, Rep.val_mono (fun b hb _ => .inr (Nat.le_trans HB0.out.size hb)) HS5.out⟩, ?_⟩
  exact ⟨HO5.out.os.trans HB0.out.os, HO5.out.tape.trans HB0.out.tape, HO5.out.output.trans HB0.out.output, Nat.le_trans HB0.out.size HO5.out.size, fun b hl hf => (HO5.out.block b (Nat.lt_of_lt_of_le hl HB0.out.size) (fun e => hf ((by first | exact e | (rcases e with e | e; (· exact e); omega))))).trans (HB0.out.block b hl)⟩

set_option maxRecDepth 100000 in
set_option maxHeartbeats 2000000 in
/-- machine.set -/
theorem machSet_calls {Q : Nat → Prop} {M : Nat} {w : World} {c : DConf} {s : DState} {id : DID} {k : Int} {data : List UInt8} {vd : Value} {Qd : Nat → Prop} (hm : Mach Q M w c s) (hok : StOk c s) (hd : Rep.byte.list.val Qd w vd data) :
    Calls Try.prog 178 #[.pointer (some ⟨M, 0, none⟩), .agg #[.int .i64 id.index, .int .i64 id.gen], .int .i64 k, vd] w (MachDid Q M w c (setS c s id k data).1 (.int .i64 (setS c s id k data).2)) := by
  have HOK := Lib.hid hok
  have HM := Lib.hid hm.lt
  have HQ := Lib.hid hm.1
  obtain ⟨_, A, cap, A1, c1, A2, c2, A3, c3, h1, h2, h3⟩ := hm
  obtain ⟨Ad, cd, rfl, _, _, _⟩ := Rep.val_list hd
  have HD := Lib.hid hd
  clear hd
  obtain ⟨W0, hW0⟩ : ∃ W, (w.alloc (.cells #[.int .i64 id.index, .int .i64 id.gen] 114)) = W := ⟨_, rfl⟩
  have hz0 : W0.heap.size = w.heap.size + 1 := by rw [← hW0]; simp
  have hb0 : Below w.heap.size w W0 := by rw [← hW0]; exact (Below.refl _ _).alloc (Nat.le_refl _) _
  have HZ := Lib.hid hz0
  have HB0 := Lib.hid hb0
  have R0_0 := Lib.hid (show W0.heap[w.heap.size]? = some (.cells #[.int .i64 id.index, .int .i64 id.gen] 114 (0, 0)) by rw [← hW0]; exact alloc_at rfl)
  have O0 := Lib.hid (Only.refl (Box w 1) W0)
  have HRM := Lib.hid (show ∀ V, Below W0.heap.size W0 V → V.heap[M]? = some (.cells #[.int .i64 c.log, .int .i64 c.pages, .int .i64 c.entities, .int .i64 c.gens, .slice A c.comps.length cap, .slice A1 s.gens.length c1, .slice A2 s.free.length c2, .slice A3 s.ents.length c3] 177 (0, 0)) from fun V hv => (hv.block M (by have := HM.out; omega)).trans ((hb0.block M HM.out).trans h1))
  have HCV := Lib.hid (show ∀ V, Below W0.heap.size W0 V → rConf.val (fun b => Q b ∧ b < w.heap.size) V (.agg #[.int .i64 c.log, .int .i64 c.pages, .int .i64 c.entities, .int .i64 c.gens, .slice A c.comps.length cap]) c from fun V hv => Rep.val_keep (fun b hq hl => ⟨⟨hq, hl.lt⟩, (hv.block b (by have := hl.lt; omega)).trans (hb0.block b hl.lt)⟩) h2)
  have HSV := Lib.hid (show ∀ V, Below W0.heap.size W0 V → rState.val (fun b => Q b ∧ b < w.heap.size) V (.agg #[.slice A1 s.gens.length c1, .slice A2 s.free.length c2, .slice A3 s.ents.length c3]) s from fun V hv => Rep.val_keep (fun b hq hl => ⟨⟨hq, hl.lt⟩, (hv.block b (by have := hl.lt; omega)).trans (hb0.block b hl.lt)⟩) h3)
  have HDV := Lib.hid (show ∀ V, Below W0.heap.size W0 V → Rep.byte.list.val (fun b => b < w.heap.size) V (.slice Ad data.length cd) data from fun V hv => Rep.val_keep (fun b hq hl => ⟨hl.lt, (hv.block b (by have := hl.lt; omega)).trans (hb0.block b hl.lt)⟩) HD.out)
  obtain ⟨r, hr⟩ : ∃ r, setS c s id k data = r := ⟨_, rfl⟩
  rw [hr]
  have HR := Lib.hid hr
  clear hr h1 h2 h3 hok
  clear hz0 hb0
  have q0_0 := rw2 R0_0.out
  go_enter Try.func178, Try.ntmps178
  go_wp2_with fail
  try rw [hW0]
  clear hW0
  try go_wp2_with fail
  clear q0_0
  refine wp_region_tail (S := fun W => Below W0.heap.size W0 W) (T := [0, 15, 18, 19]) (by kernel_rfl) ((Below.refl _ _).drew) (fun s0 => ?_)
  obtain ⟨u0, hu0⟩ : ∃ V, V = W0.drew := ⟨_, rfl⟩
  rw [← hu0] at s0 ⊢
  have t0 : Below W0.heap.size W0 u0 := s0
  clear hu0 s0
  refine tk0 (i := 0) (v := .pointer (some ⟨M, 0, none⟩)) rfl (Or.inl ⟨by rfl, fun w' _ => by go_simp⟩) ?_
  go_simp
  refine tkTV (i := 1) (v := .pointer (some ⟨M, 0, none⟩)) rfl t0 ?_
  go_simp
  refine tkTV (i := 2) (v := .pointer (some ⟨M, 0, none⟩)) rfl t0 ?_
  go_simp
  refine tkTV (i := 3) (v := .pointer (some ⟨M, 0, none⟩)) rfl t0 ?_
  go_simp
  refine tkT (i := 4) (v := .agg #[.int .i64 c.log, .int .i64 c.pages, .int .i64 c.entities, .int .i64 c.gens, .slice A c.comps.length cap]) rfl (Or.inl ⟨by rfl, fun w' h => by have e := HRM.out w' h; have e0 := cell_row e 0; have e1 := cell_row e 1; have e2 := cell_row e 2; have e3 := cell_row e 3; have e4 := cell_row e 4; have e5 := cell_row e 5; have e6 := cell_row e 6; have e7 := cell_row e 7; go_simp⟩) t0 ?_
  go_simp
  refine tkTV (i := 5) (v := .pointer (some ⟨M, 0, none⟩)) rfl t0 ?_
  go_simp
  refine tkTV (i := 6) (v := .pointer (some ⟨M, 0, none⟩)) rfl t0 ?_
  go_simp
  refine tkTV (i := 7) (v := .pointer (some ⟨M, 5, none⟩)) rfl t0 ?_
  go_simp
  refine tkT (i := 8) (v := .agg #[.slice A1 s.gens.length c1, .slice A2 s.free.length c2, .slice A3 s.ents.length c3]) rfl (Or.inl ⟨by rfl, fun w' h => by have e := HRM.out w' h; have e0 := cell_row e 0; have e1 := cell_row e 1; have e2 := cell_row e 2; have e3 := cell_row e 3; have e4 := cell_row e 4; have e5 := cell_row e 5; have e6 := cell_row e 6; have e7 := cell_row e 7; go_simp⟩) t0 ?_
  go_simp
  refine tkT (i := 9) (v := .agg #[.int .i64 id.index, .int .i64 id.gen]) rfl (Or.inl ⟨by rfl, fun w' h => by have e := row_call (h : Below W0.heap.size W0 w') R0_0.out; have e0 := cell_row e 0; have e1 := cell_row e 1; go_simp⟩) t0 ?_
  go_simp
  refine tkTV (i := 10) (v := .int .i64 k) rfl t0 ?_
  go_simp
  refine tkTV (i := 11) (v := .slice Ad data.length cd) rfl t0 ?_
  go_simp
  refine wpAnyT_one (i := 12) rfl (by kernel_rfl) rfl (fun K hK => ?_)
  go_simp
  refine (mset_calls (id := id) (k := k) (Rep.val_any (HCV.out _ t0)) (Rep.val_any (HSV.out _ t0)) (Rep.val_any (HDV.out _ t0)) HOK.out).mono ?_
  rw [HR.out]
  rintro e u1 ⟨zz, rfl, hz, hb⟩
  obtain ⟨A7, c7, A8, c8, A9, c9, rfl, _⟩ := rState_val hz
  have t1 : Below W0.heap.size W0 u1 := Below.trans t0 (hb.mono (Below.size t0))
  have HZS := Lib.hid (show rState.val (fun b => W0.heap.size ≤ b) u1 (.agg #[.slice A7 r.1.gens.length c7, .slice A8 r.1.free.length c8, .slice A9 r.1.ents.length c9]) r.1 from Rep.val_mono (fun b hb _ => Nat.le_trans (Below.size t0) hb) hz)
  refine hK _ _ ⟨t1, ?_⟩
  clear hz hb hK K
  go_simp
  refine tkTV (i := 13) (v := .tuple #[.agg #[.slice A7 r.1.gens.length c7, .slice A8 r.1.free.length c8, .slice A9 r.1.ents.length c9], .int .i64 r.2]) rfl t1 ?_
  go_simp
  refine tk0 (i := 15) (v := .int .i64 r.2) rfl (Or.inl ⟨by rfl, fun w' _ => by go_simp⟩) ?_
  go_simp
  refine tkTV (i := 14) (v := .agg #[.slice A7 r.1.gens.length c7, .slice A8 r.1.free.length c8, .slice A9 r.1.ents.length c9]) rfl t1 ?_
  go_simp
  refine tkTV (i := 16) (v := .pointer (some ⟨M, 0, none⟩)) rfl t1 ?_
  go_simp
  refine tkTV (i := 17) (v := .pointer (some ⟨M, 5, none⟩)) rfl t1 ?_
  go_simp
  refine wpAnyT_last (i := 18) rfl (by kernel_rfl) rfl (fun K hK => ?_)
  have eb := HRM.out _ t1
  have q0 := rw8 eb
  go_simp
  refine hK _ _ ?_
  clear hK K eb q0
  refine nm_anyT (fun w5 hnm => ?_)
  have RM5 := Lib.hid (show w5.heap[M]? = some (.cells #[.int .i64 c.log, .int .i64 c.pages, .int .i64 c.entities, .int .i64 c.gens, .slice A c.comps.length cap, .slice A7 r.1.gens.length c7, .slice A8 r.1.free.length c8, .slice A9 r.1.ents.length c9] 177 (0, 0)) by rw [hnm]; exact heap_setRow (heap_setRow (heap_setRow (HRM.out _ t1))))
  have HK5 := Lib.hid (show ∀ b, b ≠ M → w5.heap[b]? = u1.heap[b]? from fun b hb => by rw [hnm]; exact (Below.heap_setCell _ _ _ _ hb).trans ((Below.heap_setCell _ _ _ _ hb).trans (Below.heap_setCell _ _ _ _ hb)))
  have HO5 := Lib.hid (show Only (fun b => b = M) W0 w5 by rw [hnm]; exact ((((Only.of_below t1) : Only (fun b => b = M) W0 u1).put rfl).put rfl).put rfl)
  have HC5 := Lib.hid (show rConf.val (fun b => Q b ∧ b < w.heap.size) w5 (.agg #[.int .i64 c.log, .int .i64 c.pages, .int .i64 c.entities, .int .i64 c.gens, .slice A c.comps.length cap]) c from Rep.val_keep (fun b hq _ => ⟨hq, HK5.out b (HQ.out b hq.1)⟩) (HCV.out _ t1))
  have HS5 := Lib.hid (show rState.val (fun b => W0.heap.size ≤ b) w5 (.agg #[.slice A7 r.1.gens.length c7, .slice A8 r.1.free.length c8, .slice A9 r.1.ents.length c9]) r.1 from Rep.val_keep (fun b hq _ => ⟨hq, HK5.out b (by have := HM.out; have := HB0.out.size; omega)⟩) HZS.out)
  have R5 := Lib.hid (show w5.heap[w.heap.size]? = some (.cells #[.int .i64 id.index, .int .i64 id.gen] 114 (0, 0)) from (HK5.out _ (by have := HM.out; omega)).trans (row_call t1 R0_0.out))
  clear hnm
  refine tk0 (i := 19) (v := .int .i64 r.2) rfl (Or.inl ⟨by rfl, fun w' _ => by go_simp⟩) ?_
  go_simp
  refine wpAnyT_done (by kernel_rfl) ?_ _
  go_wp2_with fail
  go_ret
  refine ⟨rfl, ⟨fun b hb => hb.elim (HQ.out b) (fun h => by have := HM.out; omega), A, cap, A7, c7, A8, c8, A9, c9, RM5.out, Rep.val_mono (fun b hb _ => .inl hb.1) HC5.out, Rep.val_mono (fun b hb _ => .inr (Nat.le_trans HB0.out.size hb)) HS5.out⟩, ?_⟩
  exact ⟨HO5.out.os.trans HB0.out.os, HO5.out.tape.trans HB0.out.tape, HO5.out.output.trans HB0.out.output, Nat.le_trans HB0.out.size HO5.out.size, fun b hl hf => (HO5.out.block b (Nat.lt_of_lt_of_le hl HB0.out.size) (fun e => hf ((by first | exact e | (rcases e with e | e; (· exact e); omega))))).trans (HB0.out.block b hl)⟩
end Go.Proofs.Yteljibjbndpncaa
namespace Go.Proofs.Yteljibjbndpncaa

/-- Parts behind m of the old ones. -/
def putAt (l : List DPart) (k : Int) (b : List UInt8) (m : Nat) : List DPart :=
  if m ≤ (l.takeWhile (belowP k)).length then l.take m else l.takeWhile (belowP k) ++ ⟨k, b⟩ :: ((l.take m).drop (l.takeWhile (belowP k)).length).filter (fun p => decide (p.comp ≠ k))
section
variable {l : List DPart} {k : Int} {b : List UInt8} {m : Nat} {p : DPart}
theorem putAt_zero : putAt l k b 0 = [] := by unfold putAt; rw [if_pos (Nat.zero_le _), List.take_zero]
theorem putAt_len : (putAt l k b m).length ≤ l.length + 1 := by
  have h := takeWhile_le (f := belowP k) l
  unfold putAt
  split
  · rw [List.length_take]; omega
  · have h2 := List.length_filter_le (fun p : DPart => decide (p.comp ≠ k)) ((l.take m).drop (l.takeWhile (belowP k)).length)
    rw [List.length_drop, List.length_take] at h2
    rw [List.length_append, List.length_cons]; omega
theorem putAt_before (hp : l[m]? = some p) (h : m < (l.takeWhile (belowP k)).length) : putAt l k b m ++ [p] = putAt l k b (m + 1) := by
  unfold putAt
  rw [if_pos (by omega), if_pos (by omega), List.take_add_one, hp]; rfl
theorem putAt_at (hp : l[m]? = some p) (h : m = (l.takeWhile (belowP k)).length) : putAt l k b m ++ [⟨k, b⟩] ++ (if p.comp = k then [] else [p]) = putAt l k b (m + 1) := by
  have h1 : ¬ m + 1 ≤ (l.takeWhile (belowP k)).length := by omega
  unfold putAt
  rw [if_pos (Nat.le_of_eq h), if_neg h1, ← h, List.take_add_one, hp, takeWhile_take l, ← h, List.drop_append_of_le_length (by rw [List.length_take]; have := (List.getElem?_eq_some_iff.1 hp).1; omega)]
  by_cases hk : p.comp = k <;> simp [hk]
theorem putAt_behind (hp : l[m]? = some p) (h : (l.takeWhile (belowP k)).length < m) : putAt l k b m ++ (if p.comp = k then [] else [p]) = putAt l k b (m + 1) := by
  have h1 : ¬ m + 1 ≤ (l.takeWhile (belowP k)).length := by omega
  have h2 : ¬ m ≤ (l.takeWhile (belowP k)).length := by omega
  unfold putAt
  rw [if_neg h2, if_neg h1, List.take_add_one, hp, List.drop_append_of_le_length (by rw [List.length_take]; have := (List.getElem?_eq_some_iff.1 hp).1; omega)]
  by_cases hk : p.comp = k <;> simp [hk]
theorem putAt_end (h : (l.takeWhile (belowP k)).length < l.length) : putAt l k b l.length = putPart l k b := by
  unfold putAt putPart
  rw [if_neg (by omega), List.take_length, dropWhile_drop]
theorem putAt_last (h : (l.takeWhile (belowP k)).length = l.length) : putAt l k b l.length ++ [⟨k, b⟩] = putPart l k b := by
  unfold putAt putPart
  rw [if_pos (by omega), List.take_length, dropWhile_drop, h, List.drop_length, takeWhile_take l, h, List.take_length]
  rfl
end
end Go.Proofs.Yteljibjbndpncaa
