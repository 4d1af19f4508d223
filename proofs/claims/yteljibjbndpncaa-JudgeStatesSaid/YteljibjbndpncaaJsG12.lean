/- Texts on which the proofs stand: MSpawn. No condition is laid on any input. -/
import Derived.Test.YteljibjbndpncaaJsG10
import Derived.Test.YteljibjbndpncaaJsG11
namespace Go.Proofs.Yteljibjbndpncaa
open Go.RowKit

/-- What a step of the model returns. -/
def MSpawned (w : World) (r : DState × DID × Int) (e : Ending) (W : World) : Prop :=
  ∃ z, e = .returned (.tuple #[z, .agg #[.int .i64 r.2.1.index, .int .i64 r.2.1.gen], .int .i64 r.2.2]) ∧ rState.val (fun b => w.heap.size ≤ b) W z r.1 ∧ Below w.heap.size w W
theorem only_over {F G : Nat → Prop} {X Y Z : World} (h : Only F X Y) (h2 : Only G Y Z) (hg : ∀ b, G b → X.heap.size ≤ b) : Only F X Z :=
  ⟨h2.os.trans h.os, h2.tape.trans h.tape, h2.output.trans h.output, Nat.le_trans h.size h2.size, fun b hl hf => (h2.block b (Nat.lt_of_lt_of_le hl h.size) (fun e => by have := hg b e; omega)).trans (h.block b hl hf)⟩
theorem grown_only {w w' : World} {v : Value} (h : w.grownBy w' v.ownBlock) : Only (fun b => v.ownBlock = some b) w w' :=
  ⟨h.os, h.tape, h.output, h.size, fun b hl hf => h.block b hl fun e => hf e.symm⟩
theorem ent_ins {es : List DEnt} {id : DID} : es.take (es.takeWhile (belowE id.index)).length ++ ⟨id, []⟩ :: es.drop (es.takeWhile (belowE id.index)).length = insEnt id es := by
  unfold insEnt
  have h := List.takeWhile_append_dropWhile (p := belowE id.index) (l := es)
  have h1 : es.take (es.takeWhile (belowE id.index)).length = es.takeWhile (belowE id.index) := by
    conv => lhs; arg 2; rw [← h]
    exact List.take_left' rfl
  have h2 : es.drop (es.takeWhile (belowE id.index)).length = es.dropWhile (belowE id.index) := by
    conv => lhs; arg 2; rw [← h]
    exact List.drop_left' rfl
  rw [h1, h2]

set_option maxRecDepth 100000 in
set_option maxHeartbeats 4000000 in
/-- model.Spawn -/
theorem mspawn_calls {Q : Nat → Prop} {w : World} {vc v : Value} {c : DConf} {s : DState} (hc : rConf.val Q w vc c) (hx : rState.val Q w v s) (hok : StOk c s) :
    Calls Try.prog 183 #[vc, v] w (MSpawned w (spawnS c s)) := by
  have HX := Lib.hid hx
  have HOK := Lib.hid hok
  have HSM := Lib.hid hok.small
  obtain ⟨A, cap, rfl, _⟩ := rConf_val hc
  obtain ⟨A1, c1, A2, c2, A3, c3, rfl, _⟩ := rState_val hx
  have hfr : Try.f183.results = #[.cell 4 75, .cell 5 114, .tmp 6] := rfl
  clear hc hx hok
  obtain ⟨W0, hW0⟩ : ∃ W, ((((w.alloc (.cells #[.int .i64 c.log, .int .i64 c.pages, .int .i64 c.entities, .int .i64 c.gens, .slice A c.comps.length cap] 49)).alloc (.cells #[.slice A1 s.gens.length c1, .slice A2 s.free.length c2, .slice A3 s.ents.length c3] 75)).alloc (.cells #[.slice none 0 0, .slice none 0 0, .slice none 0 0] 75)).alloc (.cells #[.int .i64 0, .int .i64 0] 114)) = W := ⟨_, rfl⟩
  have hz0 : W0.heap.size = w.heap.size + 4 := by rw [← hW0]; simp
  have hb0 : Below w.heap.size w W0 := by rw [← hW0]; exact ((((Below.refl _ _).alloc (Nat.le_refl _) _).alloc (by first | (simp; done) | (simp; omega)) _).alloc (by first | (simp; done) | (simp; omega)) _).alloc (by first | (simp; done) | (simp; omega)) _
  have HZ := Lib.hid hz0
  have HB0 := Lib.hid hb0
  have R0_0 := Lib.hid (show W0.heap[w.heap.size]? = some (.cells #[.int .i64 c.log, .int .i64 c.pages, .int .i64 c.entities, .int .i64 c.gens, .slice A c.comps.length cap] 49 (0, 0)) by rw [← hW0]; exact alloc_old (alloc_old (alloc_old (alloc_at rfl))))
  have R1_0 := Lib.hid (show W0.heap[w.heap.size + 1]? = some (.cells #[.slice A1 s.gens.length c1, .slice A2 s.free.length c2, .slice A3 s.ents.length c3] 75 (0, 0)) by rw [← hW0]; exact alloc_old (alloc_old (alloc_at (by simp))))
  have R2_0 := Lib.hid (show W0.heap[w.heap.size + 1 + 1]? = some (.cells #[.slice none 0 0, .slice none 0 0, .slice none 0 0] 75 (0, 0)) by rw [← hW0]; exact alloc_old (alloc_at (by simp)))
  have R3_0 := Lib.hid (show W0.heap[w.heap.size + 1 + 1 + 1]? = some (.cells #[.int .i64 0, .int .i64 0] 114 (0, 0)) by rw [← hW0]; exact alloc_at (by simp))
  have O0 := Lib.hid (Only.refl (Box w 4) W0)
  have Vs_0 := Lib.hid (show rState.val (In Q w 4) W0 (.agg #[.slice A1 s.gens.length c1, .slice A2 s.free.length c2, .slice A3 s.ents.length c3]) s from val_in HX.out hb0)
  rcases hl : s.free.getLast? with _ | k
  case none =>
    have hfe : s.free = [] := List.getLast?_eq_none_iff.1 hl
    have h0 : ¬ 0 < s.free.length := by rw [hfe]; simp
    have HFE := Lib.hid hfe
    have hmany := HOK.out.many
    by_cases he : (s.gens.length : Int) = c.entities
    · skip
      have HE := Lib.hid (show spawnS c s = (s, noID, 9) by unfold spawnS; rw [hl]; exact if_pos he)
      have hge : c.entities ≤ (s.gens.length : Int) := by omega
      clear he hfe hl hmany
      clear hz0 hb0
      have q0_0 := rw5 R0_0.out
      have q1_0 := rw3 R1_0.out
      have q2_0 := rw3 R2_0.out
      have q3_0 := rw2 R3_0.out
      go_enter Try.func183, Try.ntmps183
      go_wp2_with fail
      try rw [hW0]
      clear hW0
      try go_wp2_with fail
      clear q0_0 q1_0 q2_0 q3_0
      refine (mclone_calls Vs_0.out HOK.out.tiny).mono ?_
      rintro e w1 ⟨A4, c4, A5, c5, A6, c6, z, cl, raws, rfl, hb, hown, hzl⟩
      have S1 := Lib.hid (show Only (Box w 4) W0 w1 from Only.of_below hb)
      have O1 := Lib.hid (O0.out.trans S1.out)
      have R0_1 := Lib.hid (row_call hb R0_0.out)
      have R1_1 := Lib.hid (row_call hb R1_0.out)
      have R2_1 := Lib.hid (row_call hb R2_0.out)
      have R3_1 := Lib.hid (row_call hb R3_0.out)
      have Vs_1 := Lib.hid (val_only Vs_0.out S1.out)
      have HM1 := Lib.hid hown.mid
      have HZL := Lib.hid hzl
      clear hb hown hzl
      have q0_0 := rw5 R0_1.out
      have q1_0 := rw3 R1_1.out
      have q2_0 := rw3 R2_1.out
      have q3_0 := rw2 R3_1.out
      go_wp2_with fail
      clear q0_0 q1_0 q2_0 q3_0
      refine nm_region (fun w2 hnm => ?_)
      have S2 := Lib.hid (show Only (Box w 4) w1 w2 from (by rw [hnm]; exact (((Only.refl (Box w 4) w1).put ⟨by omega, by omega⟩).put ⟨by omega, by omega⟩).put ⟨by omega, by omega⟩))
      have O2 := Lib.hid (O1.out.trans S2.out)
      have R0_2 := Lib.hid (row_nm hnm (row_other (row_other (row_other (R0_1.out) (by omega)) (by omega)) (by omega)))
      have R1_2 := Lib.hid (show w2.heap[w.heap.size + 1]? = some (.cells #[.slice A4 s.gens.length c4, .slice A5 s.free.length c5, .slice A6 s.ents.length c6] 75 (0, 0)) from (by rw [hnm]; exact heap_setRow (heap_setRow (heap_setRow (R1_1.out)))))
      have R2_2 := Lib.hid (row_nm hnm (row_other (row_other (row_other (R2_1.out) (by omega)) (by omega)) (by omega)))
      have R3_2 := Lib.hid (row_nm hnm (row_other (row_other (row_other (R3_1.out) (by omega)) (by omega)) (by omega)))
      have Vs_2 := Lib.hid (val_only Vs_1.out S2.out)
      clear hnm
      have HM2 := Lib.hid (HM1.out.keep (fun b hb hl => S2.out.block b hl (by unfold Box; have := HZ.out; omega)))
      have HZ2 := Lib.hid (Nat.le_trans HZL.out S2.out.size)
      refine wp_region_held_drew (S := fun W => Below w2.heap.size w2 W) (by kernel_rfl) ((Below.refl _ _).drew) (fun s0 => ?_)
      obtain ⟨v1, hv0⟩ : ∃ V, V = w2.drew := ⟨_, rfl⟩
      rw [← hv0] at s0 ⊢
      have t1 : Below w2.heap.size w2 v1 := s0
      clear hv0 s0
      refine tkHV (i := 0) (v := .pointer (some ⟨w.heap.size + 1, 1, none⟩)) rfl t1 ?_
      go_simp
      refine tkH (i := 1) (v := .slice A5 s.free.length c5) rfl (Or.inl ⟨by rfl, fun w' h => by have e := row_call (h : Below w2.heap.size w2 w') R1_2.out; have e0 := cell_row e 0; have e1 := cell_row e 1; have e2 := cell_row e 2; go_simp⟩) t1 ?_
      go_simp
      refine tkHV (i := 2) (v := .int .i64 s.free.length) rfl t1 ?_
      go_simp
      refine tkHV (i := 3) (v := .pointer (some ⟨w.heap.size + 1, 0, none⟩)) rfl t1 ?_
      go_simp
      refine tkH (i := 4) (v := .slice A4 s.gens.length c4) rfl (Or.inl ⟨by rfl, fun w' h => by have e := row_call (h : Below w2.heap.size w2 w') R1_2.out; have e0 := cell_row e 0; have e1 := cell_row e 1; have e2 := cell_row e 2; go_simp⟩) t1 ?_
      go_simp
      refine tkHV (i := 5) (v := .int .i64 s.gens.length) rfl t1 ?_
      go_simp
      refine tkHV (i := 6) (v := .int .i64 s.free.length) rfl t1 ?_
      go_simp
      refine tkHV (i := 7) (v := .int .i64 s.gens.length) rfl t1 ?_
      go_simp
      refine wpAnyH_done (by kernel_rfl) ?_ _
      have S3 := Lib.hid (show Only (Box w 4) w2 v1 from Only.of_below t1)
      have O3 := Lib.hid (O2.out.trans S3.out)
      have R0_3 := Lib.hid (row_call t1 R0_2.out)
      have R1_3 := Lib.hid (row_call t1 R1_2.out)
      have R2_3 := Lib.hid (row_call t1 R2_2.out)
      have R3_3 := Lib.hid (row_call t1 R3_2.out)
      have Vs_3 := Lib.hid (val_only Vs_2.out S3.out)
      have HM3 := Lib.hid (HM2.out.keep (fun b hb hl => S3.out.block b hl (by unfold Box; have := HZ.out; omega)))
      have HZ3 := Lib.hid (Nat.le_trans HZ2.out S3.out.size)
      have HVE := Lib.hid (show ∀ b, (Value.slice A6 s.ents.length c6).ownBlock = some b → W0.heap.size ≤ b ∧ b < v1.heap.size from fun b e => by have h1 := (Rep.acc_own HM3.out.ents b e); have := HM3.out.low; omega)
      have q0_0 := rw5 R0_3.out
      have q1_0 := rw3 R1_3.out
      have q2_0 := rw3 R2_3.out
      have q3_0 := rw2 R3_3.out
      go_wp2_with fail
      clear q0_0 q1_0 q2_0 q3_0
      refine nm_post (fun w4 hnm => ?_)
      have S4 := Lib.hid (show Only (Box w 4) v1 w4 from (by rw [hnm]; exact (((((Only.refl (Box w 4) v1).put ⟨by omega, by omega⟩).put ⟨by omega, by omega⟩).put ⟨by omega, by omega⟩).put ⟨by omega, by omega⟩).put ⟨by omega, by omega⟩))
      have O4 := Lib.hid (O3.out.trans S4.out)
      have R0_4 := Lib.hid (row_nm hnm (row_other (row_other (row_other (row_other (row_other (R0_3.out) (by omega)) (by omega)) (by omega)) (by omega)) (by omega)))
      have R1_4 := Lib.hid (row_nm hnm (row_other (row_other (row_other (row_other (row_other (R1_3.out) (by omega)) (by omega)) (by omega)) (by omega)) (by omega)))
      have R2_4 := Lib.hid (show w4.heap[w.heap.size + 1 + 1]? = some (.cells #[.slice A4 s.gens.length c4, .slice A5 s.free.length c5, .slice A6 s.ents.length c6] 75 (0, 0)) from (by rw [hnm]; exact row_other (row_other (heap_setRow (heap_setRow (heap_setRow (R2_3.out)))) (by omega)) (by omega)))
      have R3_4 := Lib.hid (show w4.heap[w.heap.size + 1 + 1 + 1]? = some (.cells #[.int .i64 0, .int .i64 0] 114 (0, 0)) from (by rw [hnm]; exact heap_setRow (heap_setRow (row_other (row_other (row_other (R3_3.out) (by omega)) (by omega)) (by omega)))))
      have Vs_4 := Lib.hid (val_only Vs_3.out S4.out)
      clear hnm
      have HM4 := Lib.hid (HM3.out.keep (fun b hb hl => S4.out.block b hl (by unfold Box; have := HZ.out; omega)))
      have HZ4 := Lib.hid (Nat.le_trans HZ3.out S4.out.size)
      have q2_0 := cl3 R2_4.out
      have q3_0 := cl2 R3_4.out
      refine ⟨rfl, .tuple #[.agg #[.slice A4 s.gens.length c4, .slice A5 s.free.length c5, .slice A6 s.ents.length c6], .agg #[.int .i64 0, .int .i64 0], .int .i64 9], by simp only [results, hfr]; go_simp, ?_⟩
      clear q2_0 q3_0
      rw [HE.out]
      exact ⟨_, rfl, (Rep.val_mono (fun b hb _ => by have := HZ.out; omega) HM4.out.loose.val), Only.fin HB0.out O4.out⟩
    · skip
      have HE := Lib.hid (show spawnS c s = (⟨s.gens ++ [0], s.free, insEnt ⟨s.gens.length, 0⟩ s.ents⟩, ⟨s.gens.length, 0⟩, 0) by unfold spawnS; rw [hl]; exact if_neg he)
      have hge : ¬ c.entities ≤ (s.gens.length : Int) := by omega
      clear he hfe hl hmany
      clear hz0 hb0
      have q0_0 := rw5 R0_0.out
      have q1_0 := rw3 R1_0.out
      have q2_0 := rw3 R2_0.out
      have q3_0 := rw2 R3_0.out
      go_enter Try.func183, Try.ntmps183
      go_wp2_with fail
      try rw [hW0]
      clear hW0
      try go_wp2_with fail
      clear q0_0 q1_0 q2_0 q3_0
      refine (mclone_calls Vs_0.out HOK.out.tiny).mono ?_
      rintro e w1 ⟨A4, c4, A5, c5, A6, c6, z, cl, raws, rfl, hb, hown, hzl⟩
      have S1 := Lib.hid (show Only (Box w 4) W0 w1 from Only.of_below hb)
      have O1 := Lib.hid (O0.out.trans S1.out)
      have R0_1 := Lib.hid (row_call hb R0_0.out)
      have R1_1 := Lib.hid (row_call hb R1_0.out)
      have R2_1 := Lib.hid (row_call hb R2_0.out)
      have R3_1 := Lib.hid (row_call hb R3_0.out)
      have Vs_1 := Lib.hid (val_only Vs_0.out S1.out)
      have HM1 := Lib.hid hown.mid
      have HZL := Lib.hid hzl
      clear hb hown hzl
      have q0_0 := rw5 R0_1.out
      have q1_0 := rw3 R1_1.out
      have q2_0 := rw3 R2_1.out
      have q3_0 := rw2 R3_1.out
      go_wp2_with fail
      clear q0_0 q1_0 q2_0 q3_0
      refine nm_region (fun w2 hnm => ?_)
      have S2 := Lib.hid (show Only (Box w 4) w1 w2 from (by rw [hnm]; exact (((Only.refl (Box w 4) w1).put ⟨by omega, by omega⟩).put ⟨by omega, by omega⟩).put ⟨by omega, by omega⟩))
      have O2 := Lib.hid (O1.out.trans S2.out)
      have R0_2 := Lib.hid (row_nm hnm (row_other (row_other (row_other (R0_1.out) (by omega)) (by omega)) (by omega)))
      have R1_2 := Lib.hid (show w2.heap[w.heap.size + 1]? = some (.cells #[.slice A4 s.gens.length c4, .slice A5 s.free.length c5, .slice A6 s.ents.length c6] 75 (0, 0)) from (by rw [hnm]; exact heap_setRow (heap_setRow (heap_setRow (R1_1.out)))))
      have R2_2 := Lib.hid (row_nm hnm (row_other (row_other (row_other (R2_1.out) (by omega)) (by omega)) (by omega)))
      have R3_2 := Lib.hid (row_nm hnm (row_other (row_other (row_other (R3_1.out) (by omega)) (by omega)) (by omega)))
      have Vs_2 := Lib.hid (val_only Vs_1.out S2.out)
      clear hnm
      have HM2 := Lib.hid (HM1.out.keep (fun b hb hl => S2.out.block b hl (by unfold Box; have := HZ.out; omega)))
      have HZ2 := Lib.hid (Nat.le_trans HZL.out S2.out.size)
      refine wp_region_held_drew (S := fun W => Below w2.heap.size w2 W) (by kernel_rfl) ((Below.refl _ _).drew) (fun s0 => ?_)
      obtain ⟨v1, hv0⟩ : ∃ V, V = w2.drew := ⟨_, rfl⟩
      rw [← hv0] at s0 ⊢
      have t1 : Below w2.heap.size w2 v1 := s0
      clear hv0 s0
      refine tkHV (i := 0) (v := .pointer (some ⟨w.heap.size + 1, 1, none⟩)) rfl t1 ?_
      go_simp
      refine tkH (i := 1) (v := .slice A5 s.free.length c5) rfl (Or.inl ⟨by rfl, fun w' h => by have e := row_call (h : Below w2.heap.size w2 w') R1_2.out; have e0 := cell_row e 0; have e1 := cell_row e 1; have e2 := cell_row e 2; go_simp⟩) t1 ?_
      go_simp
      refine tkHV (i := 2) (v := .int .i64 s.free.length) rfl t1 ?_
      go_simp
      refine tkHV (i := 3) (v := .pointer (some ⟨w.heap.size + 1, 0, none⟩)) rfl t1 ?_
      go_simp
      refine tkH (i := 4) (v := .slice A4 s.gens.length c4) rfl (Or.inl ⟨by rfl, fun w' h => by have e := row_call (h : Below w2.heap.size w2 w') R1_2.out; have e0 := cell_row e 0; have e1 := cell_row e 1; have e2 := cell_row e 2; go_simp⟩) t1 ?_
      go_simp
      refine tkHV (i := 5) (v := .int .i64 s.gens.length) rfl t1 ?_
      go_simp
      refine tkHV (i := 6) (v := .int .i64 s.free.length) rfl t1 ?_
      go_simp
      refine tkHV (i := 7) (v := .int .i64 s.gens.length) rfl t1 ?_
      go_simp
      refine wpAnyH_done (by kernel_rfl) ?_ _
      have S3 := Lib.hid (show Only (Box w 4) w2 v1 from Only.of_below t1)
      have O3 := Lib.hid (O2.out.trans S3.out)
      have R0_3 := Lib.hid (row_call t1 R0_2.out)
      have R1_3 := Lib.hid (row_call t1 R1_2.out)
      have R2_3 := Lib.hid (row_call t1 R2_2.out)
      have R3_3 := Lib.hid (row_call t1 R3_2.out)
      have Vs_3 := Lib.hid (val_only Vs_2.out S3.out)
      have HM3 := Lib.hid (HM2.out.keep (fun b hb hl => S3.out.block b hl (by unfold Box; have := HZ.out; omega)))
      have HZ3 := Lib.hid (Nat.le_trans HZ2.out S3.out.size)
      have HVE := Lib.hid (show ∀ b, (Value.slice A6 s.ents.length c6).ownBlock = some b → W0.heap.size ≤ b ∧ b < v1.heap.size from fun b e => by have h1 := (Rep.acc_own HM3.out.ents b e); have := HM3.out.low; omega)
      have q0_0 := rw5 R0_3.out
      have q1_0 := rw3 R1_3.out
      have q2_0 := rw3 R2_3.out
      have q3_0 := rw2 R3_3.out
      go_wp2_with (with_reducible refine stopOne rfl ?_)
      refine Lib.hid ?_
      clear q0_0 q1_0 q2_0 q3_0
      refine wpList_snoc (e := 3) (base := W0.heap.size) (Q := fun _ => False) (r := Rep.int .i64) rfl rfl _ _ 27 _ rfl rfl rfl (.int .i64 0) 1 8 Try.underlying27 infoI3 rfl (by decide) rfl _ s.gens HM3.out.gens 0 _ (by exact rfl) ⟨_, rfl, rfl, by decide⟩ (by exact rfl) (by exact rfl) (by have := HSM.out; unfold maxLen; omega) (by have := HSM.out; omega) (by have := O3.out.size; omega) ?_
      intro v5 w5 hacc hgr hat
      have HL5 := Lib.hid (HM3.out.pushGen hacc hgr hat (Nat.le_succ _))
      have HO5 := Lib.hid (grown_only hgr)
      have HVG := Lib.hid (show ∀ b, (Value.slice A4 s.gens.length c4).ownBlock = some b → W0.heap.size ≤ b from fun b e => (Rep.acc_own HM3.out.gens b e).1)
      have HGQ' : (s.gens ++ [0])[s.gens.length]? = some 0 := by simp
      have HKL := Lib.hid (show (s.gens.length : Int) < ((s.gens ++ [0]).length : Int) by simp; omega)
      have HWK := Lib.hid (show (Lit.int .i64 (s.gens.length : Int)).wf = true from wf_i64 (by omega) (by have := HSM.out; omega))
      obtain ⟨A7, c7, rfl, _, _⟩ := Rep.acc_form hacc
      clear hacc hgr hat
      obtain ⟨gs, hgs⟩ : ∃ gs, s.gens ++ [0] = gs := ⟨_, rfl⟩
      rw [hgs] at HL5 HGQ' HKL HE ⊢
      clear hgs
      obtain ⟨gq, HGQ, HE'⟩ : ∃ gq : Int, Hid (gs[s.gens.length]? = some gq) ∧ Hid (spawnS c s = (⟨gs, s.free, insEnt ⟨s.gens.length, gq⟩ s.ents⟩, ⟨s.gens.length, gq⟩, 0)) := ⟨0, Lib.hid HGQ', HE⟩
      replace HE := HE'
      clear HE' HGQ'
      have HZ5 := Lib.hid (Nat.le_trans HZ3.out HO5.out.size)
      have O4 := Lib.hid (only_over O3.out HO5.out HVG.out)
      have R0_4 := Lib.hid (row_only HO5.out R0_3.out (fun e => by have := HVG.out _ e; have := HZ.out; omega))
      have R1_4 := Lib.hid (row_only HO5.out R1_3.out (fun e => by have := HVG.out _ e; have := HZ.out; omega))
      have R2_4 := Lib.hid (row_only HO5.out R2_3.out (fun e => by have := HVG.out _ e; have := HZ.out; omega))
      have R3_4 := Lib.hid (row_only HO5.out R3_3.out (fun e => by have := HVG.out _ e; have := HZ.out; omega))
      have q0_0 := rw5 R0_4.out
      have q1_0 := rw3 R1_4.out
      have q2_0 := rw3 R2_4.out
      have q3_0 := rw2 R3_4.out
      have HL0 := HL5
      obtain ⟨gb, go, hA, _, _, hwq⟩ := int_at (sl_of HL0.out.gens).2.2 HGQ.out
      subst hA
      have HWQ := Lib.hid hwq
      clear hwq
      have hkl := HKL.out
      obtain ⟨w6, hn2⟩ : ∃ W, (w5.setCell ⟨w.heap.size + 1, 0, none⟩ (.slice (some ⟨gb, go, none⟩) gs.length c7)) = W := ⟨_, rfl⟩
      have S5 := Lib.hid (show Only (Box w 4) w5 w6 from (by rw [← hn2]; exact (Only.refl (Box w 4) w5).put ⟨by omega, by omega⟩))
      have O5 := Lib.hid (O4.out.trans S5.out)
      have R0_5 := Lib.hid (row_nm hn2.symm (row_other (R0_4.out) (by omega)))
      have R1_5 := Lib.hid (show w6.heap[w.heap.size + 1]? = some (.cells #[.slice (some ⟨gb, go, none⟩) gs.length c7, .slice A5 s.free.length c5, .slice A6 s.ents.length c6] 75 (0, 0)) from (by rw [← hn2]; exact heap_setRow (R1_4.out)))
      have R2_5 := Lib.hid (row_nm hn2.symm (row_other (R2_4.out) (by omega)))
      have R3_5 := Lib.hid (row_nm hn2.symm (row_other (R3_4.out) (by omega)))
      have y2_0_0 := rw5 R0_5.out
      have y2_1_0 := rw3 R1_5.out
      have y2_2_0 := rw3 R2_5.out
      have y2_3_0 := rw2 R3_5.out
      have HM5 := Lib.hid (HL0.out.keep (fun b hb hl => S5.out.block b hl (by unfold Box; have := HZ.out; omega)))
      have HZ5 := Lib.hid (Nat.le_trans HZ5.out S5.out.size)
      have HGC6 := Lib.hid (show w6.cell? ⟨gb, go + s.gens.length, none⟩ = some (.int .i64 gq) by
        obtain ⟨b2, o2, h2, _, h3, _⟩ := int_at (sl_of HM5.out.gens).2.2 HGQ.out
        cases h2
        exact h3)
      have kc := HGC6.out
      have HF3 := Lib.hid (show w.heap.size + 4 ≤ w6.heap.size by have := O5.out.size; have := HZ.out; omega)
      obtain ⟨w7, hn3⟩ : ∃ W, (w6.alloc (.cells #[.int .i64 s.gens.length, .int .i64 gq] 114)) = W := ⟨_, rfl⟩
      have S6 := Lib.hid (show Only (Box w 4) w6 w7 from (by rw [← hn3]; exact (Only.refl (Box w 4) w6).alloc _))
      have O6 := Lib.hid (O5.out.trans S6.out)
      have R0_6 := Lib.hid (row_nm hn3.symm (alloc_old (R0_5.out)))
      have R1_6 := Lib.hid (row_nm hn3.symm (alloc_old (R1_5.out)))
      have R2_6 := Lib.hid (row_nm hn3.symm (alloc_old (R2_5.out)))
      have R3_6 := Lib.hid (row_nm hn3.symm (alloc_old (R3_5.out)))
      have Rw6_heap_size_6 := Lib.hid (show w7.heap[w6.heap.size]? = some (.cells #[.int .i64 s.gens.length, .int .i64 gq] 114 (0, 0)) from (by rw [← hn3]; exact alloc_at rfl))
      have y3_0_0 := rw5 R0_6.out
      have y3_1_0 := rw3 R1_6.out
      have y3_2_0 := rw3 R2_6.out
      have y3_3_0 := rw2 R3_6.out
      have y3_n0_0 := rw2 Rw6_heap_size_6.out
      have HX6 := Lib.hid (show ∀ b, (Value.slice A6 s.ents.length c6).ownBlock = some b → b < w6.heap.size from fun b e => (Rep.acc_own HM5.out.ents b e).2)
      have HM6 := Lib.hid (HM5.out.keep (fun b hb hl => S6.out.block b hl (by unfold Box; have := HZ.out; omega)))
      have HZ6 := Lib.hid (Nat.le_trans HZ5.out S6.out.size)
      go_wp2_with fail
      try rw [hn2]
      try rw [hn3]
      clear hn2 hn3 kc
      clear q0_0 q1_0 q2_0 q3_0 y2_0_0 y2_1_0 y2_2_0 y2_3_0 y3_0_0 y3_1_0 y3_2_0 y3_3_0 y3_n0_0
      refine (ment_calls (id := ⟨s.gens.length, gq⟩) HM6.out.val).mono ?_
      rintro e w8 ⟨rfl, hb⟩
      dsimp only
      obtain ⟨eb, heb⟩ : ∃ eb, entB ⟨gs, s.free, s.ents⟩ ⟨s.gens.length, gq⟩ = eb := ⟨_, rfl⟩
      obtain ⟨p, hp⟩ : ∃ p, (s.ents.takeWhile (belowE s.gens.length)).length = p := ⟨_, rfl⟩
      have HPL := Lib.hid (show p ≤ s.ents.length by rw [← hp]; exact takeWhile_le (f := belowE s.gens.length) s.ents)
      have HINS := Lib.hid (show s.ents.take p ++ (⟨⟨s.gens.length, gq⟩, []⟩ : DEnt) :: s.ents.drop p = insEnt ⟨s.gens.length, gq⟩ s.ents by rw [← hp]; exact ent_ins (id := ⟨s.gens.length, gq⟩) (es := s.ents))
      rw [heb, hp]
      clear heb hp
      have S7 := Lib.hid (show Only (Box w 4) w7 w8 from Only.of_below hb)
      have O7 := Lib.hid (O6.out.trans S7.out)
      have R0_7 := Lib.hid (row_call hb R0_6.out)
      have R1_7 := Lib.hid (row_call hb R1_6.out)
      have R2_7 := Lib.hid (row_call hb R2_6.out)
      have R3_7 := Lib.hid (row_call hb R3_6.out)
      have Rw6_heap_size_7 := Lib.hid (row_call hb Rw6_heap_size_6.out)
      clear hb
      have HM7 := Lib.hid (HM6.out.keep (fun b hb hl => S7.out.block b hl (by unfold Box; have := HZ.out; omega)))
      have HZ7 := Lib.hid (Nat.le_trans HZ6.out S7.out.size)
      have q0_0 := rw5 R0_7.out
      have q1_0 := rw3 R1_7.out
      have q2_0 := rw3 R2_7.out
      have q3_0 := rw2 R3_7.out
      have qn0_0 := rw2 Rw6_heap_size_7.out
      go_wp2_with fail
      have HNE := Lib.hid (show (Value.slice A6 s.ents.length c6).ownBlock ≠ some w8.heap.size from fun e => by have := (Rep.acc_own HM7.out.ents _ e).2; omega)
      clear q0_0 q1_0 q2_0 q3_0 qn0_0
      refine nm_calls (fun w9 hnm => ?_)
      have HF4 := Lib.hid (show w.heap.size + 4 ≤ w8.heap.size by have := O7.out.size; have := HZ.out; omega)
      have S8 := Lib.hid (show Only (Box w 4) w8 w9 from (by rw [hnm]; exact (Only.refl (Box w 4) w8).alloc _))
      have O8 := Lib.hid (O7.out.trans S8.out)
      have R0_8 := Lib.hid (row_nm hnm (alloc_old (R0_7.out)))
      have R1_8 := Lib.hid (row_nm hnm (alloc_old (R1_7.out)))
      have R2_8 := Lib.hid (row_nm hnm (alloc_old (R2_7.out)))
      have R3_8 := Lib.hid (row_nm hnm (alloc_old (R3_7.out)))
      have Rw6_heap_size_8 := Lib.hid (row_nm hnm (alloc_old (Rw6_heap_size_7.out)))
      have Rw8_heap_size_8 := Lib.hid (show w9.heap[w8.heap.size]? = some (.cells #[.int .i64 s.gens.length, .int .i64 gq, .slice none 0 0] 133 (0, 0)) from (by rw [hnm]; exact alloc_at rfl))
      clear hnm
      have HM8 := Lib.hid (HM7.out.keep (fun b hb hl => S8.out.block b hl (by unfold Box; have := HZ.out; omega)))
      have HZ8 := Lib.hid (Nat.le_trans HZ7.out S8.out.size)
      refine (insEnt_calls (x := ⟨⟨s.gens.length, gq⟩, []⟩) HM8.out.ents HPL.out Rw8_heap_size_8.out HNE.out (fun Q w => rEnt_mk (x := ⟨⟨s.gens.length, gq⟩, []⟩) HWK.out HWQ.out ⟨Nat.le_refl _, by simp [maxLen], [], rfl, fun h => absurd h (by simp)⟩) (by have := HSM.out; show s.ents.length ≤ _; omega) HZ8.out).mono ?_
      rintro e w10 ⟨v', rfl, hwb, hacc, ho⟩
      rw [HINS.out] at hacc
      obtain ⟨es, hes⟩ : ∃ es, insEnt ⟨s.gens.length, gq⟩ s.ents = es := ⟨_, rfl⟩
      rw [hes] at hacc HE
      clear hes
      obtain ⟨A9, c9, rfl, _, _⟩ := Rep.acc_form hacc
      have HL10 := Lib.hid (HM8.out.write ho hacc hwb)
      have HO10 := Lib.hid ho
      clear hwb hacc ho
      have HZ10 := Lib.hid (Nat.le_trans HZ8.out HO10.out.size)
      have HVE1 := Lib.hid (show ∀ b, (Value.slice A6 s.ents.length c6).ownBlock = some b → W0.heap.size ≤ b from fun b e => (HVE.out b e).1)
      have O9 := Lib.hid (only_over O8.out HO10.out HVE1.out)
      have R0_9 := Lib.hid (row_only HO10.out R0_8.out (fun e => by have := HVE1.out _ e; have := HZ.out; omega))
      have R1_9 := Lib.hid (row_only HO10.out R1_8.out (fun e => by have := HVE1.out _ e; have := HZ.out; omega))
      have R2_9 := Lib.hid (row_only HO10.out R2_8.out (fun e => by have := HVE1.out _ e; have := HZ.out; omega))
      have R3_9 := Lib.hid (row_only HO10.out R3_8.out (fun e => by have := HVE1.out _ e; have := HZ.out; omega))
      have Rw6_heap_size_9 := Lib.hid (row_only HO10.out Rw6_heap_size_8.out (fun e => by have := HX6.out _ e; omega))
      have q0_0 := rw5 R0_9.out
      have q1_0 := rw3 R1_9.out
      have q2_0 := rw3 R2_9.out
      have q3_0 := rw2 R3_9.out
      have qn0_0 := rw2 Rw6_heap_size_9.out
      go_wp2_with fail
      clear q0_0 q1_0 q2_0 q3_0 qn0_0
      refine nm_region (fun w11 hnm => ?_)
      have S10 := Lib.hid (show Only (Box w 4) w10 w11 from (by rw [hnm]; exact (Only.refl (Box w 4) w10).put ⟨by omega, by omega⟩))
      have O10 := Lib.hid (O9.out.trans S10.out)
      have R0_10 := Lib.hid (row_nm hnm (row_other (R0_9.out) (by omega)))
      have R1_10 := Lib.hid (show w11.heap[w.heap.size + 1]? = some (.cells #[.slice (some ⟨gb, go, none⟩) gs.length c7, .slice A5 s.free.length c5, .slice A9 es.length c9] 75 (0, 0)) from (by rw [hnm]; exact heap_setRow (R1_9.out)))
      have R2_10 := Lib.hid (row_nm hnm (row_other (R2_9.out) (by omega)))
      have R3_10 := Lib.hid (row_nm hnm (row_other (R3_9.out) (by omega)))
      have Rw6_heap_size_10 := Lib.hid (row_nm hnm (row_other (Rw6_heap_size_9.out) (by have := HF3.out; have := HF4.out; omega)))
      clear hnm
      have HM10 := Lib.hid (HL10.out.keep (fun b hb hl => S10.out.block b hl (by unfold Box; have := HZ.out; omega)))
      have HZ10 := Lib.hid (Nat.le_trans HZ10.out S10.out.size)
      refine wp_region_held_drew (S := fun W => Only (fun b => b = w.heap.size + 1 + 1 ∨ b = w.heap.size + 1 + 1 + 1) w11 W) (by kernel_rfl) ((Only.refl _ _).drw) (fun s0 => ?_)
      obtain ⟨v2, hv0⟩ : ∃ V, V = w11.drew := ⟨_, rfl⟩
      rw [← hv0] at s0 ⊢
      have t2 : Only (fun b => b = w.heap.size + 1 + 1 ∨ b = w.heap.size + 1 + 1 + 1) w11 v2 := s0
      have rb2_2 : v2.heap[w.heap.size + 1 + 1]? = some (.cells #[.slice none 0 0, .slice none 0 0, .slice none 0 0] 75 (0, 0)) := by rw [hv0]; exact R2_10.out
      have rb3_2 : v2.heap[w.heap.size + 1 + 1 + 1]? = some (.cells #[.int .i64 0, .int .i64 0] 114 (0, 0)) := by rw [hv0]; exact R3_10.out
      clear hv0 s0
      refine tkH (i := 0) (v := .agg #[.slice (some ⟨gb, go, none⟩) gs.length c7, .slice A5 s.free.length c5, .slice A9 es.length c9]) rfl (Or.inl ⟨by rfl, fun w' h => by have e := row_only (h : Only (fun b => b = w.heap.size + 1 + 1 ∨ b = w.heap.size + 1 + 1 + 1) w11 w') R1_10.out (by first | omega | (dsimp only; omega)); have e0 := cell_row e 0; have e1 := cell_row e 1; have e2 := cell_row e 2; go_simp⟩) t2 ?_
      go_simp
      refine tkH (i := 1) (v := .agg #[.int .i64 s.gens.length, .int .i64 gq]) rfl (Or.inl ⟨by rfl, fun w' h => by have e := row_only (h : Only (fun b => b = w.heap.size + 1 + 1 ∨ b = w.heap.size + 1 + 1 + 1) w11 w') Rw6_heap_size_10.out (by have := HF3.out; have := HF4.out; first | omega | (dsimp only; omega)); have e0 := cell_row e 0; have e1 := cell_row e 1; go_simp⟩) t2 ?_
      go_simp
      refine wpAnyH_all (rs := [2]) (by kernel_rfl) (by simp) ?_
      intro i hi
      obtain rfl : i = 2 := by simpa using hi
      clear hi
      refine wpOp_step rfl (fun K hK => ?_)
      go_simp
      have eb := rb2_2
      have q0 := rw3 eb
      go_simp
      refine hK _ _ ⟨(((t2).put (.inl rfl)).put (.inl rfl)).put (.inl rfl), ?_⟩
      clear hK K q0
      refine nm_any (fun v3 hnm => ?_)
      have t3 : Only (fun b => b = w.heap.size + 1 + 1 ∨ b = w.heap.size + 1 + 1 + 1) w11 v3 := by rw [hnm]; exact (((t2).put (.inl rfl)).put (.inl rfl)).put (.inl rfl)
      have rb2_3 : v3.heap[w.heap.size + 1 + 1]? = some (.cells #[.slice (some ⟨gb, go, none⟩) gs.length c7, .slice A5 s.free.length c5, .slice A9 es.length c9] 75 (0, 0)) := by rw [hnm]; exact heap_setRow (heap_setRow (heap_setRow (rb2_2)))
      have rb3_3 : v3.heap[w.heap.size + 1 + 1 + 1]? = some (.cells #[.int .i64 0, .int .i64 0] 114 (0, 0)) := by rw [hnm]; exact row_other (row_other (row_other (rb3_2) (by omega)) (by omega)) (by omega)
      clear hnm eb
      refine wpAnyH_all (rs := [3]) (by kernel_rfl) (by simp) ?_
      intro i hi
      obtain rfl : i = 3 := by simpa using hi
      clear hi
      refine wpOp_step rfl (fun K hK => ?_)
      go_simp
      have eb := rb3_3
      have q0 := rw2 eb
      go_simp
      refine hK _ _ ⟨((t3).put (.inr (rfl))).put (.inr (rfl)), ?_⟩
      clear hK K q0
      refine nm_any (fun v4 hnm => ?_)
      have t4 : Only (fun b => b = w.heap.size + 1 + 1 ∨ b = w.heap.size + 1 + 1 + 1) w11 v4 := by rw [hnm]; exact ((t3).put (.inr (rfl))).put (.inr (rfl))
      have rb2_4 : v4.heap[w.heap.size + 1 + 1]? = some (.cells #[.slice (some ⟨gb, go, none⟩) gs.length c7, .slice A5 s.free.length c5, .slice A9 es.length c9] 75 (0, 0)) := by rw [hnm]; exact row_other (row_other (rb2_3) (by omega)) (by omega)
      have rb3_4 : v4.heap[w.heap.size + 1 + 1 + 1]? = some (.cells #[.int .i64 s.gens.length, .int .i64 gq] 114 (0, 0)) := by rw [hnm]; exact heap_setRow (heap_setRow (rb3_3))
      clear hnm eb
      refine tkHV (i := 4) (v := .int .i64 0) rfl t4 ?_
      go_simp
      refine wpAnyH_done (by kernel_rfl) ?_ _
      have S11 := Lib.hid (show Only (Box w 4) w11 v4 from (t4).wid (fun b hb => by first | (unfold Box; omega) | (dsimp only at hb; unfold Box; omega)))
      have O11 := Lib.hid (O10.out.trans S11.out)
      have R0_11 := Lib.hid (row_only t4 R0_10.out (by first | omega | (dsimp only; omega)))
      have R1_11 := Lib.hid (row_only t4 R1_10.out (by first | omega | (dsimp only; omega)))
      have R2_11 := Lib.hid (show v4.heap[w.heap.size + 1 + 1]? = some (.cells #[.slice (some ⟨gb, go, none⟩) gs.length c7, .slice A5 s.free.length c5, .slice A9 es.length c9] 75 (0, 0)) from rb2_4)
      have R3_11 := Lib.hid (show v4.heap[w.heap.size + 1 + 1 + 1]? = some (.cells #[.int .i64 s.gens.length, .int .i64 gq] 114 (0, 0)) from rb3_4)
      have Rw6_heap_size_11 := Lib.hid (row_only t4 Rw6_heap_size_10.out (by have := HF3.out; have := HF4.out; first | omega | (dsimp only; omega)))
      clear rb2_4 rb3_4
      have HM11 := Lib.hid (HM10.out.keep (fun b hb hl => S11.out.block b hl (by unfold Box; have := HZ.out; omega)))
      have HZ11 := Lib.hid (Nat.le_trans HZ10.out S11.out.size)
      have q2_0 := cl3 R2_11.out
      have q3_0 := cl2 R3_11.out
      try go_wp2_with fail
      clear q2_0 q3_0
      have q2_0 := cl3 R2_11.out
      have q3_0 := cl2 R3_11.out
      refine ⟨rfl, .tuple #[.agg #[.slice (some ⟨gb, go, none⟩) gs.length c7, .slice A5 s.free.length c5, .slice A9 es.length c9], .agg #[.int .i64 s.gens.length, .int .i64 gq], .int .i64 0], by simp only [results, hfr]; go_simp, ?_⟩
      clear q2_0 q3_0
      rw [HE.out]
      exact ⟨_, rfl, (Rep.val_mono (fun b hb _ => by have := HZ.out; omega) HM11.out.val), Only.fin HB0.out O11.out⟩
  case some =>
    obtain ⟨h0, gq, hgq, _⟩ := HOK.out.free k (List.mem_of_getLast? hl)
    obtain ⟨kn, rfl⟩ : ∃ kn : Nat, k = (kn : Int) := ⟨k.toNat, by omega⟩
    rw [Int.toNat_natCast] at hgq
    obtain ⟨l, hfl⟩ := List.getLast?_eq_some_iff.1 hl
    have HFL := Lib.hid hfl
    have HGQ := Lib.hid hgq
    have HE := Lib.hid (show spawnS c s = (⟨s.gens, l, insEnt ⟨kn, gq⟩ s.ents⟩, ⟨kn, gq⟩, 0) by unfold spawnS; rw [hl]; dsimp only; rw [List.getD_eq_getElem?_getD, Int.toNat_natCast, hgq, hfl, List.dropLast_concat]; rfl)
    have HKL := Lib.hid (show (kn : Int) < (s.gens.length : Int) by have := (List.getElem?_eq_some_iff.1 hgq).1; omega)
    have HWK := Lib.hid (show (Lit.int .i64 (kn : Int)).wf = true from wf_i64 (by omega) (by have := HKL.out; have := HSM.out; omega))
    have hlen : s.free.length = l.length + 1 := by rw [hfl]; simp
    have hp1 : 0 < s.free.length := by omega
    have hlt : (l.length : Int) < (s.free.length : Int) := by omega
    have iw : IntKind.i64.wrap ((s.free.length : Int) - 1) = (l.length : Int) := by rw [show (s.free.length : Int) - 1 = (l.length : Int) by omega]; exact IntWalk.i64_in _ ⟨by omega, by have := HSM.out; omega⟩
    clear hl h0 hgq hfl hlen
    clear hz0 hb0
    have q0_0 := rw5 R0_0.out
    have q1_0 := rw3 R1_0.out
    have q2_0 := rw3 R2_0.out
    have q3_0 := rw2 R3_0.out
    go_enter Try.func183, Try.ntmps183
    go_wp2_with fail
    try rw [hW0]
    clear hW0
    try go_wp2_with fail
    clear q0_0 q1_0 q2_0 q3_0
    refine (mclone_calls Vs_0.out HOK.out.tiny).mono ?_
    rintro e w1 ⟨A4, c4, A5, c5, A6, c6, z, cl, raws, rfl, hb, hown, hzl⟩
    have S1 := Lib.hid (show Only (Box w 4) W0 w1 from Only.of_below hb)
    have O1 := Lib.hid (O0.out.trans S1.out)
    have R0_1 := Lib.hid (row_call hb R0_0.out)
    have R1_1 := Lib.hid (row_call hb R1_0.out)
    have R2_1 := Lib.hid (row_call hb R2_0.out)
    have R3_1 := Lib.hid (row_call hb R3_0.out)
    have Vs_1 := Lib.hid (val_only Vs_0.out S1.out)
    have HM1 := Lib.hid hown.mid
    have HZL := Lib.hid hzl
    clear hb hown hzl
    have q0_0 := rw5 R0_1.out
    have q1_0 := rw3 R1_1.out
    have q2_0 := rw3 R2_1.out
    have q3_0 := rw2 R3_1.out
    go_wp2_with fail
    clear q0_0 q1_0 q2_0 q3_0
    refine nm_region (fun w2 hnm => ?_)
    have S2 := Lib.hid (show Only (Box w 4) w1 w2 from (by rw [hnm]; exact (((Only.refl (Box w 4) w1).put ⟨by omega, by omega⟩).put ⟨by omega, by omega⟩).put ⟨by omega, by omega⟩))
    have O2 := Lib.hid (O1.out.trans S2.out)
    have R0_2 := Lib.hid (row_nm hnm (row_other (row_other (row_other (R0_1.out) (by omega)) (by omega)) (by omega)))
    have R1_2 := Lib.hid (show w2.heap[w.heap.size + 1]? = some (.cells #[.slice A4 s.gens.length c4, .slice A5 s.free.length c5, .slice A6 s.ents.length c6] 75 (0, 0)) from (by rw [hnm]; exact heap_setRow (heap_setRow (heap_setRow (R1_1.out)))))
    have R2_2 := Lib.hid (row_nm hnm (row_other (row_other (row_other (R2_1.out) (by omega)) (by omega)) (by omega)))
    have R3_2 := Lib.hid (row_nm hnm (row_other (row_other (row_other (R3_1.out) (by omega)) (by omega)) (by omega)))
    have Vs_2 := Lib.hid (val_only Vs_1.out S2.out)
    clear hnm
    have HM2 := Lib.hid (HM1.out.keep (fun b hb hl => S2.out.block b hl (by unfold Box; have := HZ.out; omega)))
    have HZ2 := Lib.hid (Nat.le_trans HZL.out S2.out.size)
    refine wp_region_held_drew (S := fun W => Below w2.heap.size w2 W) (by kernel_rfl) ((Below.refl _ _).drew) (fun s0 => ?_)
    obtain ⟨v1, hv0⟩ : ∃ V, V = w2.drew := ⟨_, rfl⟩
    rw [← hv0] at s0 ⊢
    have t1 : Below w2.heap.size w2 v1 := s0
    clear hv0 s0
    refine tkHV (i := 0) (v := .pointer (some ⟨w.heap.size + 1, 1, none⟩)) rfl t1 ?_
    go_simp
    refine tkH (i := 1) (v := .slice A5 s.free.length c5) rfl (Or.inl ⟨by rfl, fun w' h => by have e := row_call (h : Below w2.heap.size w2 w') R1_2.out; have e0 := cell_row e 0; have e1 := cell_row e 1; have e2 := cell_row e 2; go_simp⟩) t1 ?_
    go_simp
    refine tkHV (i := 2) (v := .int .i64 s.free.length) rfl t1 ?_
    go_simp
    refine tkHV (i := 3) (v := .pointer (some ⟨w.heap.size + 1, 0, none⟩)) rfl t1 ?_
    go_simp
    refine tkH (i := 4) (v := .slice A4 s.gens.length c4) rfl (Or.inl ⟨by rfl, fun w' h => by have e := row_call (h : Below w2.heap.size w2 w') R1_2.out; have e0 := cell_row e 0; have e1 := cell_row e 1; have e2 := cell_row e 2; go_simp⟩) t1 ?_
    go_simp
    refine tkHV (i := 5) (v := .int .i64 s.gens.length) rfl t1 ?_
    go_simp
    refine tkHV (i := 6) (v := .int .i64 s.free.length) rfl t1 ?_
    go_simp
    refine tkHV (i := 7) (v := .int .i64 s.gens.length) rfl t1 ?_
    go_simp
    refine wpAnyH_done (by kernel_rfl) ?_ _
    have S3 := Lib.hid (show Only (Box w 4) w2 v1 from Only.of_below t1)
    have O3 := Lib.hid (O2.out.trans S3.out)
    have R0_3 := Lib.hid (row_call t1 R0_2.out)
    have R1_3 := Lib.hid (row_call t1 R1_2.out)
    have R2_3 := Lib.hid (row_call t1 R2_2.out)
    have R3_3 := Lib.hid (row_call t1 R3_2.out)
    have Vs_3 := Lib.hid (val_only Vs_2.out S3.out)
    have HM3 := Lib.hid (HM2.out.keep (fun b hb hl => S3.out.block b hl (by unfold Box; have := HZ.out; omega)))
    have HZ3 := Lib.hid (Nat.le_trans HZ2.out S3.out.size)
    have HVE := Lib.hid (show ∀ b, (Value.slice A6 s.ents.length c6).ownBlock = some b → W0.heap.size ≤ b ∧ b < v1.heap.size from fun b e => by have h1 := (Rep.acc_own HM3.out.ents b e); have := HM3.out.low; omega)
    obtain ⟨fb, fo, hA5, _, kf, _⟩ := int_at (i := l.length) (x := kn) (sl_of HM3.out.loose.free).2.2 (by rw [HFL.out]; simp)
    subst hA5
    have hcap : (l.length : Int) ≤ (c5 : Int) := by have := (sl_of HM3.out.loose.free).1; omega
    have HL5 := Lib.hid (HM3.out.pop HFL.out).loose
    have q0_0 := rw5 R0_3.out
    have q1_0 := rw3 R1_3.out
    have q2_0 := rw3 R2_3.out
    have q3_0 := rw2 R3_3.out
    have HL0 := HL5
    obtain ⟨gb, go, hA, _, _, hwq⟩ := int_at (sl_of HL0.out.gens).2.2 HGQ.out
    subst hA
    have HWQ := Lib.hid hwq
    clear hwq
    have hkl := HKL.out
    obtain ⟨w6, hn2⟩ : ∃ W, (v1.setCell ⟨w.heap.size + 1, 1, none⟩ (.slice (some ⟨fb, fo, none⟩) l.length c5)) = W := ⟨_, rfl⟩
    have S4 := Lib.hid (show Only (Box w 4) v1 w6 from (by rw [← hn2]; exact (Only.refl (Box w 4) v1).put ⟨by omega, by omega⟩))
    have O4 := Lib.hid (O3.out.trans S4.out)
    have R0_4 := Lib.hid (row_nm hn2.symm (row_other (R0_3.out) (by omega)))
    have R1_4 := Lib.hid (show w6.heap[w.heap.size + 1]? = some (.cells #[.slice (some ⟨gb, go, none⟩) s.gens.length c4, .slice (some ⟨fb, fo, none⟩) l.length c5, .slice A6 s.ents.length c6] 75 (0, 0)) from (by rw [← hn2]; exact heap_setRow (R1_3.out)))
    have R2_4 := Lib.hid (row_nm hn2.symm (row_other (R2_3.out) (by omega)))
    have R3_4 := Lib.hid (row_nm hn2.symm (row_other (R3_3.out) (by omega)))
    have Vs_4 := Lib.hid (val_only Vs_3.out S4.out)
    have y2_0_0 := rw5 R0_4.out
    have y2_1_0 := rw3 R1_4.out
    have y2_2_0 := rw3 R2_4.out
    have y2_3_0 := rw2 R3_4.out
    have HM4 := Lib.hid (HL0.out.keep (fun b hb hl => S4.out.block b hl (by unfold Box; have := HZ.out; omega)))
    have HZ4 := Lib.hid (Nat.le_trans HZ3.out S4.out.size)
    have HGC6 := Lib.hid (show w6.cell? ⟨gb, go + kn, none⟩ = some (.int .i64 gq) by
      obtain ⟨b2, o2, h2, _, h3, _⟩ := int_at (sl_of HM4.out.gens).2.2 HGQ.out
      cases h2
      exact h3)
    have kc := HGC6.out
    have HF3 := Lib.hid (show w.heap.size + 4 ≤ w6.heap.size by have := O4.out.size; have := HZ.out; omega)
    obtain ⟨w7, hn3⟩ : ∃ W, (w6.alloc (.cells #[.int .i64 kn, .int .i64 gq] 114)) = W := ⟨_, rfl⟩
    have S5 := Lib.hid (show Only (Box w 4) w6 w7 from (by rw [← hn3]; exact (Only.refl (Box w 4) w6).alloc _))
    have O5 := Lib.hid (O4.out.trans S5.out)
    have R0_5 := Lib.hid (row_nm hn3.symm (alloc_old (R0_4.out)))
    have R1_5 := Lib.hid (row_nm hn3.symm (alloc_old (R1_4.out)))
    have R2_5 := Lib.hid (row_nm hn3.symm (alloc_old (R2_4.out)))
    have R3_5 := Lib.hid (row_nm hn3.symm (alloc_old (R3_4.out)))
    have Rw6_heap_size_5 := Lib.hid (show w7.heap[w6.heap.size]? = some (.cells #[.int .i64 kn, .int .i64 gq] 114 (0, 0)) from (by rw [← hn3]; exact alloc_at rfl))
    have Vs_5 := Lib.hid (val_only Vs_4.out S5.out)
    have y3_0_0 := rw5 R0_5.out
    have y3_1_0 := rw3 R1_5.out
    have y3_2_0 := rw3 R2_5.out
    have y3_3_0 := rw2 R3_5.out
    have y3_n0_0 := rw2 Rw6_heap_size_5.out
    have HX6 := Lib.hid (show ∀ b, (Value.slice A6 s.ents.length c6).ownBlock = some b → b < w6.heap.size from fun b e => (Rep.acc_own HM4.out.ents b e).2)
    have HM5 := Lib.hid (HM4.out.keep (fun b hb hl => S5.out.block b hl (by unfold Box; have := HZ.out; omega)))
    have HZ5 := Lib.hid (Nat.le_trans HZ4.out S5.out.size)
    go_wp2_with fail
    try rw [hn2]
    try rw [hn3]
    clear hn2 hn3 kc
    clear q0_0 q1_0 q2_0 q3_0 y2_0_0 y2_1_0 y2_2_0 y2_3_0 y3_0_0 y3_1_0 y3_2_0 y3_3_0 y3_n0_0
    refine (ment_calls (id := ⟨kn, gq⟩) HM5.out.val).mono ?_
    rintro e w8 ⟨rfl, hb⟩
    dsimp only
    obtain ⟨eb, heb⟩ : ∃ eb, entB ⟨s.gens, l, s.ents⟩ ⟨kn, gq⟩ = eb := ⟨_, rfl⟩
    obtain ⟨p, hp⟩ : ∃ p, (s.ents.takeWhile (belowE kn)).length = p := ⟨_, rfl⟩
    have HPL := Lib.hid (show p ≤ s.ents.length by rw [← hp]; exact takeWhile_le (f := belowE kn) s.ents)
    have HINS := Lib.hid (show s.ents.take p ++ (⟨⟨kn, gq⟩, []⟩ : DEnt) :: s.ents.drop p = insEnt ⟨kn, gq⟩ s.ents by rw [← hp]; exact ent_ins (id := ⟨kn, gq⟩) (es := s.ents))
    rw [heb, hp]
    clear heb hp
    have S6 := Lib.hid (show Only (Box w 4) w7 w8 from Only.of_below hb)
    have O6 := Lib.hid (O5.out.trans S6.out)
    have R0_6 := Lib.hid (row_call hb R0_5.out)
    have R1_6 := Lib.hid (row_call hb R1_5.out)
    have R2_6 := Lib.hid (row_call hb R2_5.out)
    have R3_6 := Lib.hid (row_call hb R3_5.out)
    have Rw6_heap_size_6 := Lib.hid (row_call hb Rw6_heap_size_5.out)
    have Vs_6 := Lib.hid (val_only Vs_5.out S6.out)
    clear hb
    have HM6 := Lib.hid (HM5.out.keep (fun b hb hl => S6.out.block b hl (by unfold Box; have := HZ.out; omega)))
    have HZ6 := Lib.hid (Nat.le_trans HZ5.out S6.out.size)
    have q0_0 := rw5 R0_6.out
    have q1_0 := rw3 R1_6.out
    have q2_0 := rw3 R2_6.out
    have q3_0 := rw2 R3_6.out
    have qn0_0 := rw2 Rw6_heap_size_6.out
    go_wp2_with fail
    have HNE := Lib.hid (show (Value.slice A6 s.ents.length c6).ownBlock ≠ some w8.heap.size from fun e => by have := (Rep.acc_own HM6.out.ents _ e).2; omega)
    clear q0_0 q1_0 q2_0 q3_0 qn0_0
    refine nm_calls (fun w9 hnm => ?_)
    have HF4 := Lib.hid (show w.heap.size + 4 ≤ w8.heap.size by have := O6.out.size; have := HZ.out; omega)
    have S7 := Lib.hid (show Only (Box w 4) w8 w9 from (by rw [hnm]; exact (Only.refl (Box w 4) w8).alloc _))
    have O7 := Lib.hid (O6.out.trans S7.out)
    have R0_7 := Lib.hid (row_nm hnm (alloc_old (R0_6.out)))
    have R1_7 := Lib.hid (row_nm hnm (alloc_old (R1_6.out)))
    have R2_7 := Lib.hid (row_nm hnm (alloc_old (R2_6.out)))
    have R3_7 := Lib.hid (row_nm hnm (alloc_old (R3_6.out)))
    have Rw6_heap_size_7 := Lib.hid (row_nm hnm (alloc_old (Rw6_heap_size_6.out)))
    have Rw8_heap_size_7 := Lib.hid (show w9.heap[w8.heap.size]? = some (.cells #[.int .i64 kn, .int .i64 gq, .slice none 0 0] 133 (0, 0)) from (by rw [hnm]; exact alloc_at rfl))
    have Vs_7 := Lib.hid (val_only Vs_6.out S7.out)
    clear hnm
    have HM7 := Lib.hid (HM6.out.keep (fun b hb hl => S7.out.block b hl (by unfold Box; have := HZ.out; omega)))
    have HZ7 := Lib.hid (Nat.le_trans HZ6.out S7.out.size)
    refine (insEnt_calls (x := ⟨⟨kn, gq⟩, []⟩) HM7.out.ents HPL.out Rw8_heap_size_7.out HNE.out (fun Q w => rEnt_mk (x := ⟨⟨kn, gq⟩, []⟩) HWK.out HWQ.out ⟨Nat.le_refl _, by simp [maxLen], [], rfl, fun h => absurd h (by simp)⟩) (by have := HSM.out; show s.ents.length ≤ _; omega) HZ7.out).mono ?_
    rintro e w10 ⟨v', rfl, hwb, hacc, ho⟩
    rw [HINS.out] at hacc
    obtain ⟨es, hes⟩ : ∃ es, insEnt ⟨kn, gq⟩ s.ents = es := ⟨_, rfl⟩
    rw [hes] at hacc HE
    clear hes
    obtain ⟨A9, c9, rfl, _, _⟩ := Rep.acc_form hacc
    have HL10 := Lib.hid (HM7.out.write ho hacc hwb)
    have HO10 := Lib.hid ho
    clear hwb hacc ho
    have HZ10 := Lib.hid (Nat.le_trans HZ7.out HO10.out.size)
    have HVE1 := Lib.hid (show ∀ b, (Value.slice A6 s.ents.length c6).ownBlock = some b → W0.heap.size ≤ b from fun b e => (HVE.out b e).1)
    have O8 := Lib.hid (only_over O7.out HO10.out HVE1.out)
    have R0_8 := Lib.hid (row_only HO10.out R0_7.out (fun e => by have := HVE1.out _ e; have := HZ.out; omega))
    have R1_8 := Lib.hid (row_only HO10.out R1_7.out (fun e => by have := HVE1.out _ e; have := HZ.out; omega))
    have R2_8 := Lib.hid (row_only HO10.out R2_7.out (fun e => by have := HVE1.out _ e; have := HZ.out; omega))
    have R3_8 := Lib.hid (row_only HO10.out R3_7.out (fun e => by have := HVE1.out _ e; have := HZ.out; omega))
    have Rw6_heap_size_8 := Lib.hid (row_only HO10.out Rw6_heap_size_7.out (fun e => by have := HX6.out _ e; omega))
    have q0_0 := rw5 R0_8.out
    have q1_0 := rw3 R1_8.out
    have q2_0 := rw3 R2_8.out
    have q3_0 := rw2 R3_8.out
    have qn0_0 := rw2 Rw6_heap_size_8.out
    go_wp2_with fail
    clear q0_0 q1_0 q2_0 q3_0 qn0_0
    refine nm_region (fun w11 hnm => ?_)
    have S9 := Lib.hid (show Only (Box w 4) w10 w11 from (by rw [hnm]; exact (Only.refl (Box w 4) w10).put ⟨by omega, by omega⟩))
    have O9 := Lib.hid (O8.out.trans S9.out)
    have R0_9 := Lib.hid (row_nm hnm (row_other (R0_8.out) (by omega)))
    have R1_9 := Lib.hid (show w11.heap[w.heap.size + 1]? = some (.cells #[.slice (some ⟨gb, go, none⟩) s.gens.length c4, .slice (some ⟨fb, fo, none⟩) l.length c5, .slice A9 es.length c9] 75 (0, 0)) from (by rw [hnm]; exact heap_setRow (R1_8.out)))
    have R2_9 := Lib.hid (row_nm hnm (row_other (R2_8.out) (by omega)))
    have R3_9 := Lib.hid (row_nm hnm (row_other (R3_8.out) (by omega)))
    have Rw6_heap_size_9 := Lib.hid (row_nm hnm (row_other (Rw6_heap_size_8.out) (by have := HF3.out; have := HF4.out; omega)))
    clear hnm
    have HM9 := Lib.hid (HL10.out.keep (fun b hb hl => S9.out.block b hl (by unfold Box; have := HZ.out; omega)))
    have HZ9 := Lib.hid (Nat.le_trans HZ10.out S9.out.size)
    refine wp_region_held_drew (S := fun W => Only (fun b => b = w.heap.size + 1 + 1 ∨ b = w.heap.size + 1 + 1 + 1) w11 W) (by kernel_rfl) ((Only.refl _ _).drw) (fun s0 => ?_)
    obtain ⟨v2, hv0⟩ : ∃ V, V = w11.drew := ⟨_, rfl⟩
    rw [← hv0] at s0 ⊢
    have t2 : Only (fun b => b = w.heap.size + 1 + 1 ∨ b = w.heap.size + 1 + 1 + 1) w11 v2 := s0
    have rb2_2 : v2.heap[w.heap.size + 1 + 1]? = some (.cells #[.slice none 0 0, .slice none 0 0, .slice none 0 0] 75 (0, 0)) := by rw [hv0]; exact R2_9.out
    have rb3_2 : v2.heap[w.heap.size + 1 + 1 + 1]? = some (.cells #[.int .i64 0, .int .i64 0] 114 (0, 0)) := by rw [hv0]; exact R3_9.out
    clear hv0 s0
    refine tkH (i := 0) (v := .agg #[.slice (some ⟨gb, go, none⟩) s.gens.length c4, .slice (some ⟨fb, fo, none⟩) l.length c5, .slice A9 es.length c9]) rfl (Or.inl ⟨by rfl, fun w' h => by have e := row_only (h : Only (fun b => b = w.heap.size + 1 + 1 ∨ b = w.heap.size + 1 + 1 + 1) w11 w') R1_9.out (by first | omega | (dsimp only; omega)); have e0 := cell_row e 0; have e1 := cell_row e 1; have e2 := cell_row e 2; go_simp⟩) t2 ?_
    go_simp
    refine tkH (i := 1) (v := .agg #[.int .i64 kn, .int .i64 gq]) rfl (Or.inl ⟨by rfl, fun w' h => by have e := row_only (h : Only (fun b => b = w.heap.size + 1 + 1 ∨ b = w.heap.size + 1 + 1 + 1) w11 w') Rw6_heap_size_9.out (by have := HF3.out; have := HF4.out; first | omega | (dsimp only; omega)); have e0 := cell_row e 0; have e1 := cell_row e 1; go_simp⟩) t2 ?_
    go_simp
    refine wpAnyH_all (rs := [2]) (by kernel_rfl) (by simp) ?_
    intro i hi
    obtain rfl : i = 2 := by simpa using hi
    clear hi
    refine wpOp_step rfl (fun K hK => ?_)
    go_simp
    have eb := rb2_2
    have q0 := rw3 eb
    go_simp
    refine hK _ _ ⟨(((t2).put (.inl rfl)).put (.inl rfl)).put (.inl rfl), ?_⟩
    clear hK K q0
    refine nm_any (fun v3 hnm => ?_)
    have t3 : Only (fun b => b = w.heap.size + 1 + 1 ∨ b = w.heap.size + 1 + 1 + 1) w11 v3 := by rw [hnm]; exact (((t2).put (.inl rfl)).put (.inl rfl)).put (.inl rfl)
    have rb2_3 : v3.heap[w.heap.size + 1 + 1]? = some (.cells #[.slice (some ⟨gb, go, none⟩) s.gens.length c4, .slice (some ⟨fb, fo, none⟩) l.length c5, .slice A9 es.length c9] 75 (0, 0)) := by rw [hnm]; exact heap_setRow (heap_setRow (heap_setRow (rb2_2)))
    have rb3_3 : v3.heap[w.heap.size + 1 + 1 + 1]? = some (.cells #[.int .i64 0, .int .i64 0] 114 (0, 0)) := by rw [hnm]; exact row_other (row_other (row_other (rb3_2) (by omega)) (by omega)) (by omega)
    clear hnm eb
    refine wpAnyH_all (rs := [3]) (by kernel_rfl) (by simp) ?_
    intro i hi
    obtain rfl : i = 3 := by simpa using hi
    clear hi
    refine wpOp_step rfl (fun K hK => ?_)
    go_simp
    have eb := rb3_3
    have q0 := rw2 eb
    go_simp
    refine hK _ _ ⟨((t3).put (.inr (rfl))).put (.inr (rfl)), ?_⟩
    clear hK K q0
    refine nm_any (fun v4 hnm => ?_)
    have t4 : Only (fun b => b = w.heap.size + 1 + 1 ∨ b = w.heap.size + 1 + 1 + 1) w11 v4 := by rw [hnm]; exact ((t3).put (.inr (rfl))).put (.inr (rfl))
    have rb2_4 : v4.heap[w.heap.size + 1 + 1]? = some (.cells #[.slice (some ⟨gb, go, none⟩) s.gens.length c4, .slice (some ⟨fb, fo, none⟩) l.length c5, .slice A9 es.length c9] 75 (0, 0)) := by rw [hnm]; exact row_other (row_other (rb2_3) (by omega)) (by omega)
    have rb3_4 : v4.heap[w.heap.size + 1 + 1 + 1]? = some (.cells #[.int .i64 kn, .int .i64 gq] 114 (0, 0)) := by rw [hnm]; exact heap_setRow (heap_setRow (rb3_3))
    clear hnm eb
    refine tkHV (i := 4) (v := .int .i64 0) rfl t4 ?_
    go_simp
    refine wpAnyH_done (by kernel_rfl) ?_ _
    have S10 := Lib.hid (show Only (Box w 4) w11 v4 from (t4).wid (fun b hb => by first | (unfold Box; omega) | (dsimp only at hb; unfold Box; omega)))
    have O10 := Lib.hid (O9.out.trans S10.out)
    have R0_10 := Lib.hid (row_only t4 R0_9.out (by first | omega | (dsimp only; omega)))
    have R1_10 := Lib.hid (row_only t4 R1_9.out (by first | omega | (dsimp only; omega)))
    have R2_10 := Lib.hid (show v4.heap[w.heap.size + 1 + 1]? = some (.cells #[.slice (some ⟨gb, go, none⟩) s.gens.length c4, .slice (some ⟨fb, fo, none⟩) l.length c5, .slice A9 es.length c9] 75 (0, 0)) from rb2_4)
    have R3_10 := Lib.hid (show v4.heap[w.heap.size + 1 + 1 + 1]? = some (.cells #[.int .i64 kn, .int .i64 gq] 114 (0, 0)) from rb3_4)
    have Rw6_heap_size_10 := Lib.hid (row_only t4 Rw6_heap_size_9.out (by have := HF3.out; have := HF4.out; first | omega | (dsimp only; omega)))
    clear rb2_4 rb3_4
    have HM10 := Lib.hid (HM9.out.keep (fun b hb hl => S10.out.block b hl (by unfold Box; have := HZ.out; omega)))
    have HZ10 := Lib.hid (Nat.le_trans HZ9.out S10.out.size)
    have q2_0 := cl3 R2_10.out
    have q3_0 := cl2 R3_10.out
    try go_wp2_with fail
    clear q2_0 q3_0
    have q2_0 := cl3 R2_10.out
    have q3_0 := cl2 R3_10.out
    refine ⟨rfl, .tuple #[.agg #[.slice (some ⟨gb, go, none⟩) s.gens.length c4, .slice (some ⟨fb, fo, none⟩) l.length c5, .slice A9 es.length c9], .agg #[.int .i64 kn, .int .i64 gq], .int .i64 0], by simp only [results, hfr]; go_simp, ?_⟩
    clear q2_0 q3_0
    rw [HE.out]
    exact ⟨_, rfl, (Rep.val_mono (fun b hb _ => by have := HZ.out; omega) HM10.out.val), Only.fin HB0.out O10.out⟩
end Go.Proofs.Yteljibjbndpncaa
