/- Texts on which the proofs stand: R11With, RRemove. No condition is laid on any input. -/
import Derived.Test.YteljibjbndpncaaJsG16
namespace Go.Proofs.Yteljibjbndpncaa
open Go.RowKit

def StatePost (Q : Nat → Prop) (w : World) (s : DState) (e : Ending) (w' : World) : Prop :=
  ∃ z, e = .returned z ∧ rState.val (fun b => Q b ∨ w.heap.size ≤ b) w' z s ∧ Below w.heap.size w w'

set_option maxRecDepth 100000 in
set_option maxHeartbeats 2000000 in
/-- r11.with -/
theorem rwith_calls {Q : Nat → Prop} {w : World} {v u : Value} {s : DState} {e : DEnt} {i : Nat} (hx : rState.val Q w v s) (he : rEnt.val Q w u e) (hi : i < s.ents.length) (hl : s.ents.length ≤ 100000) :
    Calls Try.prog 152 #[v, .int .i64 i, u] w (StatePost Q w ⟨s.gens, s.free, s.ents.set i e⟩) := by
  obtain ⟨A1, c1, A2, c2, A3, c3, rfl, f1, f2, f3⟩ := rState_val hx
  obtain ⟨A4, c4, rfl, g0, g1, g2⟩ := rEnt_val he
  have F1 := Lib.hid f1
  have F2 := Lib.hid f2
  have F3 := Lib.hid f3
  have G0 := Lib.hid g0
  have G1 := Lib.hid g1
  have G2 := Lib.hid g2
  have HI := Lib.hid hi
  have HL := Lib.hid hl
  have l3 := f3.2.1
  have m3 := f3.1
  unfold maxLen at l3
  have hfr : Try.f152.results = #[.cell 6 75] := rfl
  clear hx he f1 f2 f3 g0 g1 g2
  obtain ⟨W0, hW0⟩ : ∃ W, (((w.alloc (.cells #[.slice A1 s.gens.length c1, .slice A2 s.free.length c2, .slice A3 s.ents.length c3] 75)).alloc (.cells #[.int .i64 e.id.index, .int .i64 e.id.gen, .slice A4 e.parts.length c4] 133)).alloc (.cells #[.slice none 0 0, .slice none 0 0, .slice none 0 0] 75)) = W := ⟨_, rfl⟩
  have hz0 : W0.heap.size = w.heap.size + 3 := by rw [← hW0]; simp
  have hb0 : Below w.heap.size w W0 := by rw [← hW0]; exact (((Below.refl _ _).alloc (Nat.le_refl _) _).alloc (by first | (simp; done) | (simp; omega)) _).alloc (by first | (simp; done) | (simp; omega)) _
  have HZ := Lib.hid hz0
  have HB0 := Lib.hid hb0
  have R0_0 := Lib.hid (show W0.heap[w.heap.size]? = some (.cells #[.slice A1 s.gens.length c1, .slice A2 s.free.length c2, .slice A3 s.ents.length c3] 75 (0, 0)) by rw [← hW0]; exact alloc_old (alloc_old (alloc_at rfl)))
  have R1_0 := Lib.hid (show W0.heap[w.heap.size + 1]? = some (.cells #[.int .i64 e.id.index, .int .i64 e.id.gen, .slice A4 e.parts.length c4] 133 (0, 0)) by rw [← hW0]; exact alloc_old (alloc_at (by simp)))
  have R2_0 := Lib.hid (show W0.heap[w.heap.size + 1 + 1]? = some (.cells #[.slice none 0 0, .slice none 0 0, .slice none 0 0] 75 (0, 0)) by rw [← hW0]; exact alloc_at (by simp))
  have O0 := Lib.hid (Only.refl (Box w 3) W0)
  have HVE := Lib.hid (show ∀ V, Below W0.heap.size W0 V → rEnt.list.val (Lo Q w) V (.slice A3 s.ents.length c3) s.ents from fun V h => val_lo_later (val_lo F3.out.val hb0) h)
  obtain ⟨w1, hn1⟩ : ∃ W, W0.alloc (.cells #[] 133) = W := ⟨_, rfl⟩
  have HBw1 := Lib.hid (show Below W0.heap.size W0 w1 by rw [← hn1]; exact (Below.refl _ _).alloc (Nat.le_refl _) _)
  have k1 := row_call HBw1.out R0_0.out
  have k1_0 := rw3 k1
  clear k1
  have k2 := row_call HBw1.out R1_0.out
  have k2_0 := rw3 k2
  clear k2
  have k3 := row_call HBw1.out R2_0.out
  have k3_0 := rw3 k3
  clear k3
  have HA1 := Lib.hid (show rEnt.acc 133 W0.heap.size (Lo Q w) w1 (.slice (some ⟨W0.heap.size, 0, none⟩) 0 0) [] by rw [← hn1]; exact Rep.acc_made W0 #[] 0 (Nat.le_refl _) (by simp [maxLen]) (by simp))
  clear hz0 hb0
  have q0_0 := rw3 R0_0.out
  have q1_0 := rw3 R1_0.out
  have q2_0 := rw3 R2_0.out
  go_enter Try.func152, Try.ntmps152
  go_wp2_with (with_reducible refine stopApp rfl ?_)
  try refine Lib.hid ?_
  try rw [hW0]
  clear hW0
  try rw [hn1]
  clear hn1
  clear k1_0 k2_0 k3_0 q0_0 q1_0 q2_0
  refine wpList_spread (e := 133) (base := W0.heap.size) (Q := Lo Q w) (Q' := Lo Q w) (r := rEnt) rfl _ _ 73 rfl (.agg #[.int .i64 0, .int .i64 0, .slice none 0 0]) 3 40 Try.underlying73 infoEnt rfl (by decide) rfl _ [] (by exact rfl) HA1.out _ s.ents (by exact rfl) (HVE.out _ HBw1.out) (fun b hb _ => ⟨hb, fun e => by have e2 : W0.heap.size = b := Option.some.inj e; have := hb.2; have := HZ.out; omega⟩) (by have := HL.out; unfold maxLen; simp; omega) (by have := HL.out; simp; omega) HBw1.out.size ?_
  intro v2 w2 hacc2 hgr2 hat2
  rw [List.nil_append] at hacc2
  have HB2 := Lib.hid (Rep.acc_below HA1.out HBw1.out hgr2 HBw1.out.size)
  have HA2 := Lib.hid hacc2
  obtain ⟨y, hy⟩ : ∃ y, s.ents[i]? = some y := ⟨_, List.getElem?_eq_getElem HI.out⟩
  obtain ⟨g2, cap2, es2, rfl, hg2, _, hl2, hc2, hrd2, hce2, hfz2⟩ := acc_get hacc2 hy
  obtain ⟨A5, c5, rfl⟩ := rEnt_cell hrd2
  have k0 := hce2 0 _ rfl
  have k1 := hce2 1 _ rfl
  have k2 := hce2 2 _ rfl
  rw [rEnt_size] at k0 k1 k2
  rw [Nat.add_zero] at k0
  have j0 := hfz2 (i * 3)
  have j1 := hfz2 (i * 3 + 1)
  have j2 := hfz2 (i * 3 + 2)
  have HG2 := Lib.hid hg2
  have HI2 := HI.out
  have n0 : ¬ g2 = w.heap.size := by have := HZ.out; omega
  have n1 : ¬ g2 = w.heap.size + 1 := by have := HZ.out; omega
  have n2 : ¬ g2 = w.heap.size + 1 + 1 := by have := HZ.out; omega
  unfold maxLen at hc2
  clear hacc2 hgr2 hat2 hg2 hrd2 hce2 hfz2 hy
  have k4 := row_call HB2.out R0_0.out
  have k4_0 := rw3 k4
  clear k4
  have k5 := row_call HB2.out R1_0.out
  have k5_0 := rw3 k5
  clear k5
  have k6 := row_call HB2.out R2_0.out
  have k6_0 := rw3 k6
  clear k6
  go_wp2_with fail
  clear k0 k1 k2 j0 j1 j2 n0 n1 n2 HI2
  clear k4_0 k5_0 k6_0
  refine nm_post (fun w3 hnm => ?_)
  have S1 := Lib.hid (show Only (Box w 3) W0 w3 from (by rw [hnm]; exact ((((((((Only.of_below HB2.out : Only (Box w 3) W0 w2)).late (by have := HG2.out; omega)).late (by have := HG2.out; omega)).late (by have := HG2.out; omega)).put ⟨by omega, by omega⟩).put ⟨by omega, by omega⟩).put ⟨by omega, by omega⟩).put ⟨by omega, by omega⟩))
  have O1 := Lib.hid (O0.out.trans S1.out)
  have R0_1 := Lib.hid (show w3.heap[w.heap.size]? = some (.cells #[.slice A1 s.gens.length c1, .slice A2 s.free.length c2, .slice (some ⟨g2, 0, none⟩) s.ents.length cap2] 75 (0, 0)) from (by rw [hnm]; exact row_other (row_other (row_other (heap_setRow (row_other (row_other (row_other (row_call HB2.out R0_0.out) (by have := HG2.out; have := O0.out.size; have := HZ.out; omega)) (by have := HG2.out; have := O0.out.size; have := HZ.out; omega)) (by have := HG2.out; have := O0.out.size; have := HZ.out; omega))) (by omega)) (by omega)) (by omega)))
  have R1_1 := Lib.hid (row_nm hnm (row_other (row_other (row_other (row_other (row_other (row_other (row_other (row_call HB2.out R1_0.out) (by have := HG2.out; have := O0.out.size; have := HZ.out; omega)) (by have := HG2.out; have := O0.out.size; have := HZ.out; omega)) (by have := HG2.out; have := O0.out.size; have := HZ.out; omega)) (by omega)) (by omega)) (by omega)) (by omega)))
  have R2_1 := Lib.hid (show w3.heap[w.heap.size + 1 + 1]? = some (.cells #[.slice A1 s.gens.length c1, .slice A2 s.free.length c2, .slice (some ⟨g2, 0, none⟩) s.ents.length cap2] 75 (0, 0)) from (by rw [hnm]; exact heap_setRow (heap_setRow (heap_setRow (row_other (row_other (row_other (row_other (row_call HB2.out R2_0.out) (by have := HG2.out; have := O0.out.size; have := HZ.out; omega)) (by have := HG2.out; have := O0.out.size; have := HZ.out; omega)) (by have := HG2.out; have := O0.out.size; have := HZ.out; omega)) (by omega))))))
  have HA3 := Lib.hid (show rEnt.acc 133 W0.heap.size (Lo Q w) w3 (.slice (some ⟨g2, 0, none⟩) s.ents.length cap2) (s.ents.set i e) by rw [hnm]; exact acc_other (acc_other (acc_other (acc_other (acc_ent_set (x := e) HA2.out rfl HI.out G0.out G1.out ((sl_lo G2.out (HB0.out.trans (HB2.out.mono HB0.out.size))).keep fun b hb _ => ⟨⟨hb, fun e => by have e2 : g2 = b := Option.some.inj e; have := hb.2; have := HG2.out; have := HZ.out; omega⟩, rfl⟩)) (fun b hb => by have := hb.2; omega) (fun e => by have e2 : g2 = w.heap.size := Option.some.inj e; have := HG2.out; have := HZ.out; omega)) (fun b hb => by have := hb.2; omega) (fun e => by have e2 : g2 = w.heap.size + 1 + 1 := Option.some.inj e; have := HG2.out; have := HZ.out; omega)) (fun b hb => by have := hb.2; omega) (fun e => by have e2 : g2 = w.heap.size + 1 + 1 := Option.some.inj e; have := HG2.out; have := HZ.out; omega)) (fun b hb => by have := hb.2; omega) (fun e => by have e2 : g2 = w.heap.size + 1 + 1 := Option.some.inj e; have := HG2.out; have := HZ.out; omega))
  clear hnm
  have q2_0 := cl3 R2_1.out
  refine ⟨rfl, .agg #[.slice A1 s.gens.length c1, .slice A2 s.free.length c2, .slice (some ⟨g2, 0, none⟩) s.ents.length cap2], by simp only [results, hfr]; go_simp, ?_⟩
  clear q2_0
  refine ⟨_, rfl, ?_, Only.fin HB0.out O1.out⟩
  have h := rState_agg (x := ⟨s.gens, s.free, s.ents.set i e⟩) (Q := fun b => Q b ∨ w.heap.size ≤ b) (w := w3) (sl_out F1.out (Only.fin HB0.out O1.out)) (sl_out F2.out (Only.fin HB0.out O1.out)) (sl_of (Rep.val_mono (fun b hb _ => hb.elim (fun h => .inl h.1) (fun h => .inr (by have e2 : g2 = b := Option.some.inj h; have := HG2.out; have := HZ.out; omega))) (Rep.acc_val HA3.out)))
  dsimp only at h
  rw [List.length_set] at h
  exact h
end Go.Proofs.Yteljibjbndpncaa
namespace Go.Proofs.Yteljibjbndpncaa
open Go.RowKit

theorem infoPt : (Try.prog.info? 135).map (fun i => (i.zero, i.size, i.bytes)) = some (some (.agg #[.int .i64 0, .slice none 0 0]), 2, 32) := by kernel_rfl
theorem partOf_at {l : List DPart} {k : Int} : partAt l k = match partOf l k with | some j => (j : Int) | none => -1 := by
  unfold partAt partOf
  have : (fun p : DPart => p.comp == k) = (fun p => decide (p.comp = k)) := by funext p; by_cases h : p.comp = k <;> simp [h]
  rw [this]
  split <;> rename_i h <;> rw [h]
theorem modify_set {es : List DEnt} {i : Nat} {x : DEnt} {f : DEnt → DEnt} (hx : es[i]? = some x) : es.modify i f = es.set i (f x) := by
  apply List.ext_getElem?
  intro n
  rw [List.getElem?_modify, List.getElem?_set]
  by_cases h : i = n
  · subst h
    obtain ⟨h1, h2⟩ := List.getElem?_eq_some_iff.1 hx
    simp [h1, h2]
  · simp [h]

set_option maxRecDepth 100000 in
set_option maxHeartbeats 4000000 in
/-- r11.Remove -/
theorem rremove_calls {Q : Nat → Prop} {w : World} {vc v : Value} {c : DConf} {s : DState} {id : DID} {k : Int} (hc : rConf.val Q w vc c) (hx : rState.val Q w v s) (hok : StOk c s) :
    Calls Try.prog 143 #[vc, v, .agg #[.int .i64 id.index, .int .i64 id.gen], .int .i64 k] w (DespawnPost Q w (removeS c s id k)) := by
  have HC := Lib.hid hc
  have HX := Lib.hid hx
  have HOK := Lib.hid hok
  have HSM := Lib.hid hok.small
  obtain ⟨A, cap, rfl, _⟩ := rConf_val hc
  obtain ⟨A1, c1, A2, c2, A3, c3, rfl, f1, f2, f3⟩ := rState_val hx
  have F3 := Lib.hid f3
  have l3 := f3.2.1
  have m3 := f3.1
  unfold maxLen at l3
  have hfr : Try.f143.results = #[.cell 8 75, .tmp 9] := rfl
  clear hc hx f1 f2 f3 hok
  obtain ⟨W0, hW0⟩ : ∃ W, ((((w.alloc (.cells #[.int .i64 c.log, .int .i64 c.pages, .int .i64 c.entities, .int .i64 c.gens, .slice A c.comps.length cap] 49)).alloc (.cells #[.slice A1 s.gens.length c1, .slice A2 s.free.length c2, .slice A3 s.ents.length c3] 75)).alloc (.cells #[.int .i64 id.index, .int .i64 id.gen] 114)).alloc (.cells #[.slice none 0 0, .slice none 0 0, .slice none 0 0] 75)) = W := ⟨_, rfl⟩
  have hz0 : W0.heap.size = w.heap.size + 4 := by rw [← hW0]; simp
  have hb0 : Below w.heap.size w W0 := by rw [← hW0]; exact ((((Below.refl _ _).alloc (Nat.le_refl _) _).alloc (by first | (simp; done) | (simp; omega)) _).alloc (by first | (simp; done) | (simp; omega)) _).alloc (by first | (simp; done) | (simp; omega)) _
  have HZ := Lib.hid hz0
  have HB0 := Lib.hid hb0
  have R0_0 := Lib.hid (show W0.heap[w.heap.size]? = some (.cells #[.int .i64 c.log, .int .i64 c.pages, .int .i64 c.entities, .int .i64 c.gens, .slice A c.comps.length cap] 49 (0, 0)) by rw [← hW0]; exact alloc_old (alloc_old (alloc_old (alloc_at rfl))))
  have R1_0 := Lib.hid (show W0.heap[w.heap.size + 1]? = some (.cells #[.slice A1 s.gens.length c1, .slice A2 s.free.length c2, .slice A3 s.ents.length c3] 75 (0, 0)) by rw [← hW0]; exact alloc_old (alloc_old (alloc_at (by simp))))
  have R2_0 := Lib.hid (show W0.heap[w.heap.size + 1 + 1]? = some (.cells #[.int .i64 id.index, .int .i64 id.gen] 114 (0, 0)) by rw [← hW0]; exact alloc_old (alloc_at (by simp)))
  have R3_0 := Lib.hid (show W0.heap[w.heap.size + 1 + 1 + 1]? = some (.cells #[.slice none 0 0, .slice none 0 0, .slice none 0 0] 75 (0, 0)) by rw [← hW0]; exact alloc_at (by simp))
  have O0 := Lib.hid (Only.refl (Box w 4) W0)
  have Vc_0 := Lib.hid (show rConf.val (In Q w 4) W0 (.agg #[.int .i64 c.log, .int .i64 c.pages, .int .i64 c.entities, .int .i64 c.gens, .slice A c.comps.length cap]) c from val_in HC.out hb0)
  have Vs_0 := Lib.hid (show rState.val (In Q w 4) W0 (.agg #[.slice A1 s.gens.length c1, .slice A2 s.free.length c2, .slice A3 s.ents.length c3]) s from val_in HX.out hb0)
  have HLO := Lib.hid (show ∀ V, Below W0.heap.size W0 V → rEnt.list.val (Lo Q w) V (.slice A3 s.ents.length c3) s.ents from fun V h => val_lo_later (val_lo F3.out.val hb0) h)
  rcases hp : placeOf s.ents id with _ | i
  case none =>
    have HP := Lib.hid (place_none hp)
    have HE := Lib.hid (show removeS c s id k = (s, 5) by unfold removeS; rw [hp])
    clear hp
    clear hz0 hb0
    have q0_0 := rw5 R0_0.out
    have q1_0 := rw3 R1_0.out
    have q2_0 := rw2 R2_0.out
    have q3_0 := rw3 R3_0.out
    go_enter Try.func143, Try.ntmps143
    go_wp2_with fail
    try rw [hW0]
    clear hW0
    try go_wp2_with fail
    clear q0_0 q1_0 q2_0 q3_0
    refine (rplace11_calls (id := id) Vs_0.out).mono ?_
    rintro e w1 ⟨rfl, hb⟩
    have S1 := Lib.hid (show Only (Box w 4) W0 w1 from Only.of_below hb)
    have O1 := Lib.hid (O0.out.trans S1.out)
    have R0_1 := Lib.hid (row_call hb R0_0.out)
    have R1_1 := Lib.hid (row_call hb R1_0.out)
    have R2_1 := Lib.hid (row_call hb R2_0.out)
    have R3_1 := Lib.hid (row_call hb R3_0.out)
    have Vc_1 := Lib.hid (val_only Vc_0.out S1.out)
    have Vs_1 := Lib.hid (val_only Vs_0.out S1.out)
    clear hb
    rw [HP.out]
    have q0_0 := rw5 R0_1.out
    have q1_0 := rw3 R1_1.out
    have q2_0 := rw2 R2_1.out
    have q3_0 := rw3 R3_1.out
    go_wp2_with fail
    clear q0_0 q1_0 q2_0 q3_0
    refine nm_post (fun wz hnm => ?_)
    have S2 := Lib.hid (show Only (Box w 4) w1 wz from (by rw [hnm]; exact (((Only.refl (Box w 4) w1).put ⟨by omega, by omega⟩).put ⟨by omega, by omega⟩).put ⟨by omega, by omega⟩))
    have O2 := Lib.hid (O1.out.trans S2.out)
    have R0_2 := Lib.hid (row_nm hnm (row_other (row_other (row_other (R0_1.out) (by omega)) (by omega)) (by omega)))
    have R1_2 := Lib.hid (row_nm hnm (row_other (row_other (row_other (R1_1.out) (by omega)) (by omega)) (by omega)))
    have R2_2 := Lib.hid (row_nm hnm (row_other (row_other (row_other (R2_1.out) (by omega)) (by omega)) (by omega)))
    have R3_2 := Lib.hid (show wz.heap[w.heap.size + 1 + 1 + 1]? = some (.cells #[.slice A1 s.gens.length c1, .slice A2 s.free.length c2, .slice A3 s.ents.length c3] 75 (0, 0)) from (by rw [hnm]; exact heap_setRow (heap_setRow (heap_setRow (R3_1.out)))))
    have Vc_2 := Lib.hid (val_only Vc_1.out S2.out)
    have Vs_2 := Lib.hid (val_only Vs_1.out S2.out)
    clear hnm
    have q3_0 := cl3 R3_2.out
    refine ⟨rfl, .tuple #[.agg #[.slice A1 s.gens.length c1, .slice A2 s.free.length c2, .slice A3 s.ents.length c3], .int .i64 5], by simp only [results, hfr]; go_simp, ?_⟩
    clear q3_0
    rw [HE.out]
    exact ⟨_, rfl, val_out Vs_2.out, Only.fin HB0.out O2.out⟩
  have HP := Lib.hid (place_some hp)
  obtain ⟨x, hx0, hid0⟩ := placeOf_some hp
  have hil : i < s.ents.length := (List.getElem?_eq_some_iff.1 hx0).1
  have HIL := Lib.hid hil
  have HX0 := Lib.hid hx0
  have HID := Lib.hid hid0
  have HPO := Lib.hid hp
  have HPK := Lib.hid (HOK.out.parts x (List.mem_of_getElem? hx0)).len
  clear hp hx0 hid0 hil
  rcases hsz : compSize c k with _ | n
  case none =>
    have HS := Lib.hid hsz
    have HE := Lib.hid (show removeS c s id k = (s, 6) by unfold removeS; rw [HPO.out]; dsimp only; rw [hsz])
    clear hsz
    clear hz0 hb0
    have q0_0 := rw5 R0_0.out
    have q1_0 := rw3 R1_0.out
    have q2_0 := rw2 R2_0.out
    have q3_0 := rw3 R3_0.out
    go_enter Try.func143, Try.ntmps143
    go_wp2_with fail
    try rw [hW0]
    clear hW0
    try go_wp2_with fail
    clear q0_0 q1_0 q2_0 q3_0
    refine (rplace11_calls (id := id) Vs_0.out).mono ?_
    rintro e w1 ⟨rfl, hb⟩
    have S1 := Lib.hid (show Only (Box w 4) W0 w1 from Only.of_below hb)
    have O1 := Lib.hid (O0.out.trans S1.out)
    have R0_1 := Lib.hid (row_call hb R0_0.out)
    have R1_1 := Lib.hid (row_call hb R1_0.out)
    have R2_1 := Lib.hid (row_call hb R2_0.out)
    have R3_1 := Lib.hid (row_call hb R3_0.out)
    have Vc_1 := Lib.hid (val_only Vc_0.out S1.out)
    have Vs_1 := Lib.hid (val_only Vs_0.out S1.out)
    clear hb
    rw [HP.out]
    have q0_0 := rw5 R0_1.out
    have q1_0 := rw3 R1_1.out
    have q2_0 := rw2 R2_1.out
    have q3_0 := rw3 R3_1.out
    go_wp2_with fail
    clear q0_0 q1_0 q2_0 q3_0
    refine (rsize_calls (k := k) Vc_1.out).mono ?_
    rintro e w2 ⟨rfl, hb⟩
    have S2 := Lib.hid (show Only (Box w 4) w1 w2 from Only.of_below hb)
    have O2 := Lib.hid (O1.out.trans S2.out)
    have R0_2 := Lib.hid (row_call hb R0_1.out)
    have R1_2 := Lib.hid (row_call hb R1_1.out)
    have R2_2 := Lib.hid (row_call hb R2_1.out)
    have R3_2 := Lib.hid (row_call hb R3_1.out)
    have Vc_2 := Lib.hid (val_only Vc_1.out S2.out)
    have Vs_2 := Lib.hid (val_only Vs_1.out S2.out)
    clear hb
    rw [HS.out]
    dsimp only [Option.getD_none, Option.isSome_none]
    have q0_0 := rw5 R0_2.out
    have q1_0 := rw3 R1_2.out
    have q2_0 := rw2 R2_2.out
    have q3_0 := rw3 R3_2.out
    go_wp2_with fail
    clear q0_0 q1_0 q2_0 q3_0
    refine nm_post (fun wz hnm => ?_)
    have S3 := Lib.hid (show Only (Box w 4) w2 wz from (by rw [hnm]; exact (((Only.refl (Box w 4) w2).put ⟨by omega, by omega⟩).put ⟨by omega, by omega⟩).put ⟨by omega, by omega⟩))
    have O3 := Lib.hid (O2.out.trans S3.out)
    have R0_3 := Lib.hid (row_nm hnm (row_other (row_other (row_other (R0_2.out) (by omega)) (by omega)) (by omega)))
    have R1_3 := Lib.hid (row_nm hnm (row_other (row_other (row_other (R1_2.out) (by omega)) (by omega)) (by omega)))
    have R2_3 := Lib.hid (row_nm hnm (row_other (row_other (row_other (R2_2.out) (by omega)) (by omega)) (by omega)))
    have R3_3 := Lib.hid (show wz.heap[w.heap.size + 1 + 1 + 1]? = some (.cells #[.slice A1 s.gens.length c1, .slice A2 s.free.length c2, .slice A3 s.ents.length c3] 75 (0, 0)) from (by rw [hnm]; exact heap_setRow (heap_setRow (heap_setRow (R3_2.out)))))
    have Vc_3 := Lib.hid (val_only Vc_2.out S3.out)
    have Vs_3 := Lib.hid (val_only Vs_2.out S3.out)
    clear hnm
    have q3_0 := cl3 R3_3.out
    refine ⟨rfl, .tuple #[.agg #[.slice A1 s.gens.length c1, .slice A2 s.free.length c2, .slice A3 s.ents.length c3], .int .i64 6], by simp only [results, hfr]; go_simp, ?_⟩
    clear q3_0
    rw [HE.out]
    exact ⟨_, rfl, val_out Vs_3.out, Only.fin HB0.out O3.out⟩
  have HS := Lib.hid hsz
  clear hsz
  obtain ⟨eb, eo, Ap, cp, hA3, _, k0, k1, k2, h0, h1, hs⟩ := rEnt_at (sl_of (HLO.out W0 (Below.refl _ _))).2.2 HX0.out
  subst hA3
  have hcell : (Lo Q w) eb := by
    obtain ⟨b2, off2, es2, hh1, hh2, _⟩ := (sl_of (HLO.out W0 (Below.refl _ _))).2.2.get HX0.out
    cases hh1
    exact hh2
  have HEB := Lib.hid hcell
  have K2 := Lib.hid k2
  have HSP := Lib.hid hs
  have lp := hs.2.1
  have mp := hs.1
  unfold maxLen at lp
  have hil : (i : Int) < s.ents.length := by have := HIL.out; omega
  have HPV := Lib.hid (show rPart.list.val (In Q w 4) W0 (.slice Ap x.parts.length cp) x.parts from (hs.keep fun b hb _ => ⟨Lo.inn hb, rfl⟩).val)
  clear k0 k1 k2 h0 h1 hs hcell
  rcases hpt : partOf x.parts k with _ | j
  case none =>
    have HPA := Lib.hid (show partAt x.parts k = -1 by rw [partOf_at, hpt])
    have HE := Lib.hid (show removeS c s id k = (s, 8) by unfold removeS; rw [HPO.out]; dsimp only; rw [HS.out]; dsimp only; rw [HX0.out]; dsimp only [Option.map_some, Option.getD_some]; rw [hpt])
    clear hpt
    clear hz0 hb0
    have q0_0 := rw5 R0_0.out
    have q1_0 := rw3 R1_0.out
    have q2_0 := rw2 R2_0.out
    have q3_0 := rw3 R3_0.out
    go_enter Try.func143, Try.ntmps143
    go_wp2_with fail
    try rw [hW0]
    clear hW0
    try go_wp2_with fail
    clear q0_0 q1_0 q2_0 q3_0
    refine (rplace11_calls (id := id) Vs_0.out).mono ?_
    rintro e w1 ⟨rfl, hb⟩
    have S1 := Lib.hid (show Only (Box w 4) W0 w1 from Only.of_below hb)
    have O1 := Lib.hid (O0.out.trans S1.out)
    have R0_1 := Lib.hid (row_call hb R0_0.out)
    have R1_1 := Lib.hid (row_call hb R1_0.out)
    have R2_1 := Lib.hid (row_call hb R2_0.out)
    have R3_1 := Lib.hid (row_call hb R3_0.out)
    have Vc_1 := Lib.hid (val_only Vc_0.out S1.out)
    have Vs_1 := Lib.hid (val_only Vs_0.out S1.out)
    have Vp_1 := Lib.hid (val_only HPV.out S1.out)
    clear hb
    rw [HP.out]
    have q0_0 := rw5 R0_1.out
    have q1_0 := rw3 R1_1.out
    have q2_0 := rw2 R2_1.out
    have q3_0 := rw3 R3_1.out
    go_wp2_with fail
    clear q0_0 q1_0 q2_0 q3_0
    refine (rsize_calls (k := k) Vc_1.out).mono ?_
    rintro e w2 ⟨rfl, hb⟩
    have S2 := Lib.hid (show Only (Box w 4) w1 w2 from Only.of_below hb)
    have O2 := Lib.hid (O1.out.trans S2.out)
    have R0_2 := Lib.hid (row_call hb R0_1.out)
    have R1_2 := Lib.hid (row_call hb R1_1.out)
    have R2_2 := Lib.hid (row_call hb R2_1.out)
    have R3_2 := Lib.hid (row_call hb R3_1.out)
    have Vc_2 := Lib.hid (val_only Vc_1.out S2.out)
    have Vs_2 := Lib.hid (val_only Vs_1.out S2.out)
    have Vp_2 := Lib.hid (val_only Vp_1.out S2.out)
    clear hb
    rw [HS.out]
    dsimp only [Option.getD_some, Option.isSome_some]
    have q0_0 := rw5 R0_2.out
    have q1_0 := rw3 R1_2.out
    have q2_0 := rw2 R2_2.out
    have q3_0 := rw3 R3_2.out
    have kk := cell_only O2.out (Lo.inn HEB.out).no K2.out
    go_wp2_with fail
    clear kk
    clear q0_0 q1_0 q2_0 q3_0
    refine (part_calls (k := k) Vp_2.out).mono ?_
    rintro e w3 ⟨rfl, hw⟩
    have hb : Below w2.heap.size w2 w3 := by rw [hw]; exact Below.refl _ _
    clear hw
    rw [HPA.out]
    have S3 := Lib.hid (show Only (Box w 4) w2 w3 from Only.of_below hb)
    have O3 := Lib.hid (O2.out.trans S3.out)
    have R0_3 := Lib.hid (row_call hb R0_2.out)
    have R1_3 := Lib.hid (row_call hb R1_2.out)
    have R2_3 := Lib.hid (row_call hb R2_2.out)
    have R3_3 := Lib.hid (row_call hb R3_2.out)
    have Vc_3 := Lib.hid (val_only Vc_2.out S3.out)
    have Vs_3 := Lib.hid (val_only Vs_2.out S3.out)
    have Vp_3 := Lib.hid (val_only Vp_2.out S3.out)
    clear hb
    have q0_0 := rw5 R0_3.out
    have q1_0 := rw3 R1_3.out
    have q2_0 := rw2 R2_3.out
    have q3_0 := rw3 R3_3.out
    go_wp2_with fail
    clear q0_0 q1_0 q2_0 q3_0
    refine nm_post (fun wz hnm => ?_)
    have S4 := Lib.hid (show Only (Box w 4) w3 wz from (by rw [hnm]; exact (((Only.refl (Box w 4) w3).put ⟨by omega, by omega⟩).put ⟨by omega, by omega⟩).put ⟨by omega, by omega⟩))
    have O4 := Lib.hid (O3.out.trans S4.out)
    have R0_4 := Lib.hid (row_nm hnm (row_other (row_other (row_other (R0_3.out) (by omega)) (by omega)) (by omega)))
    have R1_4 := Lib.hid (row_nm hnm (row_other (row_other (row_other (R1_3.out) (by omega)) (by omega)) (by omega)))
    have R2_4 := Lib.hid (row_nm hnm (row_other (row_other (row_other (R2_3.out) (by omega)) (by omega)) (by omega)))
    have R3_4 := Lib.hid (show wz.heap[w.heap.size + 1 + 1 + 1]? = some (.cells #[.slice A1 s.gens.length c1, .slice A2 s.free.length c2, .slice (some ⟨eb, eo, none⟩) s.ents.length c3] 75 (0, 0)) from (by rw [hnm]; exact heap_setRow (heap_setRow (heap_setRow (R3_3.out)))))
    have Vc_4 := Lib.hid (val_only Vc_3.out S4.out)
    have Vs_4 := Lib.hid (val_only Vs_3.out S4.out)
    have Vp_4 := Lib.hid (val_only Vp_3.out S4.out)
    clear hnm
    have q3_0 := cl3 R3_4.out
    refine ⟨rfl, .tuple #[.agg #[.slice A1 s.gens.length c1, .slice A2 s.free.length c2, .slice (some ⟨eb, eo, none⟩) s.ents.length c3], .int .i64 8], by simp only [results, hfr]; go_simp, ?_⟩
    clear q3_0
    rw [HE.out]
    exact ⟨_, rfl, val_out Vs_4.out, Only.fin HB0.out O4.out⟩
  have HPA := Lib.hid (show partAt x.parts k = (j : Int) by rw [partOf_at, hpt])
  have hjl : j < x.parts.length := by
    unfold partOf at hpt
    exact (List.findIdx?_eq_some_iff_getElem.1 hpt).1
  have HJL := Lib.hid hjl
  have HE := Lib.hid (show removeS c s id k = (⟨s.gens, s.free, s.ents.set i ⟨id, x.parts.take j ++ x.parts.drop (j + 1)⟩⟩, 0) by unfold removeS; rw [HPO.out]; dsimp only; rw [HS.out]; dsimp only; rw [HX0.out]; dsimp only [Option.map_some, Option.getD_some]; rw [hpt]; dsimp only; rw [modify_set HX0.out, erase_split, HID.out])
  obtain ⟨pb, po, rfl⟩ := HSP.out.2.2.addr (by omega)
  clear hpt
  clear hz0 hb0
  have q0_0 := rw5 R0_0.out
  have q1_0 := rw3 R1_0.out
  have q2_0 := rw2 R2_0.out
  have q3_0 := rw3 R3_0.out
  go_enter Try.func143, Try.ntmps143
  go_wp2_with fail
  try rw [hW0]
  clear hW0
  try go_wp2_with fail
  clear q0_0 q1_0 q2_0 q3_0
  refine (rplace11_calls (id := id) Vs_0.out).mono ?_
  rintro e w1 ⟨rfl, hb⟩
  have S1 := Lib.hid (show Only (Box w 4) W0 w1 from Only.of_below hb)
  have O1 := Lib.hid (O0.out.trans S1.out)
  have R0_1 := Lib.hid (row_call hb R0_0.out)
  have R1_1 := Lib.hid (row_call hb R1_0.out)
  have R2_1 := Lib.hid (row_call hb R2_0.out)
  have R3_1 := Lib.hid (row_call hb R3_0.out)
  have Vc_1 := Lib.hid (val_only Vc_0.out S1.out)
  have Vs_1 := Lib.hid (val_only Vs_0.out S1.out)
  have Vp_1 := Lib.hid (val_only HPV.out S1.out)
  clear hb
  rw [HP.out]
  have q0_0 := rw5 R0_1.out
  have q1_0 := rw3 R1_1.out
  have q2_0 := rw2 R2_1.out
  have q3_0 := rw3 R3_1.out
  go_wp2_with fail
  clear q0_0 q1_0 q2_0 q3_0
  refine (rsize_calls (k := k) Vc_1.out).mono ?_
  rintro e w2 ⟨rfl, hb⟩
  have S2 := Lib.hid (show Only (Box w 4) w1 w2 from Only.of_below hb)
  have O2 := Lib.hid (O1.out.trans S2.out)
  have R0_2 := Lib.hid (row_call hb R0_1.out)
  have R1_2 := Lib.hid (row_call hb R1_1.out)
  have R2_2 := Lib.hid (row_call hb R2_1.out)
  have R3_2 := Lib.hid (row_call hb R3_1.out)
  have Vc_2 := Lib.hid (val_only Vc_1.out S2.out)
  have Vs_2 := Lib.hid (val_only Vs_1.out S2.out)
  have Vp_2 := Lib.hid (val_only Vp_1.out S2.out)
  clear hb
  rw [HS.out]
  dsimp only [Option.getD_some, Option.isSome_some]
  have q0_0 := rw5 R0_2.out
  have q1_0 := rw3 R1_2.out
  have q2_0 := rw2 R2_2.out
  have q3_0 := rw3 R3_2.out
  have kk := cell_only O2.out (Lo.inn HEB.out).no K2.out
  go_wp2_with fail
  clear kk
  clear q0_0 q1_0 q2_0 q3_0
  refine (part_calls (k := k) Vp_2.out).mono ?_
  rintro e w3 ⟨rfl, hw⟩
  have hb : Below w2.heap.size w2 w3 := by rw [hw]; exact Below.refl _ _
  clear hw
  rw [HPA.out]
  have S3 := Lib.hid (show Only (Box w 4) w2 w3 from Only.of_below hb)
  have O3 := Lib.hid (O2.out.trans S3.out)
  have R0_3 := Lib.hid (row_call hb R0_2.out)
  have R1_3 := Lib.hid (row_call hb R1_2.out)
  have R2_3 := Lib.hid (row_call hb R2_2.out)
  have R3_3 := Lib.hid (row_call hb R3_2.out)
  have Vc_3 := Lib.hid (val_only Vc_2.out S3.out)
  have Vs_3 := Lib.hid (val_only Vs_2.out S3.out)
  have Vp_3 := Lib.hid (val_only Vp_2.out S3.out)
  clear hb
  have HB3 := Lib.hid (show ∀ b, b < w.heap.size → w3.heap[b]? = W0.heap[b]? from fun b hb => O3.out.block b (by have := HZ.out; omega) (fun h => by have := h.1; omega))
  have HTK := Lib.hid (show ∀ V, Below w3.heap.size w3 V → rPart.list.val (Lo Q w) V (.slice (some ⟨pb, po, none⟩) j cp) (x.parts.take j) from fun V h => Rep.list_val (by rw [List.length_take]; have := HJL.out; omega) (by have := HJL.out; omega) (by unfold maxLen; omega) (Rep.At.keep (w := W0) (fun b hb hl => ⟨hb, (h.block b (by have := hb.2; have := O3.out.size; have := HZ.out; omega)).trans (HB3.out b hb.2)⟩) (HSP.out.2.2.take j)))
  obtain ⟨w6, hn1⟩ : ∃ W, w3.alloc (.cells #[] 135) = W := ⟨_, rfl⟩
  have HBw6 := Lib.hid (show Below w3.heap.size w3 w6 by rw [← hn1]; exact (Below.refl _ _).alloc (Nat.le_refl _) _)
  have k1 := row_call HBw6.out R0_3.out
  have k1_0 := rw5 k1
  clear k1
  have k2 := row_call HBw6.out R1_3.out
  have k2_0 := rw3 k2
  clear k2
  have k3 := row_call HBw6.out R2_3.out
  have k3_0 := rw2 k3
  clear k3
  have k4 := row_call HBw6.out R3_3.out
  have k4_0 := rw3 k4
  clear k4
  have HA6 := Lib.hid (show rPart.acc 135 w3.heap.size (Lo Q w) w6 (.slice (some ⟨w3.heap.size, 0, none⟩) 0 0) [] by rw [← hn1]; exact Rep.acc_made w3 #[] 0 (Nat.le_refl _) (by simp [maxLen]) (by simp))
  have hjl2 : (j : Int) < x.parts.length := by have := HJL.out; omega
  have q0_0 := rw5 R0_3.out
  have q1_0 := rw3 R1_3.out
  have q2_0 := rw2 R2_3.out
  have q3_0 := rw3 R3_3.out
  go_wp2_with (with_reducible refine stopApp rfl ?_)
  refine Lib.hid ?_
  try rw [hn1]
  clear hn1
  clear k1_0 k2_0 k3_0 k4_0 q0_0 q1_0 q2_0 q3_0
  refine wpList_spread (e := 135) (base := w3.heap.size) (Q := Lo Q w) (Q' := Lo Q w) (r := rPart) rfl _ _ 131 rfl (.agg #[.int .i64 0, .slice none 0 0]) 2 32 Try.underlying131 infoPt rfl (by decide) rfl _ [] (by exact rfl) HA6.out _ (x.parts.take j) (by exact rfl) (HTK.out _ HBw6.out) (fun b hb _ => ⟨hb, fun e => by have e2 : w3.heap.size = b := Option.some.inj e; have := hb.2; have := O3.out.size; have := HZ.out; omega⟩) (by have := HPK.out; have := (right_facts HOK.out.conf).1; unfold maxLen; rw [List.length_take]; simp; omega) (by have := HPK.out; have := (right_facts HOK.out.conf).1; rw [List.length_take]; simp; omega) HBw6.out.size ?_
  intro v7 w7 hacc7 hgr7 hat7
  rw [List.nil_append] at hacc7
  have HB7 := Lib.hid (Rep.acc_below HA6.out HBw6.out hgr7 HBw6.out.size)
  obtain ⟨A7, c7, rfl, h71, h72⟩ := Rep.acc_form hacc7
  have hlt7 : (x.parts.take j).length = j := by rw [List.length_take]; have := HJL.out; omega
  have HA7 := Lib.hid hacc7
  rw [hlt7] at HA7 ⊢
  clear hacc7 hgr7 hat7 h71 h72 hlt7
  have S4 := Lib.hid (show Only (Box w 4) w3 w7 from Only.of_below HB7.out)
  have O4 := Lib.hid (O3.out.trans S4.out)
  have R0_4 := Lib.hid (row_call HB7.out R0_3.out)
  have R1_4 := Lib.hid (row_call HB7.out R1_3.out)
  have R2_4 := Lib.hid (row_call HB7.out R2_3.out)
  have R3_4 := Lib.hid (row_call HB7.out R3_3.out)
  have Vc_4 := Lib.hid (val_only Vc_3.out S4.out)
  have Vs_4 := Lib.hid (val_only Vs_3.out S4.out)
  have Vp_4 := Lib.hid (val_only Vp_3.out S4.out)
  have q0_0 := cl5 R0_4.out
  have q1_0 := cl3 R1_4.out
  have q2_0 := cl2 R2_4.out
  have q3_0 := cl3 R3_4.out
  try go_wp2_with fail
  clear q0_0 q1_0 q2_0 q3_0
  by_cases hcap : cp = j + 1
  · skip
    have HDR := Lib.hid (show ∀ V, Below w3.heap.size w3 V → rPart.list.val (Lo Q w) V (.slice (some ⟨pb, po, none⟩) 0 0) (x.parts.drop (j + 1)) from fun V h => Rep.list_val (by rw [List.length_drop]; have := HJL.out; omega) (by have := HJL.out; omega) (by unfold maxLen; omega) (by
      have hz : x.parts.drop (j + 1) = [] := List.drop_eq_nil_of_le (by omega)
      rw [hz]
      exact ⟨[], rfl, fun h => absurd h (by simp)⟩))
    have HVS := Lib.hid (show ∀ V, Below w3.heap.size w3 V → rState.val (In Q w 4) V (.agg #[.slice A1 s.gens.length c1, .slice A2 s.free.length c2, .slice (some ⟨eb, eo, none⟩) s.ents.length c3]) s from fun V h => val_only Vs_3.out (Only.of_below h))
    refine wp_region_tail (S := fun W => Below w3.heap.size w3 W) (T := [11, 12]) (by kernel_rfl) (HB7.out.drew) (fun s0 => ?_)
    obtain ⟨u0, hu0⟩ : ∃ V, V = w7.drew := ⟨_, rfl⟩
    rw [← hu0] at s0 ⊢
    have t0 : Below w3.heap.size w3 u0 := s0
    have tt0 : Below w7.heap.size w7 u0 := by rw [hu0]; exact (Below.refl _ _).drew
    clear hu0 s0
    have h01 : (0 : Int) ≤ (j : Int) + 1 := by omega
    have h02 : (j : Int) + 1 ≤ (x.parts.length : Int) := by omega
    have iw : IntKind.i64.wrap ((j : Int) + 1) = (j : Int) + 1 := IntWalk.i64_in _ ⟨by omega, by omega⟩
    have hs0 : x.parts.length - (j + 1) = 0 := by omega
    refine tkT (i := 0) (v := .agg #[.slice A1 s.gens.length c1, .slice A2 s.free.length c2, .slice (some ⟨eb, eo, none⟩) s.ents.length c3]) rfl (Or.inl ⟨by rfl, fun w' h => by have e := row_call (h : Below w3.heap.size w3 w') R1_3.out; have e0 := cell_row e 0; have e1 := cell_row e 1; have e2 := cell_row e 2; go_simp⟩) t0 ?_
    go_simp
    refine tkTV (i := 1) (v := .int .i64 i) rfl t0 ?_
    go_simp
    refine tkT (i := 2) (v := .agg #[.int .i64 id.index, .int .i64 id.gen]) rfl (Or.inl ⟨by rfl, fun w' h => by have e := row_call (h : Below w3.heap.size w3 w') R2_3.out; have e0 := cell_row e 0; have e1 := cell_row e 1; go_simp⟩) t0 ?_
    go_simp
    refine tkTV (i := 3) (v := .slice A7 j c7) rfl t0 ?_
    go_simp
    refine tkTV (i := 4) (v := .slice (some ⟨pb, po, none⟩) x.parts.length cp) rfl t0 ?_
    go_simp
    refine tkTV (i := 5) (v := .int .i64 j) rfl t0 ?_
    go_simp
    refine tkTV (i := 6) (v := .int .i64 ((j : Int) + 1)) rfl t0 ?_
    go_simp
    refine tkTV (i := 7) (v := .slice (some ⟨pb, po, none⟩) 0 0) rfl t0 ?_
    go_simp
    clear h01 h02 hs0
    refine wpAnyT_one (i := 8) rfl (by kernel_rfl) rfl (fun K hK => ?_)
    refine step_spread_in (e := 135) (base := w3.heap.size) (Q := Lo Q w) (Q' := Lo Q w) (r := rPart) rfl _ _ 131 rfl (.agg #[.int .i64 0, .slice none 0 0]) 2 32 Try.underlying131 infoPt rfl (by decide) rfl _ (x.parts.take j) (by exact rfl) (Rep.acc_later HA7.out tt0) _ (x.parts.drop (j + 1)) (by exact rfl) (HDR.out _ t0) (fun b hb _ => ⟨hb, fun e => by have h1 := (Rep.acc_own HA7.out b e).1; have := hb.2; have := O3.out.size; have := HZ.out; omega⟩) (by have := HPK.out; have := (right_facts HOK.out.conf).1; unfold maxLen; rw [List.length_take, List.length_drop]; omega) (by have := HPK.out; have := (right_facts HOK.out.conf).1; rw [List.length_take, List.length_drop]; omega) (Below.size t0) ?_
    intro v8 u8 hacc8 hgr8 hat8
    have t8 : Below w3.heap.size w3 u8 := Rep.acc_below (Rep.acc_later HA7.out tt0) t0 hgr8 (Below.size t0)
    obtain ⟨A8, c8, rfl, _, _⟩ := Rep.acc_form hacc8
    obtain ⟨ps, hps⟩ : ∃ ps, x.parts.take j ++ x.parts.drop (j + 1) = ps := ⟨_, rfl⟩
    rw [hps] at hacc8 HE ⊢
    have HA8 := Lib.hid hacc8
    refine hK _ _ ⟨t8, ?_⟩
    clear hK K hacc8 hgr8 hat8 hps
    go_simp
    refine tkTV (i := 9) (v := .agg #[.int .i64 id.index, .int .i64 id.gen, .slice A8 ps.length c8]) rfl t8 ?_
    go_simp
    refine wpAnyT_one (i := 10) rfl (by kernel_rfl) rfl (fun K hK => ?_)
    go_simp
    have hev : rEnt.val (In Q w 4) u8 (.agg #[.int .i64 id.index, .int .i64 id.gen, .slice A8 ps.length c8]) ⟨id, ps⟩ := by
      obtain ⟨_, _, _, _, _, _, _, _, _, w0, w1, _⟩ := rEnt_at (sl_of (HLO.out W0 (Below.refl _ _))).2.2 HX0.out
      rw [HID.out] at w0 w1
      exact rEnt_agg (x := ⟨id, ps⟩) w0 w1 (sl_of (Rep.val_mono (fun b hb _ => hb.elim Lo.inn (fun h => .inr (by have h1 := (Rep.acc_own HA8.out b h).1; have := O3.out.size; have := HZ.out; omega))) (Rep.acc_val HA8.out)))
    refine (rwith_calls (HVS.out _ t8) hev HIL.out (by have := HSM.out; omega)).mono ?_
    rintro e u9 ⟨z9, rfl, hz9, hb⟩
    obtain ⟨D1, e1, D2, e2, D3, e3, rfl, _⟩ := rState_val hz9
    have t9 : Below w3.heap.size w3 u9 := Below.trans t8 (hb.mono (Below.size t8))
    have HZ9 := Lib.hid (val_new (w := w) (n := 4) hz9 (by have := Below.size t8; have := O3.out.size; have := HZ.out; omega))
    have HB9 := Lib.hid t9
    refine hK _ _ ⟨t9, ?_⟩
    clear hK K hb hz9 hev
    dsimp only at HZ9 ⊢
    obtain ⟨es, hes⟩ : ∃ es, s.ents.set i ⟨id, ps⟩ = es := ⟨_, rfl⟩
    rw [hes] at HZ9 HE ⊢
    clear hes
    go_simp
    refine wpAnyT_last (i := 11) rfl (by kernel_rfl) rfl (fun K hK => ?_)
    have eb3 := row_call t9 R3_3.out
    have q0 := rw3 eb3
    go_simp
    refine hK _ _ ?_
    clear hK K q0 eb3
    refine nm_anyT (fun w9 hnm => ?_)
    have S5 := Lib.hid (show Only (Box w 4) w3 w9 from (by rw [hnm]; exact ((((Only.of_below HB9.out : Only (Box w 4) w3 u9)).put ⟨by omega, by omega⟩).put ⟨by omega, by omega⟩).put ⟨by omega, by omega⟩))
    have O5 := Lib.hid (O3.out.trans S5.out)
    have R0_5 := Lib.hid (row_nm hnm (row_other (row_other (row_other (row_call HB9.out R0_3.out) (by omega)) (by omega)) (by omega)))
    have R1_5 := Lib.hid (row_nm hnm (row_other (row_other (row_other (row_call HB9.out R1_3.out) (by omega)) (by omega)) (by omega)))
    have R2_5 := Lib.hid (row_nm hnm (row_other (row_other (row_other (row_call HB9.out R2_3.out) (by omega)) (by omega)) (by omega)))
    have R3_5 := Lib.hid (show w9.heap[w.heap.size + 1 + 1 + 1]? = some (.cells #[.slice D1 s.gens.length e1, .slice D2 s.free.length e2, .slice D3 es.length e3] 75 (0, 0)) from (by rw [hnm]; exact heap_setRow (heap_setRow (heap_setRow (row_call HB9.out R3_3.out)))))
    have Vc_5 := Lib.hid (val_only Vc_3.out S5.out)
    have Vs_5 := Lib.hid (val_only Vs_3.out S5.out)
    have Vp_5 := Lib.hid (val_only Vp_3.out S5.out)
    have HV9 := Lib.hid (show rState.val (In Q w 4) w9 (.agg #[.slice D1 s.gens.length e1, .slice D2 s.free.length e2, .slice D3 es.length e3]) ⟨s.gens, s.free, es⟩ from val_only HZ9.out (by rw [hnm]; exact (((Only.refl _ _).put ⟨by omega, by omega⟩).put ⟨by omega, by omega⟩).put ⟨by omega, by omega⟩))
    clear hnm
    refine tk0 (i := 12) (v := .int .i64 0) rfl (Or.inl ⟨by rfl, fun w' _ => by go_simp <;> omega⟩) ?_
    go_simp
    refine wpAnyT_done (by kernel_rfl) ?_ _
    have q3_0 := cl3 R3_5.out
    try go_wp2_with fail
    refine ⟨rfl, .tuple #[.agg #[.slice D1 s.gens.length e1, .slice D2 s.free.length e2, .slice D3 es.length e3], .int .i64 0], by simp only [results, hfr]; go_simp, ?_⟩
    clear q3_0
    rw [HE.out]
    exact ⟨_, rfl, val_out HV9.out, Only.fin HB0.out O5.out⟩
  · skip
    have HDR := Lib.hid (show ∀ V, Below w3.heap.size w3 V → rPart.list.val (Lo Q w) V (.slice (some ⟨pb, po + (j + 1) * 2, none⟩) (x.parts.length - (j + 1)) (cp - (j + 1))) (x.parts.drop (j + 1)) from fun V h => Rep.list_val List.length_drop.symm (by have := HJL.out; omega) (by unfold maxLen; omega) (Rep.At.keep (w := W0) (fun b hb hl => ⟨hb, (h.block b (by have := hb.2; have := O3.out.size; have := HZ.out; omega)).trans (HB3.out b hb.2)⟩) (HSP.out.2.2.drop (by have := HJL.out; omega))))
    have HVS := Lib.hid (show ∀ V, Below w3.heap.size w3 V → rState.val (In Q w 4) V (.agg #[.slice A1 s.gens.length c1, .slice A2 s.free.length c2, .slice (some ⟨eb, eo, none⟩) s.ents.length c3]) s from fun V h => val_only Vs_3.out (Only.of_below h))
    refine wp_region_tail (S := fun W => Below w3.heap.size w3 W) (T := [11, 12]) (by kernel_rfl) (HB7.out.drew) (fun s0 => ?_)
    obtain ⟨u0, hu0⟩ : ∃ V, V = w7.drew := ⟨_, rfl⟩
    rw [← hu0] at s0 ⊢
    have t0 : Below w3.heap.size w3 u0 := s0
    have tt0 : Below w7.heap.size w7 u0 := by rw [hu0]; exact (Below.refl _ _).drew
    clear hu0 s0
    have h01 : (0 : Int) ≤ (j : Int) + 1 := by omega
    have h02 : (j : Int) + 1 ≤ (x.parts.length : Int) := by omega
    have iw : IntKind.i64.wrap ((j : Int) + 1) = (j : Int) + 1 := IntWalk.i64_in _ ⟨by omega, by omega⟩
    refine tkT (i := 0) (v := .agg #[.slice A1 s.gens.length c1, .slice A2 s.free.length c2, .slice (some ⟨eb, eo, none⟩) s.ents.length c3]) rfl (Or.inl ⟨by rfl, fun w' h => by have e := row_call (h : Below w3.heap.size w3 w') R1_3.out; have e0 := cell_row e 0; have e1 := cell_row e 1; have e2 := cell_row e 2; go_simp⟩) t0 ?_
    go_simp
    refine tkTV (i := 1) (v := .int .i64 i) rfl t0 ?_
    go_simp
    refine tkT (i := 2) (v := .agg #[.int .i64 id.index, .int .i64 id.gen]) rfl (Or.inl ⟨by rfl, fun w' h => by have e := row_call (h : Below w3.heap.size w3 w') R2_3.out; have e0 := cell_row e 0; have e1 := cell_row e 1; go_simp⟩) t0 ?_
    go_simp
    refine tkTV (i := 3) (v := .slice A7 j c7) rfl t0 ?_
    go_simp
    refine tkTV (i := 4) (v := .slice (some ⟨pb, po, none⟩) x.parts.length cp) rfl t0 ?_
    go_simp
    refine tkTV (i := 5) (v := .int .i64 j) rfl t0 ?_
    go_simp
    refine tkTV (i := 6) (v := .int .i64 ((j : Int) + 1)) rfl t0 ?_
    go_simp
    refine tkTV (i := 7) (v := .slice (some ⟨pb, po + (j + 1) * 2, none⟩) (x.parts.length - (j + 1)) (cp - (j + 1))) rfl t0 ?_
    go_simp
    clear h01 h02
    refine wpAnyT_one (i := 8) rfl (by kernel_rfl) rfl (fun K hK => ?_)
    refine step_spread_in (e := 135) (base := w3.heap.size) (Q := Lo Q w) (Q' := Lo Q w) (r := rPart) rfl _ _ 131 rfl (.agg #[.int .i64 0, .slice none 0 0]) 2 32 Try.underlying131 infoPt rfl (by decide) rfl _ (x.parts.take j) (by exact rfl) (Rep.acc_later HA7.out tt0) _ (x.parts.drop (j + 1)) (by exact rfl) (HDR.out _ t0) (fun b hb _ => ⟨hb, fun e => by have h1 := (Rep.acc_own HA7.out b e).1; have := hb.2; have := O3.out.size; have := HZ.out; omega⟩) (by have := HPK.out; have := (right_facts HOK.out.conf).1; unfold maxLen; rw [List.length_take, List.length_drop]; omega) (by have := HPK.out; have := (right_facts HOK.out.conf).1; rw [List.length_take, List.length_drop]; omega) (Below.size t0) ?_
    intro v8 u8 hacc8 hgr8 hat8
    have t8 : Below w3.heap.size w3 u8 := Rep.acc_below (Rep.acc_later HA7.out tt0) t0 hgr8 (Below.size t0)
    obtain ⟨A8, c8, rfl, _, _⟩ := Rep.acc_form hacc8
    obtain ⟨ps, hps⟩ : ∃ ps, x.parts.take j ++ x.parts.drop (j + 1) = ps := ⟨_, rfl⟩
    rw [hps] at hacc8 HE ⊢
    have HA8 := Lib.hid hacc8
    refine hK _ _ ⟨t8, ?_⟩
    clear hK K hacc8 hgr8 hat8 hps
    go_simp
    refine tkTV (i := 9) (v := .agg #[.int .i64 id.index, .int .i64 id.gen, .slice A8 ps.length c8]) rfl t8 ?_
    go_simp
    refine wpAnyT_one (i := 10) rfl (by kernel_rfl) rfl (fun K hK => ?_)
    go_simp
    have hev : rEnt.val (In Q w 4) u8 (.agg #[.int .i64 id.index, .int .i64 id.gen, .slice A8 ps.length c8]) ⟨id, ps⟩ := by
      obtain ⟨_, _, _, _, _, _, _, _, _, w0, w1, _⟩ := rEnt_at (sl_of (HLO.out W0 (Below.refl _ _))).2.2 HX0.out
      rw [HID.out] at w0 w1
      exact rEnt_agg (x := ⟨id, ps⟩) w0 w1 (sl_of (Rep.val_mono (fun b hb _ => hb.elim Lo.inn (fun h => .inr (by have h1 := (Rep.acc_own HA8.out b h).1; have := O3.out.size; have := HZ.out; omega))) (Rep.acc_val HA8.out)))
    refine (rwith_calls (HVS.out _ t8) hev HIL.out (by have := HSM.out; omega)).mono ?_
    rintro e u9 ⟨z9, rfl, hz9, hb⟩
    obtain ⟨D1, e1, D2, e2, D3, e3, rfl, _⟩ := rState_val hz9
    have t9 : Below w3.heap.size w3 u9 := Below.trans t8 (hb.mono (Below.size t8))
    have HZ9 := Lib.hid (val_new (w := w) (n := 4) hz9 (by have := Below.size t8; have := O3.out.size; have := HZ.out; omega))
    have HB9 := Lib.hid t9
    refine hK _ _ ⟨t9, ?_⟩
    clear hK K hb hz9 hev
    dsimp only at HZ9 ⊢
    obtain ⟨es, hes⟩ : ∃ es, s.ents.set i ⟨id, ps⟩ = es := ⟨_, rfl⟩
    rw [hes] at HZ9 HE ⊢
    clear hes
    go_simp
    refine wpAnyT_last (i := 11) rfl (by kernel_rfl) rfl (fun K hK => ?_)
    have eb3 := row_call t9 R3_3.out
    have q0 := rw3 eb3
    go_simp
    refine hK _ _ ?_
    clear hK K q0 eb3
    refine nm_anyT (fun w9 hnm => ?_)
    have S5 := Lib.hid (show Only (Box w 4) w3 w9 from (by rw [hnm]; exact ((((Only.of_below HB9.out : Only (Box w 4) w3 u9)).put ⟨by omega, by omega⟩).put ⟨by omega, by omega⟩).put ⟨by omega, by omega⟩))
    have O5 := Lib.hid (O3.out.trans S5.out)
    have R0_5 := Lib.hid (row_nm hnm (row_other (row_other (row_other (row_call HB9.out R0_3.out) (by omega)) (by omega)) (by omega)))
    have R1_5 := Lib.hid (row_nm hnm (row_other (row_other (row_other (row_call HB9.out R1_3.out) (by omega)) (by omega)) (by omega)))
    have R2_5 := Lib.hid (row_nm hnm (row_other (row_other (row_other (row_call HB9.out R2_3.out) (by omega)) (by omega)) (by omega)))
    have R3_5 := Lib.hid (show w9.heap[w.heap.size + 1 + 1 + 1]? = some (.cells #[.slice D1 s.gens.length e1, .slice D2 s.free.length e2, .slice D3 es.length e3] 75 (0, 0)) from (by rw [hnm]; exact heap_setRow (heap_setRow (heap_setRow (row_call HB9.out R3_3.out)))))
    have Vc_5 := Lib.hid (val_only Vc_3.out S5.out)
    have Vs_5 := Lib.hid (val_only Vs_3.out S5.out)
    have Vp_5 := Lib.hid (val_only Vp_3.out S5.out)
    have HV9 := Lib.hid (show rState.val (In Q w 4) w9 (.agg #[.slice D1 s.gens.length e1, .slice D2 s.free.length e2, .slice D3 es.length e3]) ⟨s.gens, s.free, es⟩ from val_only HZ9.out (by rw [hnm]; exact (((Only.refl _ _).put ⟨by omega, by omega⟩).put ⟨by omega, by omega⟩).put ⟨by omega, by omega⟩))
    clear hnm
    refine tk0 (i := 12) (v := .int .i64 0) rfl (Or.inl ⟨by rfl, fun w' _ => by go_simp <;> omega⟩) ?_
    go_simp
    refine wpAnyT_done (by kernel_rfl) ?_ _
    have q3_0 := cl3 R3_5.out
    try go_wp2_with fail
    refine ⟨rfl, .tuple #[.agg #[.slice D1 s.gens.length e1, .slice D2 s.free.length e2, .slice D3 es.length e3], .int .i64 0], by simp only [results, hfr]; go_simp, ?_⟩
    clear q3_0
    rw [HE.out]
    exact ⟨_, rfl, val_out HV9.out, Only.fin HB0.out O5.out⟩
end Go.Proofs.Yteljibjbndpncaa
