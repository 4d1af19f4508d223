/- Texts on which the proofs stand: MNamed. No condition is laid on any input. -/
import Derived.Test.YteljibjbndpncaaJsG9
namespace Go.Proofs.Yteljibjbndpncaa
open Go.RowKit

theorem place_pos {es : List DEnt} (hu : es.Pairwise fun a b => a.id.index < b.id.index) {i : Nat} {e : DEnt} (he : es[i]? = some e) : (es.takeWhile (belowE e.id.index)).length = i := by
  induction es generalizing i with
  | nil => simp at he
  | cons x r ih =>
    have h2 := List.pairwise_cons.1 hu
    cases i with
    | zero =>
      obtain rfl : x = e := by simpa using he
      rw [List.takeWhile_cons, if_neg (by simp [belowE])]; rfl
    | succ i =>
      have he : r[i]? = some e := by simpa using he
      have hx := h2.1 e (List.mem_of_getElem? he)
      rw [List.takeWhile_cons, if_pos (by simpa [belowE] using hx), List.length_cons, ih h2.2 he]
theorem ent_some {s : DState} {id : DID} (hu : s.ents.Pairwise fun a b => a.id.index < b.id.index) {i : Nat} (h : placeOf s.ents id = some i) : (s.ents.takeWhile (belowE id.index)).length = i ∧ entB s id = true := by
  obtain ⟨e, he, rfl⟩ := placeOf_some h
  have hp := place_pos hu he
  exact ⟨hp, by rw [entB_some (e := e) (by rw [hp]; exact he)]; exact decide_eq_true rfl⟩
theorem ent_none {s : DState} {id : DID} (h : placeOf s.ents id = none) : entB s id = false := by
  unfold entB
  split
  · rename_i e he
    exact decide_eq_false (placeOf_none h e (List.mem_of_getElem? he))
  · rfl
/-- An entity's place, and a component's size. -/
def namedS (c : DConf) (s : DState) (id : DID) (k : Int) : Int × Int × Int :=
  match placeOf s.ents id with
  | none => (0, 0, 5)
  | some i => match compSize c k with
    | none => (0, 0, 6)
    | some n => ((i : Int), n, 0)

set_option maxRecDepth 100000 in
set_option maxHeartbeats 2000000 in
/-- model.named -/
theorem mnamed_calls {Q : Nat → Prop} {w : World} {vc v : Value} {c : DConf} {s : DState} {id : DID} {k : Int} (hc : rConf.val Q w vc c) (hx : rState.val Q w v s) (hu : s.ents.Pairwise fun a b => a.id.index < b.id.index) :
    Calls Try.prog 187 #[vc, v, .agg #[.int .i64 id.index, .int .i64 id.gen], .int .i64 k] w fun e w' => e = .returned (.tuple #[.int .i64 (namedS c s id k).1, .int .i64 (namedS c s id k).2.1, .int .i64 (namedS c s id k).2.2]) ∧ Below w.heap.size w w' := by
  have HC := Lib.hid hc
  have HX := Lib.hid hx
  have HU := Lib.hid hu
  obtain ⟨A, cap, rfl, _⟩ := rConf_val hc
  obtain ⟨A1, c1, A2, c2, A3, c3, rfl, _⟩ := rState_val hx
  clear hc hx hu
  obtain ⟨W0, hW0⟩ : ∃ W, (((w.alloc (.cells #[.int .i64 c.log, .int .i64 c.pages, .int .i64 c.entities, .int .i64 c.gens, .slice A c.comps.length cap] 49)).alloc (.cells #[.slice A1 s.gens.length c1, .slice A2 s.free.length c2, .slice A3 s.ents.length c3] 75)).alloc (.cells #[.int .i64 id.index, .int .i64 id.gen] 114)) = W := ⟨_, rfl⟩
  have hz0 : W0.heap.size = w.heap.size + 3 := by rw [← hW0]; simp
  have hb0 : Below w.heap.size w W0 := by rw [← hW0]; exact (((Below.refl _ _).alloc (Nat.le_refl _) _).alloc (by first | (simp; done) | (simp; omega)) _).alloc (by first | (simp; done) | (simp; omega)) _
  have HZ := Lib.hid hz0
  have HB0 := Lib.hid hb0
  have R0_0 := Lib.hid (show W0.heap[w.heap.size]? = some (.cells #[.int .i64 c.log, .int .i64 c.pages, .int .i64 c.entities, .int .i64 c.gens, .slice A c.comps.length cap] 49 (0, 0)) by rw [← hW0]; exact alloc_old (alloc_old (alloc_at rfl)))
  have R1_0 := Lib.hid (show W0.heap[w.heap.size + 1]? = some (.cells #[.slice A1 s.gens.length c1, .slice A2 s.free.length c2, .slice A3 s.ents.length c3] 75 (0, 0)) by rw [← hW0]; exact alloc_old (alloc_at (by simp)))
  have R2_0 := Lib.hid (show W0.heap[w.heap.size + 1 + 1]? = some (.cells #[.int .i64 id.index, .int .i64 id.gen] 114 (0, 0)) by rw [← hW0]; exact alloc_at (by simp))
  have O0 := Lib.hid (Only.refl (Box w 3) W0)
  have Vc_0 := Lib.hid (show rConf.val (In Q w 3) W0 (.agg #[.int .i64 c.log, .int .i64 c.pages, .int .i64 c.entities, .int .i64 c.gens, .slice A c.comps.length cap]) c from val_in HC.out hb0)
  have Vs_0 := Lib.hid (show rState.val (In Q w 3) W0 (.agg #[.slice A1 s.gens.length c1, .slice A2 s.free.length c2, .slice A3 s.ents.length c3]) s from val_in HX.out hb0)
  rcases hp : placeOf s.ents id with _ | i
  case none =>
    have HE := Lib.hid (show namedS c s id k = (0, 0, 5) by unfold namedS; rw [hp])
    have HB := Lib.hid (ent_none hp)
    clear hp
    clear hz0 hb0
    have q0_0 := rw5 R0_0.out
    have q1_0 := rw3 R1_0.out
    have q2_0 := rw2 R2_0.out
    go_enter Try.func187, Try.ntmps187
    go_wp2_with fail
    try rw [hW0]
    clear hW0
    try go_wp2_with fail
    clear q0_0 q1_0 q2_0
    refine (ment_calls (id := id) Vs_0.out).mono ?_
    rintro e w1 ⟨rfl, hb⟩
    have S1 := Lib.hid (show Only (Box w 3) W0 w1 from Only.of_below hb)
    have O1 := Lib.hid (O0.out.trans S1.out)
    have R0_1 := Lib.hid (row_call hb R0_0.out)
    have R1_1 := Lib.hid (row_call hb R1_0.out)
    have R2_1 := Lib.hid (row_call hb R2_0.out)
    have Vc_1 := Lib.hid (val_only Vc_0.out S1.out)
    have Vs_1 := Lib.hid (val_only Vs_0.out S1.out)
    clear hb
    rw [HB.out]
    have q0_0 := cl5 R0_1.out
    have q1_0 := cl3 R1_1.out
    have q2_0 := cl2 R2_1.out
    go_wp2_with fail
    clear q0_0 q1_0 q2_0
    go_ret3
    exact ⟨by first | (rw [HE.out]; done) | (rw [HE.out]; rfl), Only.fin HB0.out O1.out⟩
  have HB := Lib.hid (ent_some HU.out hp)
  have HP := Lib.hid hp
  clear hp
  rcases hs : compSize c k with _ | n
  case none =>
    have HE := Lib.hid (show namedS c s id k = (0, 0, 6) by unfold namedS; rw [HP.out]; dsimp only; rw [hs])
    have HS := Lib.hid hs
    clear hs
    clear hz0 hb0
    have q0_0 := rw5 R0_0.out
    have q1_0 := rw3 R1_0.out
    have q2_0 := rw2 R2_0.out
    go_enter Try.func187, Try.ntmps187
    go_wp2_with fail
    try rw [hW0]
    clear hW0
    try go_wp2_with fail
    clear q0_0 q1_0 q2_0
    refine (ment_calls (id := id) Vs_0.out).mono ?_
    rintro e w1 ⟨rfl, hb⟩
    have S1 := Lib.hid (show Only (Box w 3) W0 w1 from Only.of_below hb)
    have O1 := Lib.hid (O0.out.trans S1.out)
    have R0_1 := Lib.hid (row_call hb R0_0.out)
    have R1_1 := Lib.hid (row_call hb R1_0.out)
    have R2_1 := Lib.hid (row_call hb R2_0.out)
    have Vc_1 := Lib.hid (val_only Vc_0.out S1.out)
    have Vs_1 := Lib.hid (val_only Vs_0.out S1.out)
    clear hb
    rw [HB.out.2, HB.out.1]
    have q0_0 := cl5 R0_1.out
    have q1_0 := cl3 R1_1.out
    have q2_0 := cl2 R2_1.out
    go_wp2_with fail
    clear q0_0 q1_0 q2_0
    refine (csize_calls (k := k) Vc_1.out).mono ?_
    rintro e w2 ⟨rfl, hb⟩
    have S2 := Lib.hid (show Only (Box w 3) w1 w2 from Only.of_below hb)
    have O2 := Lib.hid (O1.out.trans S2.out)
    have R0_2 := Lib.hid (row_call hb R0_1.out)
    have R1_2 := Lib.hid (row_call hb R1_1.out)
    have R2_2 := Lib.hid (row_call hb R2_1.out)
    have Vc_2 := Lib.hid (val_only Vc_1.out S2.out)
    have Vs_2 := Lib.hid (val_only Vs_1.out S2.out)
    clear hb
    rw [HS.out]
    dsimp only [Option.getD_some, Option.getD_none, Option.isSome_some, Option.isSome_none]
    have q0_0 := cl5 R0_2.out
    have q1_0 := cl3 R1_2.out
    have q2_0 := cl2 R2_2.out
    go_wp2_with fail
    clear q0_0 q1_0 q2_0
    go_ret3
    exact ⟨by first | (rw [HE.out]; done) | (rw [HE.out]; rfl), Only.fin HB0.out O2.out⟩
  case some =>
    have HE := Lib.hid (show namedS c s id k = ((i : Int), n, 0) by unfold namedS; rw [HP.out]; dsimp only; rw [hs])
    have HS := Lib.hid hs
    clear hs
    clear hz0 hb0
    have q0_0 := rw5 R0_0.out
    have q1_0 := rw3 R1_0.out
    have q2_0 := rw2 R2_0.out
    go_enter Try.func187, Try.ntmps187
    go_wp2_with fail
    try rw [hW0]
    clear hW0
    try go_wp2_with fail
    clear q0_0 q1_0 q2_0
    refine (ment_calls (id := id) Vs_0.out).mono ?_
    rintro e w1 ⟨rfl, hb⟩
    have S1 := Lib.hid (show Only (Box w 3) W0 w1 from Only.of_below hb)
    have O1 := Lib.hid (O0.out.trans S1.out)
    have R0_1 := Lib.hid (row_call hb R0_0.out)
    have R1_1 := Lib.hid (row_call hb R1_0.out)
    have R2_1 := Lib.hid (row_call hb R2_0.out)
    have Vc_1 := Lib.hid (val_only Vc_0.out S1.out)
    have Vs_1 := Lib.hid (val_only Vs_0.out S1.out)
    clear hb
    rw [HB.out.2, HB.out.1]
    have q0_0 := cl5 R0_1.out
    have q1_0 := cl3 R1_1.out
    have q2_0 := cl2 R2_1.out
    go_wp2_with fail
    clear q0_0 q1_0 q2_0
    refine (csize_calls (k := k) Vc_1.out).mono ?_
    rintro e w2 ⟨rfl, hb⟩
    have S2 := Lib.hid (show Only (Box w 3) w1 w2 from Only.of_below hb)
    have O2 := Lib.hid (O1.out.trans S2.out)
    have R0_2 := Lib.hid (row_call hb R0_1.out)
    have R1_2 := Lib.hid (row_call hb R1_1.out)
    have R2_2 := Lib.hid (row_call hb R2_1.out)
    have Vc_2 := Lib.hid (val_only Vc_1.out S2.out)
    have Vs_2 := Lib.hid (val_only Vs_1.out S2.out)
    clear hb
    rw [HS.out]
    dsimp only [Option.getD_some, Option.getD_none, Option.isSome_some, Option.isSome_none]
    have q0_0 := cl5 R0_2.out
    have q1_0 := cl3 R1_2.out
    have q2_0 := cl2 R2_2.out
    go_wp2_with fail
    clear q0_0 q1_0 q2_0
    go_ret3
    exact ⟨by first | (rw [HE.out]; done) | (rw [HE.out]; rfl), Only.fin HB0.out O2.out⟩
end Go.Proofs.Yteljibjbndpncaa
