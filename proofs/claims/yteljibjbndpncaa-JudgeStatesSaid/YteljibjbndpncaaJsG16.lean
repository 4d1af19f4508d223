/- Texts on which the proofs stand: RDespawn. No condition is laid on any input. -/
import Derived.Test.YteljibjbndpncaaJsG15
namespace Go.Proofs.Yteljibjbndpncaa
open Go.RowKit

theorem place_none {es : List DEnt} {id : DID} (h : placeOf es id = none) : placeI es id = -1 := by
  unfold placeI placeOf at *; rw [h]
theorem place_some {es : List DEnt} {id : DID} {i : Nat} (h : placeOf es id = some i) : placeI es id = (i : Int) := by
  unfold placeI placeOf at *; rw [h]
theorem place_alive {c : DConf} {s : DState} {id : DID} {i : Nat} (h : StOk c s) (hp : placeOf s.ents id = some i) : atI (idsOf c s) id.index = some id := by
  obtain ⟨x, hx, rfl⟩ := placeOf_some hp
  obtain ⟨n0, n1, hg, hl, hf⟩ := h.idx (List.mem_of_getElem? hx)
  obtain ⟨j, hj⟩ : ∃ j : Nat, x.id.index = (j : Int) := ⟨x.id.index.toNat, by omega⟩
  have he : x.id = ⟨(j : Int), x.id.gen⟩ := DID.ext hj rfl
  rw [hj] at hg hf ⊢
  rw [Int.toNat_natCast] at hg
  rw [he]
  exact atI_lives (x := idsOf c s) hg hf hl
def DespawnPost (Q : Nat → Prop) (w : World) (r : DState × Int) (e : Ending) (w' : World) : Prop :=
  ∃ z, e = .returned (.tuple #[z, .int .i64 r.2]) ∧ rState.val (fun b => Q b ∨ w.heap.size ≤ b) w' z r.1 ∧ Below w.heap.size w w'
/-- What stands behind an element that goes. -/
theorem erase_split {α : Type} (l : List α) (i : Nat) : l.take i ++ l.drop (i + 1) = l.eraseIdx i := (List.eraseIdx_eq_take_drop_succ l i).symm
/-- The names behind a giving back, and a box that waits. -/
structure Gave (Q : Nat → Prop) (w Wk W : World) (X : Nat) (y : DIds) (B1 : Option Addr) (e1 : Nat) (B2 : Option Addr) (e2 : Nat) : Prop where
  bel : Below Wk.heap.size Wk W
  row : W.heap[X]? = some (.cells #[.int .i64 0, .int .i64 0, .slice none 0 0, .slice none 0 0] 142 (0, 0))
  big : Wk.heap.size ≤ X
  val : rIds.val (fun b => In Q w 4 b ∧ b ≠ X) W (.agg #[.int .i64 y.entities, .int .i64 y.limit, .slice B1 y.gens.length e1, .slice B2 y.free.length e2]) y
theorem share7' {α1 α2 α3 α4 α5 α6 β : Type} {G : Prop} (S : α2 → α3 → α4 → α5 → α6 → β → Prop) {Q : α1 → α2 → α3 → α4 → α5 → α6 → β → Prop} (leaf : (∀ u a b c d x y, S a b c d x y → Q u a b c d x y) → G) (main : ∀ u a b c d x y, S a b c d x y → Q u a b c d x y) : G := leaf main

set_option maxRecDepth 100000 in
set_option maxHeartbeats 4000000 in
/-- r11.Despawn -/
theorem rdespawn_calls {Q : Nat → Prop} {w : World} {vc v : Value} {c : DConf} {s : DState} {id : DID} (hc : rConf.val Q w vc c) (hx : rState.val Q w v s) (hok : StOk c s) :
    Calls Try.prog 141 #[vc, v, .agg #[.int .i64 id.index, .int .i64 id.gen]] w (DespawnPost Q w (despawnS c s id)) := by
  have HC := Lib.hid hc
  have HX := Lib.hid hx
  have HOK := Lib.hid hok
  have HSM := Lib.hid hok.small
  obtain ⟨A, cap, rfl, _⟩ := rConf_val hc
  obtain ⟨A1, c1, A2, c2, A3, c3, rfl, f1, f2, f3⟩ := rState_val hx
  have F3 := Lib.hid f3
  have l3 := f3.2.1
  have m3 := f3.1
  unfold maxLen at l3
  have hfr : Try.f141.results = #[.cell 6 75, .tmp 7] := rfl
  clear hc hx f1 f2 f3 hok
  obtain ⟨W0, hW0⟩ : ∃ W, ((((w.alloc (.cells #[.int .i64 c.log, .int .i64 c.pages, .int .i64 c.entities, .int .i64 c.gens, .slice A c.comps.length cap] 49)).alloc (.cells #[.slice A1 s.gens.length c1, .slice A2 s.free.length c2, .slice A3 s.ents.length c3] 75)).alloc (.cells #[.int .i64 id.index, .int .i64 id.gen] 114)).alloc (.cells #[.slice none 0 0, .slice none 0 0, .slice none 0 0] 75)) = W := ⟨_, rfl⟩
  have hz0 : W0.heap.size = w.heap.size + 4 := by rw [← hW0]; simp
  have hb0 : Below w.heap.size w W0 := by rw [← hW0]; exact ((((Below.refl _ _).alloc (Nat.le_refl _) _).alloc (by first | (simp; done) | (simp; omega)) _).alloc (by first | (simp; done) | (simp; omega)) _).alloc (by first | (simp; done) | (simp; omega)) _
  have HZ := Lib.hid hz0
  have HB0 := Lib.hid hb0
  have R0_0 := Lib.hid (show W0.heap[w.heap.size]? = some (.cells #[.int .i64 c.log, .int .i64 c.pages, .int .i64 c.entities, .int .i64 c.gens, .slice A c.comps.length cap] 49 (0, 0)) by rw [← hW0]; exact alloc_old (alloc_old (alloc_old (alloc_at rfl))))
  have R1_0 := Lib.hid (show W0.heap[w.heap.size + 1]? = some (.cells #[.slice A1 s.gens.length c1, .slice A2 s.free.length c2, .slice A3 s.ents.length c3] 75 (0, 0)) by rw [← hW0]; exact alloc_old (alloc_old (alloc_at (by simp))))
  have R2_0 := Lib.hid (show W0.heap[w.heap.size + 1 + 1]? = some (.cells #[.int .i64 id.index, .int .i64 id.gen] 114 (0, 0)) by rw [← hW0]; exact alloc_old (alloc_at (by simp)))
  have R3_0 := Lib.hid (show W0.heap[w.heap.size + 1 + 1 + 1]? = some (.cells #[.slice none 0 0, .slice none 0 0, .slice none 0 0] 75 (0, 0)) by rw [← hW0]; exact alloc_at (by simp))
  have O0 := Lib.hid (Only.refl (Box w 4) W0)
  have Vc_0 := Lib.hid (show rConf.val (In Q w 4) W0 (.agg #[.int .i64 c.log, .int .i64 c.pages, .int .i64 c.entities, .int .i64 c.gens, .slice A c.comps.length cap]) c from val_in HC.out hb0)
  have Vs_0 := Lib.hid (show rState.val (In Q w 4) W0 (.agg #[.slice A1 s.gens.length c1, .slice A2 s.free.length c2, .slice A3 s.ents.length c3]) s from val_in HX.out hb0)
  have HLO := Lib.hid (show ∀ V, Below W0.heap.size W0 V → rEnt.list.val (Lo Q w) V (.slice A3 s.ents.length c3) s.ents from fun V h => val_lo_later (val_lo F3.out.val hb0) h)
  rcases hp : placeOf s.ents id with _ | i
  case none =>
    have HP := Lib.hid (place_none hp)
    have HE := Lib.hid (show despawnS c s id = (s, 5) by unfold despawnS; rw [hp])
    clear hp
    clear hz0 hb0
    have q0_0 := rw5 R0_0.out
    have q1_0 := rw3 R1_0.out
    have q2_0 := rw2 R2_0.out
    have q3_0 := rw3 R3_0.out
    go_enter Try.func141, Try.ntmps141
    go_wp2_with fail
    try rw [hW0]
    clear hW0
    try go_wp2_with fail
    clear q0_0 q1_0 q2_0 q3_0
    refine (rplace11_calls (id := id) Vs_0.out).mono ?_
    rintro e w1 ⟨rfl, hb⟩
    have S1 := Lib.hid (show Only (Box w 4) W0 w1 from Only.of_below hb)
    have O1 := Lib.hid (O0.out.trans S1.out)
    have R0_1 := Lib.hid (row_call hb R0_0.out)
    have R1_1 := Lib.hid (row_call hb R1_0.out)
    have R2_1 := Lib.hid (row_call hb R2_0.out)
    have R3_1 := Lib.hid (row_call hb R3_0.out)
    have Vc_1 := Lib.hid (val_only Vc_0.out S1.out)
    have Vs_1 := Lib.hid (val_only Vs_0.out S1.out)
    clear hb
    rw [HP.out]
    have q0_0 := rw5 R0_1.out
    have q1_0 := rw3 R1_1.out
    have q2_0 := rw2 R2_1.out
    have q3_0 := rw3 R3_1.out
    go_wp2_with fail
    clear q0_0 q1_0 q2_0 q3_0
    refine nm_post (fun w2 hnm => ?_)
    have S2 := Lib.hid (show Only (Box w 4) w1 w2 from (by rw [hnm]; exact (((Only.refl (Box w 4) w1).put ⟨by omega, by omega⟩).put ⟨by omega, by omega⟩).put ⟨by omega, by omega⟩))
    have O2 := Lib.hid (O1.out.trans S2.out)
    have R0_2 := Lib.hid (row_nm hnm (row_other (row_other (row_other (R0_1.out) (by omega)) (by omega)) (by omega)))
    have R1_2 := Lib.hid (row_nm hnm (row_other (row_other (row_other (R1_1.out) (by omega)) (by omega)) (by omega)))
    have R2_2 := Lib.hid (row_nm hnm (row_other (row_other (row_other (R2_1.out) (by omega)) (by omega)) (by omega)))
    have R3_2 := Lib.hid (show w2.heap[w.heap.size + 1 + 1 + 1]? = some (.cells #[.slice A1 s.gens.length c1, .slice A2 s.free.length c2, .slice A3 s.ents.length c3] 75 (0, 0)) from (by rw [hnm]; exact heap_setRow (heap_setRow (heap_setRow (R3_1.out)))))
    have Vc_2 := Lib.hid (val_only Vc_1.out S2.out)
    have Vs_2 := Lib.hid (val_only Vs_1.out S2.out)
    clear hnm
    have q3_0 := cl3 R3_2.out
    refine ⟨rfl, .tuple #[.agg #[.slice A1 s.gens.length c1, .slice A2 s.free.length c2, .slice A3 s.ents.length c3], .int .i64 5], by simp only [results, hfr]; go_simp, ?_⟩
    clear q3_0
    rw [HE.out]
    exact ⟨_, rfl, val_out Vs_2.out, Only.fin HB0.out O2.out⟩
  have HP := Lib.hid (place_some hp)
  have HAL := Lib.hid (place_alive HOK.out hp)
  obtain ⟨x0, hx0, hid0⟩ := placeOf_some hp
  have hil : i < s.ents.length := (List.getElem?_eq_some_iff.1 hx0).1
  have HIL := Lib.hid hil
  have HE := Lib.hid (show despawnS c s id = (⟨(giveI (idsOf c s) id).gens, (giveI (idsOf c s) id).free, s.ents.take i ++ s.ents.drop (i + 1)⟩, 0) by unfold despawnS; rw [hp, erase_split]; rfl)
  have HG2 := Lib.hid (show (giveI (idsOf c s) id).entities = c.entities ∧ (giveI (idsOf c s) id).limit = c.gens from ⟨rfl, rfl⟩)
  clear hp hx0 hid0
  clear hz0 hb0
  have q0_0 := rw5 R0_0.out
  have q1_0 := rw3 R1_0.out
  have q2_0 := rw2 R2_0.out
  have q3_0 := rw3 R3_0.out
  go_enter Try.func141, Try.ntmps141
  go_wp2_with fail
  try rw [hW0]
  clear hW0
  try go_wp2_with fail
  clear q0_0 q1_0 q2_0 q3_0
  refine (rplace11_calls (id := id) Vs_0.out).mono ?_
  rintro e w1 ⟨rfl, hb⟩
  have S1 := Lib.hid (show Only (Box w 4) W0 w1 from Only.of_below hb)
  have O1 := Lib.hid (O0.out.trans S1.out)
  have R0_1 := Lib.hid (row_call hb R0_0.out)
  have R1_1 := Lib.hid (row_call hb R1_0.out)
  have R2_1 := Lib.hid (row_call hb R2_0.out)
  have R3_1 := Lib.hid (row_call hb R3_0.out)
  have Vc_1 := Lib.hid (val_only Vc_0.out S1.out)
  have Vs_1 := Lib.hid (val_only Vs_0.out S1.out)
  clear hb
  rw [HP.out]
  have q0_0 := rw5 R0_1.out
  have q1_0 := rw3 R1_1.out
  have q2_0 := rw2 R2_1.out
  have q3_0 := rw3 R3_1.out
  go_wp2_with fail
  clear q0_0 q1_0 q2_0 q3_0
  refine wp_region_tail (S := fun W => Below w1.heap.size w1 W) (T := [7, 9, 10]) (by kernel_rfl) ((Below.refl _ _).drew) (fun s0 => ?_)
  obtain ⟨u0, hu0⟩ : ∃ V, V = w1.drew := ⟨_, rfl⟩
  rw [← hu0] at s0 ⊢
  have t0 : Below w1.heap.size w1 u0 := s0
  clear hu0 s0
  have HVC := Lib.hid (show ∀ V, Below w1.heap.size w1 V → rConf.val (In Q w 4) V (.agg #[.int .i64 c.log, .int .i64 c.pages, .int .i64 c.entities, .int .i64 c.gens, .slice A c.comps.length cap]) c from fun V h => val_only Vc_1.out (Only.of_below h))
  have HVS := Lib.hid (show ∀ V, Below w1.heap.size w1 V → rState.val (In Q w 4) V (.agg #[.slice A1 s.gens.length c1, .slice A2 s.free.length c2, .slice A3 s.ents.length c3]) s from fun V h => val_only Vs_1.out (Only.of_below h))
  have HZW := Lib.hid (show w.heap.size + 4 ≤ w1.heap.size by have := O1.out.size; have := HZ.out; omega)
  refine tkT (i := 0) (v := .agg #[.int .i64 c.log, .int .i64 c.pages, .int .i64 c.entities, .int .i64 c.gens, .slice A c.comps.length cap]) rfl (Or.inl ⟨by rfl, fun w' h => by have e := row_call (h : Below w1.heap.size w1 w') R0_1.out; have e0 := cell_row e 0; have e1 := cell_row e 1; have e2 := cell_row e 2; have e3 := cell_row e 3; have e4 := cell_row e 4; go_simp⟩) t0 ?_
  go_simp
  refine tkT (i := 1) (v := .agg #[.slice A1 s.gens.length c1, .slice A2 s.free.length c2, .slice A3 s.ents.length c3]) rfl (Or.inl ⟨by rfl, fun w' h => by have e := row_call (h : Below w1.heap.size w1 w') R1_1.out; have e0 := cell_row e 0; have e1 := cell_row e 1; have e2 := cell_row e 2; go_simp⟩) t0 ?_
  go_simp
  refine tkT (i := 3) (v := .agg #[.int .i64 id.index, .int .i64 id.gen]) rfl (Or.inl ⟨by rfl, fun w' h => by have e := row_call (h : Below w1.heap.size w1 w') R2_1.out; have e0 := cell_row e 0; have e1 := cell_row e 1; go_simp⟩) t0 ?_
  go_simp
  obtain ⟨y, hy⟩ : ∃ y, giveI (idsOf c s) id = y := ⟨_, rfl⟩
  rw [hy] at HE HG2
  have HGY := Lib.hid hy
  clear hy
  apply share7' (α1 := Value) (fun (B1 : Option Addr) (e1 : Nat) (B2 : Option Addr) (e2 : Nat) (X : Nat) (W : World) => Gave Q w w1 W X y B1 e1 B2 e2)
  · intro key
    have KEY := Lib.hid key
    clear key
    refine wpAnyT_all (rs := [2, 8]) (by kernel_rfl) (by simp) ?_
    intro i hi
    have hi2 : i = 2 ∨ i = 8 := by simpa using hi
    clear hi
    rcases hi2 with rfl | rfl
    · skip
      refine wpOp_step rfl (fun K hK => ?_)
      go_simp
      refine (names_calls (HVC.out _ t0) (HVS.out _ t0)).mono ?_
      rintro e u1 ⟨m1, rfl, c1, hb⟩
      have t1 : Below w1.heap.size w1 u1 := Below.trans t0 (hb.mono (Below.size t0))
      replace c1 := Rep.val_mono (Q' := (In Q w 4)) (fun b hb _ => hb.elim (fun h => h) (fun h => .inr (by have := HZW.out; have := Below.size t0; omega))) c1
      refine hK _ _ ⟨fun _ => t1, ?_⟩
      clear hb hK K
      go_simp
      refine wpAnyT_all (rs := [4, 8]) (by kernel_rfl) (by simp) ?_
      intro i hi
      have hi2 : i = 4 ∨ i = 8 := by simpa using hi
      clear hi
      rcases hi2 with rfl | rfl
      · skip
        refine wpOp_step rfl (fun K hK => ?_)
        go_simp
        refine (give_calls c1 HAL.out (by show s.gens.length ≤ 100000; have := HSM.out; omega) (by show s.free.length ≤ 100000; have := HSM.out; omega) (by show c.gens ≤ 1073741824; exact (right_facts HOK.out.conf).1.2.2.2.2.2.2.2.1)).mono ?_
        rintro e u2 ⟨m2, rfl, d2, hb⟩
        rw [HGY.out] at d2
        have t2 : Below w1.heap.size w1 u2 := Below.trans t1 (hb.mono (Below.size t1))
        obtain ⟨B1, e1, B2, e2, rfl, _⟩ := rIds_val d2
        replace d2 := Rep.val_mono (Q' := (In Q w 4)) (fun b hb _ => hb.elim (fun h => h) (fun h => .inr (by have := HZW.out; have := Below.size t1; omega))) d2
        refine hK _ _ ⟨fun _ => t2, ?_⟩
        clear hb hK K
        go_simp
        refine tkTV (i := 5) (v := .tuple #[.agg #[.int .i64 y.entities, .int .i64 y.limit, .slice B1 y.gens.length e1, .slice B2 y.free.length e2], .int .i64 0]) rfl t2 ?_
        go_simp
        refine tk0 (i := 7) (v := .int .i64 0) rfl (Or.inl ⟨by rfl, fun w' _ => by go_simp <;> omega⟩) ?_
        go_simp
        refine tkTV (i := 6) (v := .agg #[.int .i64 y.entities, .int .i64 y.limit, .slice B1 y.gens.length e1, .slice B2 y.free.length e2]) rfl t2 ?_
        go_simp
        refine wpAnyT_all (rs := [8]) (by kernel_rfl) (by simp) ?_
        intro i hi
        obtain rfl : i = 8 := by simpa using hi
        clear hi
        refine wpOp_step rfl (fun K hK => ?_)
        go_simp
        obtain ⟨u3, hu3⟩ : ∃ V, V = u2.alloc (.cells #[.int .i64 0, .int .i64 0, .slice none 0 0, .slice none 0 0] 142) := ⟨_, rfl⟩
        obtain ⟨X, hX⟩ : ∃ X, X = u2.heap.size := ⟨_, rfl⟩
        have hbx : Below u2.heap.size u2 u3 := by rw [hu3]; exact (Below.refl _ _).alloc (Nat.le_refl _) _
        have t3 : Below w1.heap.size w1 u3 := Below.trans t2 (hbx.mono (Below.size t2))
        have r3 : u3.heap[X]? = some (.cells #[.int .i64 0, .int .i64 0, .slice none 0 0, .slice none 0 0] 142 (0, 0)) := by rw [hu3, hX]; exact heap_alloc_new _ _
        have hXb : w1.heap.size ≤ X := by rw [hX]; exact Below.size t2
        have d3 := Rep.val_keep (Q' := (fun b => In Q w 4 b ∧ b ≠ X)) (w' := u3) (fun b hb hl => ⟨⟨hb, fun e => by have := hl.lt; omega⟩, hbx.block b hl.lt⟩) d2
        rw [← hu3, ← hX]
        clear hu3 hX
        refine hK _ _ ⟨fun _ => t3, ?_⟩
        clear hK K
        go_simp
        exact KEY.out m1 B1 e1 B2 e2 X u3 ⟨t3, r3, hXb, d3⟩
      · skip
        refine wpOp_step rfl (fun K hK => ?_)
        go_simp
        obtain ⟨u4, hu4⟩ : ∃ V, V = u1.alloc (.cells #[.int .i64 0, .int .i64 0, .slice none 0 0, .slice none 0 0] 142) := ⟨_, rfl⟩
        obtain ⟨X, hX⟩ : ∃ X, X = u1.heap.size := ⟨_, rfl⟩
        have hbx : Below u1.heap.size u1 u4 := by rw [hu4]; exact (Below.refl _ _).alloc (Nat.le_refl _) _
        have t4 : Below w1.heap.size w1 u4 := Below.trans t1 (hbx.mono (Below.size t1))
        have r4 : u4.heap[X]? = some (.cells #[.int .i64 0, .int .i64 0, .slice none 0 0, .slice none 0 0] 142 (0, 0)) := by rw [hu4, hX]; exact heap_alloc_new _ _
        have hXb : w1.heap.size ≤ X := by rw [hX]; exact Below.size t1
        have c4 := Rep.val_keep (Q' := (fun b => In Q w 4 b ∧ b ≠ X)) (w' := u4) (fun b hb hl => ⟨⟨hb, fun e => by have := hl.lt; omega⟩, hbx.block b hl.lt⟩) c1
        rw [← hu4, ← hX]
        clear hu4 hX
        refine hK _ _ ⟨fun _ => t4, ?_⟩
        clear hK K
        go_simp
        refine wpAnyT_all (rs := [4]) (by kernel_rfl) (by simp) ?_
        intro i hi
        obtain rfl : i = 4 := by simpa using hi
        clear hi
        refine wpOp_step rfl (fun K hK => ?_)
        go_simp
        refine (give_calls c4 HAL.out (by show s.gens.length ≤ 100000; have := HSM.out; omega) (by show s.free.length ≤ 100000; have := HSM.out; omega) (by show c.gens ≤ 1073741824; exact (right_facts HOK.out.conf).1.2.2.2.2.2.2.2.1)).mono ?_
        rintro e u5 ⟨m5, rfl, d5, hb⟩
        rw [HGY.out] at d5
        have t5 : Below w1.heap.size w1 u5 := Below.trans t4 (hb.mono (Below.size t4))
        obtain ⟨B1, e1, B2, e2, rfl, _⟩ := rIds_val d5
        replace d5 := Rep.val_mono (Q' := (fun b => In Q w 4 b ∧ b ≠ X)) (fun b hb _ => hb.elim (fun h => h) (fun h => ⟨.inr (by have := HZW.out; have := Below.size t4; omega), fun e => by have := (Array.getElem?_eq_some_iff.1 r4).1; omega⟩)) d5
        have r5 := row_call hb r4
        refine hK _ _ ⟨fun _ => t5, ?_⟩
        clear hb hK K
        go_simp
        refine tkTV (i := 5) (v := .tuple #[.agg #[.int .i64 y.entities, .int .i64 y.limit, .slice B1 y.gens.length e1, .slice B2 y.free.length e2], .int .i64 0]) rfl t5 ?_
        go_simp
        refine tk0 (i := 7) (v := .int .i64 0) rfl (Or.inl ⟨by rfl, fun w' _ => by go_simp <;> omega⟩) ?_
        go_simp
        refine tkTV (i := 6) (v := .agg #[.int .i64 y.entities, .int .i64 y.limit, .slice B1 y.gens.length e1, .slice B2 y.free.length e2]) rfl t5 ?_
        go_simp
        exact KEY.out m1 B1 e1 B2 e2 X u5 ⟨t5, r5, hXb, d5⟩
    · skip
      refine wpOp_step rfl (fun K hK => ?_)
      go_simp
      obtain ⟨u6, hu6⟩ : ∃ V, V = u0.alloc (.cells #[.int .i64 0, .int .i64 0, .slice none 0 0, .slice none 0 0] 142) := ⟨_, rfl⟩
      obtain ⟨X, hX⟩ : ∃ X, X = u0.heap.size := ⟨_, rfl⟩
      have hbx : Below u0.heap.size u0 u6 := by rw [hu6]; exact (Below.refl _ _).alloc (Nat.le_refl _) _
      have t6 : Below w1.heap.size w1 u6 := Below.trans t0 (hbx.mono (Below.size t0))
      have r6 : u6.heap[X]? = some (.cells #[.int .i64 0, .int .i64 0, .slice none 0 0, .slice none 0 0] 142 (0, 0)) := by rw [hu6, hX]; exact heap_alloc_new _ _
      have hXb : w1.heap.size ≤ X := by rw [hX]; exact Below.size t0
      have HVCX := Lib.hid (Rep.val_keep (Q' := (fun b => In Q w 4 b ∧ b ≠ X)) (w' := u6) (fun b hb hl => ⟨⟨hb, fun e => by have := hl.lt; omega⟩, hbx.block b hl.lt⟩) (HVC.out _ t0))
      have HVSX := Lib.hid (Rep.val_keep (Q' := (fun b => In Q w 4 b ∧ b ≠ X)) (w' := u6) (fun b hb hl => ⟨⟨hb, fun e => by have := hl.lt; omega⟩, hbx.block b hl.lt⟩) (HVS.out _ t0))
      rw [← hu6, ← hX]
      clear hu6 hX
      refine hK _ _ ⟨fun _ => t6, ?_⟩
      clear hK K
      go_simp
      refine wpAnyT_all (rs := [2]) (by kernel_rfl) (by simp) ?_
      intro i hi
      obtain rfl : i = 2 := by simpa using hi
      clear hi
      refine wpOp_step rfl (fun K hK => ?_)
      go_simp
      refine (names_calls HVCX.out HVSX.out).mono ?_
      rintro e u7 ⟨m7, rfl, c7, hb⟩
      have t7 : Below w1.heap.size w1 u7 := Below.trans t6 (hb.mono (Below.size t6))
      replace c7 := Rep.val_mono (Q' := (fun b => In Q w 4 b ∧ b ≠ X)) (fun b hb _ => hb.elim (fun h => h) (fun h => ⟨.inr (by have := HZW.out; have := Below.size t6; omega), fun e => by have := (Array.getElem?_eq_some_iff.1 r6).1; omega⟩)) c7
      have r7 := row_call hb r6
      refine hK _ _ ⟨fun _ => t7, ?_⟩
      clear hb hK K
      go_simp
      refine wpAnyT_all (rs := [4]) (by kernel_rfl) (by simp) ?_
      intro i hi
      obtain rfl : i = 4 := by simpa using hi
      clear hi
      refine wpOp_step rfl (fun K hK => ?_)
      go_simp
      refine (give_calls c7 HAL.out (by show s.gens.length ≤ 100000; have := HSM.out; omega) (by show s.free.length ≤ 100000; have := HSM.out; omega) (by show c.gens ≤ 1073741824; exact (right_facts HOK.out.conf).1.2.2.2.2.2.2.2.1)).mono ?_
      rintro e u8 ⟨m8, rfl, d8, hb⟩
      rw [HGY.out] at d8
      have t8 : Below w1.heap.size w1 u8 := Below.trans t7 (hb.mono (Below.size t7))
      obtain ⟨B1, e1, B2, e2, rfl, _⟩ := rIds_val d8
      replace d8 := Rep.val_mono (Q' := (fun b => In Q w 4 b ∧ b ≠ X)) (fun b hb _ => hb.elim (fun h => h) (fun h => ⟨.inr (by have := HZW.out; have := Below.size t7; omega), fun e => by have := (Array.getElem?_eq_some_iff.1 r7).1; omega⟩)) d8
      have r8 := row_call hb r7
      refine hK _ _ ⟨fun _ => t8, ?_⟩
      clear hb hK K
      go_simp
      refine tkTV (i := 5) (v := .tuple #[.agg #[.int .i64 y.entities, .int .i64 y.limit, .slice B1 y.gens.length e1, .slice B2 y.free.length e2], .int .i64 0]) rfl t8 ?_
      go_simp
      refine tk0 (i := 7) (v := .int .i64 0) rfl (Or.inl ⟨by rfl, fun w' _ => by go_simp <;> omega⟩) ?_
      go_simp
      refine tkTV (i := 6) (v := .agg #[.int .i64 y.entities, .int .i64 y.limit, .slice B1 y.gens.length e1, .slice B2 y.free.length e2]) rfl t8 ?_
      go_simp
      exact KEY.out m7 B1 e1 B2 e2 X u8 ⟨t8, r8, hXb, d8⟩
  · rintro m1 B1 e1 B2 e2 X u9 hG
    have HG := Lib.hid hG
    clear hG
    refine wpAnyT_last (i := 9) rfl (by kernel_rfl) rfl (fun K hK => ?_)
    have q0 := rw4 HG.out.row
    go_simp
    refine hK _ _ ?_
    clear hK K q0
    have HXB := Lib.hid HG.out.big
    have HXW := Lib.hid (show w.heap.size + 4 ≤ X from Nat.le_trans HZW.out HG.out.big)
    refine nm_anyT (fun w5 hnm => ?_)
    have S2 := Lib.hid (show Only (Box w 4) w1 w5 from (by rw [hnm]; exact (((((Only.of_below HG.out.bel : Only (Box w 4) w1 u9)).late (by have := HXB.out; omega)).late (by have := HXB.out; omega)).late (by have := HXB.out; omega)).late (by have := HXB.out; omega)))
    have O2 := Lib.hid (O1.out.trans S2.out)
    have R0_2 := Lib.hid (row_nm hnm (row_other (row_other (row_other (row_other (row_call HG.out.bel R0_1.out) (by have := HXB.out; have := O1.out.size; have := HZ.out; omega)) (by have := HXB.out; have := O1.out.size; have := HZ.out; omega)) (by have := HXB.out; have := O1.out.size; have := HZ.out; omega)) (by have := HXB.out; have := O1.out.size; have := HZ.out; omega)))
    have R1_2 := Lib.hid (row_nm hnm (row_other (row_other (row_other (row_other (row_call HG.out.bel R1_1.out) (by have := HXB.out; have := O1.out.size; have := HZ.out; omega)) (by have := HXB.out; have := O1.out.size; have := HZ.out; omega)) (by have := HXB.out; have := O1.out.size; have := HZ.out; omega)) (by have := HXB.out; have := O1.out.size; have := HZ.out; omega)))
    have R2_2 := Lib.hid (row_nm hnm (row_other (row_other (row_other (row_other (row_call HG.out.bel R2_1.out) (by have := HXB.out; have := O1.out.size; have := HZ.out; omega)) (by have := HXB.out; have := O1.out.size; have := HZ.out; omega)) (by have := HXB.out; have := O1.out.size; have := HZ.out; omega)) (by have := HXB.out; have := O1.out.size; have := HZ.out; omega)))
    have R3_2 := Lib.hid (row_nm hnm (row_other (row_other (row_other (row_other (row_call HG.out.bel R3_1.out) (by have := HXB.out; have := O1.out.size; have := HZ.out; omega)) (by have := HXB.out; have := O1.out.size; have := HZ.out; omega)) (by have := HXB.out; have := O1.out.size; have := HZ.out; omega)) (by have := HXB.out; have := O1.out.size; have := HZ.out; omega)))
    have Vc_2 := Lib.hid (val_only Vc_1.out S2.out)
    have Vs_2 := Lib.hid (val_only Vs_1.out S2.out)
    have RX := Lib.hid (show w5.heap[X]? = some (.cells #[.int .i64 y.entities, .int .i64 y.limit, .slice B1 y.gens.length e1, .slice B2 y.free.length e2] 142 (0, 0)) by rw [hnm]; exact heap_setRow (heap_setRow (heap_setRow (heap_setRow HG.out.row))))
    have Vy_9 := Lib.hid (show rIds.val (In Q w 4) w5 (.agg #[.int .i64 y.entities, .int .i64 y.limit, .slice B1 y.gens.length e1, .slice B2 y.free.length e2]) y from Rep.val_keep (fun b hb _ => ⟨hb.1, by rw [hnm]; exact (Below.heap_setCell _ _ _ _ hb.2).trans ((Below.heap_setCell _ _ _ _ hb.2).trans ((Below.heap_setCell _ _ _ _ hb.2).trans (Below.heap_setCell _ _ _ _ hb.2)))⟩) HG.out.val)
    clear hnm
    refine tk0 (i := 10) (v := .int .i64 0) rfl (Or.inl ⟨by rfl, fun w' _ => by go_simp <;> omega⟩) ?_
    go_simp
    refine wpAnyT_done (by kernel_rfl) ?_ _
    obtain ⟨eb, eo, rfl⟩ := (sl_of (HLO.out W0 (Below.refl _ _))).2.2.addr (by have := HIL.out; omega)
    have HSE := Lib.hid (show ∀ V, Below W0.heap.size W0 V → rEnt.At (Lo Q w) V (some ⟨eb, eo, none⟩) s.ents from fun V h => (sl_of (HLO.out V h)).2.2)
    have HB5 := Lib.hid (show ∀ b, b < w.heap.size → w5.heap[b]? = W0.heap[b]? from fun b hb => O2.out.block b (by have := HZ.out; omega) (fun h => by have := h.1; omega))
    have HTK := Lib.hid (show ∀ V, Below w5.heap.size w5 V → rEnt.list.val (Lo Q w) V (.slice (some ⟨eb, eo, none⟩) i c3) (s.ents.take i) from fun V h => Rep.list_val (by rw [List.length_take]; have := HIL.out; omega) (by have := HIL.out; omega) (by unfold maxLen; omega) (Rep.At.keep (w := W0) (fun b hb hl => ⟨hb, (h.block b (by have := hb.2; have := O2.out.size; have := HZ.out; omega)).trans (HB5.out b hb.2)⟩) ((HSE.out W0 (Below.refl _ _)).take i)))
    obtain ⟨w6, hn2⟩ : ∃ W, w5.alloc (.cells #[] 133) = W := ⟨_, rfl⟩
    have HBw6 := Lib.hid (show Below w5.heap.size w5 w6 by rw [← hn2]; exact (Below.refl _ _).alloc (Nat.le_refl _) _)
    have k1 := row_call HBw6.out R0_2.out
    have k1_0 := rw5 k1
    clear k1
    have k2 := row_call HBw6.out R1_2.out
    have k2_0 := rw3 k2
    clear k2
    have k3 := row_call HBw6.out R2_2.out
    have k3_0 := rw2 k3
    clear k3
    have k4 := row_call HBw6.out R3_2.out
    have k4_0 := rw3 k4
    clear k4
    have k5 := row_call HBw6.out RX.out
    have k5_0 := rw4 k5
    clear k5
    have HA6 := Lib.hid (show rEnt.acc 133 w5.heap.size (Lo Q w) w6 (.slice (some ⟨w5.heap.size, 0, none⟩) 0 0) [] by rw [← hn2]; exact Rep.acc_made w5 #[] 0 (Nat.le_refl _) (by simp [maxLen]) (by simp))
    have hil2 : (i : Int) < s.ents.length := by have := HIL.out; omega
    have q0_0 := rw5 R0_2.out
    have q1_0 := rw3 R1_2.out
    have q2_0 := rw2 R2_2.out
    have q3_0 := rw3 R3_2.out
    have qn0_0 := rw4 RX.out
    go_wp2_with (with_reducible refine stopApp rfl ?_)
    refine Lib.hid ?_
    try rw [hn2]
    clear hn2
    clear k1_0 k2_0 k3_0 k4_0 k5_0 q0_0 q1_0 q2_0 q3_0 qn0_0
    refine wpList_spread (e := 133) (base := w5.heap.size) (Q := Lo Q w) (Q' := Lo Q w) (r := rEnt) rfl _ _ 73 rfl (.agg #[.int .i64 0, .int .i64 0, .slice none 0 0]) 3 40 Try.underlying73 infoEnt rfl (by decide) rfl _ [] (by exact rfl) HA6.out _ (s.ents.take i) (by exact rfl) (HTK.out _ HBw6.out) (fun b hb _ => ⟨hb, fun e => by have e2 : w5.heap.size = b := Option.some.inj e; have := hb.2; have := O2.out.size; have := HZ.out; omega⟩) (by have := HSM.out; unfold maxLen; rw [List.length_take]; simp; omega) (by have := HSM.out; rw [List.length_take]; simp; omega) HBw6.out.size ?_
    intro v7 w7 hacc7 hgr7 hat7
    rw [List.nil_append] at hacc7
    have HB7 := Lib.hid (Rep.acc_below HA6.out HBw6.out hgr7 HBw6.out.size)
    obtain ⟨A7, c7, rfl, h71, h72⟩ := Rep.acc_form hacc7
    have hlt7 : (s.ents.take i).length = i := by rw [List.length_take]; have := HIL.out; omega
    have HA7 := Lib.hid hacc7
    rw [hlt7] at HA7 ⊢
    clear hacc7 hgr7 hat7 h71 h72 hlt7
    have HZ5 := Lib.hid (show w5.heap.size ≤ w7.heap.size from HB7.out.size)
    have S3 := Lib.hid (show Only (Box w 4) w5 w7 from Only.of_below HB7.out)
    have O3 := Lib.hid (O2.out.trans S3.out)
    have R0_3 := Lib.hid (row_call HB7.out R0_2.out)
    have R1_3 := Lib.hid (row_call HB7.out R1_2.out)
    have R2_3 := Lib.hid (row_call HB7.out R2_2.out)
    have R3_3 := Lib.hid (row_call HB7.out R3_2.out)
    have RX_3 := Lib.hid (row_call HB7.out RX.out)
    have Vc_3 := Lib.hid (val_only Vc_2.out S3.out)
    have Vs_3 := Lib.hid (val_only Vs_2.out S3.out)
    have Vy_3 := Lib.hid (val_only Vy_9.out S3.out)
    have q0_0 := cl5 R0_3.out
    have q1_0 := cl3 R1_3.out
    have q2_0 := cl2 R2_3.out
    have q3_0 := cl3 R3_3.out
    have qn0_0 := cl4 RX_3.out
    try go_wp2_with fail
    clear q0_0 q1_0 q2_0 q3_0 qn0_0
    by_cases hcap : c3 = i + 1
    · skip
      have HDR := Lib.hid (show ∀ V, Below w5.heap.size w5 V → rEnt.list.val (Lo Q w) V (.slice (some ⟨eb, eo, none⟩) 0 0) (s.ents.drop (i + 1)) from fun V h => Rep.list_val (by rw [List.length_drop]; have := HIL.out; omega) (by have := HIL.out; omega) (by unfold maxLen; omega) (by
        have hz : s.ents.drop (i + 1) = [] := List.drop_eq_nil_of_le (by omega)
        rw [hz]
        exact ⟨[], rfl, fun h => absurd h (by simp)⟩))
      refine wp_region_tail (S := fun W => Below w5.heap.size w5 W) (T := [12, 13]) (by kernel_rfl) (HB7.out.drew) (fun s0 => ?_)
      obtain ⟨u0, hu0⟩ : ∃ V, V = w7.drew := ⟨_, rfl⟩
      rw [← hu0] at s0 ⊢
      have t0 : Below w5.heap.size w5 u0 := s0
      have tt0 : Below w7.heap.size w7 u0 := by rw [hu0]; exact (Below.refl _ _).drew
      clear hu0 s0
      have h01 : (0 : Int) ≤ (i : Int) + 1 := by omega
      have h02 : (i : Int) + 1 ≤ (s.ents.length : Int) := by omega
      have iw : IntKind.i64.wrap ((i : Int) + 1) = (i : Int) + 1 := IntWalk.i64_in _ ⟨by omega, by omega⟩
      have hs0 : s.ents.length - (i + 1) = 0 := by omega
      refine tkTV (i := 0) (v := .pointer (some ⟨X, 2, none⟩)) rfl t0 ?_
      go_simp
      refine tkT (i := 1) (v := .slice B1 y.gens.length e1) rfl (Or.inl ⟨by rfl, fun w' h => by have e := row_call (h : Below w5.heap.size w5 w') RX.out; have e0 := cell_row e 0; have e1 := cell_row e 1; have e2 := cell_row e 2; have e3 := cell_row e 3; go_simp⟩) t0 ?_
      go_simp
      refine tkTV (i := 2) (v := .pointer (some ⟨X, 3, none⟩)) rfl t0 ?_
      go_simp
      refine tkT (i := 3) (v := .slice B2 y.free.length e2) rfl (Or.inl ⟨by rfl, fun w' h => by have e := row_call (h : Below w5.heap.size w5 w') RX.out; have e0 := cell_row e 0; have e1 := cell_row e 1; have e2 := cell_row e 2; have e3 := cell_row e 3; go_simp⟩) t0 ?_
      go_simp
      refine tkTV (i := 4) (v := .slice A7 i c7) rfl t0 ?_
      go_simp
      refine tkTV (i := 5) (v := .pointer (some ⟨w.heap.size + 1, 2, none⟩)) rfl t0 ?_
      go_simp
      refine tkT (i := 6) (v := .slice (some ⟨eb, eo, none⟩) s.ents.length c3) rfl (Or.inl ⟨by rfl, fun w' h => by have e := row_call (h : Below w5.heap.size w5 w') R1_2.out; have e0 := cell_row e 0; have e1 := cell_row e 1; have e2 := cell_row e 2; go_simp⟩) t0 ?_
      go_simp
      refine tkTV (i := 7) (v := .int .i64 i) rfl t0 ?_
      go_simp
      refine tkTV (i := 8) (v := .int .i64 ((i : Int) + 1)) rfl t0 ?_
      go_simp
      refine tkTV (i := 9) (v := .slice (some ⟨eb, eo, none⟩) 0 0) rfl t0 ?_
      go_simp
      clear h01 h02 hs0
      refine wpAnyT_one (i := 10) rfl (by kernel_rfl) rfl (fun K hK => ?_)
      refine step_spread_in (e := 133) (base := w5.heap.size) (Q := Lo Q w) (Q' := Lo Q w) (r := rEnt) rfl _ _ 73 rfl (.agg #[.int .i64 0, .int .i64 0, .slice none 0 0]) 3 40 Try.underlying73 infoEnt rfl (by decide) rfl _ (s.ents.take i) (by exact rfl) (Rep.acc_later HA7.out tt0) _ (s.ents.drop (i + 1)) (by exact rfl) (HDR.out _ t0) (fun b hb _ => ⟨hb, fun e => by have h1 := (Rep.acc_own HA7.out b e).1; have := hb.2; have := O2.out.size; have := HZ.out; omega⟩) (by have := HSM.out; unfold maxLen; rw [List.length_take, List.length_drop]; omega) (by have := HSM.out; rw [List.length_take, List.length_drop]; omega) (Below.size t0) ?_
      intro v8 u8 hacc8 hgr8 hat8
      have t8 : Below w5.heap.size w5 u8 := Rep.acc_below (Rep.acc_later HA7.out tt0) t0 hgr8 (Below.size t0)
      obtain ⟨A8, c8, rfl, _, _⟩ := Rep.acc_form hacc8
      obtain ⟨es, hes⟩ : ∃ es, s.ents.take i ++ s.ents.drop (i + 1) = es := ⟨_, rfl⟩
      rw [hes] at hacc8 HE ⊢
      have HA8 := Lib.hid hacc8
      have HB8 := Lib.hid t8
      refine hK _ _ ⟨t8, ?_⟩
      clear hK K hacc8 hgr8 hat8 hes
      go_simp
      refine tkTV (i := 11) (v := .agg #[.slice B1 y.gens.length e1, .slice B2 y.free.length e2, .slice A8 es.length c8]) rfl t8 ?_
      go_simp
      refine wpAnyT_last (i := 12) rfl (by kernel_rfl) rfl (fun K hK => ?_)
      have eb3 := row_call t8 R3_2.out
      have q0 := rw3 eb3
      go_simp
      refine hK _ _ ?_
      clear hK K q0 eb3
      refine nm_anyT (fun w9 hnm => ?_)
      have S4 := Lib.hid (show Only (Box w 4) w5 w9 from (by rw [hnm]; exact ((((Only.of_below HB8.out : Only (Box w 4) w5 u8)).put ⟨by omega, by omega⟩).put ⟨by omega, by omega⟩).put ⟨by omega, by omega⟩))
      have O4 := Lib.hid (O2.out.trans S4.out)
      have R0_4 := Lib.hid (row_nm hnm (row_other (row_other (row_other (row_call HB8.out R0_2.out) (by omega)) (by omega)) (by omega)))
      have R1_4 := Lib.hid (row_nm hnm (row_other (row_other (row_other (row_call HB8.out R1_2.out) (by omega)) (by omega)) (by omega)))
      have R2_4 := Lib.hid (row_nm hnm (row_other (row_other (row_other (row_call HB8.out R2_2.out) (by omega)) (by omega)) (by omega)))
      have R3_4 := Lib.hid (show w9.heap[w.heap.size + 1 + 1 + 1]? = some (.cells #[.slice B1 y.gens.length e1, .slice B2 y.free.length e2, .slice A8 es.length c8] 75 (0, 0)) from (by rw [hnm]; exact heap_setRow (heap_setRow (heap_setRow (row_call HB8.out R3_2.out)))))
      have RX_4 := Lib.hid (row_nm hnm (row_other (row_other (row_other (row_call HB8.out RX.out) (by have := HXW.out; omega)) (by have := HXW.out; omega)) (by have := HXW.out; omega)))
      have Vc_4 := Lib.hid (val_only Vc_2.out S4.out)
      have Vs_4 := Lib.hid (val_only Vs_2.out S4.out)
      have Vy_4 := Lib.hid (val_only Vy_9.out S4.out)
      have HA9 := Lib.hid (show rEnt.acc 133 w5.heap.size (Lo Q w) w9 (.slice A8 es.length c8) es by rw [hnm]; exact acc_other (acc_other (acc_other (HA8.out) (fun b hb => by have := hb.2; omega) (fun e => by have h1 := (Rep.acc_own HA8.out _ e).1; have := O2.out.size; have := HZ.out; omega)) (fun b hb => by have := hb.2; omega) (fun e => by have h1 := (Rep.acc_own HA8.out _ e).1; have := O2.out.size; have := HZ.out; omega)) (fun b hb => by have := hb.2; omega) (fun e => by have h1 := (Rep.acc_own HA8.out _ e).1; have := O2.out.size; have := HZ.out; omega))
      clear hnm
      refine tk0 (i := 13) (v := .int .i64 0) rfl (Or.inl ⟨by rfl, fun w' _ => by go_simp <;> omega⟩) ?_
      go_simp
      refine wpAnyT_done (by kernel_rfl) ?_ _
      have q3_0 := cl3 R3_4.out
      try go_wp2_with fail
      refine ⟨rfl, .tuple #[.agg #[.slice B1 y.gens.length e1, .slice B2 y.free.length e2, .slice A8 es.length c8], .int .i64 0], by simp only [results, hfr]; go_simp, ?_⟩
      clear q3_0
      obtain ⟨_, _, _, _, hye, _, _, y1, y2⟩ := rIds_val Vy_4.out
      cases hye
      rw [HE.out]
      exact ⟨_, rfl, val_out (n := 4) (rState_agg (x := ⟨y.gens, y.free, es⟩) y1 y2 (sl_of (Rep.val_mono (fun b hb _ => hb.elim Lo.inn (fun h => .inr (by have h1 := (Rep.acc_own HA9.out b h).1; have := O2.out.size; have := HZ.out; omega))) (Rep.acc_val HA9.out)))), Only.fin HB0.out O4.out⟩
    · skip
      have HDR := Lib.hid (show ∀ V, Below w5.heap.size w5 V → rEnt.list.val (Lo Q w) V (.slice (some ⟨eb, eo + (i + 1) * 3, none⟩) (s.ents.length - (i + 1)) (c3 - (i + 1))) (s.ents.drop (i + 1)) from fun V h => Rep.list_val List.length_drop.symm (by have := HIL.out; omega) (by unfold maxLen; omega) (Rep.At.keep (w := W0) (fun b hb hl => ⟨hb, (h.block b (by have := hb.2; have := O2.out.size; have := HZ.out; omega)).trans (O2.out.block b (by have := hb.2; have := HZ.out; omega) (fun h => by have := hb.2; have := h.1; omega))⟩) ((HSE.out W0 (Below.refl _ _)).drop (by have := HIL.out; omega))))
      refine wp_region_tail (S := fun W => Below w5.heap.size w5 W) (T := [12, 13]) (by kernel_rfl) (HB7.out.drew) (fun s0 => ?_)
      obtain ⟨u0, hu0⟩ : ∃ V, V = w7.drew := ⟨_, rfl⟩
      rw [← hu0] at s0 ⊢
      have t0 : Below w5.heap.size w5 u0 := s0
      have tt0 : Below w7.heap.size w7 u0 := by rw [hu0]; exact (Below.refl _ _).drew
      clear hu0 s0
      have h01 : (0 : Int) ≤ (i : Int) + 1 := by omega
      have h02 : (i : Int) + 1 ≤ (s.ents.length : Int) := by omega
      have iw : IntKind.i64.wrap ((i : Int) + 1) = (i : Int) + 1 := IntWalk.i64_in _ ⟨by omega, by omega⟩
      refine tkTV (i := 0) (v := .pointer (some ⟨X, 2, none⟩)) rfl t0 ?_
      go_simp
      refine tkT (i := 1) (v := .slice B1 y.gens.length e1) rfl (Or.inl ⟨by rfl, fun w' h => by have e := row_call (h : Below w5.heap.size w5 w') RX.out; have e0 := cell_row e 0; have e1 := cell_row e 1; have e2 := cell_row e 2; have e3 := cell_row e 3; go_simp⟩) t0 ?_
      go_simp
      refine tkTV (i := 2) (v := .pointer (some ⟨X, 3, none⟩)) rfl t0 ?_
      go_simp
      refine tkT (i := 3) (v := .slice B2 y.free.length e2) rfl (Or.inl ⟨by rfl, fun w' h => by have e := row_call (h : Below w5.heap.size w5 w') RX.out; have e0 := cell_row e 0; have e1 := cell_row e 1; have e2 := cell_row e 2; have e3 := cell_row e 3; go_simp⟩) t0 ?_
      go_simp
      refine tkTV (i := 4) (v := .slice A7 i c7) rfl t0 ?_
      go_simp
      refine tkTV (i := 5) (v := .pointer (some ⟨w.heap.size + 1, 2, none⟩)) rfl t0 ?_
      go_simp
      refine tkT (i := 6) (v := .slice (some ⟨eb, eo, none⟩) s.ents.length c3) rfl (Or.inl ⟨by rfl, fun w' h => by have e := row_call (h : Below w5.heap.size w5 w') R1_2.out; have e0 := cell_row e 0; have e1 := cell_row e 1; have e2 := cell_row e 2; go_simp⟩) t0 ?_
      go_simp
      refine tkTV (i := 7) (v := .int .i64 i) rfl t0 ?_
      go_simp
      refine tkTV (i := 8) (v := .int .i64 ((i : Int) + 1)) rfl t0 ?_
      go_simp
      refine tkTV (i := 9) (v := .slice (some ⟨eb, eo + (i + 1) * 3, none⟩) (s.ents.length - (i + 1)) (c3 - (i + 1))) rfl t0 ?_
      go_simp
      clear h01 h02
      refine wpAnyT_one (i := 10) rfl (by kernel_rfl) rfl (fun K hK => ?_)
      refine step_spread_in (e := 133) (base := w5.heap.size) (Q := Lo Q w) (Q' := Lo Q w) (r := rEnt) rfl _ _ 73 rfl (.agg #[.int .i64 0, .int .i64 0, .slice none 0 0]) 3 40 Try.underlying73 infoEnt rfl (by decide) rfl _ (s.ents.take i) (by exact rfl) (Rep.acc_later HA7.out tt0) _ (s.ents.drop (i + 1)) (by exact rfl) (HDR.out _ t0) (fun b hb _ => ⟨hb, fun e => by have h1 := (Rep.acc_own HA7.out b e).1; have := hb.2; have := O2.out.size; have := HZ.out; omega⟩) (by have := HSM.out; unfold maxLen; rw [List.length_take, List.length_drop]; omega) (by have := HSM.out; rw [List.length_take, List.length_drop]; omega) (Below.size t0) ?_
      intro v8 u8 hacc8 hgr8 hat8
      have t8 : Below w5.heap.size w5 u8 := Rep.acc_below (Rep.acc_later HA7.out tt0) t0 hgr8 (Below.size t0)
      obtain ⟨A8, c8, rfl, _, _⟩ := Rep.acc_form hacc8
      obtain ⟨es, hes⟩ : ∃ es, s.ents.take i ++ s.ents.drop (i + 1) = es := ⟨_, rfl⟩
      rw [hes] at hacc8 HE ⊢
      have HA8 := Lib.hid hacc8
      have HB8 := Lib.hid t8
      refine hK _ _ ⟨t8, ?_⟩
      clear hK K hacc8 hgr8 hat8 hes
      go_simp
      refine tkTV (i := 11) (v := .agg #[.slice B1 y.gens.length e1, .slice B2 y.free.length e2, .slice A8 es.length c8]) rfl t8 ?_
      go_simp
      refine wpAnyT_last (i := 12) rfl (by kernel_rfl) rfl (fun K hK => ?_)
      have eb3 := row_call t8 R3_2.out
      have q0 := rw3 eb3
      go_simp
      refine hK _ _ ?_
      clear hK K q0 eb3
      refine nm_anyT (fun w9 hnm => ?_)
      have S4 := Lib.hid (show Only (Box w 4) w5 w9 from (by rw [hnm]; exact ((((Only.of_below HB8.out : Only (Box w 4) w5 u8)).put ⟨by omega, by omega⟩).put ⟨by omega, by omega⟩).put ⟨by omega, by omega⟩))
      have O4 := Lib.hid (O2.out.trans S4.out)
      have R0_4 := Lib.hid (row_nm hnm (row_other (row_other (row_other (row_call HB8.out R0_2.out) (by omega)) (by omega)) (by omega)))
      have R1_4 := Lib.hid (row_nm hnm (row_other (row_other (row_other (row_call HB8.out R1_2.out) (by omega)) (by omega)) (by omega)))
      have R2_4 := Lib.hid (row_nm hnm (row_other (row_other (row_other (row_call HB8.out R2_2.out) (by omega)) (by omega)) (by omega)))
      have R3_4 := Lib.hid (show w9.heap[w.heap.size + 1 + 1 + 1]? = some (.cells #[.slice B1 y.gens.length e1, .slice B2 y.free.length e2, .slice A8 es.length c8] 75 (0, 0)) from (by rw [hnm]; exact heap_setRow (heap_setRow (heap_setRow (row_call HB8.out R3_2.out)))))
      have RX_4 := Lib.hid (row_nm hnm (row_other (row_other (row_other (row_call HB8.out RX.out) (by have := HXW.out; omega)) (by have := HXW.out; omega)) (by have := HXW.out; omega)))
      have Vc_4 := Lib.hid (val_only Vc_2.out S4.out)
      have Vs_4 := Lib.hid (val_only Vs_2.out S4.out)
      have Vy_4 := Lib.hid (val_only Vy_9.out S4.out)
      have HA9 := Lib.hid (show rEnt.acc 133 w5.heap.size (Lo Q w) w9 (.slice A8 es.length c8) es by rw [hnm]; exact acc_other (acc_other (acc_other (HA8.out) (fun b hb => by have := hb.2; omega) (fun e => by have h1 := (Rep.acc_own HA8.out _ e).1; have := O2.out.size; have := HZ.out; omega)) (fun b hb => by have := hb.2; omega) (fun e => by have h1 := (Rep.acc_own HA8.out _ e).1; have := O2.out.size; have := HZ.out; omega)) (fun b hb => by have := hb.2; omega) (fun e => by have h1 := (Rep.acc_own HA8.out _ e).1; have := O2.out.size; have := HZ.out; omega))
      clear hnm
      refine tk0 (i := 13) (v := .int .i64 0) rfl (Or.inl ⟨by rfl, fun w' _ => by go_simp <;> omega⟩) ?_
      go_simp
      refine wpAnyT_done (by kernel_rfl) ?_ _
      have q3_0 := cl3 R3_4.out
      try go_wp2_with fail
      refine ⟨rfl, .tuple #[.agg #[.slice B1 y.gens.length e1, .slice B2 y.free.length e2, .slice A8 es.length c8], .int .i64 0], by simp only [results, hfr]; go_simp, ?_⟩
      clear q3_0
      obtain ⟨_, _, _, _, hye, _, _, y1, y2⟩ := rIds_val Vy_4.out
      cases hye
      rw [HE.out]
      exact ⟨_, rfl, val_out (n := 4) (rState_agg (x := ⟨y.gens, y.free, es⟩) y1 y2 (sl_of (Rep.val_mono (fun b hb _ => hb.elim Lo.inn (fun h => .inr (by have h1 := (Rep.acc_own HA9.out b h).1; have := O2.out.size; have := HZ.out; omega))) (Rep.acc_val HA9.out)))), Only.fin HB0.out O4.out⟩
end Go.Proofs.Yteljibjbndpncaa
