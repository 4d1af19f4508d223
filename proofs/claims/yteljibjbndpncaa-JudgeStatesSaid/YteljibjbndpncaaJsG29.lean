/- Texts on which the proofs stand: MSame, RWatch2. No condition is laid on any input. -/
import Derived.Test.YteljibjbndpncaaJsG28
namespace Go.Proofs.Yteljibjbndpncaa
open Go.RowKit

set_option maxRecDepth 100000 in
set_option maxHeartbeats 1000000 in
/-- model.same -/
theorem msame_part_calls {Q Q' : Nat → Prop} {w : World} {u v : Value} {x y : DPart} (hx : rPart.val Q w u x) (hy : rPart.val Q' w v y) :
    Calls Try.prog 107 #[u, v] w fun en w' => en = .returned (.bool (decide (x = y))) ∧ Below w.heap.size w w' := by
  obtain ⟨A, c, rfl, _, hd⟩ := rPart_val hx
  obtain ⟨B, d, rfl, _, he⟩ := rPart_val hy
  obtain ⟨W1, hW1⟩ : ∃ W1, (w.alloc (.cells #[.int .i64 x.comp, .slice A x.data.length c] 135)).alloc (.cells #[.int .i64 y.comp, .slice B y.data.length d] 135) = W1 := ⟨_, rfl⟩
  have hz : (w.alloc (.cells #[.int .i64 x.comp, .slice A x.data.length c] 135)).heap.size = w.heap.size + 1 := by simp
  have hb1 : Below w.heap.size w W1 := by rw [← hW1]; exact ((Below.refl _ _).alloc (Nat.le_refl _) _).alloc (by rw [hz]; omega) _
  have hr0 : W1.heap[w.heap.size]? = some (.cells #[.int .i64 x.comp, .slice A x.data.length c] 135 (0, 0)) := by rw [← hW1]; exact (heap_alloc_old _ _ (by rw [hz]; omega)).trans (heap_alloc_new w _)
  have hr1 : W1.heap[w.heap.size + 1]? = some (.cells #[.int .i64 y.comp, .slice B y.data.length d] 135 (0, 0)) := by rw [← hW1, ← hz]; exact heap_alloc_new _ _
  have e0 := cl2 hr0
  have f0 := cl2 hr1
  have HD := Lib.hid (hd.below hb1 (fun _ _ h => h.lt)).val
  have HE := Lib.hid (he.below hb1 (fun _ _ h => h.lt)).val
  have HB := Lib.hid hb1
  clear hx hy hd he hz hb1 hr0 hr1
  by_cases hc : x.comp = y.comp
  · have g0 : (x.comp == y.comp) = true := by simp [hc]
    have HK := Lib.hid (show decide (x = y) = decide (x.data = y.data) by rw [decide_eq_decide, DPart.ext_iff]; exact ⟨fun h => h.2, fun h => ⟨hc, h⟩⟩)
    clear hc
    go_enter Try.func107, Try.ntmps107
    go_wp2_with fail
    try rw [hW1]
    clear hW1
    try go_wp2_with fail
    refine (bytesEqual HD.out HE.out).mono ?_
    rintro en w2 ⟨rfl, hw⟩
    subst hw
    rw [← HK.out]
    go_wp2_with fail
    go_ret
    exact ⟨rfl, HB.out⟩
  · have g0 : (x.comp == y.comp) = false := beq_eq_false_iff_ne.2 hc
    have HK := Lib.hid (show decide (x = y) = false from decide_eq_false (fun h => hc (by rw [h])))
    clear hc
    go_enter Try.func107, Try.ntmps107
    go_wp2_with fail
    try rw [hW1]
    clear hW1
    try go_wp2_with fail
    go_ret
    exact ⟨by rw [HK.out]; rfl, HB.out⟩

theorem take_eq_next {α : Type} {l m : List α} {k : Nat} {x y : α} (hx : l[k]? = some x) (hy : m[k]? = some y) (h : l.take k = m.take k) (he : x = y) : l.take (k + 1) = m.take (k + 1) := by
  obtain ⟨h1, rfl⟩ := List.getElem?_eq_some_iff.1 hx
  obtain ⟨h2, rfl⟩ := List.getElem?_eq_some_iff.1 hy
  rw [List.take_succ_eq_append_getElem h1, List.take_succ_eq_append_getElem h2, h, he]
theorem ne_here {α : Type} {l m : List α} {k : Nat} {x y : α} (hx : l[k]? = some x) (hy : m[k]? = some y) (he : x ≠ y) : l ≠ m := by
  rintro rfl
  rw [hx] at hy
  exact he (by injection hy)

set_option maxRecDepth 100000 in
set_option maxHeartbeats 2000000 in
/-- slices.EqualFunc of parts -/
theorem eqPartsM_calls {Q Q' : Nat → Prop} {w : World} {u v : Value} {xs ys : List DPart} (hx : rPart.list.val Q w u xs) (hy : rPart.list.val Q' w v ys) :
    Calls Try.prog 106 #[u, v, .func (.func 107) #[] #[]] w fun en w' => en = .returned (.bool (decide (xs = ys))) ∧ Below w.heap.size w w' := by
  obtain ⟨A, c, rfl, hc1, hc2, hA⟩ := Rep.val_list hx
  obtain ⟨B, d, rfl, hd1, hd2, hB⟩ := Rep.val_list hy
  unfold maxLen at hc2 hd2
  have HA := Lib.hid hA
  have HB := Lib.hid hB
  clear hx hy hA hB
  by_cases hlen : xs.length = ys.length
  · have hne : ((xs.length : Int) != (ys.length : Int)) = false := by simp [hlen]
    have hll : (xs.length : Int) = (ys.length : Int) := by omega
    have HLN := Lib.hid hlen
    clear hlen
    go_enter Try.func106, Try.ntmps106
    go_wp2_with fail
    clear hne hll
    go_loopw [17] (fun i wr => ∃ k : Nat, i = .int .i64 k ∧ k ≤ xs.length ∧ Hid (xs.take k = ys.take k) ∧ Hid (Below w.heap.size w wr)) (fun i _ => xs.length - (intOf i).toNat)
    case atStart => exact ⟨0, rfl, Nat.zero_le _, Lib.hid (by simp), Lib.hid (Below.refl _ _)⟩
    case round =>
      obtain ⟨k, rfl, hk, HT, HW⟩ := hrel
      by_cases hlt : (k : Int) < xs.length
      · have hlt2 : (k : Int) < ys.length := by have := HLN.out; omega
        obtain ⟨x, hx⟩ : ∃ x, xs[k]? = some x := ⟨_, List.getElem?_eq_getElem (by omega)⟩
        obtain ⟨y, hy⟩ : ∃ y, ys[k]? = some y := ⟨_, List.getElem?_eq_getElem (by omega)⟩
        obtain ⟨b, off, Ad, cd, rfl, hbc, e0, e1, f0, hs⟩ := rPart_at (HA.out.below HW.out (fun _ _ h => h.lt)) hx
        obtain ⟨b', off', Ad', cd', rfl, hbc', e0', e1', f0', hs'⟩ := rPart_at (HB.out.below HW.out (fun _ _ h => h.lt)) hy
        have HEQ := Lib.hid (fun h : x = y => take_eq_next hx hy HT.out h)
        have HNE := Lib.hid (fun h : x ≠ y => ne_here hx hy h)
        obtain ⟨W3, hW3⟩ : ∃ W3, (wr.alloc (.cells #[.int .i64 x.comp, .slice Ad x.data.length cd] 135)).alloc (.cells #[.int .i64 y.comp, .slice Ad' y.data.length cd'] 135) = W3 := ⟨_, rfl⟩
        have hz : (wr.alloc (.cells #[.int .i64 x.comp, .slice Ad x.data.length cd] 135)).heap.size = wr.heap.size + 1 := by simp
        have hb2 : Below wr.heap.size wr (wr.alloc (.cells #[.int .i64 x.comp, .slice Ad x.data.length cd] 135)) := (Below.refl _ _).alloc (Nat.le_refl _) _
        have k0 := (hb2.cell (p := ⟨b', off' + k * 2, none⟩) hbc'.lt).trans e0'
        have k1 := (hb2.cell (p := ⟨b', off' + k * 2 + 1, none⟩) hbc'.lt).trans e1'
        have hb3 : Below wr.heap.size wr W3 := by rw [← hW3]; exact ((Below.refl _ _).alloc (Nat.le_refl _) _).alloc (by rw [hz]; omega) _
        have hr0 : W3.heap[wr.heap.size]? = some (.cells #[.int .i64 x.comp, .slice Ad x.data.length cd] 135 (0, 0)) := by rw [← hW3]; exact (heap_alloc_old _ _ (by rw [hz]; omega)).trans (heap_alloc_new wr _)
        have hr1 : W3.heap[wr.heap.size + 1]? = some (.cells #[.int .i64 y.comp, .slice Ad' y.data.length cd'] 135 (0, 0)) := by rw [← hW3, ← hz]; exact heap_alloc_new _ _
        have y0 := cl2 hr0
        have y2 := cl2 hr1
        have HV1 := Lib.hid (rPart_agg (x := x) f0 (hs.below hb3 (fun _ _ h => h.lt)))
        have HV2 := Lib.hid (rPart_agg (x := y) f0' (hs'.below hb3 (fun _ _ h => h.lt)))
        have HB3 := Lib.hid (HW.out.trans (hb3.mono HW.out.size))
        clear hx hy hbc hbc' f0 f0' hs hs' hz hb2 hb3 hr0 hr1
        go_wp2_with fail
        try rw [hW3]
        clear hW3
        try go_wp2_with fail
        refine (msame_part_calls HV1.out HV2.out).mono ?_
        rintro en w4 ⟨rfl, hb4⟩
        have HB4 := Lib.hid (HB3.out.trans (hb4.mono HB3.out.size))
        clear hb4
        by_cases hxy : x = y
        · have HE := Lib.hid (HEQ.out hxy)
          rw [decide_eq_true hxy]
          clear hxy
          go_wp2_with fail
          exact ⟨⟨k + 1, by go_num, by omega, HE, HB4⟩, by simp [intOf]; omega⟩
        · have HE := Lib.hid (show decide (xs = ys) = false from decide_eq_false (HNE.out hxy))
          rw [decide_eq_false hxy]
          clear hxy
          go_wp2_with fail
          go_ret
          exact ⟨by rw [HE.out]; rfl, HB4.out⟩
      · obtain rfl : k = xs.length := by omega
        have HE := Lib.hid (show decide (xs = ys) = true by
          apply decide_eq_true
          have := HT.out
          rwa [List.take_length, HLN.out, List.take_length] at this)
        have hnl : ¬ (xs.length : Int) < ys.length := by have := HLN.out; omega
        go_wp2_with fail
        go_ret
        exact ⟨by rw [HE.out]; rfl, HW.out⟩
  · have hne : ((xs.length : Int) != (ys.length : Int)) = true := by simp; omega
    have HE := Lib.hid (show decide (xs = ys) = false from decide_eq_false (fun h => hlen (by rw [h])))
    clear hlen
    go_enter Try.func106, Try.ntmps106
    go_wp2_with fail
    go_ret
    exact ⟨by rw [HE.out]; rfl, Below.refl _ _⟩
set_option maxRecDepth 100000 in
set_option maxHeartbeats 1000000 in
/-- model.Same$1 -/
theorem msame_ent_calls {Q Q' : Nat → Prop} {w : World} {u v : Value} {x y : DEnt} (hx : rEnt.val Q w u x) (hy : rEnt.val Q' w v y) :
    Calls Try.prog 105 #[u, v] w fun en w' => en = .returned (.bool (decide (x = y))) ∧ Below w.heap.size w w' := by
  obtain ⟨A, c, rfl, _, _, hd⟩ := rEnt_val hx
  obtain ⟨B, d, rfl, _, _, he⟩ := rEnt_val hy
  obtain ⟨W1, hW1⟩ : ∃ W1, (w.alloc (.cells #[.int .i64 x.id.index, .int .i64 x.id.gen, .slice A x.parts.length c] 133)).alloc (.cells #[.int .i64 y.id.index, .int .i64 y.id.gen, .slice B y.parts.length d] 133) = W1 := ⟨_, rfl⟩
  have hz : (w.alloc (.cells #[.int .i64 x.id.index, .int .i64 x.id.gen, .slice A x.parts.length c] 133)).heap.size = w.heap.size + 1 := by simp
  have hb1 : Below w.heap.size w W1 := by rw [← hW1]; exact ((Below.refl _ _).alloc (Nat.le_refl _) _).alloc (by rw [hz]; omega) _
  have hr0 : W1.heap[w.heap.size]? = some (.cells #[.int .i64 x.id.index, .int .i64 x.id.gen, .slice A x.parts.length c] 133 (0, 0)) := by rw [← hW1]; exact (heap_alloc_old _ _ (by rw [hz]; omega)).trans (heap_alloc_new w _)
  have hr1 : W1.heap[w.heap.size + 1]? = some (.cells #[.int .i64 y.id.index, .int .i64 y.id.gen, .slice B y.parts.length d] 133 (0, 0)) := by rw [← hW1, ← hz]; exact heap_alloc_new _ _
  have e0 := cl3 hr0
  have f0 := cl3 hr1
  have HD := Lib.hid (hd.below hb1 (fun _ _ h => h.lt)).val
  have HE := Lib.hid (he.below hb1 (fun _ _ h => h.lt)).val
  have HB := Lib.hid hb1
  clear hx hy hd he hz hb1 hr0 hr1
  by_cases hc : x.id = y.id
  · have g0 : (x.id.index == y.id.index) = true := by simp [hc]
    have g1 : (x.id.gen == y.id.gen) = true := by simp [hc]
    have HK := Lib.hid (show decide (x = y) = decide (x.parts = y.parts) by rw [decide_eq_decide, DEnt.ext_iff]; exact ⟨fun h => h.2, fun h => ⟨hc, h⟩⟩)
    clear hc
    go_enter Try.func105, Try.ntmps105
    go_wp2_with fail
    try rw [hW1]
    clear hW1
    try go_wp2_with fail
    refine (eqPartsM_calls HD.out HE.out).mono ?_
    rintro en w2 ⟨rfl, hw⟩
    have HW := Lib.hid (HB.out.trans (hw.mono HB.out.size))
    clear hw
    rw [← HK.out]
    go_wp2_with fail
    go_ret
    exact ⟨rfl, HW.out⟩
  · have HK := Lib.hid (show decide (x = y) = false from decide_eq_false (fun h => hc (by rw [h])))
    by_cases hi : x.id.index = y.id.index
    · have g0 : (x.id.index == y.id.index) = true := by simp [hi]
      have g1 : (x.id.gen == y.id.gen) = false := beq_eq_false_iff_ne.2 (fun h => hc (DID.ext hi h))
      clear hc hi
      go_enter Try.func105, Try.ntmps105
      go_wp2_with fail
      try rw [hW1]
      clear hW1
      try go_wp2_with fail
      go_ret
      exact ⟨by rw [HK.out]; rfl, HB.out⟩
    · have g0 : (x.id.index == y.id.index) = false := beq_eq_false_iff_ne.2 hi
      clear hc hi
      go_enter Try.func105, Try.ntmps105
      go_wp2_with fail
      try rw [hW1]
      clear hW1
      try go_wp2_with fail
      go_ret
      exact ⟨by rw [HK.out]; rfl, HB.out⟩

set_option maxRecDepth 100000 in
set_option maxHeartbeats 2000000 in
/-- slices.EqualFunc of entities -/
theorem eqEntsM_calls {Q Q' : Nat → Prop} {w : World} {u v : Value} {xs ys : List DEnt} (hx : rEnt.list.val Q w u xs) (hy : rEnt.list.val Q' w v ys) :
    Calls Try.prog 104 #[u, v, .func (.func 105) #[] #[]] w fun en w' => en = .returned (.bool (decide (xs = ys))) ∧ Below w.heap.size w w' := by
  obtain ⟨A, c, rfl, hc1, hc2, hA⟩ := Rep.val_list hx
  obtain ⟨B, d, rfl, hd1, hd2, hB⟩ := Rep.val_list hy
  unfold maxLen at hc2 hd2
  have HA := Lib.hid hA
  have HB := Lib.hid hB
  clear hx hy hA hB
  by_cases hlen : xs.length = ys.length
  · have hne : ((xs.length : Int) != (ys.length : Int)) = false := by simp [hlen]
    have hll : (xs.length : Int) = (ys.length : Int) := by omega
    have HLN := Lib.hid hlen
    clear hlen
    go_enter Try.func104, Try.ntmps104
    go_wp2_with fail
    clear hne hll
    go_loopw [17] (fun i wr => ∃ k : Nat, i = .int .i64 k ∧ k ≤ xs.length ∧ Hid (xs.take k = ys.take k) ∧ Hid (Below w.heap.size w wr)) (fun i _ => xs.length - (intOf i).toNat)
    case atStart => exact ⟨0, rfl, Nat.zero_le _, Lib.hid (by simp), Lib.hid (Below.refl _ _)⟩
    case round =>
      obtain ⟨k, rfl, hk, HT, HW⟩ := hrel
      by_cases hlt : (k : Int) < xs.length
      · have hlt2 : (k : Int) < ys.length := by have := HLN.out; omega
        obtain ⟨x, hx⟩ : ∃ x, xs[k]? = some x := ⟨_, List.getElem?_eq_getElem (by omega)⟩
        obtain ⟨y, hy⟩ : ∃ y, ys[k]? = some y := ⟨_, List.getElem?_eq_getElem (by omega)⟩
        obtain ⟨b, off, Ad, cd, rfl, hbc, e0, e1, e2, f0, f1, hs⟩ := rEnt_at (HA.out.below HW.out (fun _ _ h => h.lt)) hx
        obtain ⟨b', off', Ad', cd', rfl, hbc', e0', e1', e2', f0', f1', hs'⟩ := rEnt_at (HB.out.below HW.out (fun _ _ h => h.lt)) hy
        have HEQ := Lib.hid (fun h : x = y => take_eq_next hx hy HT.out h)
        have HNE := Lib.hid (fun h : x ≠ y => ne_here hx hy h)
        obtain ⟨W3, hW3⟩ : ∃ W3, (wr.alloc (.cells #[.int .i64 x.id.index, .int .i64 x.id.gen, .slice Ad x.parts.length cd] 133)).alloc (.cells #[.int .i64 y.id.index, .int .i64 y.id.gen, .slice Ad' y.parts.length cd'] 133) = W3 := ⟨_, rfl⟩
        have hz : (wr.alloc (.cells #[.int .i64 x.id.index, .int .i64 x.id.gen, .slice Ad x.parts.length cd] 133)).heap.size = wr.heap.size + 1 := by simp
        have hb2 : Below wr.heap.size wr (wr.alloc (.cells #[.int .i64 x.id.index, .int .i64 x.id.gen, .slice Ad x.parts.length cd] 133)) := (Below.refl _ _).alloc (Nat.le_refl _) _
        have k0 := (hb2.cell (p := ⟨b', off' + k * 3, none⟩) hbc'.lt).trans e0'
        have k1 := (hb2.cell (p := ⟨b', off' + k * 3 + 1, none⟩) hbc'.lt).trans e1'
        have k2 := (hb2.cell (p := ⟨b', off' + k * 3 + 2, none⟩) hbc'.lt).trans e2'
        have hb3 : Below wr.heap.size wr W3 := by rw [← hW3]; exact ((Below.refl _ _).alloc (Nat.le_refl _) _).alloc (by rw [hz]; omega) _
        have hr0 : W3.heap[wr.heap.size]? = some (.cells #[.int .i64 x.id.index, .int .i64 x.id.gen, .slice Ad x.parts.length cd] 133 (0, 0)) := by rw [← hW3]; exact (heap_alloc_old _ _ (by rw [hz]; omega)).trans (heap_alloc_new wr _)
        have hr1 : W3.heap[wr.heap.size + 1]? = some (.cells #[.int .i64 y.id.index, .int .i64 y.id.gen, .slice Ad' y.parts.length cd'] 133 (0, 0)) := by rw [← hW3, ← hz]; exact heap_alloc_new _ _
        have y0 := cl3 hr0
        have y3 := cl3 hr1
        have HV1 := Lib.hid (rEnt_agg (x := x) f0 f1 (hs.below hb3 (fun _ _ h => h.lt)))
        have HV2 := Lib.hid (rEnt_agg (x := y) f0' f1' (hs'.below hb3 (fun _ _ h => h.lt)))
        have HB3 := Lib.hid (HW.out.trans (hb3.mono HW.out.size))
        clear hx hy hbc hbc' f0 f0' f1 f1' hs hs' hz hb2 hb3 hr0 hr1
        go_wp2_with fail
        try rw [hW3]
        clear hW3
        try go_wp2_with fail
        refine (msame_ent_calls HV1.out HV2.out).mono ?_
        rintro en w4 ⟨rfl, hb4⟩
        have HB4 := Lib.hid (HB3.out.trans (hb4.mono HB3.out.size))
        clear hb4
        by_cases hxy : x = y
        · have HE := Lib.hid (HEQ.out hxy)
          rw [decide_eq_true hxy]
          clear hxy
          go_wp2_with fail
          exact ⟨⟨k + 1, by go_num, by omega, HE, HB4⟩, by simp [intOf]; omega⟩
        · have HE := Lib.hid (show decide (xs = ys) = false from decide_eq_false (HNE.out hxy))
          rw [decide_eq_false hxy]
          clear hxy
          go_wp2_with fail
          go_ret
          exact ⟨by rw [HE.out]; rfl, HB4.out⟩
      · obtain rfl : k = xs.length := by omega
        have HE := Lib.hid (show decide (xs = ys) = true by
          apply decide_eq_true
          have := HT.out
          rwa [List.take_length, HLN.out, List.take_length] at this)
        have hnl : ¬ (xs.length : Int) < ys.length := by have := HLN.out; omega
        go_wp2_with fail
        go_ret
        exact ⟨by rw [HE.out]; rfl, HW.out⟩
  · have hne : ((xs.length : Int) != (ys.length : Int)) = true := by simp; omega
    have HE := Lib.hid (show decide (xs = ys) = false from decide_eq_false (fun h => hlen (by rw [h])))
    clear hlen
    go_enter Try.func104, Try.ntmps104
    go_wp2_with fail
    go_ret
    exact ⟨by rw [HE.out]; rfl, Below.refl _ _⟩

theorem below_drawn {B n : Nat} {w W : World} (h : Below B w W) : Below B w (W.drewN n) := ⟨h.os, h.tape, h.output, h.size, h.block⟩
set_option maxRecDepth 100000 in
set_option maxHeartbeats 1000000 in
/-- model.Same -/
theorem msame_calls {Q Q' : Nat → Prop} {w : World} {u v : Value} {a b : DState} (hx : rState.val Q w u a) (hy : rState.val Q' w v b) :
    Calls Try.prog 73 #[u, v] w fun en w' => en = .returned (.bool (decide (a = b))) ∧ Below w.heap.size w w' := by
  obtain ⟨A1, c1, A2, c2, A3, c3, rfl, ha1, ha2, ha3⟩ := rState_val hx
  obtain ⟨B1, d1, B2, d2, B3, d3, rfl, hb1, hb2, hb3⟩ := rState_val hy
  obtain ⟨W1, hW1⟩ : ∃ W1, (w.alloc (.cells #[.slice A1 a.gens.length c1, .slice A2 a.free.length c2, .slice A3 a.ents.length c3] 75)).alloc (.cells #[.slice B1 b.gens.length d1, .slice B2 b.free.length d2, .slice B3 b.ents.length d3] 75) = W1 := ⟨_, rfl⟩
  have hz : (w.alloc (.cells #[.slice A1 a.gens.length c1, .slice A2 a.free.length c2, .slice A3 a.ents.length c3] 75)).heap.size = w.heap.size + 1 := by simp
  have hb0 : Below w.heap.size w W1 := by rw [← hW1]; exact ((Below.refl _ _).alloc (Nat.le_refl _) _).alloc (by rw [hz]; omega) _
  have hr0 : W1.heap[w.heap.size]? = some (.cells #[.slice A1 a.gens.length c1, .slice A2 a.free.length c2, .slice A3 a.ents.length c3] 75 (0, 0)) := by rw [← hW1]; exact (heap_alloc_old _ _ (by rw [hz]; omega)).trans (heap_alloc_new w _)
  have hr1 : W1.heap[w.heap.size + 1]? = some (.cells #[.slice B1 b.gens.length d1, .slice B2 b.free.length d2, .slice B3 b.ents.length d3] 75 (0, 0)) := by rw [← hW1, ← hz]; exact heap_alloc_new _ _
  have HR0 := Lib.hid (show ∀ V, Below W1.heap.size W1 V → V.heap[w.heap.size]? = _ from fun V h => row_call h hr0)
  have HR1 := Lib.hid (show ∀ V, Below W1.heap.size W1 V → V.heap[w.heap.size + 1]? = _ from fun V h => row_call h hr1)
  have e0 := cl3 hr0
  have f0 := cl3 hr1
  have K := fun {α : Type} {r : Rep α} {Q : Nat → Prop} {A : Option Addr} {c : Nat} {xs : List α} (h : r.Sl Q w A c xs) (V : World) (hv : Below W1.heap.size W1 V) => ((h.below hb0 (fun _ _ h => h.lt)).below hv (fun _ _ h => h.lt)).val
  have HA1 := Lib.hid (K ha1)
  have HA2 := Lib.hid (K ha2)
  have HA3 := Lib.hid (K ha3)
  have HB1 := Lib.hid (K hb1)
  have HB2 := Lib.hid (K hb2)
  have HB3 := Lib.hid (K hb3)
  have HB := Lib.hid hb0
  clear hx hy hz hb0 hr0 hr1 ha1 ha2 ha3 hb1 hb2 hb3 K
  by_cases hg : a.gens = b.gens
  · have HG := Lib.hid hg
    clear hg
    by_cases hf : a.free = b.free
    · have HF := Lib.hid hf
      have HK := Lib.hid (show decide (a = b) = decide (a.ents = b.ents) by rw [decide_eq_decide, DState.ext_iff]; exact ⟨fun h => h.2.2, fun h => ⟨HG.out, hf, h⟩⟩)
      clear hf
      go_enter Try.func73, Try.ntmps73
      go_wp2_with fail
      try rw [hW1]
      clear hW1
      try go_wp2_with fail
      refine (equalInts (HA1.out _ (Below.refl _ _)) (HB1.out _ (Below.refl _ _))).mono ?_
      rintro en w2 ⟨rfl, n, rfl⟩
      rw [decide_eq_true HG.out]
      have t2 : Below W1.heap.size W1 (W1.drewN n) := below_drawn (Below.refl _ _)
      have k0 := HR0.out _ t2
      have k1 := HR1.out _ t2
      have a0 := cl3 k0
      have b0 := cl3 k1
      clear k0 k1
      go_wp2_with fail
      clear a0 b0
      refine (equalInts (HA2.out _ t2) (HB2.out _ t2)).mono ?_
      rintro en w3 ⟨rfl, m, rfl⟩
      rw [decide_eq_true HF.out]
      have t3 : Below W1.heap.size W1 (W1.drewN (n + m)) := below_drawn (Below.refl _ _)
      have k0 := HR0.out _ t3
      have k1 := HR1.out _ t3
      have a0 := cl3 k0
      have b0 := cl3 k1
      clear k0 k1
      go_wp2_with fail
      clear a0 b0
      refine (eqEntsM_calls (HA3.out _ t3) (HB3.out _ t3)).mono ?_
      rintro en w4 ⟨rfl, hw⟩
      have HW := Lib.hid (HB.out.trans ((Below.trans t3 (hw.mono (Below.size t3))).mono HB.out.size))
      clear hw t2 t3
      rw [← HK.out]
      go_wp2_with fail
      go_ret
      exact ⟨rfl, HW.out⟩
    · have HK := Lib.hid (show decide (a = b) = false from decide_eq_false (fun h => hf (by rw [h])))
      have HF := Lib.hid hf
      clear hf
      go_enter Try.func73, Try.ntmps73
      go_wp2_with fail
      try rw [hW1]
      clear hW1
      try go_wp2_with fail
      refine (equalInts (HA1.out _ (Below.refl _ _)) (HB1.out _ (Below.refl _ _))).mono ?_
      rintro en w2 ⟨rfl, n, rfl⟩
      rw [decide_eq_true HG.out]
      have t2 : Below W1.heap.size W1 (W1.drewN n) := below_drawn (Below.refl _ _)
      have k0 := HR0.out _ t2
      have k1 := HR1.out _ t2
      have a0 := cl3 k0
      have b0 := cl3 k1
      clear k0 k1
      go_wp2_with fail
      clear a0 b0
      refine (equalInts (HA2.out _ t2) (HB2.out _ t2)).mono ?_
      rintro en w3 ⟨rfl, m, rfl⟩
      rw [decide_eq_false HF.out]
      have HW := Lib.hid (show Below w.heap.size w (W1.drewN (n + m)) from below_drawn HB.out)
      clear t2
      go_wp2_with fail
      go_ret
      exact ⟨by rw [HK.out]; rfl, HW.out⟩
  · have HK := Lib.hid (show decide (a = b) = false from decide_eq_false (fun h => hg (by rw [h])))
    have HG := Lib.hid hg
    clear hg
    go_enter Try.func73, Try.ntmps73
    go_wp2_with fail
    try rw [hW1]
    clear hW1
    try go_wp2_with fail
    refine (equalInts (HA1.out _ (Below.refl _ _)) (HB1.out _ (Below.refl _ _))).mono ?_
    rintro en w2 ⟨rfl, n, rfl⟩
    rw [decide_eq_false HG.out]
    have HW := Lib.hid (show Below w.heap.size w (W1.drewN n) from below_drawn HB.out)
    go_wp2_with fail
    go_ret
    exact ⟨by rw [HK.out]; rfl, HW.out⟩
end Go.Proofs.Yteljibjbndpncaa
namespace Go.Proofs.Yteljibjbndpncaa
open Go.RowKit

set_option maxRecDepth 100000 in
set_option maxHeartbeats 2000000 in
/-- ref09.SameParts -/
theorem rsameParts_calls {Q Q' : Nat → Prop} {w : World} {u v : Value} {xs ys : List DPart} (hx : rPart.list.val Q w u xs) (hy : rPart.list.val Q' w v ys) :
    Calls Try.prog 76 #[u, v] w fun en w' => en = .returned (.bool (decide (xs = ys))) ∧ Below w.heap.size w w' := by
  obtain ⟨A, c, rfl, hc1, hc2, hA⟩ := Rep.val_list hx
  obtain ⟨B, d, rfl, hd1, hd2, hB⟩ := Rep.val_list hy
  unfold maxLen at hc2 hd2
  have HA := Lib.hid hA
  have HB := Lib.hid hB
  clear hx hy hA hB
  by_cases hlen : xs.length = ys.length
  · have hne : ((xs.length : Int) != (ys.length : Int)) = false := by simp [hlen]
    have HLN := Lib.hid hlen
    clear hlen
    go_enter Try.func76, Try.ntmps76
    go_wp2_with fail
    clear hne
    go_loopw [5] (fun i wr => ∃ k : Nat, i = .int .i64 k ∧ k ≤ xs.length ∧ Hid (xs.take k = ys.take k) ∧ Hid (Below w.heap.size w wr)) (fun i _ => xs.length - (intOf i).toNat)
    case atStart => exact ⟨0, rfl, Nat.zero_le _, Lib.hid (by simp), Lib.hid (Below.refl _ _)⟩
    case round =>
      obtain ⟨k, rfl, hk, HT, HW⟩ := hrel
      by_cases hlt : (k : Int) < xs.length
      · have hlt2 : (k : Int) < ys.length := by have := HLN.out; omega
        obtain ⟨x, hx⟩ : ∃ x, xs[k]? = some x := ⟨_, List.getElem?_eq_getElem (by omega)⟩
        obtain ⟨y, hy⟩ : ∃ y, ys[k]? = some y := ⟨_, List.getElem?_eq_getElem (by omega)⟩
        obtain ⟨b, off, Ad, cd, rfl, hbc, e0, e1, f0, hs⟩ := rPart_at (HA.out.below HW.out (fun _ _ h => h.lt)) hx
        obtain ⟨b', off', Ad', cd', rfl, hbc', e0', e1', f0', hs'⟩ := rPart_at (HB.out.below HW.out (fun _ _ h => h.lt)) hy
        have HEQ := Lib.hid (fun h : x = y => take_eq_succ hx hy HT.out h)
        have HNE := Lib.hid (fun h : x ≠ y => ne_at hx hy h)
        have HD1 := Lib.hid (show Rep.byte.list.val Q wr.drew (.slice Ad x.data.length cd) x.data from Rep.val_drewN hs.val 1)
        have HD2 := Lib.hid (show Rep.byte.list.val Q' wr.drew (.slice Ad' y.data.length cd') y.data from Rep.val_drewN hs'.val 1)
        clear hx hy hbc hbc' f0 f0' hs hs'
        by_cases hcm : x.comp = y.comp
        · have hcb : (x.comp != y.comp) = false := by simp [hcm]
          by_cases hdt : x.data = y.data
          · have HS := Lib.hid (show decide (x.data = y.data) = true from decide_eq_true hdt)
            have HE := Lib.hid (HEQ.out (DPart.ext hcm hdt))
            clear hcm hdt
            go_wp2_with fail
            refine wp_region_held_drew (S := fun W => W = wr.drew) (by kernel_rfl) rfl (fun s0 => ?_)
            refine wpAnyH_take (i := 0) (v := .slice (some ⟨b, off, none⟩) xs.length c) rfl (by kernel_rfl) (by kernel_rfl) (by kernel_rfl) (fun _ _ _ h => h) (Or.inl ⟨by rfl, fun w' _ => by go_simp <;> omega⟩) s0 ?_
            go_simp
            refine wpAnyH_take (i := 1) (v := .int .i64 k) rfl (by kernel_rfl) (by kernel_rfl) (by kernel_rfl) (fun _ _ _ h => h) (Or.inl ⟨by rfl, fun w' _ => by go_simp <;> omega⟩) s0 ?_
            go_simp
            refine wpAnyH_take (i := 2) (v := .pointer (some ⟨b, off + k * 2, none⟩)) rfl (by kernel_rfl) (by kernel_rfl) (by kernel_rfl) (fun _ _ _ h => h) (Or.inl ⟨by rfl, fun w' _ => by go_simp <;> omega⟩) s0 ?_
            go_simp
            refine wpAnyH_take (i := 3) (v := .pointer (some ⟨b, off + k * 2, none⟩)) rfl (by kernel_rfl) (by kernel_rfl) (by kernel_rfl) (fun _ _ _ h => h) (Or.inl ⟨by rfl, fun w' _ => by go_simp <;> omega⟩) s0 ?_
            go_simp
            refine wpAnyH_take (i := 4) (v := .int .i64 x.comp) rfl (by kernel_rfl) (by kernel_rfl) (by kernel_rfl) (fun _ _ _ h => h) (Or.inl ⟨by rfl, fun w' h => by have h' : w' = wr.drew := h; subst h'; go_simp⟩) s0 ?_
            go_simp
            refine wpAnyH_take (i := 5) (v := .slice (some ⟨b', off', none⟩) ys.length d) rfl (by kernel_rfl) (by kernel_rfl) (by kernel_rfl) (fun _ _ _ h => h) (Or.inl ⟨by rfl, fun w' _ => by go_simp <;> omega⟩) s0 ?_
            go_simp
            refine wpAnyH_take (i := 6) (v := .int .i64 k) rfl (by kernel_rfl) (by kernel_rfl) (by kernel_rfl) (fun _ _ _ h => h) (Or.inl ⟨by rfl, fun w' _ => by go_simp <;> omega⟩) s0 ?_
            go_simp
            refine wpAnyH_take (i := 7) (v := .pointer (some ⟨b', off' + k * 2, none⟩)) rfl (by kernel_rfl) (by kernel_rfl) (by kernel_rfl) (fun _ _ _ h => h) (Or.inl ⟨by rfl, fun w' _ => by go_simp <;> omega⟩) s0 ?_
            go_simp
            refine wpAnyH_take (i := 8) (v := .pointer (some ⟨b', off' + k * 2, none⟩)) rfl (by kernel_rfl) (by kernel_rfl) (by kernel_rfl) (fun _ _ _ h => h) (Or.inl ⟨by rfl, fun w' _ => by go_simp <;> omega⟩) s0 ?_
            go_simp
            refine wpAnyH_take (i := 9) (v := .int .i64 y.comp) rfl (by kernel_rfl) (by kernel_rfl) (by kernel_rfl) (fun _ _ _ h => h) (Or.inl ⟨by rfl, fun w' h => by have h' : w' = wr.drew := h; subst h'; go_simp⟩) s0 ?_
            go_simp
            refine wpAnyH_take (i := 10) (v := .bool false) rfl (by kernel_rfl) (by kernel_rfl) (by kernel_rfl) (fun _ _ _ h => h) (Or.inl ⟨by rfl, fun w' _ => by go_simp <;> omega⟩) s0 ?_
            go_simp
            refine wpAnyH_take (i := 11) (v := .bool false) rfl (by kernel_rfl) (by kernel_rfl) (by kernel_rfl) (fun _ _ _ h => h) (Or.inl ⟨by rfl, fun w' _ => by go_simp <;> omega⟩) s0 ?_
            go_simp
            refine wpAnyH_take (i := 12) (v := .slice (some ⟨b, off, none⟩) xs.length c) rfl (by kernel_rfl) (by kernel_rfl) (by kernel_rfl) (fun _ _ _ h => h) (Or.inl ⟨by rfl, fun w' _ => by go_simp <;> omega⟩) s0 ?_
            go_simp
            refine wpAnyH_take (i := 13) (v := .int .i64 k) rfl (by kernel_rfl) (by kernel_rfl) (by kernel_rfl) (fun _ _ _ h => h) (Or.inl ⟨by rfl, fun w' _ => by go_simp <;> omega⟩) s0 ?_
            go_simp
            refine wpAnyH_take (i := 14) (v := .pointer (some ⟨b, off + k * 2, none⟩)) rfl (by kernel_rfl) (by kernel_rfl) (by kernel_rfl) (fun _ _ _ h => h) (Or.inl ⟨by rfl, fun w' _ => by go_simp <;> omega⟩) s0 ?_
            go_simp
            refine wpAnyH_take (i := 15) (v := .pointer (some ⟨b, off + k * 2 + 1, none⟩)) rfl (by kernel_rfl) (by kernel_rfl) (by kernel_rfl) (fun _ _ _ h => h) (Or.inl ⟨by rfl, fun w' _ => by go_simp <;> omega⟩) s0 ?_
            go_simp
            refine wpAnyH_take (i := 16) (v := .slice Ad x.data.length cd) rfl (by kernel_rfl) (by kernel_rfl) (by kernel_rfl) (fun _ _ _ h => h) (Or.inl ⟨by rfl, fun w' h => by have h' : w' = wr.drew := h; subst h'; go_simp⟩) s0 ?_
            go_simp
            refine wpAnyH_take (i := 17) (v := .slice (some ⟨b', off', none⟩) ys.length d) rfl (by kernel_rfl) (by kernel_rfl) (by kernel_rfl) (fun _ _ _ h => h) (Or.inl ⟨by rfl, fun w' _ => by go_simp <;> omega⟩) s0 ?_
            go_simp
            refine wpAnyH_take (i := 18) (v := .int .i64 k) rfl (by kernel_rfl) (by kernel_rfl) (by kernel_rfl) (fun _ _ _ h => h) (Or.inl ⟨by rfl, fun w' _ => by go_simp <;> omega⟩) s0 ?_
            go_simp
            refine wpAnyH_take (i := 19) (v := .pointer (some ⟨b', off' + k * 2, none⟩)) rfl (by kernel_rfl) (by kernel_rfl) (by kernel_rfl) (fun _ _ _ h => h) (Or.inl ⟨by rfl, fun w' _ => by go_simp <;> omega⟩) s0 ?_
            go_simp
            refine wpAnyH_take (i := 20) (v := .pointer (some ⟨b', off' + k * 2 + 1, none⟩)) rfl (by kernel_rfl) (by kernel_rfl) (by kernel_rfl) (fun _ _ _ h => h) (Or.inl ⟨by rfl, fun w' _ => by go_simp <;> omega⟩) s0 ?_
            go_simp
            refine wpAnyH_take (i := 21) (v := .slice Ad' y.data.length cd') rfl (by kernel_rfl) (by kernel_rfl) (by kernel_rfl) (fun _ _ _ h => h) (Or.inl ⟨by rfl, fun w' h => by have h' : w' = wr.drew := h; subst h'; go_simp⟩) s0 ?_
            go_simp
            refine wpAnyH_all (rs := [22]) (by kernel_rfl) (by simp) ?_
            intro i hi
            obtain rfl : i = 22 := by simpa using hi
            clear hi
            refine wpOp_step rfl (fun K hK => ?_)
            go_simp
            refine (sameBytes HD1.out HD2.out).mono ?_
            rintro en w' ⟨rfl, rfl⟩
            rw [HS.out]
            refine hK _ _ ⟨rfl, ?_⟩
            clear hK K
            refine wpAnyH_take (i := 23) (v := .bool false) rfl (by kernel_rfl) (by kernel_rfl) (by kernel_rfl) (fun _ _ _ h => h) (Or.inl ⟨by rfl, fun w' _ => by go_simp <;> omega⟩) s0 ?_
            go_simp
            refine wpAnyH_take (i := 24) (v := .bool false) rfl (by kernel_rfl) (by kernel_rfl) (by kernel_rfl) (fun _ _ _ h => h) (Or.inl ⟨by rfl, fun w' _ => by go_simp <;> omega⟩) s0 ?_
            go_simp
            refine wpAnyH_done (by kernel_rfl) ?_ _
            go_wp2_with fail
            exact ⟨⟨k + 1, by go_num, by omega, HE, Lib.hid HW.out.drew⟩, by simp [intOf]; omega⟩
          · have HS := Lib.hid (show decide (x.data = y.data) = false from decide_eq_false hdt)
            have HE := Lib.hid (show decide (xs = ys) = false from decide_eq_false (HNE.out (fun h => hdt (by rw [h]))))
            clear hcm hdt
            go_wp2_with fail
            refine wp_region_held_drew (S := fun W => W = wr.drew) (by kernel_rfl) rfl (fun s0 => ?_)
            refine wpAnyH_take (i := 0) (v := .slice (some ⟨b, off, none⟩) xs.length c) rfl (by kernel_rfl) (by kernel_rfl) (by kernel_rfl) (fun _ _ _ h => h) (Or.inl ⟨by rfl, fun w' _ => by go_simp <;> omega⟩) s0 ?_
            go_simp
            refine wpAnyH_take (i := 1) (v := .int .i64 k) rfl (by kernel_rfl) (by kernel_rfl) (by kernel_rfl) (fun _ _ _ h => h) (Or.inl ⟨by rfl, fun w' _ => by go_simp <;> omega⟩) s0 ?_
            go_simp
            refine wpAnyH_take (i := 2) (v := .pointer (some ⟨b, off + k * 2, none⟩)) rfl (by kernel_rfl) (by kernel_rfl) (by kernel_rfl) (fun _ _ _ h => h) (Or.inl ⟨by rfl, fun w' _ => by go_simp <;> omega⟩) s0 ?_
            go_simp
            refine wpAnyH_take (i := 3) (v := .pointer (some ⟨b, off + k * 2, none⟩)) rfl (by kernel_rfl) (by kernel_rfl) (by kernel_rfl) (fun _ _ _ h => h) (Or.inl ⟨by rfl, fun w' _ => by go_simp <;> omega⟩) s0 ?_
            go_simp
            refine wpAnyH_take (i := 4) (v := .int .i64 x.comp) rfl (by kernel_rfl) (by kernel_rfl) (by kernel_rfl) (fun _ _ _ h => h) (Or.inl ⟨by rfl, fun w' h => by have h' : w' = wr.drew := h; subst h'; go_simp⟩) s0 ?_
            go_simp
            refine wpAnyH_take (i := 5) (v := .slice (some ⟨b', off', none⟩) ys.length d) rfl (by kernel_rfl) (by kernel_rfl) (by kernel_rfl) (fun _ _ _ h => h) (Or.inl ⟨by rfl, fun w' _ => by go_simp <;> omega⟩) s0 ?_
            go_simp
            refine wpAnyH_take (i := 6) (v := .int .i64 k) rfl (by kernel_rfl) (by kernel_rfl) (by kernel_rfl) (fun _ _ _ h => h) (Or.inl ⟨by rfl, fun w' _ => by go_simp <;> omega⟩) s0 ?_
            go_simp
            refine wpAnyH_take (i := 7) (v := .pointer (some ⟨b', off' + k * 2, none⟩)) rfl (by kernel_rfl) (by kernel_rfl) (by kernel_rfl) (fun _ _ _ h => h) (Or.inl ⟨by rfl, fun w' _ => by go_simp <;> omega⟩) s0 ?_
            go_simp
            refine wpAnyH_take (i := 8) (v := .pointer (some ⟨b', off' + k * 2, none⟩)) rfl (by kernel_rfl) (by kernel_rfl) (by kernel_rfl) (fun _ _ _ h => h) (Or.inl ⟨by rfl, fun w' _ => by go_simp <;> omega⟩) s0 ?_
            go_simp
            refine wpAnyH_take (i := 9) (v := .int .i64 y.comp) rfl (by kernel_rfl) (by kernel_rfl) (by kernel_rfl) (fun _ _ _ h => h) (Or.inl ⟨by rfl, fun w' h => by have h' : w' = wr.drew := h; subst h'; go_simp⟩) s0 ?_
            go_simp
            refine wpAnyH_take (i := 10) (v := .bool false) rfl (by kernel_rfl) (by kernel_rfl) (by kernel_rfl) (fun _ _ _ h => h) (Or.inl ⟨by rfl, fun w' _ => by go_simp <;> omega⟩) s0 ?_
            go_simp
            refine wpAnyH_take (i := 11) (v := .bool false) rfl (by kernel_rfl) (by kernel_rfl) (by kernel_rfl) (fun _ _ _ h => h) (Or.inl ⟨by rfl, fun w' _ => by go_simp <;> omega⟩) s0 ?_
            go_simp
            refine wpAnyH_take (i := 12) (v := .slice (some ⟨b, off, none⟩) xs.length c) rfl (by kernel_rfl) (by kernel_rfl) (by kernel_rfl) (fun _ _ _ h => h) (Or.inl ⟨by rfl, fun w' _ => by go_simp <;> omega⟩) s0 ?_
            go_simp
            refine wpAnyH_take (i := 13) (v := .int .i64 k) rfl (by kernel_rfl) (by kernel_rfl) (by kernel_rfl) (fun _ _ _ h => h) (Or.inl ⟨by rfl, fun w' _ => by go_simp <;> omega⟩) s0 ?_
            go_simp
            refine wpAnyH_take (i := 14) (v := .pointer (some ⟨b, off + k * 2, none⟩)) rfl (by kernel_rfl) (by kernel_rfl) (by kernel_rfl) (fun _ _ _ h => h) (Or.inl ⟨by rfl, fun w' _ => by go_simp <;> omega⟩) s0 ?_
            go_simp
            refine wpAnyH_take (i := 15) (v := .pointer (some ⟨b, off + k * 2 + 1, none⟩)) rfl (by kernel_rfl) (by kernel_rfl) (by kernel_rfl) (fun _ _ _ h => h) (Or.inl ⟨by rfl, fun w' _ => by go_simp <;> omega⟩) s0 ?_
            go_simp
            refine wpAnyH_take (i := 16) (v := .slice Ad x.data.length cd) rfl (by kernel_rfl) (by kernel_rfl) (by kernel_rfl) (fun _ _ _ h => h) (Or.inl ⟨by rfl, fun w' h => by have h' : w' = wr.drew := h; subst h'; go_simp⟩) s0 ?_
            go_simp
            refine wpAnyH_take (i := 17) (v := .slice (some ⟨b', off', none⟩) ys.length d) rfl (by kernel_rfl) (by kernel_rfl) (by kernel_rfl) (fun _ _ _ h => h) (Or.inl ⟨by rfl, fun w' _ => by go_simp <;> omega⟩) s0 ?_
            go_simp
            refine wpAnyH_take (i := 18) (v := .int .i64 k) rfl (by kernel_rfl) (by kernel_rfl) (by kernel_rfl) (fun _ _ _ h => h) (Or.inl ⟨by rfl, fun w' _ => by go_simp <;> omega⟩) s0 ?_
            go_simp
            refine wpAnyH_take (i := 19) (v := .pointer (some ⟨b', off' + k * 2, none⟩)) rfl (by kernel_rfl) (by kernel_rfl) (by kernel_rfl) (fun _ _ _ h => h) (Or.inl ⟨by rfl, fun w' _ => by go_simp <;> omega⟩) s0 ?_
            go_simp
            refine wpAnyH_take (i := 20) (v := .pointer (some ⟨b', off' + k * 2 + 1, none⟩)) rfl (by kernel_rfl) (by kernel_rfl) (by kernel_rfl) (fun _ _ _ h => h) (Or.inl ⟨by rfl, fun w' _ => by go_simp <;> omega⟩) s0 ?_
            go_simp
            refine wpAnyH_take (i := 21) (v := .slice Ad' y.data.length cd') rfl (by kernel_rfl) (by kernel_rfl) (by kernel_rfl) (fun _ _ _ h => h) (Or.inl ⟨by rfl, fun w' h => by have h' : w' = wr.drew := h; subst h'; go_simp⟩) s0 ?_
            go_simp
            refine wpAnyH_all (rs := [22]) (by kernel_rfl) (by simp) ?_
            intro i hi
            obtain rfl : i = 22 := by simpa using hi
            clear hi
            refine wpOp_step rfl (fun K hK => ?_)
            go_simp
            refine (sameBytes HD1.out HD2.out).mono ?_
            rintro en w' ⟨rfl, rfl⟩
            rw [HS.out]
            refine hK _ _ ⟨rfl, ?_⟩
            clear hK K
            refine wpAnyH_take (i := 23) (v := .bool true) rfl (by kernel_rfl) (by kernel_rfl) (by kernel_rfl) (fun _ _ _ h => h) (Or.inl ⟨by rfl, fun w' _ => by go_simp <;> omega⟩) s0 ?_
            go_simp
            refine wpAnyH_take (i := 24) (v := .bool true) rfl (by kernel_rfl) (by kernel_rfl) (by kernel_rfl) (fun _ _ _ h => h) (Or.inl ⟨by rfl, fun w' _ => by go_simp <;> omega⟩) s0 ?_
            go_simp
            refine wpAnyH_done (by kernel_rfl) ?_ _
            go_wp2_with fail
            go_ret
            exact ⟨by rw [HE.out]; rfl, HW.out.drew⟩
        · have hcb : (x.comp != y.comp) = true := by simpa using hcm
          have HE := Lib.hid (show decide (xs = ys) = false from decide_eq_false (HNE.out (fun h => hcm (by rw [h]))))
          clear hcm
          go_wp2_with fail
          refine wp_region_held_drew (S := fun W => W = wr.drew) (by kernel_rfl) rfl (fun s0 => ?_)
          refine wpAnyH_take (i := 0) (v := .slice (some ⟨b, off, none⟩) xs.length c) rfl (by kernel_rfl) (by kernel_rfl) (by kernel_rfl) (fun _ _ _ h => h) (Or.inl ⟨by rfl, fun w' _ => by go_simp <;> omega⟩) s0 ?_
          go_simp
          refine wpAnyH_take (i := 1) (v := .int .i64 k) rfl (by kernel_rfl) (by kernel_rfl) (by kernel_rfl) (fun _ _ _ h => h) (Or.inl ⟨by rfl, fun w' _ => by go_simp <;> omega⟩) s0 ?_
          go_simp
          refine wpAnyH_take (i := 2) (v := .pointer (some ⟨b, off + k * 2, none⟩)) rfl (by kernel_rfl) (by kernel_rfl) (by kernel_rfl) (fun _ _ _ h => h) (Or.inl ⟨by rfl, fun w' _ => by go_simp <;> omega⟩) s0 ?_
          go_simp
          refine wpAnyH_take (i := 3) (v := .pointer (some ⟨b, off + k * 2, none⟩)) rfl (by kernel_rfl) (by kernel_rfl) (by kernel_rfl) (fun _ _ _ h => h) (Or.inl ⟨by rfl, fun w' _ => by go_simp <;> omega⟩) s0 ?_
          go_simp
          refine wpAnyH_take (i := 4) (v := .int .i64 x.comp) rfl (by kernel_rfl) (by kernel_rfl) (by kernel_rfl) (fun _ _ _ h => h) (Or.inl ⟨by rfl, fun w' h => by have h' : w' = wr.drew := h; subst h'; go_simp⟩) s0 ?_
          go_simp
          refine wpAnyH_take (i := 5) (v := .slice (some ⟨b', off', none⟩) ys.length d) rfl (by kernel_rfl) (by kernel_rfl) (by kernel_rfl) (fun _ _ _ h => h) (Or.inl ⟨by rfl, fun w' _ => by go_simp <;> omega⟩) s0 ?_
          go_simp
          refine wpAnyH_take (i := 6) (v := .int .i64 k) rfl (by kernel_rfl) (by kernel_rfl) (by kernel_rfl) (fun _ _ _ h => h) (Or.inl ⟨by rfl, fun w' _ => by go_simp <;> omega⟩) s0 ?_
          go_simp
          refine wpAnyH_take (i := 7) (v := .pointer (some ⟨b', off' + k * 2, none⟩)) rfl (by kernel_rfl) (by kernel_rfl) (by kernel_rfl) (fun _ _ _ h => h) (Or.inl ⟨by rfl, fun w' _ => by go_simp <;> omega⟩) s0 ?_
          go_simp
          refine wpAnyH_take (i := 8) (v := .pointer (some ⟨b', off' + k * 2, none⟩)) rfl (by kernel_rfl) (by kernel_rfl) (by kernel_rfl) (fun _ _ _ h => h) (Or.inl ⟨by rfl, fun w' _ => by go_simp <;> omega⟩) s0 ?_
          go_simp
          refine wpAnyH_take (i := 9) (v := .int .i64 y.comp) rfl (by kernel_rfl) (by kernel_rfl) (by kernel_rfl) (fun _ _ _ h => h) (Or.inl ⟨by rfl, fun w' h => by have h' : w' = wr.drew := h; subst h'; go_simp⟩) s0 ?_
          go_simp
          refine wpAnyH_take (i := 10) (v := .bool true) rfl (by kernel_rfl) (by kernel_rfl) (by kernel_rfl) (fun _ _ _ h => h) (Or.inl ⟨by rfl, fun w' _ => by go_simp <;> omega⟩) s0 ?_
          go_simp
          refine wpAnyH_take (i := 11) (v := .bool true) rfl (by kernel_rfl) (by kernel_rfl) (by kernel_rfl) (fun _ _ _ h => h) (Or.inl ⟨by rfl, fun w' _ => by go_simp <;> omega⟩) s0 ?_
          go_simp
          refine wpAnyH_take (i := 12) (v := undef) rfl (by kernel_rfl) (by kernel_rfl) (by kernel_rfl) (fun _ _ _ h => h) (Or.inr ⟨by rfl, rfl⟩) s0 ?_
          go_simp
          refine wpAnyH_take (i := 13) (v := undef) rfl (by kernel_rfl) (by kernel_rfl) (by kernel_rfl) (fun _ _ _ h => h) (Or.inr ⟨by rfl, rfl⟩) s0 ?_
          go_simp
          refine wpAnyH_take (i := 14) (v := undef) rfl (by kernel_rfl) (by kernel_rfl) (by kernel_rfl) (fun _ _ _ h => h) (Or.inr ⟨by rfl, rfl⟩) s0 ?_
          go_simp
          refine wpAnyH_take (i := 15) (v := undef) rfl (by kernel_rfl) (by kernel_rfl) (by kernel_rfl) (fun _ _ _ h => h) (Or.inr ⟨by rfl, rfl⟩) s0 ?_
          go_simp
          refine wpAnyH_take (i := 16) (v := undef) rfl (by kernel_rfl) (by kernel_rfl) (by kernel_rfl) (fun _ _ _ h => h) (Or.inr ⟨by rfl, rfl⟩) s0 ?_
          go_simp
          refine wpAnyH_take (i := 17) (v := undef) rfl (by kernel_rfl) (by kernel_rfl) (by kernel_rfl) (fun _ _ _ h => h) (Or.inr ⟨by rfl, rfl⟩) s0 ?_
          go_simp
          refine wpAnyH_take (i := 18) (v := undef) rfl (by kernel_rfl) (by kernel_rfl) (by kernel_rfl) (fun _ _ _ h => h) (Or.inr ⟨by rfl, rfl⟩) s0 ?_
          go_simp
          refine wpAnyH_take (i := 19) (v := undef) rfl (by kernel_rfl) (by kernel_rfl) (by kernel_rfl) (fun _ _ _ h => h) (Or.inr ⟨by rfl, rfl⟩) s0 ?_
          go_simp
          refine wpAnyH_take (i := 20) (v := undef) rfl (by kernel_rfl) (by kernel_rfl) (by kernel_rfl) (fun _ _ _ h => h) (Or.inr ⟨by rfl, rfl⟩) s0 ?_
          go_simp
          refine wpAnyH_take (i := 21) (v := undef) rfl (by kernel_rfl) (by kernel_rfl) (by kernel_rfl) (fun _ _ _ h => h) (Or.inr ⟨by rfl, rfl⟩) s0 ?_
          go_simp
          refine wpAnyH_take (i := 22) (v := undef) rfl (by kernel_rfl) (by kernel_rfl) (by kernel_rfl) (fun _ _ _ h => h) (Or.inr ⟨by rfl, rfl⟩) s0 ?_
          go_simp
          refine wpAnyH_take (i := 23) (v := undef) rfl (by kernel_rfl) (by kernel_rfl) (by kernel_rfl) (fun _ _ _ h => h) (Or.inr ⟨by rfl, rfl⟩) s0 ?_
          go_simp
          refine wpAnyH_take (i := 24) (v := .bool true) rfl (by kernel_rfl) (by kernel_rfl) (by kernel_rfl) (fun _ _ _ h => h) (Or.inl ⟨by rfl, fun w' _ => by go_simp <;> omega⟩) s0 ?_
          go_simp
          refine wpAnyH_done (by kernel_rfl) ?_ _
          go_wp2_with fail
          go_ret
          exact ⟨by rw [HE.out]; rfl, HW.out.drew⟩
      · obtain rfl : k = xs.length := by omega
        have HE := Lib.hid (show decide (xs = ys) = true by
          apply decide_eq_true
          have := HT.out
          rwa [List.take_length, HLN.out, List.take_length] at this)
        go_wp2_with fail
        go_ret
        exact ⟨by rw [HE.out]; rfl, HW.out⟩
  · have hne : ((xs.length : Int) != (ys.length : Int)) = true := by simp; omega
    have HE := Lib.hid (show decide (xs = ys) = false from decide_eq_false (fun h => hlen (by rw [h])))
    clear hlen
    go_enter Try.func76, Try.ntmps76
    go_wp2_with fail
    go_ret
    exact ⟨by rw [HE.out]; rfl, Below.refl _ _⟩
end Go.Proofs.Yteljibjbndpncaa
