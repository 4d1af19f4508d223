/- Walks: whether parts are the same. -/
import Derived.Test.YtfpmkenobphfnaaWeWatchSeek
namespace Go.Proofs.Ytfpmkenobphfnaa
open Go.RowKit

set_option maxRecDepth 100000 in
set_option maxHeartbeats 1000000 in
/-- watch.same -/
theorem wsame_calls {Q Q' : Nat → Prop} {w : World} {u v : Value} {x y : DPart} (hx : rPart.val Q w u x) (hy : rPart.val Q' w v y) :
    Calls Try.prog 141 #[u, v] w fun en w' => en = .returned (.bool (decide (x = y))) ∧ Below w.heap.size w w' := by
  obtain ⟨A, c, rfl, _, hd⟩ := rPart_val hx
  obtain ⟨B, d, rfl, _, he⟩ := rPart_val hy
  obtain ⟨W1, hW1⟩ : ∃ W1, (w.alloc (.cells #[.int .i64 x.comp, .slice A x.data.length c] 191)).alloc (.cells #[.int .i64 y.comp, .slice B y.data.length d] 191) = W1 := ⟨_, rfl⟩
  have hz : (w.alloc (.cells #[.int .i64 x.comp, .slice A x.data.length c] 191)).heap.size = w.heap.size + 1 := by simp
  have hb1 : Below w.heap.size w W1 := by rw [← hW1]; exact ((Below.refl _ _).alloc (Nat.le_refl _) _).alloc (by rw [hz]; omega) _
  have hr0 : W1.heap[w.heap.size]? = some (.cells #[.int .i64 x.comp, .slice A x.data.length c] 191 (0, 0)) := by rw [← hW1]; exact (heap_alloc_old _ _ (by rw [hz]; omega)).trans (heap_alloc_new w _)
  have hr1 : W1.heap[w.heap.size + 1]? = some (.cells #[.int .i64 y.comp, .slice B y.data.length d] 191 (0, 0)) := by rw [← hW1, ← hz]; exact heap_alloc_new _ _
  have e0 := cell_row hr0 0
  have e1 := cell_row hr0 1
  have f0 := cell_row hr1 0
  have f1 := cell_row hr1 1
  have HD := Lib.hid (hd.below hb1 (fun _ _ h => h.lt)).val
  have HE := Lib.hid (he.below hb1 (fun _ _ h => h.lt)).val
  have HB := Lib.hid hb1
  clear hx hy hd he hz hb1 hr0 hr1
  by_cases hc : x.comp = y.comp
  · have g0 : (x.comp == y.comp) = true := by simp [hc]
    have HK := Lib.hid (show decide (x = y) = decide (x.data = y.data) by rw [decide_eq_decide, DPart.ext_iff]; exact ⟨fun h => h.2, fun h => ⟨hc, h⟩⟩)
    clear hc
    go_enter Try.func141, Try.ntmps141
    go_wp2_with fail
    try rw [hW1]
    clear hW1
    try go_wp2_with fail
    refine (bytesEqual HD.out HE.out).mono ?_
    rintro en w2 ⟨rfl, hw⟩
    subst hw
    rw [← HK.out]
    go_wp2_with fail
    go_ret
    exact ⟨rfl, HB.out⟩
  · have g0 : (x.comp == y.comp) = false := beq_eq_false_iff_ne.2 hc
    have HK := Lib.hid (show decide (x = y) = false from decide_eq_false (fun h => hc (by rw [h])))
    clear hc
    go_enter Try.func141, Try.ntmps141
    go_wp2_with fail
    try rw [hW1]
    clear hW1
    try go_wp2_with fail
    go_ret
    exact ⟨by rw [HK.out]; rfl, HB.out⟩

theorem take_eq_succ {α : Type} {l m : List α} {k : Nat} {x y : α} (hx : l[k]? = some x) (hy : m[k]? = some y) (h : l.take k = m.take k) (he : x = y) : l.take (k + 1) = m.take (k + 1) := by
  obtain ⟨h1, rfl⟩ := List.getElem?_eq_some_iff.1 hx
  obtain ⟨h2, rfl⟩ := List.getElem?_eq_some_iff.1 hy
  rw [List.take_succ_eq_append_getElem h1, List.take_succ_eq_append_getElem h2, h, he]
theorem ne_at {α : Type} {l m : List α} {k : Nat} {x y : α} (hx : l[k]? = some x) (hy : m[k]? = some y) (he : x ≠ y) : l ≠ m := by
  rintro rfl
  rw [hx] at hy
  exact he (by injection hy)

set_option maxRecDepth 100000 in
set_option maxHeartbeats 2000000 in
/-- slices.EqualFunc of parts -/
theorem eqParts_calls {Q Q' : Nat → Prop} {w : World} {u v : Value} {xs ys : List DPart} (hx : rPart.list.val Q w u xs) (hy : rPart.list.val Q' w v ys) :
    Calls Try.prog 140 #[u, v, .func (.func 141) #[] #[]] w fun en w' => en = .returned (.bool (decide (xs = ys))) ∧ Below w.heap.size w w' := by
  obtain ⟨A, c, rfl, hc1, hc2, hA⟩ := Rep.val_list hx
  obtain ⟨B, d, rfl, hd1, hd2, hB⟩ := Rep.val_list hy
  unfold maxLen at hc2 hd2
  have HA := Lib.hid hA
  have HB := Lib.hid hB
  clear hx hy hA hB
  by_cases hlen : xs.length = ys.length
  · have hne : ((xs.length : Int) != (ys.length : Int)) = false := by simp [hlen]
    have hll : (xs.length : Int) = (ys.length : Int) := by omega
    have HLN := Lib.hid hlen
    clear hlen
    go_enter Try.func140, Try.ntmps140
    go_wp2_with fail
    clear hne hll
    go_loopw [17] (fun i wr => ∃ k : Nat, i = .int .i64 k ∧ k ≤ xs.length ∧ Hid (xs.take k = ys.take k) ∧ Hid (Below w.heap.size w wr)) (fun i _ => xs.length - (intOf i).toNat)
    case atStart => exact ⟨0, rfl, Nat.zero_le _, Lib.hid (by simp), Lib.hid (Below.refl _ _)⟩
    case round =>
      obtain ⟨k, rfl, hk, HT, HW⟩ := hrel
      by_cases hlt : (k : Int) < xs.length
      · have hlt2 : (k : Int) < ys.length := by have := HLN.out; omega
        obtain ⟨x, hx⟩ : ∃ x, xs[k]? = some x := ⟨_, List.getElem?_eq_getElem (by omega)⟩
        obtain ⟨y, hy⟩ : ∃ y, ys[k]? = some y := ⟨_, List.getElem?_eq_getElem (by omega)⟩
        obtain ⟨b, off, Ad, cd, rfl, hbc, e0, e1, f0, hs⟩ := rPart_at (HA.out.below HW.out (fun _ _ h => h.lt)) hx
        obtain ⟨b', off', Ad', cd', rfl, hbc', e0', e1', f0', hs'⟩ := rPart_at (HB.out.below HW.out (fun _ _ h => h.lt)) hy
        have HEQ := Lib.hid (fun h : x = y => take_eq_succ hx hy HT.out h)
        have HNE := Lib.hid (fun h : x ≠ y => ne_at hx hy h)
        obtain ⟨W3, hW3⟩ : ∃ W3, (wr.alloc (.cells #[.int .i64 x.comp, .slice Ad x.data.length cd] 191)).alloc (.cells #[.int .i64 y.comp, .slice Ad' y.data.length cd'] 191) = W3 := ⟨_, rfl⟩
        have hz : (wr.alloc (.cells #[.int .i64 x.comp, .slice Ad x.data.length cd] 191)).heap.size = wr.heap.size + 1 := by simp
        have hb2 : Below wr.heap.size wr (wr.alloc (.cells #[.int .i64 x.comp, .slice Ad x.data.length cd] 191)) := (Below.refl _ _).alloc (Nat.le_refl _) _
        have k0 := (hb2.cell (p := ⟨b', off' + k * 2, none⟩) hbc'.lt).trans e0'
        have k1 := (hb2.cell (p := ⟨b', off' + k * 2 + 1, none⟩) hbc'.lt).trans e1'
        have hb3 : Below wr.heap.size wr W3 := by rw [← hW3]; exact ((Below.refl _ _).alloc (Nat.le_refl _) _).alloc (by rw [hz]; omega) _
        have hr0 : W3.heap[wr.heap.size]? = some (.cells #[.int .i64 x.comp, .slice Ad x.data.length cd] 191 (0, 0)) := by rw [← hW3]; exact (heap_alloc_old _ _ (by rw [hz]; omega)).trans (heap_alloc_new wr _)
        have hr1 : W3.heap[wr.heap.size + 1]? = some (.cells #[.int .i64 y.comp, .slice Ad' y.data.length cd'] 191 (0, 0)) := by rw [← hW3, ← hz]; exact heap_alloc_new _ _
        have y0 := cell_row hr0 0
        have y1 := cell_row hr0 1
        have y2 := cell_row hr1 0
        have y3 := cell_row hr1 1
        have HV1 := Lib.hid (rPart_agg (x := x) f0 (hs.below hb3 (fun _ _ h => h.lt)))
        have HV2 := Lib.hid (rPart_agg (x := y) f0' (hs'.below hb3 (fun _ _ h => h.lt)))
        have HB3 := Lib.hid (HW.out.trans (hb3.mono HW.out.size))
        clear hx hy hbc hbc' f0 f0' hs hs' hz hb2 hb3 hr0 hr1
        go_wp2_with fail
        try rw [hW3]
        clear hW3
        try go_wp2_with fail
        refine (wsame_calls HV1.out HV2.out).mono ?_
        rintro en w4 ⟨rfl, hb4⟩
        have HB4 := Lib.hid (HB3.out.trans (hb4.mono HB3.out.size))
        clear hb4
        by_cases hxy : x = y
        · have HE := Lib.hid (HEQ.out hxy)
          rw [decide_eq_true hxy]
          clear hxy
          go_wp2_with fail
          exact ⟨⟨k + 1, by go_num, by omega, HE, HB4⟩, by simp [intOf]; omega⟩
        · have HE := Lib.hid (show decide (xs = ys) = false from decide_eq_false (HNE.out hxy))
          rw [decide_eq_false hxy]
          clear hxy
          go_wp2_with fail
          go_ret
          exact ⟨by rw [HE.out]; rfl, HB4.out⟩
      · obtain rfl : k = xs.length := by omega
        have HE := Lib.hid (show decide (xs = ys) = true by
          apply decide_eq_true
          have := HT.out
          rwa [List.take_length, HLN.out, List.take_length] at this)
        have hnl : ¬ (xs.length : Int) < ys.length := by have := HLN.out; omega
        go_wp2_with fail
        go_ret
        exact ⟨by rw [HE.out]; rfl, HW.out⟩
  · have hne : ((xs.length : Int) != (ys.length : Int)) = true := by simp; omega
    have HE := Lib.hid (show decide (xs = ys) = false from decide_eq_false (fun h => hlen (by rw [h])))
    clear hlen
    go_enter Try.func140, Try.ntmps140
    go_wp2_with fail
    go_ret
    exact ⟨by rw [HE.out]; rfl, Below.refl _ _⟩
end Go.Proofs.Ytfpmkenobphfnaa
