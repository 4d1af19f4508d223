/- Walk of a torn sector. -/
import Derived.Test.YthjjnlilpklacaaSupG4
namespace Go.Proofs.Ythjjnlilpklacaa
open Go.RowKit
open Extern.Stop (cell)

/-- A part of one sector over another. -/
def tearOf (a b : List UInt8) (k : Int) : List UInt8 :=
  if 0 < k then (cutTo b 512).take (8 * (min k 64).toNat) ++ (cutTo a 512).drop (8 * (min k 64).toNat)
  else if k < 0 then (cutTo a 512).take (8 * (64 + max k (-64)).toNat) ++ (cutTo b 512).drop (8 * (64 + max k (-64)).toNat)
  else cutTo a 512
theorem tear_length (a b : List UInt8) (k : Int) : (tearOf a b k).length = 512 := by
  unfold tearOf
  split
  · rw [List.length_append, List.length_take, List.length_drop, cutTo_length, cutTo_length]; omega
  · split
    · rw [List.length_append, List.length_take, List.length_drop, cutTo_length, cutTo_length]; omega
    · exact cutTo_length _ _
theorem splice_front {α : Type} {X Y : List α} {n : Nat} (hn : n ≤ Y.length) : splice X 0 (Y.take n) = Y.take n ++ X.drop n := by
  unfold splice
  rw [List.take_zero, List.nil_append, List.length_take, Nat.zero_add, Nat.min_eq_left hn]
theorem splice_back {α : Type} {X Y : List α} {n : Nat} (hx : X.length = Y.length) : splice X n (Y.drop n) = X.take n ++ Y.drop n := by
  unfold splice
  rw [List.length_drop]
  by_cases h : n ≤ Y.length
  · rw [List.drop_of_length_le (show X.length ≤ n + (Y.length - n) by omega), List.append_nil]
  · rw [List.drop_of_length_le (show X.length ≤ n + (Y.length - n) by omega), List.append_nil]

set_option maxRecDepth 100000 in
set_option maxHeartbeats 4000000 in
/-- seal.Tear -/
theorem tear_calls {Q Q' : Nat → Prop} {w : World} {v u : Value} {a b : List UInt8} {k : Int} (hx : Rep.byte.list.val Q w v a) (hy : Rep.byte.list.val Q' w u b) (hk : (Lit.int .i64 k).wf = true) :
    Calls Try.prog 70 #[v, u, .int .i64 k] w (Res Rep.byte.list (fun c => w.heap.size ≤ c) w (tearOf a b k)) := by
  have HX := Lib.hid hx
  have HY := Lib.hid (Rep.val_any hy)
  have hkb : -9223372036854775808 ≤ k ∧ k ≤ 9223372036854775807 := by simpa [Lit.wf, IntKind.min, IntKind.max, IntKind.signed, IntKind.bits] using hk
  obtain ⟨X, hX⟩ : ∃ X, X = cutTo a 512 := ⟨_, rfl⟩
  obtain ⟨Y, hY⟩ : ∃ Y, Y = cutTo b 512 := ⟨_, rfl⟩
  have HXE := Lib.hid hX
  have HYE := Lib.hid hY
  have HXL := Lib.hid (show X.length = 512 by rw [hX, cutTo_length])
  have HYL := Lib.hid (show Y.length = 512 by rw [hY, cutTo_length])
  have HT := Lib.hid (show tearOf a b k = if 0 < k then Y.take (8 * (min k 64).toNat) ++ X.drop (8 * (min k 64).toNat) else if k < 0 then X.take (8 * (64 + max k (-64)).toNat) ++ Y.drop (8 * (64 + max k (-64)).toNat) else X by rw [hX, hY]; rfl)
  clear hx hy hk hX hY
  by_cases h1 : 64 < k
  · have HT2 := Lib.hid (show tearOf a b k = Y.take 512 ++ X.drop 512 by rw [HT.out, if_pos (by omega), Int.min_eq_right (by omega)]; rfl)
    have h2 : 0 < k := by omega
    go_enter Try.func70, Try.ntmps70
    go_wp2_with fail
    refine (lecut_calls (n := 512) HX.out (by decide)).mono ?_
    rintro e w2 ⟨rfl, hg2, hb2⟩
    rw [← HXE.out] at hg2
    have G2 := Lib.hid hg2
    have B2 := Lib.hid hb2
    clear hg2 hb2
    go_wp2_with fail
    refine (lecut_calls (n := 512) (Rep.val_below HY.out B2.out (fun _ h _ => h)) (by decide)).mono ?_
    rintro e w3 ⟨rfl, hg3, hb3⟩
    rw [← HYE.out] at hg3
    have S2 := Lib.hid (show w.heap.size < w2.heap.size from IsC.lt ⟨_, _, _, G2.out⟩)
    have SX := Lib.hid (show SecAt w3 w.heap.size 5 X from ⟨(hb3.block _ S2.out).trans G2.out, HXL.out⟩)
    have SY := Lib.hid (show SecAt w3 w2.heap.size 5 Y from ⟨hg3, HYL.out⟩)
    have B3 := Lib.hid (B2.out.trans (hb3.mono B2.out.size))
    clear hg3 hb3
    generalize hg : w2.heap.size = g2 at *
    clear hg
    have HL := Lib.hid (show ((Y.take 512).map cell).length = Nat.min 512 512 by rw [List.length_map, List.length_take, HYL.out]; try exact Nat.min_comm _ _)
    have HF := Lib.hid (show 0 + ((Y.take 512).map cell).length ≤ (X.map cell).length by rw [List.length_map, List.length_take, List.length_map, HYL.out, HXL.out]; omega)
    have HC := Lib.hid (copy_from (X := Y.take 512) (c := 512) (A := some ⟨g2, 0, none⟩) (w := w3) (Q := fun b => b = g2) (by
      have h := SY.out.sl (a := 0) (n := 512) (c := 512) (by omega) (by omega) (by simp [maxLen])
      rw [List.drop_zero] at h
      obtain ⟨A', c', he, h1, h2, h3⟩ := Rep.val_list h
      simp only [Value.slice.injEq] at he
      obtain ⟨rfl, _, rfl⟩ := he
      exact ⟨h1, h2, h3⟩))
    go_wp2_with (refine wpList_copy_splice rfl (.tmp 21) (.tmp 22) 22 22 rfl 5 Try.underlying22 size5 (some ⟨w.heap.size, 0, none⟩) (some ⟨g2, 0, none⟩) 512 512 512 512 (by exact rfl) (by exact rfl) w.heap.size 0 (X.map cell) 5 SX.out.blk ((Y.take 512).map cell) HL.out (fun h => ⟨rfl, HC.out h⟩) HF.out (copy_one _) w.heap.size w B3.out (Nat.le_refl _) ?_; intro w5 hg5 hb5; have H5 := Lib.hid hg5.out; have D5 := Lib.hid hb5; clear hg5 hb5)
    have hs5 : SecAt w5 w.heap.size 5 (Y.take 512 ++ X.drop 512) := ⟨by rw [H5.out, ← splice_map, splice_front (by rw [HYL.out]; omega)], by rw [List.length_append, List.length_take, List.length_drop, HYL.out, HXL.out]; omega⟩
    go_ret
    refine ⟨_, rfl, ?_, D5.out⟩
    rw [HT2.out]
    have hsl := hs5.sl (a := 0) (n := 512) (c := 512) (by decide) (Nat.le_refl _) (by simp [maxLen])
    rw [List.drop_zero, List.take_of_length_le (by rw [hs5.len]; exact Nat.le_refl _)] at hsl
    exact Rep.val_mono (fun c hc _ => by rw [show c = w.heap.size from hc]; exact Nat.le_refl _) hsl
  · by_cases h2 : 0 < k
    · obtain ⟨m, rfl⟩ : ∃ m : Nat, k = m := ⟨k.toNat, by omega⟩
      obtain ⟨n, hn⟩ : ∃ n : Nat, n = 8 * m := ⟨_, rfl⟩
      have HT2 := Lib.hid (show tearOf a b (m : Int) = Y.take n ++ X.drop n by rw [HT.out, if_pos h2, Int.min_eq_left (by omega), Int.toNat_natCast, ← hn])
      have i1 : IntKind.i64.wrap ((m : Int) * 8) = (m : Int) * 8 := IntWalk.i64_in _ ⟨by omega, by omega⟩
      have i2 : ((m : Int) * 8).toNat = n := by omega
      have i3 : (m : Int) * 8 ≤ 512 := by omega
      have i4 : (0 : Int) ≤ (m : Int) * 8 := by omega
      have hn5 : n ≤ 512 := by omega
      clear hn
      go_enter Try.func70, Try.ntmps70
      go_wp2_with fail
      refine (lecut_calls (n := 512) HX.out (by decide)).mono ?_
      rintro e w2 ⟨rfl, hg2, hb2⟩
      rw [← HXE.out] at hg2
      have G2 := Lib.hid hg2
      have B2 := Lib.hid hb2
      clear hg2 hb2
      go_wp2_with fail
      refine (lecut_calls (n := 512) (Rep.val_below HY.out B2.out (fun _ h _ => h)) (by decide)).mono ?_
      rintro e w3 ⟨rfl, hg3, hb3⟩
      rw [← HYE.out] at hg3
      have S2 := Lib.hid (show w.heap.size < w2.heap.size from IsC.lt ⟨_, _, _, G2.out⟩)
      have SX := Lib.hid (show SecAt w3 w.heap.size 5 X from ⟨(hb3.block _ S2.out).trans G2.out, HXL.out⟩)
      have SY := Lib.hid (show SecAt w3 w2.heap.size 5 Y from ⟨hg3, HYL.out⟩)
      have B3 := Lib.hid (B2.out.trans (hb3.mono B2.out.size))
      clear hg3 hb3
      generalize hg : w2.heap.size = g2 at *
      clear hg
      have HL := Lib.hid (show ((Y.take n).map cell).length = Nat.min 512 n by rw [List.length_map, List.length_take, HYL.out]; try exact Nat.min_comm _ _)
      have HF := Lib.hid (show 0 + ((Y.take n).map cell).length ≤ (X.map cell).length by rw [List.length_map, List.length_take, List.length_map, HYL.out, HXL.out]; omega)
      have HC := Lib.hid (copy_from (X := Y.take n) (c := 512) (A := some ⟨g2, 0, none⟩) (w := w3) (Q := fun b => b = g2) (by
        have h := SY.out.sl (a := 0) (n := n) (c := 512) (by omega) (by omega) (by simp [maxLen])
        rw [List.drop_zero] at h
        obtain ⟨A', c', he, h1, h2, h3⟩ := Rep.val_list h
        simp only [Value.slice.injEq] at he
        obtain ⟨rfl, _, rfl⟩ := he
        exact ⟨h1, h2, h3⟩))
      go_wp2_with (refine wpList_copy_splice rfl (.tmp 21) (.tmp 22) 22 22 rfl 5 Try.underlying22 size5 (some ⟨w.heap.size, 0, none⟩) (some ⟨g2, 0, none⟩) n 512 512 512 (by exact rfl) (by exact rfl) w.heap.size 0 (X.map cell) 5 SX.out.blk ((Y.take n).map cell) HL.out (fun h => ⟨rfl, HC.out h⟩) HF.out (copy_one _) w.heap.size w B3.out (Nat.le_refl _) ?_; intro w5 hg5 hb5; have H5 := Lib.hid hg5.out; have D5 := Lib.hid hb5; clear hg5 hb5)
      have hs5 : SecAt w5 w.heap.size 5 (Y.take n ++ X.drop n) := ⟨by rw [H5.out, ← splice_map, splice_front (by rw [HYL.out]; omega)], by rw [List.length_append, List.length_take, List.length_drop, HYL.out, HXL.out]; omega⟩
      go_ret
      refine ⟨_, rfl, ?_, D5.out⟩
      rw [HT2.out]
      have hsl := hs5.sl (a := 0) (n := 512) (c := 512) (by decide) (Nat.le_refl _) (by simp [maxLen])
      rw [List.drop_zero, List.take_of_length_le (by rw [hs5.len]; exact Nat.le_refl _)] at hsl
      exact Rep.val_mono (fun c hc _ => by rw [show c = w.heap.size from hc]; exact Nat.le_refl _) hsl
    · by_cases h3 : k < 0
      · by_cases h4 : k < -64
        · skip
          have HT2 := Lib.hid (show tearOf a b k = X.take 0 ++ Y.drop 0 by rw [HT.out, if_neg h2, if_pos h3, Int.max_eq_right (by omega)]; rfl)
          go_enter Try.func70, Try.ntmps70
          go_wp2_with fail
          refine (lecut_calls (n := 512) HX.out (by decide)).mono ?_
          rintro e w2 ⟨rfl, hg2, hb2⟩
          rw [← HXE.out] at hg2
          have G2 := Lib.hid hg2
          have B2 := Lib.hid hb2
          clear hg2 hb2
          go_wp2_with fail
          refine (lecut_calls (n := 512) (Rep.val_below HY.out B2.out (fun _ h _ => h)) (by decide)).mono ?_
          rintro e w3 ⟨rfl, hg3, hb3⟩
          rw [← HYE.out] at hg3
          have S2 := Lib.hid (show w.heap.size < w2.heap.size from IsC.lt ⟨_, _, _, G2.out⟩)
          have SX := Lib.hid (show SecAt w3 w.heap.size 5 X from ⟨(hb3.block _ S2.out).trans G2.out, HXL.out⟩)
          have SY := Lib.hid (show SecAt w3 w2.heap.size 5 Y from ⟨hg3, HYL.out⟩)
          have B3 := Lib.hid (B2.out.trans (hb3.mono B2.out.size))
          clear hg3 hb3
          generalize hg : w2.heap.size = g2 at *
          clear hg
          have HN := Lib.hid (show ((Y.drop 0).map cell).length = Nat.min (512 - 0) (512 - 0) by rw [List.length_map, List.length_drop, HYL.out]; try exact (Nat.min_self _).symm)
          have HFIT := Lib.hid (show 0 + ((Y.drop 0).map cell).length ≤ ((X.map cell).toArray : Array Value).size by simp [HXL.out, HYL.out] <;> omega)
          have HSRC := Lib.hid (show ∀ j x, ((Y.drop 0).map cell)[j]? = some x → w3.drew.cell? ((⟨g2, 0 + 0, none⟩ : Addr).add j) = some x from fun j x hj => by
            rw [Addr.add_mid]
            show w3.cell? ⟨g2, 0 + 0 + j, none⟩ = some x
            rw [cell_of_row _ _ _ _ _ _ SY.out.blk, ← hj]
            first | simp | simp [List.getElem?_drop, Nat.add_comm])
          have HSEC := Lib.hid (show w3.drew.heap[w.heap.size]? = some (.cells (X.map cell).toArray 5 (0, 0)) from SX.out.blk)
          go_wp2_with fail
          go_region_law (refine step_copy_set rfl (.tmp 33) (.tmp 36) 22 22 rfl 5 Try.underlying22 size5 w.heap.size (0 + 0) (512 - 0) (512 - 0) ⟨g2, 0 + 0, none⟩ (512 - 0) (512 - 0) (by exact rfl) (by exact rfl) (X.map cell).toArray 5 HSEC.out ((Y.drop 0).map cell) HN.out HSRC.out (by simpa using HFIT.out) (copy_one _) ?_)
          have hW := setRow_heap w3.drew w.heap.size _ (splice ((X.map cell).toArray : Array Value).toList 0 ((Y).map cell)).toArray 5 _ HSEC.out
          have hs5 : SecAt (w3.drew.setRow w.heap.size (splice ((X.map cell).toArray : Array Value).toList 0 ((Y).map cell)).toArray) w.heap.size 5 (X.take 0 ++ Y.drop 0) := ⟨by
            rw [hW]
            show some (Obj.cells (splice (X.map cell) 0 ((Y).map cell)).toArray 5 (0, 0)) = _
            rw [← splice_map, show splice X 0 (Y) = X.take 0 ++ Y.drop 0 by first | exact splice_back (by rw [HXL.out, HYL.out]) | (rw [← splice_back (n := 0) (by rw [HXL.out, HYL.out])]; simp)], by rw [List.length_append, List.length_take, List.length_drop, HXL.out, HYL.out]; omega⟩
          have hb5 : Below w.heap.size w (w3.drew.setRow w.heap.size (splice ((X.map cell).toArray : Array Value).toList 0 ((Y).map cell)).toArray) := ⟨B3.out.os, B3.out.tape, B3.out.output, by simp [World.setRow]; exact B3.out.size, fun b hb => (setRow_other w3.drew w.heap.size b _ (by omega)).trans (B3.out.block b hb)⟩
          clear hW
          generalize w3.drew.setRow w.heap.size (splice ((X.map cell).toArray : Array Value).toList 0 ((Y).map cell)).toArray = W7 at *
          have HS5 := Lib.hid hs5
          have HB5 := Lib.hid hb5
          clear hs5 hb5
          go_wp2_with fail
          go_ret
          refine ⟨_, rfl, ?_, HB5.out⟩
          rw [HT2.out]
          have hsl := HS5.out.sl (a := 0) (n := 512) (c := 512) (by decide) (Nat.le_refl _) (by simp [maxLen])
          rw [List.drop_zero, List.take_of_length_le (by rw [HS5.out.len]; exact Nat.le_refl _)] at hsl
          exact Rep.val_mono (fun c hc _ => by rw [show c = w.heap.size from hc]; exact Nat.le_refl _) hsl
        · obtain ⟨m, hm⟩ : ∃ m : Nat, 64 + k = m := ⟨(64 + k).toNat, by omega⟩
          obtain rfl : k = (m : Int) - 64 := by omega
          obtain ⟨n, hn⟩ : ∃ n : Nat, n = 8 * m := ⟨_, rfl⟩
          have HT2 := Lib.hid (show tearOf a b ((m : Int) - 64) = X.take n ++ Y.drop n by rw [HT.out, if_neg h2, if_pos h3, Int.max_eq_left (by omega), hm, Int.toNat_natCast, ← hn])
          have i1 : IntKind.i64.wrap ((m : Int) * 8) = (m : Int) * 8 := IntWalk.i64_in _ ⟨by omega, by omega⟩
          have i2 : ((m : Int) * 8).toNat = n := by omega
          have i3 : (m : Int) * 8 ≤ 512 := by omega
          have i4 : (0 : Int) ≤ (m : Int) * 8 := by omega
          have hn5 : n ≤ 512 := by omega
          have i9 : ¬ 512 = n := by omega
          have i6 : IntKind.i64.wrap (64 + ((m : Int) - 64)) = (m : Int) := by rw [show 64 + ((m : Int) - 64) = (m : Int) by omega]; exact IntWalk.i64_in _ ⟨by omega, by omega⟩
          have i7 : ¬ (m : Int) - 64 < -64 := by omega
          have i8 : (m : Int) - 64 < 0 := by omega
          clear hn hm
          go_enter Try.func70, Try.ntmps70
          go_wp2_with fail
          refine (lecut_calls (n := 512) HX.out (by decide)).mono ?_
          rintro e w2 ⟨rfl, hg2, hb2⟩
          rw [← HXE.out] at hg2
          have G2 := Lib.hid hg2
          have B2 := Lib.hid hb2
          clear hg2 hb2
          go_wp2_with fail
          refine (lecut_calls (n := 512) (Rep.val_below HY.out B2.out (fun _ h _ => h)) (by decide)).mono ?_
          rintro e w3 ⟨rfl, hg3, hb3⟩
          rw [← HYE.out] at hg3
          have S2 := Lib.hid (show w.heap.size < w2.heap.size from IsC.lt ⟨_, _, _, G2.out⟩)
          have SX := Lib.hid (show SecAt w3 w.heap.size 5 X from ⟨(hb3.block _ S2.out).trans G2.out, HXL.out⟩)
          have SY := Lib.hid (show SecAt w3 w2.heap.size 5 Y from ⟨hg3, HYL.out⟩)
          have B3 := Lib.hid (B2.out.trans (hb3.mono B2.out.size))
          clear hg3 hb3
          generalize hg : w2.heap.size = g2 at *
          clear hg
          have HN := Lib.hid (show ((Y.drop n).map cell).length = Nat.min (512 - n) (512 - n) by rw [List.length_map, List.length_drop, HYL.out]; try exact (Nat.min_self _).symm)
          have HFIT := Lib.hid (show n + ((Y.drop n).map cell).length ≤ ((X.map cell).toArray : Array Value).size by simp [HXL.out, HYL.out] <;> omega)
          have HSRC := Lib.hid (show ∀ j x, ((Y.drop n).map cell)[j]? = some x → w3.drew.cell? ((⟨g2, n, none⟩ : Addr).add j) = some x from fun j x hj => by
            rw [Addr.add_mid]
            show w3.cell? ⟨g2, n + j, none⟩ = some x
            rw [cell_of_row _ _ _ _ _ _ SY.out.blk, ← hj]
            first | simp | simp [List.getElem?_drop, Nat.add_comm])
          have HSEC := Lib.hid (show w3.drew.heap[w.heap.size]? = some (.cells (X.map cell).toArray 5 (0, 0)) from SX.out.blk)
          go_wp2_with fail
          go_region_law (refine step_copy_set rfl (.tmp 33) (.tmp 36) 22 22 rfl 5 Try.underlying22 size5 w.heap.size n (512 - n) (512 - n) ⟨g2, n, none⟩ (512 - n) (512 - n) (by exact rfl) (by exact rfl) (X.map cell).toArray 5 HSEC.out ((Y.drop n).map cell) HN.out HSRC.out (by simpa using HFIT.out) (copy_one _) ?_)
          have hW := setRow_heap w3.drew w.heap.size _ (splice ((X.map cell).toArray : Array Value).toList n ((Y.drop n).map cell)).toArray 5 _ HSEC.out
          have hs5 : SecAt (w3.drew.setRow w.heap.size (splice ((X.map cell).toArray : Array Value).toList n ((Y.drop n).map cell)).toArray) w.heap.size 5 (X.take n ++ Y.drop n) := ⟨by
            rw [hW]
            show some (Obj.cells (splice (X.map cell) n ((Y.drop n).map cell)).toArray 5 (0, 0)) = _
            rw [← splice_map, show splice X n (Y.drop n) = X.take n ++ Y.drop n by first | exact splice_back (by rw [HXL.out, HYL.out]) | (rw [← splice_back (n := n) (by rw [HXL.out, HYL.out])]; simp)], by rw [List.length_append, List.length_take, List.length_drop, HXL.out, HYL.out]; omega⟩
          have hb5 : Below w.heap.size w (w3.drew.setRow w.heap.size (splice ((X.map cell).toArray : Array Value).toList n ((Y.drop n).map cell)).toArray) := ⟨B3.out.os, B3.out.tape, B3.out.output, by simp [World.setRow]; exact B3.out.size, fun b hb => (setRow_other w3.drew w.heap.size b _ (by omega)).trans (B3.out.block b hb)⟩
          clear hW
          rw [List.map_drop] at hs5 hb5
          replace hs5 : SecAt (w3.drew.setRow w.heap.size (splice (X.map cell) n ((Y.map cell).drop n)).toArray) w.heap.size 5 (X.take n ++ Y.drop n) := hs5
          replace hb5 : Below w.heap.size w (w3.drew.setRow w.heap.size (splice (X.map cell) n ((Y.map cell).drop n)).toArray) := hb5
          generalize w3.drew.setRow w.heap.size (splice (X.map cell) n ((Y.map cell).drop n)).toArray = W7 at *
          have HS5 := Lib.hid hs5
          have HB5 := Lib.hid hb5
          clear hs5 hb5
          go_wp2_with fail
          go_ret
          refine ⟨_, rfl, ?_, HB5.out⟩
          rw [HT2.out]
          have hsl := HS5.out.sl (a := 0) (n := 512) (c := 512) (by decide) (Nat.le_refl _) (by simp [maxLen])
          rw [List.drop_zero, List.take_of_length_le (by rw [HS5.out.len]; exact Nat.le_refl _)] at hsl
          exact Rep.val_mono (fun c hc _ => by rw [show c = w.heap.size from hc]; exact Nat.le_refl _) hsl
      · obtain rfl : k = 0 := by omega
        have HT2 := Lib.hid (show tearOf a b 0 = X from HT.out)
        go_enter Try.func70, Try.ntmps70
        go_wp2_with fail
        refine (lecut_calls (n := 512) HX.out (by decide)).mono ?_
        rintro e w2 ⟨rfl, hg2, hb2⟩
        rw [← HXE.out] at hg2
        have G2 := Lib.hid hg2
        have B2 := Lib.hid hb2
        clear hg2 hb2
        go_wp2_with fail
        refine (lecut_calls (n := 512) (Rep.val_below HY.out B2.out (fun _ h _ => h)) (by decide)).mono ?_
        rintro e w3 ⟨rfl, hg3, hb3⟩
        rw [← HYE.out] at hg3
        have S2 := Lib.hid (show w.heap.size < w2.heap.size from IsC.lt ⟨_, _, _, G2.out⟩)
        have SX := Lib.hid (show SecAt w3 w.heap.size 5 X from ⟨(hb3.block _ S2.out).trans G2.out, HXL.out⟩)
        have SY := Lib.hid (show SecAt w3 w2.heap.size 5 Y from ⟨hg3, HYL.out⟩)
        have B3 := Lib.hid (B2.out.trans (hb3.mono B2.out.size))
        clear hg3 hb3
        generalize hg : w2.heap.size = g2 at *
        clear hg
        go_wp2_with fail
        go_ret
        refine ⟨_, rfl, ?_, B3.out⟩
        rw [HT2.out]
        have hsl := SX.out.sl (a := 0) (n := 512) (c := 512) (by decide) (Nat.le_refl _) (by simp [maxLen])
        rw [List.drop_zero, List.take_of_length_le (by rw [SX.out.len]; exact Nat.le_refl _)] at hsl
        exact Rep.val_mono (fun c hc _ => by rw [show c = w.heap.size from hc]; exact Nat.le_refl _) hsl
end Go.Proofs.Ythjjnlilpklacaa
