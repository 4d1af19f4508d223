/- Walks of a sealed sector's parts: a number laid at a place, the check sum; the nearest number. -/
import Derived.Test.YteljibjbndpncaaWfG10
import Derived.Test.YteljibjbndpncaaWfG5
import Derived.Test.YteljibjbndpncaaWfG7
import Derived.Deep.WholeRow
import Derived.Deep.RegionLaw
import Derived.Deep.MidRow
import Derived.OwnWalk
import Derived.Stop.BytesEq
namespace Go.Proofs.Yteljibjbndpncaa
open Go.RowKit
open Extern.Stop (cell)

theorem cells_of (l : List UInt8) : (l.map fun x => Value.int .u8 (x.toNat : Int)) = l.map cell := rfl
/-- Block S holds the bytes L. -/
structure SecAt (w : World) (S : Nat) (t : TypeId) (L : List UInt8) : Prop where
  blk : w.heap[S]? = some (.cells (L.map cell).toArray t (0, 0))
  len : L.length = 512
theorem SecAt.lt {w : World} {S : Nat} {t : TypeId} {L : List UInt8} (h : SecAt w S t L) : S < w.heap.size := IsC.lt ⟨_, _, _, h.blk⟩
theorem SecAt.keep {w w' : World} {S : Nat} {t : TypeId} {L : List UInt8} (h : SecAt w S t L) (hk : w'.heap[S]? = w.heap[S]?) : SecAt w' S t L := ⟨hk.trans h.blk, h.len⟩
theorem SecAt.below {w w' : World} {S : Nat} {t : TypeId} {L : List UInt8} (h : SecAt w S t L) (hb : Below w.heap.size w w') : SecAt w' S t L := h.keep (hb.block S h.lt)
theorem SecAt.sl {w : World} {S : Nat} {t : TypeId} {L : List UInt8} (h : SecAt w S t L) {a n c : Nat} (hn : a + n ≤ 512) (hc : n ≤ c) (hm : c ≤ maxLen) :
    Rep.byte.list.val (fun b => b = S) w (.slice (some ⟨S, a, none⟩) n c) ((L.drop a).take n) := by
  have hl := h.len
  refine Rep.list_val (by rw [List.length_take, List.length_drop]; omega) hc hm ⟨_, Rep.byte_row _, fun _ => ⟨S, a, rfl, rfl, ⟨_, _, _, h.blk⟩, fun j u hj => ?_⟩⟩
  rw [cell_of_row _ _ _ _ _ _ h.blk, ← hj, cells_of]
  have hj' := (List.getElem?_eq_some_iff.1 hj).1
  rw [List.length_map, List.length_take, List.length_drop] at hj'
  simp only [List.getElem?_toArray, List.getElem?_map, List.getElem?_take, List.getElem?_drop]
  rw [if_pos (by omega)]

set_option maxRecDepth 100000 in
/-- seal.near -/
theorem near_calls {n high : Int} (h0 : 0 ≤ high) (w : World) :
    Calls Try.prog 131 #[.int .i64 n, .int .i64 high] w fun e w' => e = .returned (.int .i64 (near n high)) ∧ w' = w := by
  by_cases h1 : n < 0
  · have HF := Lib.hid (show near n high = 0 by unfold near; rw [if_pos h1])
    have h2 : n ≤ high := by omega
    go_enter Try.func131, Try.ntmps131
    go_wp2_with fail
    all_goals (go_ret; exact ⟨by rw [HF.out]; first | rfl | exact congrArg (fun i => Ending.returned (.int .i64 i)) (by omega), rfl⟩)
  · by_cases h2 : high < n
    · have HF := Lib.hid (show near n high = high by unfold near; rw [if_neg h1, if_pos h2])
      go_enter Try.func131, Try.ntmps131
      go_wp2_with fail
      all_goals (go_ret; exact ⟨by rw [HF.out]; first | rfl | exact congrArg (fun i => Ending.returned (.int .i64 i)) (by omega), rfl⟩)
    · have HF := Lib.hid (show near n high = n by unfold near; rw [if_neg h1, if_neg h2])
      go_enter Try.func131, Try.ntmps131
      go_wp2_with fail
      all_goals (go_ret; exact ⟨by rw [HF.out]; first | rfl | exact congrArg (fun i => Ending.returned (.int .i64 i)) (by omega), rfl⟩)
theorem size5 : (Try.prog.info? 5).map (·.size) = some 1 := by kernel_rfl
theorem size_sector : (Try.prog.info? 185).map (·.size) = some 512 := by kernel_rfl
theorem zero_sector : (Try.prog.info? 185).map (fun i => (i.zero, i.size)) = some (some (.agg ((zeros 512).map cell).toArray), 512) := by kernel_rfl

theorem copy_from {Q : Nat → Prop} {w : World} {A : Option Addr} {c : Nat} {X : List UInt8} (h : Rep.byte.Sl Q w A c X) (h0 : 0 < (X.map cell).length) : ∃ ad, A = some ad ∧ ∀ j v, (X.map cell)[j]? = some v → w.cell? (ad.add j) = some v := by
  obtain ⟨_, _, es, h1, h2⟩ := h
  obtain ⟨b, off, hA, _, _, hc⟩ := h2 (by simpa using h0)
  refine ⟨_, hA, fun j v hj => ?_⟩
  rw [Addr.add_mid]
  exact hc j v (by rw [Rep.row_byte h1]; exact hj)
theorem copy_len {X : List UInt8} {a : Nat} (h : a + X.length ≤ 512) : (X.map cell).length = Nat.min X.length (512 - a) := by
  rw [List.length_map]; exact (Nat.min_eq_left (by omega)).symm
theorem copy_fit {w : World} {S a : Nat} {t : TypeId} {L X : List UInt8} (h : SecAt w S t L) (hw : a + X.length ≤ 512) : a + (X.map cell).length ≤ (L.map cell).length := by
  rw [List.length_map, List.length_map, h.len]; exact hw
theorem copy_one (X : List UInt8) : ∀ v ∈ X.map cell, v.oneCell' = true := by
  intro v hv
  obtain ⟨x, _, rfl⟩ := List.mem_map.1 hv
  rfl
theorem sec_copied {w w' : World} {S a : Nat} {t : TypeId} {L X : List UInt8} (h : SecAt w S t L) (hw : a + X.length ≤ 512) (hg : w'.heap[S]? = some (.cells (splice (L.map cell) a (X.map cell)).toArray t (0, 0))) : SecAt w' S t (splice L a X) :=
  ⟨by rw [hg, splice_map], by rw [length_splice _ _ _ (by rw [h.len]; exact hw)]; exact h.len⟩

set_option maxRecDepth 100000 in
set_option maxHeartbeats 1000000 in
/-- (*seal.sector).num -/
theorem secnum_calls {w : World} {S a : Nat} {t : TypeId} {L : List UInt8} {width n : Int} (h : SecAt w S t L) (ha : a < 512) (hw : a + (num width n).length ≤ 512) (hwf1 : (Lit.int .i64 width).wf = true) (hwf : (Lit.int .i64 n).wf = true) :
    Calls Try.prog 132 #[.pointer (some ⟨S, 0, none⟩), .int .i64 a, .int .i64 width, .int .i64 n] w fun e w' => e = .returned (.tuple #[]) ∧ SecAt w' S t (splice L a (num width n)) ∧ Below S w w' := by
  have H := Lib.hid h
  obtain ⟨X, hX⟩ : ∃ X, X = num width n := ⟨_, rfl⟩
  rw [← hX] at hw ⊢
  have HX := Lib.hid hX
  have HW := Lib.hid hw
  have HWF := Lib.hid hwf
  have HWF1 := Lib.hid hwf1
  have HZ := Lib.hid (show ∀ w : World, Rep.byte.list.val (fun _ => True) w (.slice none 0 0) ([] : List UInt8) from fun w => Rep.val_nil (by simp [maxLen]))
  clear h hX hw hwf hwf1
  have ha1 : (a : Int) ≤ 512 := by omega
  have ha2 : ¬ 512 = a := by omega
  go_enter Try.func132, Try.ntmps132
  go_wp2_with fail
  go_region_law (first
    | (go_simp; go_at_call 93; refine (put_calls (HZ.out _) (by simp) HWF1.out HWF.out).mono ?_; rintro e w1 ⟨u, rfl, hu, hb1⟩; rw [← HX.out, List.nil_append] at hu; obtain ⟨A5, c5, rfl, hs5⟩ := Rep.val_sl (Rep.acc_fresh hu); have CP := Lib.hid (copy_from hs5); have HB1 := Lib.hid (show Below S w w1 from (Below.refl S w).drew.trans (hb1.mono (Nat.le_of_lt H.out.lt))); have H1 := Lib.hid (show SecAt w1 S t L from H.out.keep (hb1.block _ H.out.lt)); clear hu hb1 hs5)
    | (refine step_copy_splice rfl (.tmp 11) (.tmp 14) 33 33 rfl 5 Try.underlying33 size5 (some ⟨S, a, none⟩) A5 (512 - a) (512 - a) X.length c5 (by exact rfl) (by exact rfl) S a (L.map cell) t H1.out.blk (X.map cell) (copy_len HW.out) (fun h => ⟨rfl, CP.out h⟩) (copy_fit H.out HW.out) (copy_one X) S w HB1.out (Nat.le_refl _) ?_; intro w4 hg4 hb4))
  go_wp2_with fail
  exact ⟨rfl, .tuple #[], by simp [results], rfl, sec_copied H1.out HW.out hg4.out, hb4⟩

/-- A slice of two slices. -/
theorem val_two {w : World} {S : Nat} {t : TypeId} {L : List UInt8} (h : SecAt w S t L) (t2 : TypeId) :
    Rep.byte.list.list.val (fun _ => True) (w.alloc (.cells #[.slice (some ⟨S, 0, none⟩) 16 512, .slice (some ⟨S, 20, none⟩) 492 492] t2)) (.slice (some ⟨w.heap.size, 0, none⟩) 2 2) [L.take 16, L.drop 20] := by
  have hn := heap_alloc_new w (.cells #[.slice (some ⟨S, 0, none⟩) 16 512, .slice (some ⟨S, 20, none⟩) 492 492] t2)
  have hl := h.len
  have h2 : SecAt (w.alloc (.cells #[.slice (some ⟨S, 0, none⟩) 16 512, .slice (some ⟨S, 20, none⟩) 492 492] t2)) S t L := h.keep (heap_alloc_old _ _ h.lt)
  have v1 := h2.sl (a := 0) (n := 16) (c := 512) (by omega) (by omega) (by simp [maxLen])
  have v2 := h2.sl (a := 20) (n := 492) (c := 492) (by omega) (by omega) (by simp [maxLen])
  rw [List.drop_zero] at v1
  rw [List.take_of_length_le (by rw [List.length_drop]; omega)] at v2
  obtain ⟨cs1, e1, r1⟩ := Rep.val_mono (Q' := fun _ => True) (fun _ _ _ => trivial) v1
  obtain ⟨cs2, e2, r2⟩ := Rep.val_mono (Q' := fun _ => True) (fun _ _ _ => trivial) v2
  have g1 : cs1 = [.slice (some ⟨S, 0, none⟩) 16 512] := by
    obtain ⟨A', c', es, rfl, _⟩ := r1
    have : Value.slice (some ⟨S, 0, none⟩) 16 512 = .slice A' _ c' := e1
    rw [this]
  have g2 : cs2 = [.slice (some ⟨S, 20, none⟩) 492 492] := by
    obtain ⟨A', c', es, rfl, _⟩ := r2
    have : Value.slice (some ⟨S, 20, none⟩) 492 492 = .slice A' _ c' := e2
    rw [this]
  subst g1 g2
  refine Rep.list_val rfl (Nat.le_refl _) (by simp [maxLen]) ⟨[.slice (some ⟨S, 0, none⟩) 16 512, .slice (some ⟨S, 20, none⟩) 492 492], ⟨[_], [_], rfl, r1, ⟨[_], [], rfl, r2, rfl⟩⟩, fun _ => ⟨w.heap.size, 0, rfl, trivial, ⟨_, _, _, hn⟩, ?_⟩⟩
  intro j u hj
  rw [cell_of_row _ _ _ _ _ _ hn, Nat.zero_add]
  simpa using hj

set_option maxRecDepth 100000 in
set_option maxHeartbeats 1000000 in
/-- (*seal.sector).sum -/
theorem secsum_calls {w : World} {S : Nat} {t : TypeId} {L : List UInt8} (h : SecAt w S t L) :
    Calls Try.prog 133 #[.pointer (some ⟨S, 0, none⟩)] w fun e w' => e = .returned (.int .i64 ((crcOf (L.take 16 ++ L.drop 20) : Nat) : Int)) ∧ Below w.heap.size w w' := by
  have H := Lib.hid (show SecAt w.drew S t L from h.keep rfl)
  have hwr := crc_i64 (L.take 16 ++ L.drop 20)
  have HE := Lib.hid (show [L.take 16, L.drop 20].flatten = L.take 16 ++ L.drop 20 by simp)
  clear h
  generalize L.take 16 ++ L.drop 20 = M at *
  go_enter Try.func133, Try.ntmps133
  go_wp2_with fail
  go_region_law (go_simp; go_at_call 122; refine (crcOf_calls (l := [L.take 16, L.drop 20]) (val_two H.out 33)).mono ?_; rintro e w1 ⟨rfl, hw⟩; rw [HE.out]; have HB1 := Lib.hid (show Below w.heap.size w w1 by rw [hw]; exact (Below.refl w.heap.size w).drew.alloc (Nat.le_refl _) _); clear hw)
  go_wp2_with fail
  go_ret
  exact ⟨by first | rfl | (rw [hwr]; rfl), HB1.out⟩
end Go.Proofs.Yteljibjbndpncaa
