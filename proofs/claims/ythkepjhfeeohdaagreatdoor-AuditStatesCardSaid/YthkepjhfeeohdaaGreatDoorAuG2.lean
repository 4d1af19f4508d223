/- Texts on which the proofs stand: Crc, FrameBytes, Sector, Seal, CutTo, DirGet, SealGet, Disk, DiskRead, Cut, WalLoad, Boxes, Supers, SuperNone, Must, LoadNone, LeCut, DiskNew, DiskOf, JTypes, StateMath. No condition is laid on any input. -/
import Derived.Test.YthkepjhfeeohdaaGreatDoorAuG1
import Derived.Laws.BitsAllLaws
import Derived.Deep.WholeRow
import Derived.Deep.RegionLaw
import Derived.Deep.MidRow
import Derived.OwnWalk
import Derived.Stop.BytesEq
import Derived.Deep.RegionHeld
import Derived.Laws.Cover3
import Derived.Maps.OwnSet
import Derived.Maps.OwnOps
import Derived.Shelf.Abstract
import Derived.Shelf.RegionOpen
import Derived.OwnWalkIn
import Derived.TacticsInMore
import Derived.LoopNIn
import Derived.LoopIn
import Derived.Tactics
import Derived.Tactics2
import Derived.Defers
import Derived.Recover
import Derived.Laws.Pointers
namespace Go.Proofs.YthkepjhfeeohdaaGreatDoor
open Go.RowKit

set_option maxRecDepth 100000 in
set_option maxHeartbeats 1000000 in
/-- crc.Add -/
theorem crcAdd_calls {Q : Nat → Prop} {w : World} {v : Value} {l : List UInt8} {s : Nat} (hs : s < 4294967296) (hx : Rep.byte.list.val Q w v l) :
    Calls Tryz.prog 214 #[.int .u32 s, v] w fun e w' => e = .returned (.int .u32 (crcAdd s l)) ∧ w' = w := by
  obtain ⟨A, c, rfl, hc1, hc2, hA⟩ := Rep.val_list hx
  unfold maxLen at hc2
  have HA := Lib.hid hA
  clear hx hA
  go_enter Tryz.func214, Tryz.ntmps214
  go_wp2_with fail
  go_loop [0, 10] (fun t i => ∃ (k m : Nat), i = .int .i64 k ∧ t = .int .u32 m ∧ k ≤ l.length ∧ m < 4294967296 ∧ Hid (m = crcAdd s (l.take k))) (fun _ i => l.length - (intOf i).toNat)
  case atStart => exact ⟨0, s, rfl, rfl, by omega, hs, rfl⟩
  case round =>
    obtain ⟨k, m, rfl, rfl, hk, hm, E⟩ := hrel
    by_cases hlt : (k : Int) < l.length
    · have hk' : k < l.length := by omega
      obtain ⟨b, off, rfl, d0⟩ := Rep.At.byte HA.out (List.getElem?_eq_getElem hk')
      have T := Lib.hid (show crcAdd s (l.take (k + 1)) = crcByte m l[k] by rw [List.take_succ_eq_append_getElem hk', crcAdd_snoc, E.out])
      generalize l[k] = x at *
      have hx := byte_lt x
      have e1 : bits .xor .u32 (m : Int) (x.toNat : Int) = ((m ^^^ x.toNat : Nat) : Int) := u32_xor_nat _ _ hm (by omega)
      have hm2 : m ^^^ x.toNat < 4294967296 := Nat.xor_lt_two_pow (n := 32) hm (by omega)
      have HB := Lib.hid (show m ^^^ x.toNat = crcBits 0 (m ^^^ x.toNat) from rfl)
      have T2 := Lib.hid (show crcByte m x = crcBits 8 (m ^^^ x.toNat) from rfl)
      have w0 : IntKind.u32.wrap (x.toNat : Int) = x.toNat := by rw [IntKind.wrap_u32']; omega
      generalize m ^^^ x.toNat = y at *
      go_wp2_with fail
      go_loop [0, 18] (fun t i => ∃ (j n : Nat), i = .int .i64 j ∧ t = .int .u32 n ∧ j ≤ 8 ∧ n < 4294967296 ∧ Hid (n = crcBits j y)) (fun _ i => 8 - (intOf i).toNat)
      case atStart => exact ⟨0, y, rfl, rfl, by omega, hm2, HB.out⟩
      case round =>
        obtain ⟨j, n, rfl, rfl, hj, hn, F⟩ := hrel
        by_cases hlt2 : (j : Int) < 8
        · have G := Lib.hid (show crcBits (j + 1) y = crcBit n by rw [F.out]; rfl)
          have hb := Lib.hid (crcBit_lt hn)
          rcases Nat.mod_two_eq_zero_or_one n with hp | hp
          · have a1 : bits .and .u32 (n : Int) 1 = 0 := by
              have h := u32_and_nat n 1 hn (by decide); rw [Nat.and_one_is_mod, hp] at h; exact h
            have a2 : bits .and .u32 3988292384 0 = 0 := by decide
            have K := Lib.hid (show crcBit n = n / 2 by unfold crcBit; rw [hp]; simp)
            have a3 : bits .xor .u32 ((n : Int) / 2) 0 = ((n / 2 : Nat) : Int) := by
              have h := u32_xor_nat (n / 2) 0 (by omega) (by decide); rw [Nat.xor_zero] at h; exact h
            clear hp
            go_wp2_with fail
            exact ⟨⟨j + 1, n / 2, by go_num, rfl, by omega, by omega, by rw [G.out, K.out]; rfl⟩, by simp [intOf]; omega⟩
          · have a1 : bits .and .u32 (n : Int) 1 = 1 := by
              have h := u32_and_nat n 1 hn (by decide); rw [Nat.and_one_is_mod, hp] at h; exact h
            have a2 : bits .and .u32 3988292384 4294967295 = 3988292384 := by decide
            have K := Lib.hid (show crcBit n = n / 2 ^^^ 3988292384 by unfold crcBit; rw [hp]; simp)
            have a3 : bits .xor .u32 ((n : Int) / 2) 3988292384 = ((n / 2 ^^^ 3988292384 : Nat) : Int) := u32_xor_nat (n / 2) 3988292384 (by omega) (by decide)
            clear hp
            go_wp2_with fail
            exact ⟨⟨j + 1, n / 2 ^^^ 3988292384, by go_num, rfl, by omega, by rw [← K.out]; exact hb.out, by rw [G.out, K.out]; rfl⟩, by simp [intOf]; omega⟩
        · have h8 : j = 8 := by omega
          subst h8
          go_wp2_with fail
          exact ⟨⟨k + 1, n, by go_num, rfl, by omega, hn, by rw [T.out, T2.out, F.out]; rfl⟩, by simp [intOf]; omega⟩
    · have hkl : k = l.length := by omega
      have T := Lib.hid (show m = crcAdd s l by rw [E.out, hkl, List.take_length])
      go_wp2_with fail
      go_ret
      exact ⟨by rw [← T.out]; rfl, rfl⟩

set_option maxRecDepth 100000 in
/-- crc.Start -/
theorem crcStart_calls (w : World) : Calls Tryz.prog 213 #[] w fun e w' => e = .returned (.int .u32 4294967295) ∧ w' = w := by
  go_enter Tryz.func213, Tryz.ntmps213
  go_wp2_with fail
  go_ret
  exact ⟨rfl, rfl⟩
set_option maxRecDepth 100000 in
/-- crc.End -/
theorem crcEnd_calls {s : Nat} (hs : s < 4294967296) (w : World) : Calls Tryz.prog 215 #[.int .u32 s] w fun e w' => e = .returned (.int .u32 ((4294967295 - s : Nat) : Int)) ∧ w' = w := by
  have e1 : bits .xor .u32 IntKind.u32.max (s : Int) = ((4294967295 - s : Nat) : Int) := by
    have h := u32_xor_nat 4294967295 s (by decide) hs; rw [crc_not hs] at h; exact h
  generalize 4294967295 - s = r at *
  go_enter Tryz.func215, Tryz.ntmps215
  go_wp2_with fail
  go_ret
  exact ⟨rfl, rfl⟩

set_option maxRecDepth 100000 in
set_option maxHeartbeats 1000000 in
/-- crc.Of -/
theorem crcOf_calls {Q : Nat → Prop} {w : World} {v : Value} {l : List (List UInt8)} (hx : Rep.byte.list.list.val Q w v l) :
    Calls Tryz.prog 158 #[v] w fun e w' => e = .returned (.int .u32 (crcOf l.flatten)) ∧ w' = w := by
  obtain ⟨A, c, rfl, hc1, hc2, hA⟩ := Rep.val_list hx
  unfold maxLen at hc2
  have HA := Lib.hid hA
  clear hx hA
  go_enter Tryz.func158, Tryz.ntmps158
  go_wp2_with fail
  refine (crcStart_calls _).mono ?_
  rintro e w' ⟨rfl, hw⟩
  have hw' := hw.symm
  subst hw'
  clear hw
  go_wp2_with fail
  go_loop [3, 9] (fun t i => ∃ (k m : Nat), i = .int .i64 k ∧ t = .int .u32 m ∧ k ≤ l.length ∧ m < 4294967296 ∧ Hid (m = crcAdd 4294967295 (l.take k).flatten)) (fun _ i => l.length - (intOf i).toNat)
  case atStart => exact ⟨0, 4294967295, rfl, rfl, by omega, by omega, rfl⟩
  case round =>
    obtain ⟨k, m, rfl, rfl, hk, hm, E⟩ := hrel
    by_cases hlt : (k : Int) < l.length
    · have hk' : k < l.length := by omega
      obtain ⟨b, off, B, cb, rfl, d0, d1, d2, dd⟩ := Rep.At.list HA.out (List.getElem?_eq_getElem hk')
      have T := Lib.hid (show crcAdd 4294967295 (l.take (k + 1)).flatten = crcAdd m l[k] by rw [List.take_succ_eq_append_getElem hk', List.flatten_append, crcAdd_append, E.out]; simp)
      generalize l[k] = x at *
      have HX := Lib.hid (show Rep.byte.list.val Q w (.slice B x.length cb) x from Rep.list_val rfl d1 d2 dd)
      have hb := Lib.hid (crcAdd_lt (l := x) hm)
      clear dd
      go_wp2_with (go_at_call 214; refine (crcAdd_calls (by omega) HX.out).mono ?_; rintro e w' ⟨rfl, rfl⟩)
      exact ⟨⟨k + 1, crcAdd m x, by go_num, rfl, by omega, hb.out, by rw [T.out]; rfl⟩, by simp [intOf]; omega⟩
    · have hkl : k = l.length := by omega
      have T := Lib.hid (show 4294967295 - m = crcOf l.flatten by unfold crcOf; rw [E.out, hkl, List.take_length])
      go_wp2_with (go_at_call 215; refine (crcEnd_calls (by omega) _).mono ?_; rintro e w' ⟨rfl, rfl⟩; rw [T.out])
      go_ret
      exact ⟨rfl, rfl⟩

end Go.Proofs.YthkepjhfeeohdaaGreatDoor
namespace Go.Proofs.YthkepjhfeeohdaaGreatDoor
open Go.RowKit

theorem crc_i64 (l : List UInt8) : IntKind.i64.wrap ((crcOf l : Nat) : Int) = (crcOf l : Nat) := by
  have := crcOf_lt l
  exact IntWalk.i64_in _ ⟨by omega, by omega⟩

end Go.Proofs.YthkepjhfeeohdaaGreatDoor
namespace Go.Proofs.YthkepjhfeeohdaaGreatDoor
open Go.RowKit
open Extern.Stop (cell)

theorem cells_of (l : List UInt8) : (l.map fun x => Value.int .u8 (x.toNat : Int)) = l.map cell := rfl
/-- Block S holds the bytes L. -/
structure SecAt (w : World) (S : Nat) (t : TypeId) (L : List UInt8) : Prop where
  blk : w.heap[S]? = some (.cells (L.map cell).toArray t (0, 0))
  len : L.length = 512
theorem SecAt.lt {w : World} {S : Nat} {t : TypeId} {L : List UInt8} (h : SecAt w S t L) : S < w.heap.size := IsC.lt ⟨_, _, _, h.blk⟩
theorem SecAt.keep {w w' : World} {S : Nat} {t : TypeId} {L : List UInt8} (h : SecAt w S t L) (hk : w'.heap[S]? = w.heap[S]?) : SecAt w' S t L := ⟨hk.trans h.blk, h.len⟩
theorem SecAt.below {w w' : World} {S : Nat} {t : TypeId} {L : List UInt8} (h : SecAt w S t L) (hb : Below w.heap.size w w') : SecAt w' S t L := h.keep (hb.block S h.lt)
theorem SecAt.sl {w : World} {S : Nat} {t : TypeId} {L : List UInt8} (h : SecAt w S t L) {a n c : Nat} (hn : a + n ≤ 512) (hc : n ≤ c) (hm : c ≤ maxLen) :
    Rep.byte.list.val (fun b => b = S) w (.slice (some ⟨S, a, none⟩) n c) ((L.drop a).take n) := by
  have hl := h.len
  refine Rep.list_val (by rw [List.length_take, List.length_drop]; omega) hc hm ⟨_, Rep.byte_row _, fun _ => ⟨S, a, rfl, rfl, ⟨_, _, _, h.blk⟩, fun j u hj => ?_⟩⟩
  rw [cell_of_row _ _ _ _ _ _ h.blk, ← hj, cells_of]
  have hj' := (List.getElem?_eq_some_iff.1 hj).1
  rw [List.length_map, List.length_take, List.length_drop] at hj'
  simp only [List.getElem?_toArray, List.getElem?_map, List.getElem?_take, List.getElem?_drop]
  rw [if_pos (by omega)]

set_option maxRecDepth 100000 in
/-- seal.near -/
theorem near_calls {n high : Int} (h0 : 0 ≤ high) (w : World) :
    Calls Tryz.prog 240 #[.int .i64 n, .int .i64 high] w fun e w' => e = .returned (.int .i64 (near n high)) ∧ w' = w := by
  by_cases h1 : n < 0
  · have HF := Lib.hid (show near n high = 0 by unfold near; rw [if_pos h1])
    have h2 : n ≤ high := by omega
    go_enter Tryz.func240, Tryz.ntmps240
    go_wp2_with fail
    all_goals (go_ret; exact ⟨by rw [HF.out]; first | rfl | exact congrArg (fun i => Ending.returned (.int .i64 i)) (by omega), rfl⟩)
  · by_cases h2 : high < n
    · have HF := Lib.hid (show near n high = high by unfold near; rw [if_neg h1, if_pos h2])
      go_enter Tryz.func240, Tryz.ntmps240
      go_wp2_with fail
      all_goals (go_ret; exact ⟨by rw [HF.out]; first | rfl | exact congrArg (fun i => Ending.returned (.int .i64 i)) (by omega), rfl⟩)
    · have HF := Lib.hid (show near n high = n by unfold near; rw [if_neg h1, if_neg h2])
      go_enter Tryz.func240, Tryz.ntmps240
      go_wp2_with fail
      all_goals (go_ret; exact ⟨by rw [HF.out]; first | rfl | exact congrArg (fun i => Ending.returned (.int .i64 i)) (by omega), rfl⟩)
theorem size5 : (Tryz.prog.info? 5).map (·.size) = some 1 := by kernel_rfl
theorem size_sector : (Tryz.prog.info? 330).map (·.size) = some 512 := by kernel_rfl
theorem zero_sector : (Tryz.prog.info? 330).map (fun i => (i.zero, i.size)) = some (some (.agg ((zeros 512).map cell).toArray), 512) := by kernel_rfl

theorem copy_from {Q : Nat → Prop} {w : World} {A : Option Addr} {c : Nat} {X : List UInt8} (h : Rep.byte.Sl Q w A c X) (h0 : 0 < (X.map cell).length) : ∃ ad, A = some ad ∧ ∀ j v, (X.map cell)[j]? = some v → w.cell? (ad.add j) = some v := by
  obtain ⟨_, _, es, h1, h2⟩ := h
  obtain ⟨b, off, hA, _, _, hc⟩ := h2 (by simpa using h0)
  refine ⟨_, hA, fun j v hj => ?_⟩
  rw [Addr.add_mid]
  exact hc j v (by rw [Rep.row_byte h1]; exact hj)
theorem copy_len {X : List UInt8} {a : Nat} (h : a + X.length ≤ 512) : (X.map cell).length = Nat.min X.length (512 - a) := by
  rw [List.length_map]; exact (Nat.min_eq_left (by omega)).symm
theorem copy_fit {w : World} {S a : Nat} {t : TypeId} {L X : List UInt8} (h : SecAt w S t L) (hw : a + X.length ≤ 512) : a + (X.map cell).length ≤ (L.map cell).length := by
  rw [List.length_map, List.length_map, h.len]; exact hw
theorem copy_one (X : List UInt8) : ∀ v ∈ X.map cell, v.oneCell' = true := by
  intro v hv
  obtain ⟨x, _, rfl⟩ := List.mem_map.1 hv
  rfl
theorem sec_copied {w w' : World} {S a : Nat} {t : TypeId} {L X : List UInt8} (h : SecAt w S t L) (hw : a + X.length ≤ 512) (hg : w'.heap[S]? = some (.cells (splice (L.map cell) a (X.map cell)).toArray t (0, 0))) : SecAt w' S t (splice L a X) :=
  ⟨by rw [hg, splice_map], by rw [length_splice _ _ _ (by rw [h.len]; exact hw)]; exact h.len⟩

set_option maxRecDepth 100000 in
set_option maxHeartbeats 1000000 in
/-- (*seal.sector).num -/
theorem secnum_calls {w : World} {S a : Nat} {t : TypeId} {L : List UInt8} {width n : Int} (h : SecAt w S t L) (ha : a < 512) (hw : a + (num width n).length ≤ 512) (hwf1 : (Lit.int .i64 width).wf = true) (hwf : (Lit.int .i64 n).wf = true) :
    Calls Tryz.prog 241 #[.pointer (some ⟨S, 0, none⟩), .int .i64 a, .int .i64 width, .int .i64 n] w fun e w' => e = .returned (.tuple #[]) ∧ SecAt w' S t (splice L a (num width n)) ∧ Below S w w' := by
  have H := Lib.hid h
  obtain ⟨X, hX⟩ : ∃ X, X = num width n := ⟨_, rfl⟩
  rw [← hX] at hw ⊢
  have HX := Lib.hid hX
  have HW := Lib.hid hw
  have HWF := Lib.hid hwf
  have HWF1 := Lib.hid hwf1
  have HZ := Lib.hid (show ∀ w : World, Rep.byte.list.val (fun _ => True) w (.slice none 0 0) ([] : List UInt8) from fun w => Rep.val_nil (by simp [maxLen]))
  clear h hX hw hwf hwf1
  have ha1 : (a : Int) ≤ 512 := by omega
  have ha2 : ¬ 512 = a := by omega
  go_enter Tryz.func241, Tryz.ntmps241
  go_wp2_with fail
  go_region_law (first
    | (go_simp; go_at_call 212; refine (put_calls (HZ.out _) (by simp) HWF1.out HWF.out).mono ?_; rintro e w1 ⟨u, rfl, hu, hb1⟩; rw [← HX.out, List.nil_append] at hu; obtain ⟨A5, c5, rfl, hs5⟩ := Rep.val_sl (Rep.acc_fresh hu); have CP := Lib.hid (copy_from hs5); have HB1 := Lib.hid (show Below S w w1 from (Below.refl S w).drew.trans (hb1.mono (Nat.le_of_lt H.out.lt))); have H1 := Lib.hid (show SecAt w1 S t L from H.out.keep (hb1.block _ H.out.lt)); clear hu hb1 hs5)
    | (refine step_copy_splice rfl (.tmp 11) (.tmp 14) 44 44 rfl 5 Tryz.underlying44 size5 (some ⟨S, a, none⟩) A5 (512 - a) (512 - a) X.length c5 (by exact rfl) (by exact rfl) S a (L.map cell) t H1.out.blk (X.map cell) (copy_len HW.out) (fun h => ⟨rfl, CP.out h⟩) (copy_fit H.out HW.out) (copy_one X) S w HB1.out (Nat.le_refl _) ?_; intro w4 hg4 hb4))
  go_wp2_with fail
  exact ⟨rfl, .tuple #[], by simp [results], rfl, sec_copied H1.out HW.out hg4.out, hb4⟩

/-- A slice of two slices. -/
theorem val_two {w : World} {S : Nat} {t : TypeId} {L : List UInt8} (h : SecAt w S t L) (t2 : TypeId) :
    Rep.byte.list.list.val (fun _ => True) (w.alloc (.cells #[.slice (some ⟨S, 0, none⟩) 16 512, .slice (some ⟨S, 20, none⟩) 492 492] t2)) (.slice (some ⟨w.heap.size, 0, none⟩) 2 2) [L.take 16, L.drop 20] := by
  have hn := heap_alloc_new w (.cells #[.slice (some ⟨S, 0, none⟩) 16 512, .slice (some ⟨S, 20, none⟩) 492 492] t2)
  have hl := h.len
  have h2 : SecAt (w.alloc (.cells #[.slice (some ⟨S, 0, none⟩) 16 512, .slice (some ⟨S, 20, none⟩) 492 492] t2)) S t L := h.keep (heap_alloc_old _ _ h.lt)
  have v1 := h2.sl (a := 0) (n := 16) (c := 512) (by omega) (by omega) (by simp [maxLen])
  have v2 := h2.sl (a := 20) (n := 492) (c := 492) (by omega) (by omega) (by simp [maxLen])
  rw [List.drop_zero] at v1
  rw [List.take_of_length_le (by rw [List.length_drop]; omega)] at v2
  obtain ⟨cs1, e1, r1⟩ := Rep.val_mono (Q' := fun _ => True) (fun _ _ _ => trivial) v1
  obtain ⟨cs2, e2, r2⟩ := Rep.val_mono (Q' := fun _ => True) (fun _ _ _ => trivial) v2
  have g1 : cs1 = [.slice (some ⟨S, 0, none⟩) 16 512] := by
    obtain ⟨A', c', es, rfl, _⟩ := r1
    have : Value.slice (some ⟨S, 0, none⟩) 16 512 = .slice A' _ c' := e1
    rw [this]
  have g2 : cs2 = [.slice (some ⟨S, 20, none⟩) 492 492] := by
    obtain ⟨A', c', es, rfl, _⟩ := r2
    have : Value.slice (some ⟨S, 20, none⟩) 492 492 = .slice A' _ c' := e2
    rw [this]
  subst g1 g2
  refine Rep.list_val rfl (Nat.le_refl _) (by simp [maxLen]) ⟨[.slice (some ⟨S, 0, none⟩) 16 512, .slice (some ⟨S, 20, none⟩) 492 492], ⟨[_], [_], rfl, r1, ⟨[_], [], rfl, r2, rfl⟩⟩, fun _ => ⟨w.heap.size, 0, rfl, trivial, ⟨_, _, _, hn⟩, ?_⟩⟩
  intro j u hj
  rw [cell_of_row _ _ _ _ _ _ hn, Nat.zero_add]
  simpa using hj

set_option maxRecDepth 100000 in
set_option maxHeartbeats 1000000 in
/-- (*seal.sector).sum -/
theorem secsum_calls {w : World} {S : Nat} {t : TypeId} {L : List UInt8} (h : SecAt w S t L) :
    Calls Tryz.prog 242 #[.pointer (some ⟨S, 0, none⟩)] w fun e w' => e = .returned (.int .i64 ((crcOf (L.take 16 ++ L.drop 20) : Nat) : Int)) ∧ Below w.heap.size w w' := by
  have H := Lib.hid (show SecAt w.drew S t L from h.keep rfl)
  have hwr := crc_i64 (L.take 16 ++ L.drop 20)
  have HE := Lib.hid (show [L.take 16, L.drop 20].flatten = L.take 16 ++ L.drop 20 by simp)
  clear h
  generalize L.take 16 ++ L.drop 20 = M at *
  go_enter Tryz.func242, Tryz.ntmps242
  go_wp2_with fail
  go_region_law (go_simp; go_at_call 158; refine (crcOf_calls (l := [L.take 16, L.drop 20]) (val_two H.out 44)).mono ?_; rintro e w1 ⟨rfl, hw⟩; rw [HE.out]; have HB1 := Lib.hid (show Below w.heap.size w w1 by rw [hw]; exact (Below.refl w.heap.size w).drew.alloc (Nat.le_refl _) _); clear hw)
  go_wp2_with fail
  go_ret
  exact ⟨by first | rfl | (rw [hwr]; rfl), HB1.out⟩
end Go.Proofs.YthkepjhfeeohdaaGreatDoor
namespace Go.Proofs.YthkepjhfeeohdaaGreatDoor
open Go.RowKit
open Extern.Stop (cell)

/-- What stands while a sector is made: the seal in its box, the result's block. -/
structure SealBox (W : World) (B : Nat) (x : DSeal) (A : Option Addr) (c : Nat) : Prop where
  c0 : W.cell? ⟨B, 0, none⟩ = some (.int .i64 x.epoch)
  c1 : W.cell? ⟨B, 1, none⟩ = some (.int .i64 x.no)
  c2 : W.cell? ⟨B, 2, none⟩ = some (.int .i64 x.kind)
  c3 : W.cell? ⟨B, 3, none⟩ = some (.slice A x.body.length c)
  sl : Rep.byte.Sl (fun b => b < B) W A c x.body
theorem SealBox.later {W W' : World} {B : Nat} {x : DSeal} {A : Option Addr} {c : Nat} (h : SealBox W B x A c) (hb : Below (B + 1) W W') : SealBox W' B x A c :=
  ⟨(hb.cell (p := ⟨B, 0, none⟩) (Nat.lt_succ_self _)).trans h.c0, (hb.cell (p := ⟨B, 1, none⟩) (Nat.lt_succ_self _)).trans h.c1, (hb.cell (p := ⟨B, 2, none⟩) (Nat.lt_succ_self _)).trans h.c2,
   (hb.cell (p := ⟨B, 3, none⟩) (Nat.lt_succ_self _)).trans h.c3, h.sl.keep fun b hq _ => ⟨hq, hb.block b (by omega)⟩⟩
theorem SealBox.made {Q : Nat → Prop} {w : World} {x : DSeal} {A : Option Addr} {c : Nat} (h : Rep.byte.Sl Q w A c x.body) (t : TypeId) :
    SealBox (w.alloc (.cells #[.int .i64 x.epoch, .int .i64 x.no, .int .i64 x.kind, .slice A x.body.length c] t)) w.heap.size x A c :=
  ⟨by simp, by simp, by simp, by simp, h.keep fun _ _ hl => ⟨hl.lt, Below.heap_alloc _ _ _ hl.lt⟩⟩

set_option maxRecDepth 100000 in
set_option maxHeartbeats 2000000 in
/-- seal.made -/
theorem made_calls {Q : Nat → Prop} {w : World} {v : Value} {x : DSeal} (hx : rSeal.val Q w v x) :
    Calls Tryz.prog 191 #[v] w fun e w' => e = .returned (.agg ((sealBytes x).map cell).toArray) ∧ Below w.heap.size w w' := by
  obtain ⟨A, c, rfl, f0, f1, f2, hs⟩ := rSeal_val hx
  have hz := (zero_of_info zero_sector).1
  obtain ⟨Z, hZ⟩ : ∃ Z, Z = ((zeros 512).map cell).toArray := ⟨_, rfl⟩
  rw [← hZ] at hz
  have hsl := hs.1
  have hsm := hs.2.1
  unfold maxLen at hsm
  obtain ⟨W1, hW1⟩ : ∃ W1, w.alloc (.cells #[.int .i64 x.epoch, .int .i64 x.no, .int .i64 x.kind, .slice A x.body.length c] 209) = W1 := ⟨_, rfl⟩
  have hm : SealBox W1 w.heap.size x A c := by rw [← hW1]; exact SealBox.made hs _
  have hb1 : Below w.heap.size w W1 := by rw [← hW1]; exact (Below.refl _ _).alloc (Nat.le_refl _) _
  have hz1 : W1.heap.size = w.heap.size + 1 := by rw [← hW1]; simp
  obtain ⟨W2, hW2⟩ : ∃ W2, W1.alloc (.cells Z 330) = W2 := ⟨_, rfl⟩
  have hr2 : W2.heap[w.heap.size + 1]? = some (.cells Z 330 (0, 0)) := by rw [← hW2, ← hz1]; exact heap_alloc_new _ _
  have hb2 : Below (w.heap.size + 1) W1 W2 := by rw [← hW2]; exact (Below.refl _ _).alloc (Nat.le_of_eq hz1.symm) _
  have hz2 : W2.heap.size = w.heap.size + 1 + 1 := by rw [← hW2]; simp [hz1]
  obtain ⟨W3, hW3⟩ : ∃ W3, W2.alloc (.cells Z 330) = W3 := ⟨_, rfl⟩
  have hs3 : SecAt W3 (w.heap.size + 1 + 1) 330 (zeros 512) := ⟨by rw [← hW3, ← hZ, ← hz2]; exact heap_alloc_new _ _, zeros_length _⟩
  have hb3 : Below (w.heap.size + 1 + 1) W2 W3 := by rw [← hW3]; exact (Below.refl _ _).alloc (Nat.le_of_eq hz2.symm) _
  have hB3 : Below w.heap.size w W3 := hb1.trans ((hb2.mono (by omega)).trans (hb3.mono (by omega)))
  have KS := Lib.hid (show ∀ W, Below (w.heap.size + 1 + 1) W3 W → SealBox W w.heap.size x A c ∧ W.heap[w.heap.size + 1]? = some (.cells Z 330 (0, 0)) ∧ Below w.heap.size w W from fun W h =>
    ⟨((hm.later hb2).later (hb3.mono (by omega))).later (h.mono (by omega)),
     by rw [h.block _ (by omega), hb3.block _ (by omega)]; exact hr2, hB3.trans (h.mono (by omega))⟩)
  have HS3 := Lib.hid hs3
  have HZ := Lib.hid (show Z.size = 512 by rw [hZ]; simp [zeros_length])
  have k1 := near_le (n := x.epoch) (high := maxEpoch) (by decide)
  have k2 := near_le (n := x.no) (high := maxEpoch) (by decide)
  have k3 := near_le (n := x.kind) (high := 255) (by decide)
  have k4 := near_ge (n := x.epoch) (high := maxEpoch) (by decide)
  have k5 := near_ge (n := x.no) (high := maxEpoch) (by decide)
  have k6 := near_ge (n := x.kind) (high := 255) (by decide)
  have WE := Lib.hid (show (Lit.int .i64 (near x.epoch maxEpoch)).wf = true from wf_i64 (by omega) (by unfold maxEpoch at *; omega))
  have WN := Lib.hid (show (Lit.int .i64 (near x.no maxEpoch)).wf = true from wf_i64 (by omega) (by unfold maxEpoch at *; omega))
  have WK := Lib.hid (show (Lit.int .i64 (near x.kind 255)).wf = true from wf_i64 (by omega) (by omega))
  have WC := Lib.hid (show (Lit.int .i64 ((crcOf ((laid7 x).take 16 ++ (laid7 x).drop 20) : Nat) : Int)).wf = true from wf_i64 (by omega) (by have := crcOf_lt ((laid7 x).take 16 ++ (laid7 x).drop 20); omega))
  obtain ⟨c0, c1, c2, c3, _⟩ := (KS.out _ (Below.refl _ _)).1
  clear hx hs hm hr2 hb1 hb2 hb3 hB3 hs3 hZ k1 k2 k3 k4 k5 k6
  by_cases h472 : (x.body.length : Int) ≤ 472
  · have HY := Lib.hid (show (x.body.take 472).length = x.body.length by rw [List.length_take]; omega)
    have HM := Lib.hid (show x.body.length ≤ 472 by omega)
    have WM := Lib.hid (show (Lit.int .i64 ((x.body.length : Nat) : Int)).wf = true from wf_i64 (by omega) (by omega))
    go_enter Tryz.func191, Tryz.ntmps191
    go_wp2_with fail
    try rw [hW1]
    go_wp2_with fail
    try rw [hW2]
    go_wp2_with fail
    try rw [hW3]
    clear hW1 hW2 hW3 hz1 hz2
    go_quiet ((go_at_call 240; exact Calls.quiet_of_same (near_calls (by decide) _)))
    have H0 := Lib.hid (show SecAt (W3.drewN nq) (w.heap.size + 1 + 1) 330 (zeros 512) from HS3.out.keep rfl)
    have D00 := Lib.hid (show Below (w.heap.size + 1 + 1) W3 (W3.drewN nq) from below_drewN (Below.refl _ _) nq)
    have hc0 := KS.out _ D00.out
    clear c0 c1 c2 c3
    have KS4 := Lib.hid (show ∀ W, Below (w.heap.size + 1 + 1) (W3.drewN nq) W → SealBox W w.heap.size x A c ∧ W.heap[w.heap.size + 1]? = some (.cells Z 330 (0, 0)) ∧ Below w.heap.size w W from fun W h => KS.out _ (D00.out.trans h))
    clear KS D00
    generalize W3.drewN nq = W4 at *
    have KS := KS4
    have D0 := Lib.hid (Below.refl (w.heap.size + 1 + 1) W4)
    obtain ⟨c0, c1, c2, c3, _⟩ := hc0.1
    clear hc0 KS4 HS3
    go_wp2_with fail
    refine (secnum_calls (a := 0) (width := 8) (n := near x.epoch maxEpoch) H0.out (by decide) (by rw [num_len8]; decide) rfl WE.out).mono ?_
    rintro e w1 ⟨rfl, hs, hb⟩
    have H1 := Lib.hid (show SecAt w1 (w.heap.size + 1 + 1) 330 (laid1 x) from hs)
    have D1 := Lib.hid (D0.out.trans hb)
    clear hs hb c0 c1 c2 c3
    obtain ⟨c0, c1, c2, c3, _⟩ := (KS.out _ D1.out).1
    go_wp2_with fail
    refine (secnum_calls (a := 8) (width := 8) (n := near x.no maxEpoch) H1.out (by decide) (by rw [num_len8]; decide) rfl WN.out).mono ?_
    rintro e w2 ⟨rfl, hs, hb⟩
    have H2 := Lib.hid (show SecAt w2 (w.heap.size + 1 + 1) 330 (laid2 x) from hs)
    have D2 := Lib.hid (D1.out.trans hb)
    clear hs hb c0 c1 c2 c3
    obtain ⟨c0, c1, c2, c3, _⟩ := (KS.out _ D2.out).1
    go_wp2_with (go_at_call 240; refine (near_calls (by decide) _).mono ?_; rintro e w' ⟨rfl, hw⟩; have hw2 := hw.symm; subst hw2; clear hw)
    refine (secnum_calls (a := 20) (width := 1) (n := near x.kind 255) H2.out (by decide) (by rw [num_len1]; decide) rfl WK.out).mono ?_
    rintro e w3 ⟨rfl, hs, hb⟩
    have H3 := Lib.hid (show SecAt w3 (w.heap.size + 1 + 1) 330 (laid3 x) from hs)
    have D3 := Lib.hid (D2.out.trans hb)
    clear hs hb c0 c1 c2 c3
    obtain ⟨c0, c1, c2, c3, _⟩ := (KS.out _ D3.out).1
    go_wp2_with fail
    refine (secnum_calls (a := 22) (width := 2) (n := x.body.length) H3.out (by decide) (by rw [num_len2]; decide) rfl WM.out).mono ?_
    rintro e w4 ⟨rfl, hs, hb⟩
    have H4 := Lib.hid (show SecAt w4 (w.heap.size + 1 + 1) 330 (laid4 x) by unfold laid4; rw [HY.out]; exact hs)
    have D4 := Lib.hid (D3.out.trans hb)
    have HC := Lib.hid (copy_from (Q := fun b => b < w.heap.size) (X := x.body.take 472) (c := c) (by have := (KS.out _ D4.out).1.sl; exact ⟨by rw [List.length_take]; have := this.1; omega, this.2.1, this.2.2.take 472⟩))
    clear hs hb c0 c1 c2 c3
    go_wp2_with (refine wpList_copy_splice rfl (.tmp 31) (.tmp 32) 44 44 rfl 5 Tryz.underlying44 size5 (some ⟨w.heap.size + 1 + 1, 24, none⟩) A 488 488 x.body.length c (by exact rfl) (by exact rfl) (w.heap.size + 1 + 1) 24 ((laid4 x).map cell) 330 H4.out.blk ((x.body.take 472).map cell) (by rw [List.length_map, HY.out]; exact (Nat.min_eq_left (by have := HM.out; omega)).symm) (fun h => ⟨rfl, HC.out h⟩) (by have := HM.out; have := HY.out; have := H4.out.len; simp only [List.length_map]; omega) (copy_one _) (w.heap.size + 1 + 1) W4 D4.out (Nat.le_refl _) ?_; intro w5 hg5 hb5; have H5 := Lib.hid (show SecAt w5 (w.heap.size + 1 + 1) 330 (laid5 x) from sec_copied H4.out (by have := HM.out; have := HY.out; omega) hg5.out); have D5 := Lib.hid hb5; clear hg5 hb5)
    refine (secnum_calls (a := 496) (width := 8) (n := near x.no maxEpoch) H5.out (by decide) (by rw [num_len8]; decide) rfl WN.out).mono ?_
    rintro e w6 ⟨rfl, hs, hb⟩
    have H6 := Lib.hid (show SecAt w6 (w.heap.size + 1 + 1) 330 (laid6 x) from hs)
    have D6 := Lib.hid (D5.out.trans hb)
    clear hs hb
    go_wp2_with fail
    refine (secnum_calls (a := 504) (width := 8) (n := near x.epoch maxEpoch) H6.out (by decide) (by rw [num_len8]; decide) rfl WE.out).mono ?_
    rintro e w7 ⟨rfl, hs, hb⟩
    have H7 := Lib.hid (show SecAt w7 (w.heap.size + 1 + 1) 330 (laid7 x) from hs)
    have D7 := Lib.hid (D6.out.trans hb)
    clear hs hb
    go_wp2_with fail
    refine (secsum_calls H7.out).mono ?_
    rintro e w8 ⟨rfl, hb⟩
    have H8 := Lib.hid (H7.out.below hb)
    have D8 := Lib.hid (D7.out.trans (hb.mono (Nat.le_of_lt H7.out.lt)))
    clear hb
    go_wp2_with fail
    refine (secnum_calls (a := 16) (width := 4) (n := (crcOf ((laid7 x).take 16 ++ (laid7 x).drop 20) : Nat)) H8.out (by decide) (by rw [num_len4]; decide) rfl WC.out).mono ?_
    rintro e w9 ⟨rfl, hs, hb⟩
    have H9 := Lib.hid (show SecAt w9 (w.heap.size + 1 + 1) 330 (sealBytes x) by rw [← laid8_is]; exact hs)
    have D9 := Lib.hid (D8.out.trans hb)
    clear hs hb
    obtain ⟨C, hC⟩ : ∃ C, C = ((sealBytes x).map cell).toArray := ⟨_, rfl⟩
    have HC2 := Lib.hid hC
    have HCs := Lib.hid (show C.size = 512 by rw [hC]; simp [sealBytes_length])
    have HC1 := Lib.hid (show C.all (·.oneCell') = true by rw [hC, Array.all_eq_true_iff_forall_mem]; intro v hv; exact copy_one _ v (by simpa using hv))
    have HB9 := Lib.hid (show w9.heap[w.heap.size + 1 + 1]? = some (.cells C 330 (0, 0)) by rw [hC]; exact H9.out.blk)
    have HR9 := Lib.hid (KS.out _ D9.out).2.1
    clear hC
    go_wp2_with (first
      | (refine wpList_load_row rfl 330 (.tmp 3) rfl (w.heap.size + 1 + 1) rfl 330 C (0, 0) (.array 512 5) HB9.out Tryz.underlying330 rfl (by rw [HCs.out]; exact size_sector) ?_)
      | (refine wpList_store_row rfl 330 (.tmp 2) (.tmp 40) rfl (w.heap.size + 1) C rfl rfl 330 Z HR9.out (by rw [HCs.out]; exact size_sector) (by rw [HZ.out, HCs.out]) HC1.out ?_))
    refine ⟨rfl, .agg C, results_cell_row (p := 2) (ty := 330) rfl _ _ (w.heap.size + 1) 330 C (0, 0) (.array 512 5) rfl (setRow_heap _ _ _ _ _ _ HR9.out) Tryz.underlying330 rfl (by rw [HCs.out]; exact size_sector), by rw [HC2.out], below_setRow (KS.out _ D9.out).2.2 (Nat.le_succ _) _⟩
  · have HY := Lib.hid (show (x.body.take 472).length = 472 by rw [List.length_take]; omega)
    have HM := Lib.hid (show 472 ≤ 472 by omega)
    have WM := Lib.hid (show (Lit.int .i64 ((472 : Nat) : Int)).wf = true from wf_i64 (by omega) (by omega))
    have g472 : (472 : Int) < x.body.length := by omega
    have g473 : (472 : Int) ≤ c := by omega
    go_enter Tryz.func191, Tryz.ntmps191
    go_wp2_with fail
    try rw [hW1]
    go_wp2_with fail
    try rw [hW2]
    go_wp2_with fail
    try rw [hW3]
    clear hW1 hW2 hW3 hz1 hz2
    go_quiet ((go_at_call 240; exact Calls.quiet_of_same (near_calls (by decide) _)))
    have H0 := Lib.hid (show SecAt (W3.drewN nq) (w.heap.size + 1 + 1) 330 (zeros 512) from HS3.out.keep rfl)
    have D00 := Lib.hid (show Below (w.heap.size + 1 + 1) W3 (W3.drewN nq) from below_drewN (Below.refl _ _) nq)
    have hc0 := KS.out _ D00.out
    clear c0 c1 c2 c3
    have KS4 := Lib.hid (show ∀ W, Below (w.heap.size + 1 + 1) (W3.drewN nq) W → SealBox W w.heap.size x A c ∧ W.heap[w.heap.size + 1]? = some (.cells Z 330 (0, 0)) ∧ Below w.heap.size w W from fun W h => KS.out _ (D00.out.trans h))
    clear KS D00
    generalize W3.drewN nq = W4 at *
    have KS := KS4
    have D0 := Lib.hid (Below.refl (w.heap.size + 1 + 1) W4)
    obtain ⟨c0, c1, c2, c3, _⟩ := hc0.1
    clear hc0 KS4 HS3
    go_wp2_with fail
    refine (secnum_calls (a := 0) (width := 8) (n := near x.epoch maxEpoch) H0.out (by decide) (by rw [num_len8]; decide) rfl WE.out).mono ?_
    rintro e w1 ⟨rfl, hs, hb⟩
    have H1 := Lib.hid (show SecAt w1 (w.heap.size + 1 + 1) 330 (laid1 x) from hs)
    have D1 := Lib.hid (D0.out.trans hb)
    clear hs hb c0 c1 c2 c3
    obtain ⟨c0, c1, c2, c3, _⟩ := (KS.out _ D1.out).1
    go_wp2_with fail
    refine (secnum_calls (a := 8) (width := 8) (n := near x.no maxEpoch) H1.out (by decide) (by rw [num_len8]; decide) rfl WN.out).mono ?_
    rintro e w2 ⟨rfl, hs, hb⟩
    have H2 := Lib.hid (show SecAt w2 (w.heap.size + 1 + 1) 330 (laid2 x) from hs)
    have D2 := Lib.hid (D1.out.trans hb)
    clear hs hb c0 c1 c2 c3
    obtain ⟨c0, c1, c2, c3, _⟩ := (KS.out _ D2.out).1
    go_wp2_with (go_at_call 240; refine (near_calls (by decide) _).mono ?_; rintro e w' ⟨rfl, hw⟩; have hw2 := hw.symm; subst hw2; clear hw)
    refine (secnum_calls (a := 20) (width := 1) (n := near x.kind 255) H2.out (by decide) (by rw [num_len1]; decide) rfl WK.out).mono ?_
    rintro e w3 ⟨rfl, hs, hb⟩
    have H3 := Lib.hid (show SecAt w3 (w.heap.size + 1 + 1) 330 (laid3 x) from hs)
    have D3 := Lib.hid (D2.out.trans hb)
    clear hs hb c0 c1 c2 c3
    obtain ⟨c0, c1, c2, c3, _⟩ := (KS.out _ D3.out).1
    go_wp2_with fail
    refine (secnum_calls (a := 22) (width := 2) (n := 472) H3.out (by decide) (by rw [num_len2]; decide) rfl WM.out).mono ?_
    rintro e w4 ⟨rfl, hs, hb⟩
    have H4 := Lib.hid (show SecAt w4 (w.heap.size + 1 + 1) 330 (laid4 x) by unfold laid4; rw [HY.out]; exact hs)
    have D4 := Lib.hid (D3.out.trans hb)
    have HC := Lib.hid (copy_from (Q := fun b => b < w.heap.size) (X := x.body.take 472) (c := c) (by have := (KS.out _ D4.out).1.sl; exact ⟨by rw [List.length_take]; have := this.1; omega, this.2.1, this.2.2.take 472⟩))
    clear hs hb c0 c1 c2 c3
    go_wp2_with (refine wpList_copy_splice rfl (.tmp 31) (.tmp 32) 44 44 rfl 5 Tryz.underlying44 size5 (some ⟨w.heap.size + 1 + 1, 24, none⟩) A 488 488 472 c (by exact rfl) (by exact rfl) (w.heap.size + 1 + 1) 24 ((laid4 x).map cell) 330 H4.out.blk ((x.body.take 472).map cell) (by rw [List.length_map, HY.out]; exact (Nat.min_eq_left (by have := HM.out; omega)).symm) (fun h => ⟨rfl, HC.out h⟩) (by have := HM.out; have := HY.out; have := H4.out.len; simp only [List.length_map]; omega) (copy_one _) (w.heap.size + 1 + 1) W4 D4.out (Nat.le_refl _) ?_; intro w5 hg5 hb5; have H5 := Lib.hid (show SecAt w5 (w.heap.size + 1 + 1) 330 (laid5 x) from sec_copied H4.out (by have := HM.out; have := HY.out; omega) hg5.out); have D5 := Lib.hid hb5; clear hg5 hb5)
    refine (secnum_calls (a := 496) (width := 8) (n := near x.no maxEpoch) H5.out (by decide) (by rw [num_len8]; decide) rfl WN.out).mono ?_
    rintro e w6 ⟨rfl, hs, hb⟩
    have H6 := Lib.hid (show SecAt w6 (w.heap.size + 1 + 1) 330 (laid6 x) from hs)
    have D6 := Lib.hid (D5.out.trans hb)
    clear hs hb
    go_wp2_with fail
    refine (secnum_calls (a := 504) (width := 8) (n := near x.epoch maxEpoch) H6.out (by decide) (by rw [num_len8]; decide) rfl WE.out).mono ?_
    rintro e w7 ⟨rfl, hs, hb⟩
    have H7 := Lib.hid (show SecAt w7 (w.heap.size + 1 + 1) 330 (laid7 x) from hs)
    have D7 := Lib.hid (D6.out.trans hb)
    clear hs hb
    go_wp2_with fail
    refine (secsum_calls H7.out).mono ?_
    rintro e w8 ⟨rfl, hb⟩
    have H8 := Lib.hid (H7.out.below hb)
    have D8 := Lib.hid (D7.out.trans (hb.mono (Nat.le_of_lt H7.out.lt)))
    clear hb
    go_wp2_with fail
    refine (secnum_calls (a := 16) (width := 4) (n := (crcOf ((laid7 x).take 16 ++ (laid7 x).drop 20) : Nat)) H8.out (by decide) (by rw [num_len4]; decide) rfl WC.out).mono ?_
    rintro e w9 ⟨rfl, hs, hb⟩
    have H9 := Lib.hid (show SecAt w9 (w.heap.size + 1 + 1) 330 (sealBytes x) by rw [← laid8_is]; exact hs)
    have D9 := Lib.hid (D8.out.trans hb)
    clear hs hb
    obtain ⟨C, hC⟩ : ∃ C, C = ((sealBytes x).map cell).toArray := ⟨_, rfl⟩
    have HC2 := Lib.hid hC
    have HCs := Lib.hid (show C.size = 512 by rw [hC]; simp [sealBytes_length])
    have HC1 := Lib.hid (show C.all (·.oneCell') = true by rw [hC, Array.all_eq_true_iff_forall_mem]; intro v hv; exact copy_one _ v (by simpa using hv))
    have HB9 := Lib.hid (show w9.heap[w.heap.size + 1 + 1]? = some (.cells C 330 (0, 0)) by rw [hC]; exact H9.out.blk)
    have HR9 := Lib.hid (KS.out _ D9.out).2.1
    clear hC
    go_wp2_with (first
      | (refine wpList_load_row rfl 330 (.tmp 3) rfl (w.heap.size + 1 + 1) rfl 330 C (0, 0) (.array 512 5) HB9.out Tryz.underlying330 rfl (by rw [HCs.out]; exact size_sector) ?_)
      | (refine wpList_store_row rfl 330 (.tmp 2) (.tmp 40) rfl (w.heap.size + 1) C rfl rfl 330 Z HR9.out (by rw [HCs.out]; exact size_sector) (by rw [HZ.out, HCs.out]) HC1.out ?_))
    refine ⟨rfl, .agg C, results_cell_row (p := 2) (ty := 330) rfl _ _ (w.heap.size + 1) 330 C (0, 0) (.array 512 5) rfl (setRow_heap _ _ _ _ _ _ HR9.out) Tryz.underlying330 rfl (by rw [HCs.out]; exact size_sector), by rw [HC2.out], below_setRow (KS.out _ D9.out).2.2 (Nat.le_succ _) _⟩

end Go.Proofs.YthkepjhfeeohdaaGreatDoor
namespace Go.Proofs.YthkepjhfeeohdaaGreatDoor
open Go.RowKit

/-- What the next bytes are, where the reader is then, and whether something was not there. -/
def rdBytes (b : List UInt8) (at_ : Nat) (bad : Bool) (n : Int) : List UInt8 × Nat × Bool :=
  if bad then ([], at_, true) else if n < 0 then ([], at_, false) else if (b.length : Int) - at_ < n then ([], at_, true) else ((b.drop at_).take n.toNat, at_ + n.toNat, false)
def BytesRes (w : World) (p : Nat) (A : Option Addr) (c : Nat) (b : List UInt8) (r : List UInt8 × Nat × Bool) (e : Ending) (w' : World) : Prop :=
  ∃ u, e = .returned u ∧ Rep.byte.list.val (fun x => w.heap.size ≤ x) w' u r.1 ∧ RdrAt w' p A c b r.2.1 r.2.2 ∧ w.grownBy w' (some p)
theorem grownBy_below {w w' : World} (h : Below w.heap.size w w') (row : Option Nat) : w.grownBy w' row := ⟨h.os, h.tape, h.output, h.size, fun k hk _ => h.block k hk⟩

set_option maxRecDepth 100000 in
set_option maxHeartbeats 1000000 in
/-- (*le.Reader).Bytes -/
theorem rdbytes_calls {w : World} {p : Nat} {A : Option Addr} {c : Nat} {b : List UInt8} {at_ : Nat} {bad : Bool} {n : Int} (h : RdrAt w p A c b at_ bad) (hb : b.length ≤ 1000000000) :
    Calls Tryz.prog 190 #[.pointer (some ⟨p, 0, none⟩), .int .i64 n] w (BytesRes w p A c b (rdBytes b at_ bad n)) := by
  have H := Lib.hid h
  have HBL := Lib.hid hb
  have hle := h.le
  have c0 := h.c0
  have c1 := h.c1
  have c2 := h.c2
  have z1 := h.z 1
  have z2 := h.z 2
  have HZ := Lib.hid (show ∀ w' : World, Rep.byte.list.val (fun x => w.heap.size ≤ x) w' (.slice none 0 0) ([] : List UInt8) from fun w => Rep.val_nil (by simp [maxLen]))
  clear h
  cases bad with
  | true =>
    have R := Lib.hid (show rdBytes b at_ true n = ([], at_, true) from rfl)
    go_enter Tryz.func190, Tryz.ntmps190
    go_wp2_with (go_at_call 141; refine (ok_calls H.out).mono ?_; rintro e w' ⟨rfl, rfl⟩)
    go_ret
    rw [R.out]
    exact ⟨_, rfl, HZ.out _, H.out, World.grownBy.refl _ _⟩
  | false =>
    by_cases hn : n < 0
    · have R := Lib.hid (show rdBytes b at_ false n = ([], at_, false) by unfold rdBytes; rw [if_pos hn]; rfl)
      go_enter Tryz.func190, Tryz.ntmps190
      go_wp2_with (go_at_call 141; refine (ok_calls H.out).mono ?_; rintro e w' ⟨rfl, rfl⟩)
      go_ret
      rw [R.out]
      exact ⟨_, rfl, HZ.out _, H.out, World.grownBy.refl _ _⟩
    · by_cases hlo : (b.length : Int) - at_ < n
      · have R := Lib.hid (show rdBytes b at_ false n = ([], at_, true) by unfold rdBytes; rw [if_neg hn, if_pos hlo]; rfl)
        go_enter Tryz.func190, Tryz.ntmps190
        go_wp2_with (first
          | (go_at_call 141; refine (ok_calls H.out).mono ?_; rintro e w' ⟨rfl, rfl⟩)
          | (go_at_call 142; refine (left_calls H.out HBL.out).mono ?_; rintro e w' ⟨rfl, nq, rfl⟩))
        go_ret
        rw [R.out]
        have hg := grownBy_drewN w' nq (some p)
        have h1 : RdrAt (w'.drewN nq) p A c b at_ false := H.out.drewN nq
        generalize w'.drewN nq = W at *
        exact ⟨_, rfl, HZ.out _, setBad h1, hg.trans (grownBy_setCell _ _ _)⟩
      · obtain ⟨m, rfl⟩ : ∃ m : Nat, n = m := ⟨n.toNat, by omega⟩
        have R := Lib.hid (show rdBytes b at_ false m = ((b.drop at_).take m, at_ + m, false) by unfold rdBytes; rw [if_neg hn, if_neg hlo]; rfl)
        go_enter Tryz.func190, Tryz.ntmps190
        go_wp2_with (first
          | (go_at_call 141; refine (ok_calls H.out).mono ?_; rintro e w' ⟨rfl, rfl⟩)
          | (go_at_call 142; refine (left_calls H.out HBL.out).mono ?_; rintro e w' ⟨rfl, nq, rfl⟩))
        have hd1 : RdrAt (w'.drewN nq) p A c b at_ false := H.out.drewN nq
        have hg := Lib.hid (grownBy_drewN w' nq (some p))
        have HSZ := Lib.hid (show (w'.drewN nq).heap.size = w'.heap.size from rfl)
        generalize w'.drewN nq = W at *
        have hm1 : (m : Int) ≤ (b.length : Int) - at_ := by omega
        have hs := hd1.sl
        have hs1 := hs.1
        have hs2 := hs.2.1
        unfold maxLen at hs2
        have hlt := hd1.lt
        have KS := Lib.hid (show ∀ W', Below W.heap.size W W' → RdrAt W' p A c b at_ false from fun W' hb => ⟨(hb.block p hlt).trans hd1.blk, hd1.sl.keep fun x hx _ => ⟨hx, hb.block x (by omega)⟩, hd1.le⟩)
        have hbl := HBL.out
        have g0 : (0 : Int) ≤ at_ + m := by omega
        have g1 : (at_ : Int) + m ≤ c := by omega
        have g2 : (at_ : Int) ≤ at_ + m := by omega
        have g3 : IntKind.i64.wrap ((at_ : Int) + m) = (at_ : Int) + m := IntWalk.i64_in _ ⟨by omega, by omega⟩
        clear hs2
        by_cases h0 : m = 0
        · subst h0
          have g5 : (at_ : Int) ≤ c := by omega
          have g6 : IntKind.i64.wrap (at_ : Int) = (at_ : Int) := IntWalk.i64_in _ ⟨by omega, by omega⟩
          clear g0 g1 g2 g3
          have HE := Lib.hid (show (b.drop at_).take 0 = [] by simp)
          have HVN := Lib.hid (show ∀ W', Rep.byte.list.val (fun _ => True) W' (.slice A 0 0) ([] : List UInt8) from fun W' => Rep.list_val rfl (Nat.le_refl _) (by simp [maxLen]) ⟨[], rfl, fun h => absurd h (by simp)⟩)
          go_region_held3 (fun W => W.cell? ⟨p, 0, none⟩ = some (.slice A b.length c) ∧ W.cell? ⟨p, 1, none⟩ = some (.int .i64 at_))
            (first
              | exact ⟨(KS.out _ (Below.refl _ _).drew).c0, (KS.out _ (Below.refl _ _).drew).c1⟩
              | exact ⟨(KS.out _ D1.out).c0, (KS.out _ D1.out).c1⟩)
            ((go_at_call 70; refine (sliceClone (HVN.out W.drew) (by simp)).mono ?_; rintro e w1 ⟨u1, rfl, hu1, hb1⟩; have D1 := Lib.hid ((Below.refl W.heap.size W).drew.trans hb1); have HU1 := Lib.hid (Rep.acc_fresh hu1); clear hu1 hb1))
          have q0 := (KS.out _ D1.out).c0
          have q1 := (KS.out _ D1.out).c1
          have y1 := (KS.out _ D1.out).z 1
          go_wp2_with fail
          go_ret
          rw [R.out, HE.out]
          have hk := Lib.hid (setAt (at2 := at_ + 0) (KS.out _ D1.out) (by omega))
          exact ⟨_, rfl, Rep.val_keep (fun x hx _ => ⟨by have := HSZ.out; have hx' : W.heap.size ≤ x := hx; omega, Below.heap_setCell _ _ _ _ (by have hx' : W.heap.size ≤ x := hx; show x ≠ p; omega)⟩) HU1.out, hk.out, hg.out.trans ((grownBy_below D1.out (some p)).trans (grownBy_setCell _ _ _))⟩
        · obtain ⟨bb, off, hA⟩ := Rep.At.addr hs.2.2 (by omega)
          subst hA
          have hm0 : ¬ ((at_ : Int) + m).toNat = at_ := by omega
          have g4 : ((at_ : Int) + m).toNat - at_ = m := by omega
          have HVN := Lib.hid (show ∀ W', Below W.heap.size W W' → Rep.byte.list.val (fun x => x < p) W' (.slice (some ⟨bb, off + at_, none⟩) m m) ((b.drop at_).take m) from fun W' hb =>
            Rep.list_val (by rw [List.length_take, List.length_drop]; omega) (Nat.le_refl _) (by unfold maxLen; omega) (Rep.At.take (by have := Rep.At.drop ((KS.out W' hb).sl.2.2) (n := at_) hle; simpa [Rep.byte] using this) m))
          have HLN := Lib.hid (show ((b.drop at_).take m).length ≤ 100000000000000 by rw [List.length_take]; omega)
          generalize (b.drop at_).take m = X at *
          go_region_held3 (fun W => W.cell? ⟨p, 0, none⟩ = some (.slice (some ⟨bb, off, none⟩) b.length c) ∧ W.cell? ⟨p, 1, none⟩ = some (.int .i64 at_))
            (first
              | exact ⟨(KS.out _ (Below.refl _ _).drew).c0, (KS.out _ (Below.refl _ _).drew).c1⟩
              | exact ⟨(KS.out _ D1.out).c0, (KS.out _ D1.out).c1⟩)
            ((go_at_call 70; refine (sliceClone (HVN.out _ (Below.refl _ _).drew) HLN.out).mono ?_; rintro e w1 ⟨u1, rfl, hu1, hb1⟩; have D1 := Lib.hid ((Below.refl W.heap.size W).drew.trans hb1); have HU1 := Lib.hid (Rep.acc_fresh hu1); clear hu1 hb1))
          have q0 := (KS.out _ D1.out).c0
          have q1 := (KS.out _ D1.out).c1
          have y1 := (KS.out _ D1.out).z 1
          go_wp2_with fail
          go_ret
          rw [R.out]
          have hk := Lib.hid (setAt (at2 := at_ + m) (KS.out _ D1.out) (by omega))
          exact ⟨_, rfl, Rep.val_keep (fun x hx _ => ⟨by have := HSZ.out; have hx' : W.heap.size ≤ x := hx; omega, Below.heap_setCell _ _ _ _ (by have hx' : W.heap.size ≤ x := hx; show x ≠ p; omega)⟩) HU1.out, hk.out, hg.out.trans ((grownBy_below D1.out (some p)).trans (grownBy_setCell _ _ _))⟩
end Go.Proofs.YthkepjhfeeohdaaGreatDoor
namespace Go.Proofs.YthkepjhfeeohdaaGreatDoor
open Go.RowKit

theorem RdrAt.grown {w w' : World} {p : Nat} {A : Option Addr} {c : Nat} {b : List UInt8} {at_ : Nat} {bad : Bool} {row : Option Nat} (h : RdrAt w p A c b at_ bad) (hg : w.grownBy w' row) (hr : ∀ x, row = some x → p < x) : RdrAt w' p A c b at_ bad :=
  ⟨(hg.block p h.lt (fun e => by have := hr p e.symm; omega)).trans h.blk, h.sl.keep fun x hx hl => ⟨hx, hg.block x hl.lt (fun e => by have := hr x e.symm; omega)⟩, h.le⟩

/-- In the midst of a round: since the world w0 only the reader's block and new ones have changed; the entry lies in block bx. -/
structure Mid (w0 : World) (p bx : Nat) (A : Option Addr) (c : Nat) (b : List UInt8) (w : World) (at_ : Nat) (bad : Bool) (cs : Array Value) : Prop where
  g : w0.grownBy w (some p)
  x : w.heap[bx]? = some (.cells cs 268 (0, 0))
  r : RdrAt w p A c b at_ bad
theorem Mid.num {w0 : World} {p bx : Nat} {A : Option Addr} {c : Nat} {b : List UInt8} {w : World} {at_ : Nat} {bad : Bool} {cs : Array Value} (h : Mid w0 p bx A c b w at_ bad cs) (hne : bx ≠ p) {r : Int × Nat × Bool} {w' : World}
    (h1 : RdrAt w' p A c b r.2.1 r.2.2) (h2 : w.grownBy w' (some p)) : Mid w0 p bx A c b w' r.2.1 r.2.2 cs :=
  ⟨h.g.trans h2, (h2.block bx (IsC.lt ⟨_, _, _, h.x⟩) (fun e => hne (Option.some.inj e))).trans h.x, h1⟩
theorem Mid.put {w0 : World} {p bx : Nat} {A : Option Addr} {c : Nat} {b : List UInt8} {w : World} {at_ : Nat} {bad : Bool} {cs : Array Value} (h : Mid w0 p bx A c b w at_ bad cs) (hne : bx ≠ p) (hbx : w0.heap.size ≤ bx) (hs : Rep.byte.Sl (fun x => x < p) w0 A c b) (i : Nat) (v : Value) : Mid w0 p bx A c b (w.setCell ⟨bx, i, none⟩ v) at_ bad (cs.setIfInBounds i v) :=
  ⟨⟨h.g.os, h.g.tape, h.g.output, by simpa using h.g.size, fun k hk hr => (Below.heap_setCell _ _ _ _ (show k ≠ bx by omega)).trans (h.g.block k hk hr)⟩, heap_setRow h.x,
   ⟨(Below.heap_setCell _ _ _ _ (show p ≠ bx from fun e => hne e.symm)).trans h.r.blk, hs.keep fun x hx hl => ⟨hx, (Below.heap_setCell _ _ _ _ (show x ≠ bx by have := hl.lt; omega)).trans (h.g.block x hl.lt (fun e => Nat.ne_of_lt hx (Option.some.inj e)))⟩, h.r.le⟩⟩
/-- An entry's parts, as0 so far read. -/
theorem Mid.grown {w0 : World} {p bx : Nat} {A : Option Addr} {c : Nat} {b : List UInt8} {w w' : World} {at_ : Nat} {bad : Bool} {cs : Array Value} {row : Option Nat} (h : Mid w0 p bx A c b w at_ bad cs) (hg : w.grownBy w' row) (hr : ∀ k, row = some k → bx < k) (hp : p < bx) (hbx : w0.heap.size ≤ bx) (hs : Rep.byte.Sl (fun x => x < p) w0 A c b) : Mid w0 p bx A c b w' at_ bad cs := by
  have hk : ∀ k, k ≤ bx → k < w.heap.size → w'.heap[k]? = w.heap[k]? := fun k h1 h2 => hg.block k h2 (fun e => by have := hr k e.symm; omega)
  have hxl : bx < w.heap.size := IsC.lt ⟨_, _, _, h.x⟩
  refine ⟨⟨hg.os.trans h.g.os, hg.tape.trans h.g.tape, hg.output.trans h.g.output, Nat.le_trans h.g.size hg.size, fun k hl hne => (hk k (by omega) (by have := h.g.size; omega)).trans (h.g.block k hl hne)⟩, (hk bx (Nat.le_refl _) hxl).trans h.x, ⟨(hk p (by omega) (by omega)).trans h.r.blk, hs.keep fun x hx hl => ⟨hx, (hk x (by have := hl.lt; omega) (by have := hl.lt; omega)).trans (h.g.block x hl.lt (fun e => Nat.ne_of_lt hx (Option.some.inj e)))⟩, h.r.le⟩⟩

theorem rdNum_false (b : List UInt8) (a w : Nat) (h1 : 1 ≤ w) (h8 : w ≤ 8) : rdNum b a false (w : Int) = if a + w ≤ b.length then (i64of (natAt b a w), a + w, false) else (0, a, true) := by
  unfold rdNum
  rw [getNum_nat b a h1 h8, wide_small h1 h8]
  by_cases h : a + w ≤ b.length
  · rw [if_pos h, if_pos h]; rfl
  · rw [if_neg h, if_neg h]; rfl
end Go.Proofs.YthkepjhfeeohdaaGreatDoor
namespace Go.Proofs.YthkepjhfeeohdaaGreatDoor
open Go.RowKit
open Extern.Stop (cell)

def seal0 : DSeal := ⟨0, 0, 0, []⟩
theorem seal0_val {Q : Nat → Prop} {w : World} : rSeal.val Q w (.agg #[.int .i64 0, .int .i64 0, .int .i64 0, .slice none 0 0]) seal0 :=
  rSeal_agg (x := seal0) rfl rfl rfl ⟨Nat.le_refl _, by simp [maxLen], [], rfl, fun h => absurd h (by simp [seal0])⟩

/-- What stands while a sector is read: the reader p, the seal's box X, the result's R. -/
structure GetAt (w W : World) (R p X : Nat) (A : Option Addr) (c : Nat) (b : List UInt8) (a : Nat) (cs : Array Value) : Prop where
  bel : Below w.heap.size w W
  rdr : RdrAt W p A c b a false
  xb : W.heap[X]? = some (.cells cs 209 (0, 0))
  rb : W.heap[R]? = some (.cells #[.int .i64 0, .int .i64 0, .int .i64 0, .slice none 0 0] 209 (0, 0))
  ok : w.heap.size ≤ R ∧ R < p ∧ p < X
theorem GetAt.num {w W W' : World} {R p X : Nat} {A : Option Addr} {c : Nat} {b : List UInt8} {a a' : Nat} {cs : Array Value} (h : GetAt w W R p X A c b a cs) (r : RdrAt W' p A c b a' false) (g : W.grownBy W' (some p)) : GetAt w W' R p X A c b a' cs :=
  ⟨h.bel.grown g h.bel.size (fun k hk => by have := Option.some.inj hk; have := h.ok; omega), r,
   (g.block X (IsC.lt ⟨_, _, _, h.xb⟩) (fun e => by have := Option.some.inj e; have := h.ok; omega)).trans h.xb,
   (g.block R (IsC.lt ⟨_, _, _, h.rb⟩) (fun e => by have := Option.some.inj e; have := h.ok; omega)).trans h.rb, h.ok⟩
theorem GetAt.put {w W : World} {R p X : Nat} {A : Option Addr} {c : Nat} {b : List UInt8} {a : Nat} {cs : Array Value} (h : GetAt w W R p X A c b a cs) (i : Nat) (v : Value) : GetAt w (W.setCell ⟨X, i, none⟩ v) R p X A c b a (cs.setIfInBounds i v) := by
  have ok := h.ok
  refine ⟨⟨h.bel.os, h.bel.tape, h.bel.output, by simpa using h.bel.size, fun k hk => (Below.heap_setCell _ _ _ _ (show k ≠ X by omega)).trans (h.bel.block k hk)⟩,
    ⟨(Below.heap_setCell _ _ _ _ (show p ≠ X by omega)).trans h.rdr.blk, h.rdr.sl.keep fun x hx _ => ⟨hx, Below.heap_setCell _ _ _ _ (show x ≠ X by have : x < p := hx; omega)⟩, h.rdr.le⟩,
    heap_setRow h.xb, (Below.heap_setCell _ _ _ _ (show R ≠ X by omega)).trans h.rb, ok⟩
theorem rdNum_at {b : List UInt8} {a w : Nat} (h1 : 1 ≤ w) (h8 : w ≤ 8) (h : a + w ≤ b.length) : rdNum b a false (w : Int) = (i64of (natAt b a w), a + w, false) := by
  rw [rdNum_false b a w h1 h8, if_pos h]
theorem rdBytes_at {b : List UInt8} {a n : Nat} (h : a + n ≤ b.length) : rdBytes b a false (n : Int) = ((b.drop a).take n, a + n, false) := by
  unfold rdBytes
  rw [if_neg (by decide), if_neg (by omega), if_neg (by omega)]; simp

theorem below_set {B k : Nat} {w W : World} (h : Below B w W) (hk : B ≤ k) {i : Nat} {v : Value} : Below B w (W.setCell ⟨k, i, none⟩ v) :=
  ⟨h.os, h.tape, h.output, by simpa using h.size, fun x hx => (Below.heap_setCell _ _ _ _ (show x ≠ k by omega)).trans (h.block x hx)⟩
theorem set4_keep {W : World} {R k : Nat} {a b c d : Value} (h : k ≠ R) : ((((W.setCell ⟨R, 0, none⟩ a).setCell ⟨R, 1, none⟩ b).setCell ⟨R, 2, none⟩ c).setCell ⟨R, 3, none⟩ d).heap[k]? = W.heap[k]? := by
  rw [Below.heap_setCell _ _ _ _ h, Below.heap_setCell _ _ _ _ h, Below.heap_setCell _ _ _ _ h, Below.heap_setCell _ _ _ _ h]
theorem sizeOf5 (w : World) : (sizeOf 5).run Tryz.prog w = .ok 1 w := by
  have h := size5
  cases hq : Tryz.prog.info? 5 with
  | none => simp [hq] at h
  | some i => simp [hq] at h; simp [sizeOf, typeInfo, hq, h]
theorem guard_sector : Tryz.prog.eqGuardType Tryz.prog.depth 330 = false := by kernel_rfl
theorem yieldsIf_neq_sector {ops : Array Oper} {S : World → Prop} {op : Oper} {a : Act} (hw : Region.wanted op (yielded ops a.tmps) = true) (x y : Operand) (t2 : TypeId) (ho : op.op = .binOp .neq 330 x y t2)
    (xs ys : List UInt8) (hx : a.eval x = .agg (xs.map cell).toArray) (hy : a.eval y = .agg (ys.map cell).toArray) (hlx : xs.length = 512) (hly : ys.length = 512) : YieldsIf Tryz.prog ops S op (.bool (!(xs == ys))) a :=
  .inl ⟨hw, fun w _ => by
    unfold execOp
    simp only [ho, hx, hy, Sem.run_bind, run_eqGuard_agg w _ _ _ _ _ _ guard_sector, Result.andThen_ok, run_neq_struct, run_equalIn_bytes w 9998 330 5 512 Tryz.underlying330 Tryz.underlying5 sizeOf5 xs ys hlx hly, Sem.run_pure]⟩
/-- What is got of a sector. -/
def SealRes (w : World) (b : List UInt8) (e : Ending) (w' : World) : Prop :=
  ∃ v, e = .returned (.tuple #[v, .bool (sealGet b).isSome]) ∧ rSeal.val (fun k => w.heap.size ≤ k) w' v ((sealGet b).getD seal0) ∧ Below w.heap.size w w'

set_option maxRecDepth 100000 in
set_option maxHeartbeats 4000000 in
/-- seal.Get -/
theorem sealGet_calls {Q : Nat → Prop} {w : World} {v : Value} {b : List UInt8} (hx : Rep.byte.list.val Q w v b) :
    Calls Tryz.prog 138 #[v] w (SealRes w b) := by
  have HX := Lib.hid hx
  obtain ⟨A0, c0, rfl, hc1, hc2, hA⟩ := Rep.val_list hx
  have HA := Lib.hid hA
  unfold maxLen at hc2
  obtain ⟨W1, hW1⟩ : ∃ W1, w.alloc (.cells #[.int .i64 0, .int .i64 0, .int .i64 0, .slice none 0 0] 209) = W1 := ⟨_, rfl⟩
  have hb1 : Below w.heap.size w W1 := by rw [← hW1]; exact (Below.refl _ _).alloc (Nat.le_refl _) _
  have hr1 : W1.heap[w.heap.size]? = some (.cells #[.int .i64 0, .int .i64 0, .int .i64 0, .slice none 0 0] 209 (0, 0)) := by rw [← hW1]; exact heap_alloc_new _ _
  have hz1 : W1.heap.size = w.heap.size + 1 := by rw [← hW1]; simp
  have HB1 := Lib.hid hb1
  have HR1 := Lib.hid hr1
  have HZ1 := Lib.hid hz1
  clear hx hA hb1
  by_cases hlen : (b.length : Int) = 512
  case neg =>
    have HF := Lib.hid (show sealGet b = none by unfold sealGet; rw [if_neg (fun h => hlen (by omega))])
    have hne : ((b.length : Int) == 512) = false := by simpa using hlen
    obtain ⟨e0, z0, e1, z1, e2, z2, e3, z3⟩ := rw4 hr1
    clear hr1 hz1 hlen
    go_enter Tryz.func138, Tryz.ntmps138
    go_wp2_with fail
    try rw [hW1]
    clear hW1
    go_wp2_with fail
    have hfr : Tryz.f138.results = #[.cell 2 209, .tmp 3] := rfl
    refine ⟨rfl, .tuple #[.agg #[.int .i64 0, .int .i64 0, .int .i64 0, .slice none 0 0], .bool false], ?_, ⟨_, by rw [HF.out]; rfl, by rw [HF.out]; exact seal0_val, below_set (below_set (below_set (below_set HB1.out (Nat.le_refl _)) (Nat.le_refl _)) (Nat.le_refl _)) (Nat.le_refl _)⟩⟩
    simp only [results, hfr]
    go_simp
  case pos =>
    have HL := Lib.hid (show b.length = 512 by omega)
    clear hr1 hz1
    go_enter Tryz.func138, Tryz.ntmps138
    go_wp2_with fail
    try rw [hW1]
    clear hW1
    go_wp2_with fail
    refine (read_calls (Rep.val_below (B := w.heap.size) (Rep.val_any HX.out) HB1.out fun _ h _ => h) (by have := HL.out; omega)).mono ?_
    rintro e w1 ⟨p, A, c, rfl, hr, hp, hb, hs⟩
    have HP := Lib.hid hp
    have HRD1 := Lib.hid hr
    have HB2 := Lib.hid hb
    clear hr hp hb hs
    go_wp2_with fail
    refine (rdnum_calls (width := 8) HRD1.out (by have := HL.out; omega)).mono ?_
    rintro e w2 ⟨rfl, hr, hg⟩
    rw [show rdNum b 0 false 8 = (i64of (natAt b 0 8), 8, false) from rdNum_at (w := 8) (by decide) (by decide) (by have := HL.out; omega)] at hr ⊢
    have HRD2 := Lib.hid hr
    have HG2 := Lib.hid hg
    clear hr hg
    go_wp2_with fail
    refine (rdnum_calls (width := 8) HRD2.out (by have := HL.out; omega)).mono ?_
    rintro e w3 ⟨rfl, hr, hg⟩
    rw [show rdNum b 8 false 8 = (i64of (natAt b 8 8), 16, false) from rdNum_at (w := 8) (by decide) (by decide) (by have := HL.out; omega)] at hr ⊢
    have HRD3 := Lib.hid hr
    have HG3 := Lib.hid (HG2.out.trans hg)
    have HN1 := Lib.hid (i64of_wf (natAt b 0 8))
    have HN2 := Lib.hid (i64of_wf (natAt b 8 8))
    have HN3 := Lib.hid (show i64of (natAt b 20 1) = natAt b 20 1 from i64of_natAt b 20 1 (by decide))
    have HN4 := Lib.hid (show i64of (natAt b 22 2) = natAt b 22 2 from i64of_natAt b 22 2 (by decide))
    have HS' := Lib.hid (show sealRead' b = ⟨i64of (natAt b 0 8), i64of (natAt b 8 8), natAt b 20 1, (b.drop 24).take (min (natAt b 22 2) 472)⟩ from rfl)
    have hk3 := natAt_lt b 20 1
    have HW3 := Lib.hid (show (Lit.int .i64 (natAt b 20 1 : Int)).wf = true from wf_i64 (by omega) (by omega))
    clear hr hg hk3
    generalize i64of (natAt b 0 8) = n1 at *
    generalize i64of (natAt b 8 8) = n2 at *
    have G4 := Lib.hid (show GetAt w (w3.alloc (.cells #[.int .i64 n1, .int .i64 n2, .int .i64 0, .slice none 0 0] 209)) w.heap.size p w3.heap.size A c b 16 #[.int .i64 n1, .int .i64 n2, .int .i64 0, .slice none 0 0] from by
      have hP := HP.out
      have hZ := HZ1.out
      have q1 := HB2.out.size
      have q2 := HG3.out.size
      have hpl := HRD1.out.lt
      refine ⟨((HB1.out.trans (HB2.out.mono HB1.out.size)).grown HG3.out (by omega) (fun k hk => by have := Option.some.inj hk; omega)).alloc (by omega) _, ?_, heap_alloc_new _ _, ?_, ⟨Nat.le_refl _, by omega, by omega⟩⟩
      · exact HRD3.out.keep fun x hx => heap_alloc_old _ _ hx.lt
      · rw [heap_alloc_old _ _ (by omega), HG3.out.block _ (by omega) (fun e => by have := Option.some.inj e; omega), HB2.out.block _ (by omega)]
        exact HR1.out)
    have HX3 := Lib.hid (show w.heap.size < w3.heap.size by have := HG3.out.size; have := HB2.out.size; have := HZ1.out; omega)
    generalize hX : w3.heap.size = X at *
    clear HRD2 HG2 HRD3 HG3 HRD1 HB2 HR1 HZ1
    go_wp2_with fail
    try rw [hX]
    generalize w3.alloc (.cells #[.int .i64 n1, .int .i64 n2, .int .i64 0, .slice none 0 0] 209) = W4 at *
    refine (rdnum_calls (width := 4) G4.out.rdr (by have := HL.out; omega)).mono ?_
    rintro e w5 ⟨rfl, hr, hg⟩
    rw [show rdNum b 16 false 4 = (i64of (natAt b 16 4), 20, false) from rdNum_at (w := 4) (by decide) (by decide) (by have := HL.out; omega)] at hr ⊢
    have G5 := Lib.hid (G4.out.num hr hg)
    clear hr hg
    go_wp2_with fail
    refine (rdnum_calls (width := 1) G5.out.rdr (by have := HL.out; omega)).mono ?_
    rintro e w6 ⟨rfl, hr, hg⟩
    rw [show rdNum b 20 false 1 = (i64of (natAt b 20 1), 21, false) from rdNum_at (w := 1) (by decide) (by decide) (by have := HL.out; omega)] at hr ⊢
    have G6 := Lib.hid (G5.out.num hr hg)
    clear hr hg
    rw [HN3.out]
    have e2 := cell_row G6.out.xb 2
    have z2 := frozen_row G6.out.xb 2
    go_wp2_with fail
    have G7 := Lib.hid (show GetAt w (w6.setCell ⟨X, 2, none⟩ (.int .i64 (natAt b 20 1))) w.heap.size p X A c b 21 #[.int .i64 n1, .int .i64 n2, .int .i64 (natAt b 20 1), .slice none 0 0] from G6.out.put 2 _)
    clear e2 z2
    generalize natAt b 20 1 = n3 at *
    generalize w6.setCell ⟨X, 2, none⟩ (.int .i64 n3) = W7 at *
    refine (rdnum_calls (width := 1) G7.out.rdr (by have := HL.out; omega)).mono ?_
    rintro e w8 ⟨rfl, hr, hg⟩
    rw [show rdNum b 21 false 1 = (i64of (natAt b 21 1), 22, false) from rdNum_at (w := 1) (by decide) (by decide) (by have := HL.out; omega)] at hr ⊢
    have G8 := Lib.hid (G7.out.num hr hg)
    clear hr hg
    go_wp2_with fail
    refine (rdnum_calls (width := 2) G8.out.rdr (by have := HL.out; omega)).mono ?_
    rintro e w9 ⟨rfl, hr, hg⟩
    rw [show rdNum b 22 false 2 = (i64of (natAt b 22 2), 24, false) from rdNum_at (w := 2) (by decide) (by decide) (by have := HL.out; omega)] at hr ⊢
    have G9 := Lib.hid (G8.out.num hr hg)
    clear hr hg
    rw [HN4.out]
    generalize natAt b 22 2 = n4 at *
    by_cases h4 : (n4 : Int) ≤ 472
    · have HY := Lib.hid (show min n4 472 = n4 by omega)
      go_wp2_with fail
      refine (rdbytes_calls (n := ((n4 : Nat) : Int)) G9.out.rdr (by have := HL.out; omega)).mono ?_
      rintro e w10 ⟨u, rfl, hu, hr, hg⟩
      rw [rdBytes_at (by have := HL.out; omega)] at hu hr
      have G10 := Lib.hid (G9.out.num hr hg)
      have HX9 := Lib.hid (show X < w9.heap.size from IsC.lt ⟨_, _, _, G9.out.xb⟩)
      obtain ⟨A5, c5, rfl, hs5⟩ := Rep.val_sl hu
      dsimp only at hs5
      have HYL := Lib.hid (show ((b.drop 24).take n4).length = n4 by have := HL.out; rw [List.length_take, List.length_drop]; omega)
      have HS5 := Lib.hid hs5
      clear hu hr hg hs5
      rw [HYL.out]
      have e3 := cell_row G10.out.xb 3
      have z3 := frozen_row G10.out.xb 3
      go_wp2_with fail
      have G11 := Lib.hid (show GetAt w (w10.setCell ⟨X, 3, none⟩ (.slice A5 n4 c5)) w.heap.size p X A c b (24 + n4) #[.int .i64 n1, .int .i64 n2, .int .i64 n3, .slice A5 n4 c5] from G10.out.put 3 _)
      have HS11 := Lib.hid (show Rep.byte.Sl (fun x => w9.heap.size ≤ x) (w10.setCell ⟨X, 3, none⟩ (.slice A5 n4 c5)) A5 c5 ((b.drop 24).take n4) from HS5.out.keep fun x hx _ => ⟨hx, Below.heap_setCell _ _ _ _ (show x ≠ X by have := HX9.out; have hx' : w9.heap.size ≤ x := hx; omega)⟩)
      clear e3 z3
      generalize w10.setCell ⟨X, 3, none⟩ (.slice A5 n4 c5) = W11 at *
      have HXW := Lib.hid (show X < W11.heap.size from IsC.lt ⟨_, _, _, G11.out.xb⟩)
      obtain ⟨bb, off, hA0⟩ := Rep.At.addr HA.out (by have := HL.out; omega)
      subst hA0
      have KR := Lib.hid (show ∀ W, Below W11.heap.size W11 W → W.heap[X]? = some (.cells #[.int .i64 n1, .int .i64 n2, .int .i64 n3, .slice A5 n4 c5] 209 (0, 0)) ∧ W.heap[w.heap.size]? = some (.cells #[.int .i64 0, .int .i64 0, .int .i64 0, .slice none 0 0] 209 (0, 0)) ∧ W.rangeAt bb off (b.map cell) ∧ Below w.heap.size w W ∧ rSeal.val (fun k => w.heap.size < k) W (.agg #[.int .i64 n1, .int .i64 n2, .int .i64 n3, .slice A5 n4 c5]) (sealRead' b) from fun W h => by
        have hbw := G11.out.bel.trans (h.mono G11.out.bel.size)
        have hX3 := HX3.out
        have hXW := HXW.out
        refine ⟨(h.block X hXW).trans G11.out.xb, (h.block _ (by omega)).trans G11.out.rb, ?_, hbw, ?_⟩
        · obtain ⟨es, hrow, hc⟩ := HA.out
          obtain ⟨b', o', he, _, hic, hcells⟩ := hc (by have := HL.out; omega)
          cases he
          intro j v hj
          rw [hbw.cell (p := ⟨bb, off + j, none⟩) hic.lt]
          exact hcells j v (by rw [Rep.row_byte hrow]; exact hj)
        · rw [HS'.out, HY.out]
          have hs := HS11.out.keep (w' := W) (Q' := fun k => w.heap.size < k) fun x hx hl => ⟨by have hx' : w9.heap.size ≤ x := hx; have := HX9.out; show w.heap.size < x; omega, h.block x hl.lt⟩
          have := rSeal_agg (x := ⟨n1, n2, n3, (b.drop 24).take n4⟩) HN1.out HN2.out HW3.out hs
          rwa [HYL.out] at this)
      have s1 := KR.out W11.drew (Below.refl _ _).drew
      refine wp_region_held (S := fun W => W.heap[X]? = some (.cells #[.int .i64 n1, .int .i64 n2, .int .i64 n3, .slice A5 n4 c5] 209 (0, 0)) ∧ W.heap[w.heap.size]? = some (.cells #[.int .i64 0, .int .i64 0, .int .i64 0, .slice none 0 0] 209 (0, 0)) ∧ W.rangeAt bb off (b.map cell) ∧ Below w.heap.size w W ∧ rSeal.val (fun k => w.heap.size < k) W (.agg #[.int .i64 n1, .int .i64 n2, .int .i64 n3, .slice A5 n4 c5]) (sealRead' b)) (by kernel_rfl) ?_
      refine tkH (i := 0) (v := .agg #[.int .i64 n1, .int .i64 n2, .int .i64 n3, .slice A5 n4 c5]) rfl (Or.inl ⟨by rfl, fun w' h => by have x0 := cell_row h.1 0; have x1 := cell_row h.1 1; have x2 := cell_row h.1 2; have x3 := cell_row h.1 3; go_simp⟩) s1 ?_
      go_simp
      refine tkHV (i := 2) (v := .slice (some ⟨bb, off, none⟩) b.length c0) rfl s1 ?_
      go_simp
      refine tkH (i := 3) (v := .pointer (some ⟨bb, off, none⟩)) rfl (Or.inl ⟨by rfl, fun w' _ => by have hq := run_arrayAt (P := Tryz.prog) w' 330 5 512 (some ⟨bb, off, none⟩) b.length c0 Tryz.underlying330 (by have := HL.out; omega); go_simp⟩) s1 ?_
      go_simp
      refine tkH (i := 4) (v := .agg (b.map cell).toArray) rfl (yieldsIf_load_mid (by rfl) 330 (.tmp 33) rfl bb off (by rfl) (b.map cell) (.array 512 5) (fun w' h => h.2.2.1) Tryz.underlying330 rfl (by rw [List.length_map, HL.out]; exact size_sector)) s1 ?_
      go_simp
      refine wpAnyH_all (rs := [1]) (by kernel_rfl) (by simp) ?_
      intro i hi
      obtain rfl : i = 1 := by simpa using hi
      refine wpOp_step rfl (fun K hK => ?_)
      go_simp
      refine (made_calls s1.2.2.2.2).mono ?_
      rintro e w12 ⟨rfl, hb⟩
      have s2 := KR.out w12 ((Below.refl _ _).drew.trans hb)
      refine hK _ _ ⟨s2, ?_⟩
      clear hK K
      refine tkH (i := 5) (v := .bool (!(sealBytes (sealRead' b) == b))) rfl (yieldsIf_neq_sector (by rfl) (.tmp 31) (.tmp 34) _ rfl (sealBytes (sealRead' b)) b (by rfl) (by rfl) (sealBytes_length _) HL.out) s2 ?_
      go_simp
      refine wpAnyH_done (by kernel_rfl) ?_ _
      obtain ⟨e0, e1, e2, e3⟩ := cl4 s2.1
      obtain ⟨r0, z0, r1, z1, r2, z2, r3, z3⟩ := rw4 s2.2.1
      have HB12 := Lib.hid s2.2.2.2.1
      have HV12 := Lib.hid s2.2.2.2.2
      have hXR : w.heap.size < X := HX3.out
      have hfr : Tryz.f138.results = #[.cell 2 209, .tmp 3] := rfl
      clear s1 s2
      by_cases heq : sealBytes (sealRead' b) = b
      · have HF := Lib.hid (show sealGet b = some (sealRead' b) by rw [sealGet_alt HL.out, if_pos heq])
        have g0 : (sealBytes (sealRead' b) == b) = true := by simpa using heq
        rw [g0]
        clear heq g0
        go_wp2_with fail
        refine ⟨rfl, .tuple #[.agg #[.int .i64 n1, .int .i64 n2, .int .i64 n3, .slice A5 n4 c5], .bool true], ?_, ⟨_, by rw [HF.out]; rfl, by rw [HF.out]; exact Rep.val_keep (fun k hk _ => ⟨Nat.le_of_lt hk, set4_keep (Nat.ne_of_gt hk)⟩) HV12.out, below_set (below_set (below_set (below_set HB12.out (Nat.le_refl _)) (Nat.le_refl _)) (Nat.le_refl _)) (Nat.le_refl _)⟩⟩
        simp only [results, hfr]
        go_simp
      · have HF := Lib.hid (show sealGet b = none by rw [sealGet_alt HL.out, if_neg heq])
        have g0 : (sealBytes (sealRead' b) == b) = false := by simpa using heq
        rw [g0]
        clear heq g0
        go_wp2_with fail
        refine ⟨rfl, .tuple #[.agg #[.int .i64 0, .int .i64 0, .int .i64 0, .slice none 0 0], .bool false], ?_, ⟨_, by rw [HF.out]; rfl, by rw [HF.out]; exact seal0_val, below_set (below_set (below_set (below_set HB12.out (Nat.le_refl _)) (Nat.le_refl _)) (Nat.le_refl _)) (Nat.le_refl _)⟩⟩
        simp only [results, hfr]
        go_simp
    · have g4 : (472 : Int) ≤ n4 := by omega
      have HY := Lib.hid (show min n4 472 = 472 by omega)
      go_wp2_with fail
      refine (rdbytes_calls (n := ((472 : Nat) : Int)) G9.out.rdr (by have := HL.out; omega)).mono ?_
      rintro e w10 ⟨u, rfl, hu, hr, hg⟩
      rw [rdBytes_at (by have := HL.out; omega)] at hu hr
      have G10 := Lib.hid (G9.out.num hr hg)
      have HX9 := Lib.hid (show X < w9.heap.size from IsC.lt ⟨_, _, _, G9.out.xb⟩)
      obtain ⟨A5, c5, rfl, hs5⟩ := Rep.val_sl hu
      dsimp only at hs5
      have HYL := Lib.hid (show ((b.drop 24).take 472).length = 472 by have := HL.out; rw [List.length_take, List.length_drop]; omega)
      have HS5 := Lib.hid hs5
      clear hu hr hg hs5
      rw [HYL.out]
      have e3 := cell_row G10.out.xb 3
      have z3 := frozen_row G10.out.xb 3
      go_wp2_with fail
      have G11 := Lib.hid (show GetAt w (w10.setCell ⟨X, 3, none⟩ (.slice A5 472 c5)) w.heap.size p X A c b (24 + 472) #[.int .i64 n1, .int .i64 n2, .int .i64 n3, .slice A5 472 c5] from G10.out.put 3 _)
      have HS11 := Lib.hid (show Rep.byte.Sl (fun x => w9.heap.size ≤ x) (w10.setCell ⟨X, 3, none⟩ (.slice A5 472 c5)) A5 c5 ((b.drop 24).take 472) from HS5.out.keep fun x hx _ => ⟨hx, Below.heap_setCell _ _ _ _ (show x ≠ X by have := HX9.out; have hx' : w9.heap.size ≤ x := hx; omega)⟩)
      clear e3 z3
      generalize w10.setCell ⟨X, 3, none⟩ (.slice A5 472 c5) = W11 at *
      have HXW := Lib.hid (show X < W11.heap.size from IsC.lt ⟨_, _, _, G11.out.xb⟩)
      obtain ⟨bb, off, hA0⟩ := Rep.At.addr HA.out (by have := HL.out; omega)
      subst hA0
      have KR := Lib.hid (show ∀ W, Below W11.heap.size W11 W → W.heap[X]? = some (.cells #[.int .i64 n1, .int .i64 n2, .int .i64 n3, .slice A5 472 c5] 209 (0, 0)) ∧ W.heap[w.heap.size]? = some (.cells #[.int .i64 0, .int .i64 0, .int .i64 0, .slice none 0 0] 209 (0, 0)) ∧ W.rangeAt bb off (b.map cell) ∧ Below w.heap.size w W ∧ rSeal.val (fun k => w.heap.size < k) W (.agg #[.int .i64 n1, .int .i64 n2, .int .i64 n3, .slice A5 472 c5]) (sealRead' b) from fun W h => by
        have hbw := G11.out.bel.trans (h.mono G11.out.bel.size)
        have hX3 := HX3.out
        have hXW := HXW.out
        refine ⟨(h.block X hXW).trans G11.out.xb, (h.block _ (by omega)).trans G11.out.rb, ?_, hbw, ?_⟩
        · obtain ⟨es, hrow, hc⟩ := HA.out
          obtain ⟨b', o', he, _, hic, hcells⟩ := hc (by have := HL.out; omega)
          cases he
          intro j v hj
          rw [hbw.cell (p := ⟨bb, off + j, none⟩) hic.lt]
          exact hcells j v (by rw [Rep.row_byte hrow]; exact hj)
        · rw [HS'.out, HY.out]
          have hs := HS11.out.keep (w' := W) (Q' := fun k => w.heap.size < k) fun x hx hl => ⟨by have hx' : w9.heap.size ≤ x := hx; have := HX9.out; show w.heap.size < x; omega, h.block x hl.lt⟩
          have := rSeal_agg (x := ⟨n1, n2, n3, (b.drop 24).take 472⟩) HN1.out HN2.out HW3.out hs
          rwa [HYL.out] at this)
      have s1 := KR.out W11.drew (Below.refl _ _).drew
      refine wp_region_held (S := fun W => W.heap[X]? = some (.cells #[.int .i64 n1, .int .i64 n2, .int .i64 n3, .slice A5 472 c5] 209 (0, 0)) ∧ W.heap[w.heap.size]? = some (.cells #[.int .i64 0, .int .i64 0, .int .i64 0, .slice none 0 0] 209 (0, 0)) ∧ W.rangeAt bb off (b.map cell) ∧ Below w.heap.size w W ∧ rSeal.val (fun k => w.heap.size < k) W (.agg #[.int .i64 n1, .int .i64 n2, .int .i64 n3, .slice A5 472 c5]) (sealRead' b)) (by kernel_rfl) ?_
      refine tkH (i := 0) (v := .agg #[.int .i64 n1, .int .i64 n2, .int .i64 n3, .slice A5 472 c5]) rfl (Or.inl ⟨by rfl, fun w' h => by have x0 := cell_row h.1 0; have x1 := cell_row h.1 1; have x2 := cell_row h.1 2; have x3 := cell_row h.1 3; go_simp⟩) s1 ?_
      go_simp
      refine tkHV (i := 2) (v := .slice (some ⟨bb, off, none⟩) b.length c0) rfl s1 ?_
      go_simp
      refine tkH (i := 3) (v := .pointer (some ⟨bb, off, none⟩)) rfl (Or.inl ⟨by rfl, fun w' _ => by have hq := run_arrayAt (P := Tryz.prog) w' 330 5 512 (some ⟨bb, off, none⟩) b.length c0 Tryz.underlying330 (by have := HL.out; omega); go_simp⟩) s1 ?_
      go_simp
      refine tkH (i := 4) (v := .agg (b.map cell).toArray) rfl (yieldsIf_load_mid (by rfl) 330 (.tmp 33) rfl bb off (by rfl) (b.map cell) (.array 512 5) (fun w' h => h.2.2.1) Tryz.underlying330 rfl (by rw [List.length_map, HL.out]; exact size_sector)) s1 ?_
      go_simp
      refine wpAnyH_all (rs := [1]) (by kernel_rfl) (by simp) ?_
      intro i hi
      obtain rfl : i = 1 := by simpa using hi
      refine wpOp_step rfl (fun K hK => ?_)
      go_simp
      refine (made_calls s1.2.2.2.2).mono ?_
      rintro e w12 ⟨rfl, hb⟩
      have s2 := KR.out w12 ((Below.refl _ _).drew.trans hb)
      refine hK _ _ ⟨s2, ?_⟩
      clear hK K
      refine tkH (i := 5) (v := .bool (!(sealBytes (sealRead' b) == b))) rfl (yieldsIf_neq_sector (by rfl) (.tmp 31) (.tmp 34) _ rfl (sealBytes (sealRead' b)) b (by rfl) (by rfl) (sealBytes_length _) HL.out) s2 ?_
      go_simp
      refine wpAnyH_done (by kernel_rfl) ?_ _
      obtain ⟨e0, e1, e2, e3⟩ := cl4 s2.1
      obtain ⟨r0, z0, r1, z1, r2, z2, r3, z3⟩ := rw4 s2.2.1
      have HB12 := Lib.hid s2.2.2.2.1
      have HV12 := Lib.hid s2.2.2.2.2
      have hXR : w.heap.size < X := HX3.out
      have hfr : Tryz.f138.results = #[.cell 2 209, .tmp 3] := rfl
      clear s1 s2
      by_cases heq : sealBytes (sealRead' b) = b
      · have HF := Lib.hid (show sealGet b = some (sealRead' b) by rw [sealGet_alt HL.out, if_pos heq])
        have g0 : (sealBytes (sealRead' b) == b) = true := by simpa using heq
        rw [g0]
        clear heq g0
        go_wp2_with fail
        refine ⟨rfl, .tuple #[.agg #[.int .i64 n1, .int .i64 n2, .int .i64 n3, .slice A5 472 c5], .bool true], ?_, ⟨_, by rw [HF.out]; rfl, by rw [HF.out]; exact Rep.val_keep (fun k hk _ => ⟨Nat.le_of_lt hk, set4_keep (Nat.ne_of_gt hk)⟩) HV12.out, below_set (below_set (below_set (below_set HB12.out (Nat.le_refl _)) (Nat.le_refl _)) (Nat.le_refl _)) (Nat.le_refl _)⟩⟩
        simp only [results, hfr]
        go_simp
      · have HF := Lib.hid (show sealGet b = none by rw [sealGet_alt HL.out, if_neg heq])
        have g0 : (sealBytes (sealRead' b) == b) = false := by simpa using heq
        rw [g0]
        clear heq g0
        go_wp2_with fail
        refine ⟨rfl, .tuple #[.agg #[.int .i64 0, .int .i64 0, .int .i64 0, .slice none 0 0], .bool false], ?_, ⟨_, by rw [HF.out]; rfl, by rw [HF.out]; exact seal0_val, below_set (below_set (below_set (below_set HB12.out (Nat.le_refl _)) (Nat.le_refl _)) (Nat.le_refl _)) (Nat.le_refl _)⟩⟩
        simp only [results, hfr]
        go_simp
end Go.Proofs.YthkepjhfeeohdaaGreatDoor
namespace Go.Proofs.YthkepjhfeeohdaaGreatDoor
open Go.RowKit
open Go.Maps (Keyed)

/-- A device: what is safe, the writes that wait for each sector, the fuse, whether it is off, and what was done. -/
structure DiskSt where
  safe : List (List UInt8)
  wait : Int → List (List UInt8)
  fuse : Int
  off : Bool
  reads : Int
  writes : Int

def heldElem (v : Value) : Option (DataW Value × List MemPlace) := some (.held v, [])
def nilList : Value := .slice none 0 0
/-- What lies at a key of the map. -/
def valAt (D : DataW Value) (i : Int) : Value := match D.atKey (.int .i64 i) (.held nilList) with | .held v => v | _ => nilList
theorem int_law : Keyed Tryz.prog 3 := Go.Maps.int_keyed Tryz.underlying3
theorem zero24 (w : World) : (zeroValue 83).run Tryz.prog w = .ok nilList w := by kernel_rfl
theorem key_i64 {i : Int} (h : (Lit.int .i64 i).wf = true) : keyOf Tryz.prog 3 (.int .i64 i) = some (.int .i64 i)   := Go.Maps.keyOf_int_mk Tryz.underlying3 h
theorem lookup_held {w : World} {M n : Nat} {D : DataW Value} {i : Int} (h : w.ownsMap Tryz.prog 3 heldElem M n D) (hi : (Lit.int .i64 i).wf = true) :
    (Instr.lookup 82 (.map (some M)) (.int .i64 i) false).run Tryz.prog w = .ok (valAt D i) w := by
  obtain ⟨v, ps, hrun, hv⟩ := h.lookup int_law Tryz.underlying82 (zero24 w) (zd := .held nilList) (zp := []) rfl (key_i64 hi)
  have e : DataW.held v = D.atKey (.int .i64 i) (.held nilList) := by
    have := congrArg Prod.fst (Option.some.inj hv)
    exact this
  have : valAt D i = v := by unfold valAt; rw [← e]
  rw [this]; exact hrun
theorem acc_block {α : Type} {r : Rep α} {e base : Nat} {Q : Nat → Prop} {w : World} {v : Value} {xs : List α} (h : r.acc e base Q w v xs) {g : Nat} (hg : v.ownBlock = some g) : ∃ cur, w.heap[g]? = some (.cells cur e (0, 0)) := by
  obtain ⟨cells, h1, _⟩ := h
  rcases h1.2 with ⟨rfl, _⟩ | ⟨g', cap, cur, rfl, _, hh, _⟩
  · cases hg
  · cases hg; exact ⟨cur, hh⟩

/-- A device lies in block P. F: the blocks that it writes; B: those of its sectors' bytes, which are never written. -/
structure DiskW (W : World) (P : Nat) (Sf : Option Addr) (cs M : Nat) (D : DataW Value) (F B : Nat → Prop) (n : Nat) (st : DiskSt) : Prop where
  blk : W.heap[P]? = some (.cells #[.slice Sf st.safe.length cs, .map (some M), .int .i64 st.fuse, .bool st.off, .int .i64 st.reads, .int .i64 st.writes] 85 (0, 0))
  safe : Rep.byte.list.acc 44 0 B W (.slice Sf st.safe.length cs) st.safe
  map : W.ownsMap Tryz.prog 3 heldElem M n D
  wt : ∀ i, Rep.byte.list.acc 44 0 B W (valAt D i) (st.wait i)
  len : ∀ i, (st.wait i).length ≤ n
  keys : ∀ i, st.wait i ≠ [] → 0 ≤ i ∧ i < st.safe.length
  wf : (Lit.int .i64 st.fuse).wf = true
  fP : F P
  fM : F M
  fS : ∀ b, (Value.slice Sf st.safe.length cs).ownBlock = some b → F b
  fW : ∀ i b, (valAt D i).ownBlock = some b → F b
  dSW : ∀ i b, (valAt D i).ownBlock = some b → (Value.slice Sf st.safe.length cs).ownBlock ≠ some b
  dWW : ∀ i j b, i ≠ j → (valAt D i).ownBlock = some b → (valAt D j).ownBlock ≠ some b
  apart : ∀ b, F b → ¬ B b
  lt : ∀ b, F b ∨ B b → b < W.heap.size
  has : ∀ i, Go.Maps.has D (.int .i64 i) = true → st.wait i ≠ []
def DiskAt (W : World) (P : Nat) (F B : Nat → Prop) (n : Nat) (st : DiskSt) : Prop := ∃ Sf cs M D, DiskW W P Sf cs M D F B n st
/-- Nothing that was there is written but blocks of F. -/
structure Only (F : Nat → Prop) (W W' : World) : Prop where
  os : W'.os = W.os
  tape : W'.tape = W.tape
  output : W'.output = W.output
  size : W.heap.size ≤ W'.heap.size
  block : ∀ b, b < W.heap.size → ¬ F b → W'.heap[b]? = W.heap[b]?
theorem Only.refl (F : Nat → Prop) (W : World) : Only F W W := ⟨rfl, rfl, rfl, Nat.le_refl _, fun _ _ _ => rfl⟩
theorem Only.trans {F : Nat → Prop} {X Y Z : World} (h : Only F X Y) (k : Only F Y Z) : Only F X Z :=
  ⟨k.os.trans h.os, k.tape.trans h.tape, k.output.trans h.output, Nat.le_trans h.size k.size, fun b hb hf => (k.block b (Nat.lt_of_lt_of_le hb h.size) hf).trans (h.block b hb hf)⟩
theorem Only.of_below {F : Nat → Prop} {X Y : World} (h : Below X.heap.size X Y) : Only F X Y := ⟨h.os, h.tape, h.output, h.size, fun b hb _ => h.block b hb⟩
theorem Only.set {F : Nat → Prop} {X : World} {P i : Nat} {v : Value} (h : F P) : Only F X (X.setCell ⟨P, i, none⟩ v) :=
  ⟨rfl, rfl, rfl, by simp, fun b _ hf => Below.heap_setCell _ _ _ _ (fun e => hf (by rw [e]; exact h))⟩
theorem Only.below {F : Nat → Prop} {X Y : World} {base : Nat} (h : Only F X Y) (hb : base ≤ X.heap.size) (hf : ∀ b, F b → base ≤ b) : Below base X Y :=
  ⟨h.os, h.tape, h.output, h.size, fun b hl => h.block b (by omega) (fun hF => by have := hf b hF; omega)⟩

namespace DiskW
variable {W W' : World} {P : Nat} {Sf : Option Addr} {cs M : Nat} {D : DataW Value} {F B : Nat → Prop} {n : Nat} {st : DiskSt}

theorem sP (h : DiskW W P Sf cs M D F B n st) {b : Nat} (hb : (Value.slice Sf st.safe.length cs).ownBlock = some b) : b ≠ P := by
  rintro rfl
  obtain ⟨cur, hc⟩ := acc_block h.safe hb
  rw [h.blk] at hc; cases hc
theorem wP (h : DiskW W P Sf cs M D F B n st) {i : Int} {b : Nat} (hb : (valAt D i).ownBlock = some b) : b ≠ P := by
  rintro rfl
  obtain ⟨cur, hc⟩ := acc_block (h.wt i) hb
  rw [h.blk] at hc; cases hc
theorem mP (h : DiskW W P Sf cs M D F B n st) : M ≠ P := by
  rintro rfl
  obtain ⟨es, clock, hb, _⟩ := h.map
  rw [h.blk] at hb; cases hb
theorem map_keep (h : DiskW W P Sf cs M D F B n st) (hk : W'.heap[M]? = W.heap[M]?) : W'.ownsMap Tryz.prog 3 heldElem M n D := by
  obtain ⟨es, clock, hb, r⟩ := h.map
  exact ⟨es, clock, hk.trans hb, r⟩

/-- Whatever leaves its blocks leaves the device. -/
theorem keep (h : DiskW W P Sf cs M D F B n st) (hs : W.heap.size ≤ W'.heap.size) (hk : ∀ b, F b ∨ B b → W'.heap[b]? = W.heap[b]?) : DiskW W' P Sf cs M D F B n st :=
  ⟨(hk P (.inl h.fP)).trans h.blk,
   Rep.acc_keep (fun b hb _ => hk b (hb.elim .inr fun e => .inl (h.fS b e))) (fun _ hb _ => hb) h.safe,
   h.map_keep (hk M (.inl h.fM)),
   fun i => Rep.acc_keep (fun b hb _ => hk b (hb.elim .inr fun e => .inl (h.fW i b e))) (fun _ hb _ => hb) (h.wt i),
   h.len, h.keys, h.wf, h.fP, h.fM, h.fS, h.fW, h.dSW, h.dWW, h.apart, fun b hb => Nat.lt_of_lt_of_le (h.lt b hb) hs, h.has⟩

/-- A field of numbers is written. -/
theorem scal (h : DiskW W P Sf cs M D F B n st) {st' : DiskSt} (hs : st'.safe = st.safe) (hw : st'.wait = st.wait) (hf : (Lit.int .i64 st'.fuse).wf = true)
    (hb : W'.heap[P]? = some (.cells #[.slice Sf st.safe.length cs, .map (some M), .int .i64 st'.fuse, .bool st'.off, .int .i64 st'.reads, .int .i64 st'.writes] 85 (0, 0)))
    (hz : W.heap.size ≤ W'.heap.size) (hk : ∀ b, b ≠ P → b < W.heap.size → W'.heap[b]? = W.heap[b]?) : DiskW W' P Sf cs M D F B n st' := by
  have hB : ∀ b, B b → b ≠ P := fun b hb e => h.apart P h.fP (e ▸ hb)
  refine ⟨by rw [hs]; exact hb, ?_, h.map_keep (hk M h.mP (h.lt M (.inl h.fM))), fun i => ?_, by rw [hw]; exact h.len, by rw [hw, hs]; exact h.keys, hf, h.fP, h.fM, by rw [hs]; exact h.fS, h.fW, by rw [hs]; exact h.dSW, h.dWW, h.apart, fun b hb => Nat.lt_of_lt_of_le (h.lt b hb) hz, by rw [hw]; exact h.has⟩
  · rw [hs]
    exact Rep.acc_keep (fun b hb _ => hk b (hb.elim (hB b) fun e => h.sP e) (h.lt b (hb.elim .inr fun e => .inl (h.fS b e)))) (fun _ hb _ => hb) h.safe
  · rw [hw]
    exact Rep.acc_keep (fun b hb _ => hk b (hb.elim (hB b) fun e => h.wP e) (h.lt b (hb.elim .inr fun e => .inl (h.fW i b e)))) (fun _ hb _ => hb) (h.wt i)
end DiskW
theorem DiskAt.keep {W W' : World} {P : Nat} {F B : Nat → Prop} {n : Nat} {st : DiskSt} (h : DiskAt W P F B n st) (hs : W.heap.size ≤ W'.heap.size) (hk : ∀ b, F b ∨ B b → W'.heap[b]? = W.heap[b]?) : DiskAt W' P F B n st := by
  obtain ⟨Sf, cs, M, D, h⟩ := h
  exact ⟨Sf, cs, M, D, h.keep hs hk⟩
theorem DiskAt.below {W W' : World} {P : Nat} {F B : Nat → Prop} {n : Nat} {st : DiskSt} (h : DiskAt W P F B n st) (hb : Below W.heap.size W W') : DiskAt W' P F B n st :=
  h.keep hb.size fun b hb' => hb.block b (by obtain ⟨_, _, _, _, h⟩ := h; exact h.lt b hb')

/-- What is left of the fuse; the error. -/
def burnSt (st : DiskSt) : DiskSt × Int :=
  if st.off then (st, 3) else if st.fuse = 0 then ({ st with off := true }, 3) else if 0 < st.fuse then ({ st with fuse := st.fuse - 1 }, 0) else (st, 0)
/-- May something be done to a sector? -/
def atSt (st : DiskSt) (i : Int) : DiskSt × Int := if i < 0 ∨ (st.safe.length : Int) ≤ i then (st, 2) else burnSt st
def StepPost (F B : Nat → Prop) (P n : Nat) (W : World) (r : DiskSt × Int) (e : Ending) (W' : World) : Prop := e = .returned (.int .i64 r.2) ∧ DiskAt W' P F B n r.1 ∧ Only F W W'

set_option maxRecDepth 100000 in
set_option maxHeartbeats 1000000 in
/-- (*disk.Disk).burn -/
theorem burn_calls {W : World} {P : Nat} {F B : Nat → Prop} {n : Nat} {st : DiskSt} (h : DiskAt W P F B n st) :
    Calls Tryz.prog 189 #[.pointer (some ⟨P, 0, none⟩)] W (StepPost F B P n W (burnSt st)) := by
  obtain ⟨Sf, cs, M, D, hd⟩ := h
  have e2 := cell_row hd.blk 2
  have e3 := cell_row hd.blk 3
  have z2 := frozen_row hd.blk 2
  have z3 := frozen_row hd.blk 3
  have hwf := hd.wf
  have hf1 : -9223372036854775808 ≤ st.fuse ∧ st.fuse ≤ 9223372036854775807 := by simpa [Lit.wf, IntKind.min, IntKind.max, IntKind.signed, IntKind.bits] using hwf
  have HD := Lib.hid hd
  have HP := Lib.hid hd.fP
  clear hd hwf
  obtain ⟨sf, wt, fuse, off, rd, wr⟩ := st
  dsimp only at *
  cases off with
  | true =>
    have HF := Lib.hid (show burnSt ⟨sf, wt, fuse, true, rd, wr⟩ = (⟨sf, wt, fuse, true, rd, wr⟩, 3) from rfl)
    go_enter Tryz.func189, Tryz.ntmps189
    go_wp2_with fail
    go_ret
    exact ⟨by rw [HF.out]; rfl, by rw [HF.out]; exact ⟨_, _, _, _, HD.out⟩, Only.refl _ _⟩
  | false =>
    by_cases h0 : fuse = 0
    · subst h0
      have HF := Lib.hid (show burnSt ⟨sf, wt, 0, false, rd, wr⟩ = (⟨sf, wt, 0, true, rd, wr⟩, 3) from rfl)
      go_enter Tryz.func189, Tryz.ntmps189
      go_wp2_with fail
      go_ret
      exact ⟨by rw [HF.out]; rfl, by rw [HF.out]; exact ⟨_, _, _, _, HD.out.scal rfl rfl HD.out.wf (heap_setRow HD.out.blk) (by simp) fun b hb _ => Below.heap_setCell _ _ _ _ hb⟩, Only.set HP.out⟩
    · have g0 : (fuse == 0) = false := by simpa using h0
      by_cases h1 : 0 < fuse
      · have HF := Lib.hid (show burnSt ⟨sf, wt, fuse, false, rd, wr⟩ = (⟨sf, wt, fuse - 1, false, rd, wr⟩, 0) by simp [burnSt, h0, h1])
        have HWF := Lib.hid (show (Lit.int .i64 (fuse - 1)).wf = true from wf_i64 (by omega) (by omega))
        clear h0
        go_enter Tryz.func189, Tryz.ntmps189
        go_wp2_with fail
        go_ret
        exact ⟨by rw [HF.out]; rfl, by rw [HF.out]; exact ⟨_, _, _, _, HD.out.scal rfl rfl HWF.out (heap_setRow HD.out.blk) (by simp) fun b hb _ => Below.heap_setCell _ _ _ _ hb⟩, Only.set HP.out⟩
      · have HF := Lib.hid (show burnSt ⟨sf, wt, fuse, false, rd, wr⟩ = (⟨sf, wt, fuse, false, rd, wr⟩, 0) by simp [burnSt, h0, h1])
        clear h0
        go_enter Tryz.func189, Tryz.ntmps189
        go_wp2_with fail
        go_ret
        exact ⟨by rw [HF.out]; rfl, by rw [HF.out]; exact ⟨_, _, _, _, HD.out⟩, Only.refl _ _⟩
end Go.Proofs.YthkepjhfeeohdaaGreatDoor
namespace Go.Proofs.YthkepjhfeeohdaaGreatDoor
open Go.RowKit

theorem DiskW.len_safe {W : World} {P : Nat} {Sf : Option Addr} {cs M : Nat} {D : DataW Value} {F B : Nat → Prop} {n : Nat} {st : DiskSt} (h : DiskW W P Sf cs M D F B n st) : st.safe.length ≤ cs ∧ cs ≤ maxLen := by
  obtain ⟨A, c, he, h1, h2⟩ := Rep.acc_form h.safe
  cases he; exact ⟨h1, h2⟩

set_option maxRecDepth 100000 in
set_option maxHeartbeats 1000000 in
/-- (*disk.Disk).Size -/
theorem dsize_disk {W : World} {P : Nat} {F B : Nat → Prop} {n : Nat} {st : DiskSt} (h : DiskAt W P F B n st) :
    Calls Tryz.prog 54 #[.pointer (some ⟨P, 0, none⟩)] W fun e W' => e = .returned (.int .i64 st.safe.length) ∧ W' = W := by
  obtain ⟨Sf, cs, M, D, hd⟩ := h
  have e0 := cell_row hd.blk 0
  clear hd
  generalize st.safe.length = k at *
  go_enter Tryz.func54, Tryz.ntmps54
  go_wp2_with fail
  go_ret
  exact ⟨rfl, rfl⟩

set_option maxRecDepth 100000 in
set_option maxHeartbeats 1000000 in
/-- (*disk.Disk).at -/
theorem dat_calls {W : World} {P : Nat} {F B : Nat → Prop} {n : Nat} {st : DiskSt} {i : Int} (h : DiskAt W P F B n st) :
    Calls Tryz.prog 137 #[.pointer (some ⟨P, 0, none⟩), .int .i64 i] W (StepPost F B P n W (atSt st i)) := by
  have HA := Lib.hid h
  obtain ⟨Sf, cs, M, D, hd⟩ := h
  have e0 := cell_row hd.blk 0
  clear hd
  by_cases h0 : i < 0
  · have HF := Lib.hid (show atSt st i = (st, 2) by unfold atSt; rw [if_pos (.inl h0)])
    go_enter Tryz.func137, Tryz.ntmps137
    go_wp2_with fail
    go_ret
    exact ⟨by rw [HF.out]; rfl, by rw [HF.out]; exact HA.out, Only.refl _ _⟩
  · by_cases h1 : (st.safe.length : Int) ≤ i
    · have HF := Lib.hid (show atSt st i = (st, 2) by unfold atSt; rw [if_pos (.inr h1)])
      go_enter Tryz.func137, Tryz.ntmps137
      go_wp2_with fail
      go_ret
      exact ⟨by rw [HF.out]; rfl, by rw [HF.out]; exact HA.out, Only.refl _ _⟩
    · have HF := Lib.hid (show atSt st i = burnSt st by unfold atSt; rw [if_neg (by omega)])
      go_enter Tryz.func137, Tryz.ntmps137
      go_wp2_with fail
      refine (burn_calls HA.out).mono ?_
      rintro e w1 ⟨rfl, hd1, ho⟩
      have HD1 := Lib.hid hd1
      have HO := Lib.hid ho
      clear hd1 ho
      go_wp2_with fail
      go_ret
      exact ⟨by rw [HF.out]; rfl, by rw [HF.out]; exact HD1.out, HO.out⟩

theorem wpList_lookup_held {w : World} {ops : Array Oper} {rest : List Oper} {o : Oper} {a : Act} {R : Exit → Act → World → Prop} (hg : o.guard = none) (m x : Operand) (hop : o.op = Op.lookup 82 m x false)
    {M n : Nat} {D : DataW Value} {i : Int} (hm : a.eval m = .map (some M)) (hx : a.eval x = .int .i64 i) (h : w.ownsMap Tryz.prog 3 heldElem M n D) (hi : (Lit.int .i64 i).wf = true)
    (hK : wpList Tryz.prog ops R rest (a.put o.dst (valAt D i)) w) : wpList Tryz.prog ops R (o :: rest) a w := by
  refine wpList_plain hg fun K' hK' => ?_
  have hrun := lookup_held h hi
  unfold Oper.wp
  simp [execOp, hop, hm, hx, hrun, Result.andThen]
  exact hK' _ _ hK
theorem last_nil {l : List (List UInt8)} {d : List UInt8} (h : l = []) : (l.getLast?).getD d = d := by subst h; rfl
theorem last_get {l : List (List UInt8)} {d : List UInt8} (h : 0 < l.length) : (l.getLast?).getD d = l[l.length - 1] := by
  rw [List.getLast?_eq_getElem?, List.getElem?_eq_getElem (by omega)]; rfl

/-- What a sector was written last. -/
def lastSt (st : DiskSt) (i : Int) : List UInt8 := ((st.wait i).getLast?).getD (st.safe.getD i.toNat [])
def readSt (st : DiskSt) (i : Int) : DiskSt × List UInt8 × Int :=
  if (atSt st i).2 = 0 then ({ (atSt st i).1 with reads := wrap64 ((atSt st i).1.reads + 1) }, lastSt st i, 0) else ((atSt st i).1, [], (atSt st i).2)
def ReadPost (F B : Nat → Prop) (P n : Nat) (W : World) (r : DiskSt × List UInt8 × Int) (e : Ending) (W' : World) : Prop :=
  ∃ u, e = .returned (.tuple #[u, .int .i64 r.2.2]) ∧ Rep.byte.list.val (fun b => W.heap.size ≤ b) W' u r.2.1 ∧ DiskAt W' P F B n r.1 ∧ Only F W W'

theorem burnSt_same (st : DiskSt) : (burnSt st).1.safe = st.safe ∧ (burnSt st).1.wait = st.wait := by
  unfold burnSt; split
  · exact ⟨rfl, rfl⟩
  · split
    · exact ⟨rfl, rfl⟩
    · split <;> exact ⟨rfl, rfl⟩
theorem atSt_same (st : DiskSt) (i : Int) : (atSt st i).1.safe = st.safe ∧ (atSt st i).1.wait = st.wait := by
  unfold atSt; split
  · exact ⟨rfl, rfl⟩
  · exact burnSt_same st
theorem atSt_range {st : DiskSt} {i : Int} (h : (atSt st i).2 = 0) : 0 ≤ i ∧ i < st.safe.length := by
  unfold atSt at h
  split at h
  · exact absurd (show (2 : Int) = 0 from h) (by decide)
  · omega

set_option maxRecDepth 100000 in
set_option maxHeartbeats 2000000 in
/-- (*disk.Disk).Read -/
theorem dread_calls {W : World} {P : Nat} {F B : Nat → Prop} {n : Nat} {st : DiskSt} {i : Int} (h : DiskAt W P F B n st) (hi : (Lit.int .i64 i).wf = true) (hl : ∀ x ∈ st.safe, x.length ≤ 100000) (hw : ∀ j, ∀ x ∈ st.wait j, x.length ≤ 100000) :
    Calls Tryz.prog 85 #[.pointer (some ⟨P, 0, none⟩), .int .i64 i] W (ReadPost F B P n W (readSt st i)) := by
  have HA := Lib.hid h
  have HI := Lib.hid hi
  have HZ := Lib.hid (show ∀ w' : World, Rep.byte.list.val (fun x => W.heap.size ≤ x) w' (.slice none 0 0) ([] : List UInt8) from fun w => Rep.val_nil (by simp [maxLen]))
  by_cases hc : (atSt st i).2 = 0
  case neg =>
    have HF := Lib.hid (show readSt st i = ((atSt st i).1, [], (atSt st i).2) by unfold readSt; rw [if_neg hc])
    have g0 : ((atSt st i).2 == 0) = false := by simpa using hc
    have HN := Lib.hid hc
    clear h hc
    go_enter Tryz.func85, Tryz.ntmps85
    go_wp2_with fail
    refine (dat_calls HA.out).mono ?_
    rintro e w1 ⟨rfl, hd1, ho⟩
    have HD1 := Lib.hid hd1
    have HO := Lib.hid ho
    clear hd1 ho
    go_wp2_with fail
    go_ret2
    exact ⟨_, by rw [HF.out]; rfl, by rw [HF.out]; exact HZ.out _, by rw [HF.out]; exact HD1.out, HO.out⟩
  case pos =>
    have HF := Lib.hid (show readSt st i = ({ (atSt st i).1 with reads := wrap64 ((atSt st i).1.reads + 1) }, lastSt st i, 0) by unfold readSt; rw [if_pos hc])
    have HC := Lib.hid hc
    have hr := atSt_range hc
    have hs := atSt_same st i
    have HL := Lib.hid (show ∀ x ∈ (atSt st i).1.safe, x.length ≤ 100000 by rw [hs.1]; exact hl)
    have HW := Lib.hid (show ∀ j, ∀ x ∈ (atSt st i).1.wait j, x.length ≤ 100000 by rw [hs.2]; exact hw)
    have HLS := Lib.hid (show lastSt st i = lastSt (atSt st i).1 i by unfold lastSt; rw [hs.1, hs.2])
    have HR := Lib.hid (show 0 ≤ i ∧ i < (atSt st i).1.safe.length by rw [hs.1]; exact hr)
    clear h hc hl hw hr hs
    go_enter Tryz.func85, Tryz.ntmps85
    go_wp2_with fail
    refine (dat_calls HA.out).mono ?_
    rintro e w1 ⟨rfl, hd1, ho⟩
    rw [HC.out]
    generalize (atSt st i).1 = s1 at *
    obtain ⟨k, rfl⟩ : ∃ k : Nat, i = k := ⟨i.toNat, by have := HR.out; omega⟩
    have hk : k < s1.safe.length := by have := HR.out; omega
    obtain ⟨Sf, cs, M, D, hd1⟩ := hd1
    have HD1 := Lib.hid hd1
    have HO1 := Lib.hid ho
    have e0 := cell_row hd1.blk 0
    have e1 := cell_row hd1.blk 1
    have e4 := cell_row hd1.blk 4
    have z4 := frozen_row hd1.blk 4
    obtain ⟨W2, hW2⟩ : ∃ W2, w1.setCell ⟨P, 4, none⟩ (.int .i64 (wrap64 (s1.reads + 1))) = W2 := ⟨_, rfl⟩
    have hd2 : DiskW W2 P Sf cs M D F B n { s1 with reads := wrap64 (s1.reads + 1) } := by
      rw [← hW2]; exact hd1.scal rfl rfl hd1.wf (heap_setRow hd1.blk) (by simp) fun b hb _ => Below.heap_setCell _ _ _ _ hb
    have HO2 := Lib.hid (show Only F W W2 from HO1.out.trans (by rw [← hW2]; exact Only.set hd1.fP))
    have HD2 := Lib.hid hd2
    have HW2 := Lib.hid hW2
    obtain ⟨AL, cL, hva, hcl, hcm⟩ := Rep.acc_form (hd2.wt k)
    have HVA := Lib.hid hva
    have hsl := hd1.len_safe
    clear hd1 ho hva hcl hcm hW2
    dsimp only at hd2 HVA HF
    by_cases hw0 : s1.wait k = []
    · have hl0 : (s1.wait k).length = 0 := by rw [hw0]; rfl
      rw [hl0] at HVA
      obtain ⟨bb, off, B5, c5, hSf, hcell, hc5, hm5, hat⟩ := Rep.At.list (by
        obtain ⟨A', c', he, h1, h2, h3⟩ := Rep.val_list (Rep.acc_val hd2.safe)
        cases he; exact h3) (List.getElem?_eq_getElem hk)
      subst hSf
      have HX := Lib.hid (show Rep.byte.list.val (fun _ => True) W2 (.slice B5 (s1.safe[k]).length c5) s1.safe[k] from Rep.val_mono (fun _ _ _ => trivial) (Rep.list_val rfl hc5 hm5 hat))
      have HXL := Lib.hid (HL.out _ (List.getElem_mem hk))
      have HLast := Lib.hid (show lastSt s1 k = s1.safe[k] by unfold lastSt; rw [last_nil hw0, List.getD_eq_getElem?_getD, Int.toNat_natCast, List.getElem?_eq_getElem hk]; rfl)
      generalize s1.safe[k] = x at *
      clear hat hd2
      rw [← HW2.out] at hcell
      go_wp2_with (at_lookup; refine wpList_lookup_held rfl (.tmp 24) (.tmp 25) rfl (M := M) (n := n) (D := D) (i := (k : Int)) (by exact rfl) (by exact rfl) (by rw [HW2.out]; exact HD2.out.map) HI.out ?_; rw [HVA.out])
      rw [HW2.out]
      refine (sliceClone HX.out (by have := HXL.out; omega)).mono ?_
      rintro e w3 ⟨u, rfl, hu, hb3⟩
      have HU := Lib.hid (Rep.acc_fresh hu)
      have HD3 := Lib.hid (show DiskAt w3 P F B n { s1 with reads := wrap64 (s1.reads + 1) } from DiskAt.below ⟨_, _, _, _, HD2.out⟩ hb3)
      have HO3 := Lib.hid (HO2.out.trans (Only.of_below hb3))
      have HSZ := Lib.hid HO2.out.size
      clear hu hb3
      go_wp2_with fail
      go_ret2
      exact ⟨_, by rw [HF.out]; rfl, by rw [HF.out]; show Rep.byte.list.val _ _ _ (lastSt st k); rw [HLS.out, HLast.out]; exact Rep.val_mono (fun b hb _ => Nat.le_trans HSZ.out hb) HU.out, by rw [HF.out]; exact HD3.out, HO3.out⟩
    · have hpos : 0 < (s1.wait k).length := by
        cases hq : s1.wait k with
        | nil => exact absurd hq hw0
        | cons _ _ => simp
      obtain ⟨m, hm⟩ : ∃ m, (s1.wait k).length = m + 1 := ⟨(s1.wait k).length - 1, by omega⟩
      have hlast : (s1.wait k).length - 1 = m := by omega
      have hmk : m < (s1.wait k).length := by omega
      obtain ⟨bb, off, B5, c5, hAL, hcell, hc5, hm5, hat⟩ := Rep.At.list (by
        obtain ⟨A', c', he, h1, h2, h3⟩ := Rep.val_list (Rep.acc_val (hd2.wt k))
        rw [HVA.out] at he
        cases he; exact h3) (List.getElem?_eq_getElem hmk)
      subst hAL
      have HX := Lib.hid (show Rep.byte.list.val (fun _ => True) W2 (.slice B5 ((s1.wait k)[m]).length c5) (s1.wait k)[m] from Rep.val_mono (fun _ _ _ => trivial) (Rep.list_val rfl hc5 hm5 hat))
      have HXL := Lib.hid (HW.out k _ (List.getElem_mem hmk))
      have HLast := Lib.hid (show lastSt s1 k = (s1.wait k)[m] by unfold lastSt; rw [last_get hpos]; congr 1)
      rw [hm] at HVA
      have hmx : (m : Int) + 1 ≤ 9223372036854775807 := by
        obtain ⟨A', c', he, h1, h2, _⟩ := Rep.val_list (Rep.acc_val (hd2.wt k))
        have h3 : (s1.wait k).length = m + 1 := hm
        have h1' : (s1.wait k).length ≤ c' := h1
        unfold maxLen at h2; omega
      generalize (s1.wait k)[m] = x at *
      clear hat hd2 hw0 hpos hm hlast hmk
      rw [← HW2.out] at hcell
      go_wp2_with (at_lookup; refine wpList_lookup_held rfl (.tmp 24) (.tmp 25) rfl (M := M) (n := n) (D := D) (i := (k : Int)) (by exact rfl) (by exact rfl) (by rw [HW2.out]; exact HD2.out.map) HI.out ?_; rw [HVA.out])
      rw [HW2.out]
      refine (sliceClone HX.out (by have := HXL.out; omega)).mono ?_
      rintro e w3 ⟨u, rfl, hu, hb3⟩
      have HU := Lib.hid (Rep.acc_fresh hu)
      have HD3 := Lib.hid (show DiskAt w3 P F B n { s1 with reads := wrap64 (s1.reads + 1) } from DiskAt.below ⟨_, _, _, _, HD2.out⟩ hb3)
      have HO3 := Lib.hid (HO2.out.trans (Only.of_below hb3))
      have HSZ := Lib.hid HO2.out.size
      clear hu hb3
      go_wp2_with fail
      go_ret2
      exact ⟨_, by rw [HF.out]; rfl, by rw [HF.out]; show Rep.byte.list.val _ _ _ (lastSt st k); rw [HLS.out, HLast.out]; exact Rep.val_mono (fun b hb _ => Nat.le_trans HSZ.out hb) HU.out, by rw [HF.out]; exact HD3.out, HO3.out⟩
end Go.Proofs.YthkepjhfeeohdaaGreatDoor
namespace Go.Proofs.YthkepjhfeeohdaaGreatDoor
open Go.RowKit Go.Shelf
attribute [local go_sem] Oper.semAt_some

theorem info22' : (Tryz.prog.info? 44).map (fun i => (i.zero, i.size)) = some (some (.slice none 0 0), 1) := by kernel_rfl

end Go.Proofs.YthkepjhfeeohdaaGreatDoor
namespace Go.Proofs.YthkepjhfeeohdaaGreatDoor
open Go.RowKit

theorem Only.grow {F : Nat → Prop} {X Y Z : World} (h : Only F X Y) (hb : Below X.heap.size Y Z) : Only F X Z :=
  ⟨hb.os.trans h.os, hb.tape.trans h.tape, hb.output.trans h.output, Nat.le_trans h.size hb.size, fun b hl hf => (hb.block b hl).trans (h.block b hl hf)⟩
/-- Sectors read one behind the other, up to the first error. -/
def readAll (st : DiskSt) : List Int → DiskSt × List (List UInt8) × Int
  | [] => (st, [], 0)
  | i :: is => if (readSt st i).2.2 = 0 then ((readAll (readSt st i).1 is).1, (readSt st i).2.1 :: (readAll (readSt st i).1 is).2.1, (readAll (readSt st i).1 is).2.2) else ((readSt st i).1, [], (readSt st i).2.2)
def LoadPost (F B : Nat → Prop) (P n : Nat) (W : World) (r : DiskSt × List (List UInt8) × Int) (e : Ending) (W' : World) : Prop :=
  ∃ u, e = .returned (.tuple #[u, .int .i64 r.2.2]) ∧ Rep.byte.list.list.val (fun b => W.heap.size ≤ b) W' u r.2.1 ∧ DiskAt W' P F B n r.1 ∧ Only F W W'
/-- Where a reading is: what is read already, and what is left. -/
def Upto (st : DiskSt) (is : List Int) (s : DiskSt) (ls : List (List UInt8)) (k : Nat) : Prop :=
  s.safe = st.safe ∧ s.wait = st.wait ∧ ls.length = k ∧ readAll st is = ((readAll s (is.drop k)).1, ls ++ (readAll s (is.drop k)).2.1, (readAll s (is.drop k)).2.2)
theorem readSt_same (st : DiskSt) (i : Int) : (readSt st i).1.safe = st.safe ∧ (readSt st i).1.wait = st.wait := by
  have h := atSt_same st i
  unfold readSt; split
  · exact h
  · exact h
theorem Upto.start (st : DiskSt) (is : List Int) : Upto st is st [] 0 := ⟨rfl, rfl, rfl, by simp⟩
theorem Upto.next {st : DiskSt} {is : List Int} {s : DiskSt} {ls : List (List UInt8)} {k : Nat} {i : Int} (h : Upto st is s ls k) (hi : is[k]? = some i) (h0 : (readSt s i).2.2 = 0) : Upto st is (readSt s i).1 (ls ++ [(readSt s i).2.1]) (k + 1) := by
  obtain ⟨h1, h2, h3, h4⟩ := h
  obtain ⟨g1, g2⟩ := readSt_same s i
  obtain ⟨hk, he⟩ := List.getElem?_eq_some_iff.1 hi
  refine ⟨g1.trans h1, g2.trans h2, by simp [h3], ?_⟩
  rw [h4, List.drop_eq_getElem_cons hk, he]
  simp [readAll, h0]
theorem Upto.stop {st : DiskSt} {is : List Int} {s : DiskSt} {ls : List (List UInt8)} {k : Nat} {i : Int} (h : Upto st is s ls k) (hi : is[k]? = some i) (h0 : (readSt s i).2.2 ≠ 0) : (readAll st is).1 = (readSt s i).1 ∧ (readAll st is).2.2 = (readSt s i).2.2 := by
  obtain ⟨h1, h2, h3, h4⟩ := h
  obtain ⟨hk, he⟩ := List.getElem?_eq_some_iff.1 hi
  rw [h4, List.drop_eq_getElem_cons hk, he]
  simp [readAll, h0]
theorem Upto.all {st : DiskSt} {is : List Int} {s : DiskSt} {ls : List (List UInt8)} {k : Nat} (h : Upto st is s ls k) (hk : is.length ≤ k) : readAll st is = (s, ls, 0) := by
  obtain ⟨h1, h2, h3, h4⟩ := h
  rw [h4, List.drop_of_length_le hk]
  simp [readAll]
end Go.Proofs.YthkepjhfeeohdaaGreatDoor
namespace Go.Proofs.YthkepjhfeeohdaaGreatDoor
open Go.RowKit

/-- The boxes of a call. -/
def Box (w : World) (n : Nat) (b : Nat) : Prop := w.heap.size ≤ b ∧ b < w.heap.size + n
/-- What the call reads besides. -/
def In (Q : Nat → Prop) (w : World) (n : Nat) (b : Nat) : Prop := (Q b ∧ b < w.heap.size) ∨ w.heap.size + n ≤ b
theorem In.no {Q : Nat → Prop} {w : World} {n b : Nat} (h : In Q w n b) : ¬ Box w n b := by
  unfold In at h; unfold Box; omega
theorem alloc_at {w : World} {o : Obj} {b : Nat} (h : b = w.heap.size) : (w.alloc o).heap[b]? = some o := by rw [h]; exact heap_alloc_new _ _
theorem alloc_old {w : World} {o x : Obj} {b : Nat} (h : w.heap[b]? = some x) : (w.alloc o).heap[b]? = some x :=
  (heap_alloc_old _ _ (Array.getElem?_eq_some_iff.1 h).1).trans h
theorem row_call {W W' : World} {b : Nat} {x : Obj} (h : Below W.heap.size W W') (r : W.heap[b]? = some x) : W'.heap[b]? = some x :=
  (h.block b (Array.getElem?_eq_some_iff.1 r).1).trans r
theorem row_other {W : World} {b c i : Nat} {v : Value} {x : Obj} (r : W.heap[b]? = some x) (h : b ≠ c) : (W.setCell ⟨c, i, none⟩ v).heap[b]? = some x := (Below.heap_setCell _ _ _ _ h).trans r
theorem Only.alloc {F : Nat → Prop} {W W' : World} (h : Only F W W') (o : Obj) : Only F W (W'.alloc o) := h.trans (Only.of_below (below_alloc' _ o))
where
  below_alloc' (w : World) (o : Obj) : Below w.heap.size w (w.alloc o) := (Below.refl _ _).alloc (Nat.le_refl _) _
theorem Only.put {F : Nat → Prop} {W W' : World} {b i : Nat} {v : Value} (h : Only F W W') (hb : F b) : Only F W (W'.setCell ⟨b, i, none⟩ v) := h.trans (Only.set hb)
theorem Only.drw {F : Nat → Prop} {W W' : World} (h : Only F W W') : Only F W W'.drew := ⟨h.os, h.tape, h.output, h.size, h.block⟩
theorem Only.late {F : Nat → Prop} {W W' : World} {b i : Nat} {v : Value} (h : Only F W W') (hb : W.heap.size ≤ b) : Only F W (W'.setCell ⟨b, i, none⟩ v) :=
  ⟨h.os, h.tape, h.output, by simpa using h.size, fun c hc hf => (Below.heap_setCell _ _ _ _ (fun e => by have e2 : c = b := e; omega)).trans (h.block c hc hf)⟩
theorem Only.fin {w W0 W : World} {n : Nat} (hb : Below w.heap.size w W0) (h : Only (Box w n) W0 W) : Below w.heap.size w W :=
  hb.trans (h.below hb.size fun _ hf => hf.1)
section
variable {α : Type} {r : Rep α} {Q : Nat → Prop} {w W W' : World} {n : Nat}
theorem val_in {v : Value} {x : α} (h : r.val Q w v x) (hb : Below w.heap.size w W) : r.val (In Q w n) W v x :=
  Rep.val_keep (fun b hq hl => ⟨.inl ⟨hq, hl.lt⟩, hb.block b hl.lt⟩) h
theorem val_only {v : Value} {x : α} (h : r.val (In Q w n) W v x) (ho : Only (Box w n) W W') : r.val (In Q w n) W' v x :=
  Rep.val_keep (fun b hq hl => ⟨hq, ho.block b hl.lt hq.no⟩) h
theorem at_in {A : Option Addr} {xs : List α} (h : r.At Q w A xs) (hb : Below w.heap.size w W) : r.At (In Q w n) W A xs :=
  Rep.At.keep (fun b hq hl => ⟨.inl ⟨hq, hl.lt⟩, hb.block b hl.lt⟩) h
theorem at_only {A : Option Addr} {xs : List α} (h : r.At (In Q w n) W A xs) (ho : Only (Box w n) W W') : r.At (In Q w n) W' A xs :=
  Rep.At.keep (fun b hq hl => ⟨hq, ho.block b hl.lt hq.no⟩) h
end
theorem cell_bound {W : World} {b o : Nat} {v : Value} (h : W.cell? ⟨b, o, none⟩ = some v) : b < W.heap.size := by
  unfold World.cell? at h
  by_cases hb : b < W.heap.size
  · exact hb
  · rw [Array.getElem?_eq_none (show W.heap.size ≤ b by omega)] at h
    simp at h
theorem cell_call {W W' : World} {b o : Nat} {v : Value} (h : Below W.heap.size W W') (r : W.cell? ⟨b, o, none⟩ = some v) : W'.cell? ⟨b, o, none⟩ = some v :=
  (World.cell?_of_block (h.block b (cell_bound r))).trans r
theorem cell_only {F : Nat → Prop} {W W' : World} {b o : Nat} {v : Value} (h : Only F W W') (hn : ¬ F b) (r : W.cell? ⟨b, o, none⟩ = some v) : W'.cell? ⟨b, o, none⟩ = some v :=
  (World.cell?_of_block (h.block b (cell_bound r) hn)).trans r
theorem int_at {Q : Nat → Prop} {W : World} {A : Option Addr} {xs : List Int} (h : (Rep.int .i64).At Q W A xs) {i : Nat} {x : Int} (hx : xs[i]? = some x) :
    ∃ b off, A = some ⟨b, off, none⟩ ∧ Q b ∧ W.cell? ⟨b, off + i, none⟩ = some (.int .i64 x) ∧ (Lit.int .i64 x).wf = true := by
  obtain ⟨b, off, es, h1, h2, _, h3, h4⟩ := h.get hx
  obtain ⟨he, hw⟩ := h3
  subst he
  exact ⟨b, off, h1, h2, by simpa [Rep.int] using h4 0 _ rfl, hw⟩
theorem below_put {B k : Nat} {w W : World} (h : Below B w W) (hk : B ≤ k) {i : Nat} {v : Value} : Below B w (W.setCell ⟨k, i, none⟩ v) :=
  ⟨h.os, h.tape, h.output, by simpa using h.size, fun c hc => (Below.heap_setCell _ _ _ _ (fun e => by have e2 : c = k := e; omega)).trans (h.block c hc)⟩
theorem sl_of {α : Type} {r : Rep α} {Q : Nat → Prop} {w : World} {A : Option Addr} {n c : Nat} {xs : List α} (h : r.list.val Q w (.slice A n c) xs) : r.Sl Q w A c xs := by
  obtain ⟨A2, c2, he, h1, h2, h3⟩ := Rep.val_list h
  cases he
  exact ⟨h1, h2, h3⟩
/-- A cell of an element of a slice of the call's own is written. -/
theorem acc_cell {α : Type} {r : Rep α} {e base : Nat} {Q : Nat → Prop} {w : World} {v : Value} {xs : List α} (h : r.acc e base Q w v xs) {i o g : Nat} {x x' : α} {u : Value} (hv : v.ownBlock = some g) (hx : xs[i]? = some x) (ho : o < r.size)
    (hrd : ∀ es, r.rd (fun b => Q b ∧ v.ownBlock ≠ some b) w es x → r.rd (fun b => Q b ∧ v.ownBlock ≠ some b) w (es.set o u) x') :
    r.acc e base Q (w.setCell ⟨g, i * r.size + o, none⟩ u) v (xs.set i x') := by
  obtain ⟨cells, h1, h2⟩ := h
  have hi := (List.getElem?_eq_some_iff.1 hx).1
  have hsp : xs = xs.take i ++ (x :: xs.drop (i + 1)) := by
    have := (List.getElem?_eq_some_iff.1 hx).2
    rw [← this, List.getElem_cons_drop, List.take_append_drop]
  have hset : xs.set i x' = xs.take i ++ (x' :: xs.drop (i + 1)) := by
    rw [List.set_eq_take_append_cons_drop, if_pos hi]
  rcases h1.2 with ⟨_, h0⟩ | ⟨g2, cap, cur, rfl, hb, hg, h3, h4, h5, h6⟩
  · omega
  · obtain rfl : g2 = g := Option.some.inj hv
    rw [hsp] at h2
    obtain ⟨l1, bs, rfl, ha, es, rest, rfl, he, hr⟩ := Rep.row_split h2
    have hla : l1.length = i * r.size := by rw [Rep.row_len ha, List.length_take, Nat.min_eq_left (Nat.le_of_lt hi)]
    have hle : es.length = r.size := r.len he
    have hcs : (l1 ++ (es ++ rest)).set (i * r.size + o) u = l1 ++ (es.set o u ++ rest) := by
      rw [← hla, List.set_append_right _ _ (by omega), Nat.add_sub_cancel_left, List.set_append_left _ _ (by omega)]
    have hk : ∀ b, (Q b ∧ (Value.slice (some ⟨g2, 0, none⟩) xs.length cap).ownBlock ≠ some b) → IsC w b → (Q b ∧ (Value.slice (some ⟨g2, 0, none⟩) xs.length cap).ownBlock ≠ some b) ∧ (w.setCell ⟨g2, i * r.size + o, none⟩ u).heap[b]? = w.heap[b]? :=
      fun b hq _ => ⟨hq, Below.heap_setCell _ _ _ _ (fun e2 => hq.2 (by have e3 : b = g2 := e2; rw [e3]; rfl))⟩
    refine ⟨l1 ++ (es.set o u ++ rest), ⟨?_, .inr ⟨g2, cap, cur.setIfInBounds (i * r.size + o) u, by rw [List.length_set], hb, heap_setRow hg, by rw [List.length_set]; exact h3, h4, by simp [h5], ?_⟩⟩, ?_⟩
    · rw [List.length_set, ← hcs, List.length_set]; exact h1.1
    · rw [List.length_set, Array.toList_setIfInBounds, List.take_set, h6, hcs]
    · rw [hset]
      exact Rep.row_append (Rep.row_keep hk ha) ⟨_, _, rfl, r.keep hk (hrd es he), Rep.row_keep hk hr⟩
theorem one_int {w : World} {b e : Nat} {f : Nat × Nat} {n : Int} (h : w.heap[b]? = some (.cells #[.int .i64 n] e f)) (hw : (Lit.int .i64 n).wf = true) : (Rep.int .i64).list.val (fun _ => True) w (.slice (some ⟨b, 0, none⟩) 1 1) [n] :=
  Rep.list_val rfl (Nat.le_refl _) (by simp [maxLen]) ⟨[.int .i64 n], ⟨_, [], rfl, ⟨rfl, hw⟩, rfl⟩, fun _ => ⟨b, 0, rfl, trivial, ⟨_, _, _, h⟩, fun j u hj => by
    have : w.cell? ⟨b, 0 + j, none⟩ = (#[Value.int .i64 n])[0 + j]? := by simp [World.cell?, h]
    rw [this, Nat.zero_add, ← hj]; simp⟩⟩
theorem nm_anyT {P : Program} {md : Region.Mode} {ops : Array Oper} {Q : Exit → Act → World → Prop} {S : World → Prop} {T : List Nat} {fuel : Nat} {listed : Array Bool} {a : Act} {w : World} (h : ∀ W, W = w → wpAnyT P md ops Q S T fuel listed a W) : wpAnyT P md ops Q S T fuel listed a w := h w rfl
theorem nm_calls {P : Program} {f : FuncId} {args : Array Value} {w : World} {R : Ending → World → Prop} (h : ∀ W, W = w → Calls P f args W R) : Calls P f args w R := h w rfl
theorem nm_region {P : Program} {id : Nat} {ops : Array Oper} {Q : Exit → Act → World → Prop} {a : Act} {w : World} (h : ∀ W, W = w → (Code.region id ops true).wp P Q a W) : (Code.region id ops true).wp P Q a w := h w rfl
theorem nm_post {P : Program} {fn : Func} {R : Ending → World → Prop} {x : Exit} {a : Act} {w : World} (h : ∀ W, W = w → bodyPost P fn R x a W) : bodyPost P fn R x a w := h w rfl
end Go.Proofs.YthkepjhfeeohdaaGreatDoor
namespace Go.Proofs.YthkepjhfeeohdaaGreatDoor
open Go.RowKit

theorem geomSuper_calls {i : Nat} (hi : i < 2) (w : World) : Calls Tryz.prog 86 #[.int .i64 i] w fun e w' => e = .returned (.int .i64 i) ∧ w' = w := by
  have h2 : (i : Int) < 2 := by omega
  go_enter Tryz.func86, Tryz.ntmps86
  go_wp2_with fail
  go_ret
  exact ⟨rfl, rfl⟩

/-- What is read of sectors, up to the first error. -/
def allSt (st : DiskSt) (is : List Int) : DiskSt × List (List UInt8) × Int := ((readAll st is).1, if (readAll st is).2.2 = 0 then (readAll st is).2.1 else [], (readAll st is).2.2)

set_option maxRecDepth 100000 in
set_option maxHeartbeats 2000000 in
/-- store.all at sectors -/
theorem allBytes_calls {W : World} {P X g : Nat} {F B : Nat → Prop} {n m : Nat} {st : DiskSt} {is : List Int} (hm : m ≤ 100000) (hlen : is.length = m) (h : DiskAt W P F B n st) (hen : ∀ (args : Array Value) (w : World), (callFunc g args).run Tryz.prog w = .ok (.enter g args) w)
    (hf : ∀ (k : Nat) (i : Int) (V : World) (s : DiskSt), is[k]? = some i → Only F W V → DiskAt V P F B n s → s.safe = st.safe → s.wait = st.wait → Calls Tryz.prog g #[.int .i64 k, .pointer (some ⟨X, 0, none⟩)] V (ReadPost F B P n V (readSt s i))) :
    Calls Tryz.prog 106 #[.int .i64 m, .func (.func g) #[] #[.pointer (some ⟨X, 0, none⟩)]] W (LoadPost F B P n W (allSt st is)) := by
  have HLT := Lib.hid (show ∀ b, F b ∨ B b → b < W.heap.size by obtain ⟨_, _, _, _, hh⟩ := h; exact hh.lt)
  have HD := Lib.hid h
  have HF := Lib.hid hf
  have HN := Lib.hid hlen
  have HZ := Lib.hid (show ∀ w' : World, Rep.byte.list.list.val (fun x => W.heap.size ≤ x) w' (.slice none 0 0) ([] : List (List UInt8)) from fun w => Rep.val_nil (by simp [maxLen]))
  clear h hf hlen
  go_enter Tryz.func106, Tryz.ntmps106
  go_wp2_with fail
  go_loopw [6, 11] (fun u i wr => ∃ (k : Nat) (s : DiskSt) (ls : List (List UInt8)), i = .int .i64 k ∧ k ≤ m ∧ Rep.byte.list.acc 44 W.heap.size (fun b => W.heap.size ≤ b) wr u ls ∧ DiskAt wr P F B n s ∧ Only F W wr ∧ Hid (Upto st is s ls k)) (fun _ i _ => m - (intOf i).toNat)
  case atStart => exact ⟨0, st, [], rfl, Nat.zero_le _, Rep.acc_nil, HD.out, Only.refl _ _, Upto.start _ _⟩
  case round =>
    obtain ⟨k, s, ls, rfl, hk, hacc, hd, ho, hup⟩ := hrel
    have HACC := Lib.hid hacc
    have HD3 := Lib.hid hd
    have HO3 := Lib.hid ho
    have hform := Rep.acc_form hacc
    obtain ⟨A6, c6, rfl, hc6, hm6⟩ := hform
    have HUP := Lib.hid hup.out
    have HLL := Lib.hid hup.out.2.2.1
    generalize hll : ls.length = len at *
    have HLEN := Lib.hid hll
    clear hacc hd ho hup hll
    by_cases hlt : (k : Int) < m
    · obtain ⟨i, hi⟩ : ∃ i, is[k]? = some i := ⟨_, List.getElem?_eq_getElem (by have := HN.out; omega)⟩
      have HGET := Lib.hid hi
      clear hi
      go_wp2_with fail
      refine (HF.out k i _ s HGET.out HO3.out HD3.out HUP.out.1 HUP.out.2.1).mono ?_
      rintro e w4 ⟨u, rfl, hu, hd4, ho4⟩
      have HNEXT := Lib.hid (fun h0 => HUP.out.next HGET.out h0)
      have HSTOP := Lib.hid (fun h0 => HUP.out.stop HGET.out h0)
      generalize readSt s i = r at *
      obtain ⟨s4, y, er⟩ := r
      dsimp only at *
      have HO4 := Lib.hid (HO3.out.trans ho4)
      have HD4 := Lib.hid hd4
      obtain ⟨A7, c7, rfl, hc7, hm7, _⟩ := Rep.val_list hu
      have HY := Lib.hid (show Rep.byte.list.val (fun b => W.heap.size ≤ b ∧ (Value.slice A6 len c6).ownBlock ≠ some b) w4 (.slice A7 y.length c7) y from Rep.val_mono (fun b hb _ => ⟨Nat.le_trans HO3.out.size hb, fun he => by have := (Rep.acc_own HACC.out b he).2; omega⟩) hu)
      have HACC4 := Lib.hid (show Rep.byte.list.acc 44 W.heap.size (fun b => W.heap.size ≤ b) w4 (.slice A6 len c6) ls from by
        refine Rep.acc_keep (fun b hb hl => ?_) (fun _ hb _ => hb) HACC.out
        have hge : W.heap.size ≤ b := hb.elim id fun e => (Rep.acc_own HACC.out b e).1
        exact ho4.block b hl.lt (fun hf => by have := HLT.out _ (.inl hf); omega))
      have HSZ4 := Lib.hid HO4.out.size
      clear hu hd4 ho4
      by_cases he0 : er = 0
      · subst he0
        have HL1 := Lib.hid (show ls.length + 1 ≤ maxLen ∧ (ls.length + 1) * 24 ≤ 140737488355328 by have := HLEN.out; have := HLL.out; unfold maxLen; omega)
        have iw : IntKind.i64.wrap ((k : Int) + 1) = (k : Int) + 1 := IntWalk.i64_in _ ⟨by omega, by omega⟩
        go_wp2_with (refine wpList_snoc (e := 44) (base := W.heap.size) (Q := fun b => W.heap.size ≤ b) (r := Rep.byte.list) rfl rfl _ _ 83 _ rfl rfl rfl (.slice none 0 0) 1 24 Tryz.underlying83 info22 rfl (by decide) rfl _ ls HACC4.out y _ (by exact rfl) HY.out (by exact rfl) (by exact rfl) HL1.out.1 HL1.out.2 HSZ4.out ?_; intro s' w' hacc' hgr hat)
        have hgb : Below W.heap.size w4 w' := (Below.refl _ _).grown hgr HSZ4.out (fun b hb => (Rep.acc_own HACC4.out b hb).1)
        refine ⟨⟨k + 1, s4, ls ++ [y], rfl, by omega, hacc', HD4.out.keep hgb.size (fun b hb => hgb.block b (HLT.out b hb)), HO4.out.grow hgb, HNEXT.out rfl⟩, ?_⟩
        show m - ((k : Int) + 1).toNat < m - (k : Int).toNat
        omega
      · have g0 : (er == 0) = false := by simpa using he0
        have HST := Lib.hid (HSTOP.out he0)
        have HNE := Lib.hid he0
        clear he0
        go_wp2_with fail
        go_ret2
        refine ⟨_, by unfold allSt; dsimp only; rw [HST.out.2]; rfl, by unfold allSt; dsimp only; rw [HST.out.2, if_neg HNE.out]; exact HZ.out _, by unfold allSt; dsimp only; rw [HST.out.1]; exact HD4.out, HO4.out⟩
    · have HALL := Lib.hid (HUP.out.all (by have := HN.out; omega))
      have HV6 := Lib.hid (show Rep.byte.list.list.val (fun b => W.heap.size ≤ b) wr (.slice A6 len c6) ls from by
        refine Rep.val_mono (fun b hb _ => ?_) (Rep.acc_val HACC.out)
        rcases hb with hb | hb
        · exact hb
        · exact (Rep.acc_own HACC.out b hb).1)
      go_wp2_with fail
      go_ret2
      exact ⟨_, by unfold allSt; rw [HALL.out]; rfl, by unfold allSt; rw [HALL.out]; exact HV6.out, by unfold allSt; rw [HALL.out]; exact HD3.out, HO3.out⟩

set_option maxRecDepth 100000 in
set_option maxHeartbeats 2000000 in
/-- store.supers, its closure -/
theorem supers1_calls {W : World} {P X : Nat} {F B : Nat → Prop} {n : Nat} {st : DiskSt} {i : Nat} (hi : i < 2) (h : DiskAt W P F B n st) (hX : W.cell? ⟨X, 0, none⟩ = some (.pointer (some ⟨P, 0, none⟩))) (hF : ¬ F X)
    (hl : ∀ x ∈ st.safe, x.length ≤ 100000) (hw : ∀ j, ∀ x ∈ st.wait j, x.length ≤ 100000) :
    Calls Tryz.prog 107 #[.int .i64 i, .pointer (some ⟨X, 0, none⟩)] W (ReadPost F B P n W (readSt st i)) := by
  have HD := Lib.hid h
  have HI := Lib.hid hi
  have HL := Lib.hid hl
  have HW := Lib.hid hw
  have HX := Lib.hid hX
  clear h hi hl hw
  go_enter Tryz.func107, Tryz.ntmps107
  go_wp2_with fail
  refine wp_region_held_drew (S := fun V => Only F W V) (by kernel_rfl) ((Only.refl _ _).drw) (fun s0 => ?_)
  obtain ⟨v1, hv1⟩ : ∃ V, V = W.drew := ⟨_, rfl⟩
  rw [← hv1] at s0 ⊢
  have HV1 := Lib.hid (show DiskAt v1 P F B n st by rw [hv1]; exact HD.out.below ((Below.refl _ _).drew))
  have t1 : Only F W v1 := s0
  clear hv1 s0
  refine tkH (i := 0) (v := .pointer (some ⟨P, 0, none⟩)) rfl (Or.inl ⟨by rfl, fun w' h => by have e := cell_only (h : Only F W w') hF HX.out; go_simp⟩) t1 ?_
  go_simp
  refine tkHV (i := 1) (v := .int .i64 i) rfl t1 ?_
  go_simp
  refine wpAnyH_all (rs := [2]) (by kernel_rfl) (by simp) ?_
  intro i2 hi2
  obtain rfl : i2 = 2 := by simpa using hi2
  clear hi2
  refine wpOp_step rfl (fun K hK => ?_)
  go_simp
  refine (geomSuper_calls HI.out _).mono ?_
  rintro e v2 ⟨rfl, hw2⟩
  obtain rfl := hw2.symm
  refine hK _ _ ⟨t1, ?_⟩
  clear hK K hw2
  refine wpAnyH_all (rs := [3]) (by kernel_rfl) (by simp) ?_
  intro i2 hi2
  obtain rfl : i2 = 3 := by simpa using hi2
  clear hi2
  refine wpOp_step rfl (fun K hK => ?_)
  go_simp
  refine (dread_calls HV1.out (wf_i64 (by omega) (by have := HI.out; omega)) HL.out HW.out).mono ?_
  rintro e v3 ⟨u, rfl, hu, hd3, ho3⟩
  have t3 : Only F W v3 := t1.trans ho3
  have HU := Lib.hid (show Rep.byte.list.val (fun b => W.heap.size ≤ b) v3 u (readSt st i).2.1 from Rep.val_mono (fun b hb _ => Nat.le_trans t1.size hb) hu)
  have HD3 := Lib.hid hd3
  refine hK _ _ ⟨t3, ?_⟩
  clear hK K hd3 hu
  refine tkHV (i := 4) (v := u) rfl t3 ?_
  go_simp
  refine tkHV (i := 5) (v := .int .i64 (readSt st i).2.2) rfl t3 ?_
  go_simp
  refine tkHV (i := 6) (v := u) rfl t3 ?_
  go_simp
  refine tkHV (i := 7) (v := .int .i64 (readSt st i).2.2) rfl t3 ?_
  go_simp
  refine wpAnyH_done (by kernel_rfl) ?_ _
  go_wp2_with fail
  go_ret2
  exact ⟨_, rfl, HU.out, HD3.out, t3⟩

set_option maxRecDepth 100000 in
set_option maxHeartbeats 2000000 in
/-- store.supers -/
theorem supers_calls {W : World} {P : Nat} {F B : Nat → Prop} {n : Nat} {st : DiskSt} (h : DiskAt W P F B n st) (hl : ∀ x ∈ st.safe, x.length ≤ 100000) (hw : ∀ j, ∀ x ∈ st.wait j, x.length ≤ 100000) :
    Calls Tryz.prog 65 #[.pointer (some ⟨P, 0, none⟩)] W (LoadPost F B P n W (allSt st [0, 1])) := by
  have hmf : ∀ (fn : Fn) (first cap : Array Value) (w : World), (Instr.makeFunc fn first cap).run Tryz.prog w = .ok (.func fn first cap) w := fun _ _ _ _ => rfl
  have HLT := Lib.hid (show ∀ b, F b ∨ B b → b < W.heap.size by obtain ⟨_, _, _, _, hh⟩ := h; exact hh.lt)
  obtain ⟨W1, hW1⟩ : ∃ W1, W.alloc (.cells #[.pointer (some ⟨P, 0, none⟩)] 48) = W1 := ⟨_, rfl⟩
  have hb1 : Below W.heap.size W W1 := by rw [← hW1]; exact (Below.refl _ _).alloc (Nat.le_refl _) _
  have HB1 := Lib.hid hb1
  have HX := Lib.hid (show W1.cell? ⟨W.heap.size, 0, none⟩ = some (.pointer (some ⟨P, 0, none⟩)) by rw [← hW1]; simp)
  have HD1 := Lib.hid (h.below hb1)
  have HL := Lib.hid hl
  have HW := Lib.hid hw
  clear h hl hw hb1
  go_enter Tryz.func65, Tryz.ntmps65
  go_wp2_with fail
  try rw [hW1]
  clear hW1
  try go_wp2_with fail
  refine (allBytes_calls (X := W.heap.size) (m := 2) (is := [0, 1]) (by decide) rfl HD1.out (enters_of Tryz.func107 (by kernel_rfl) rfl) (fun k i V s hi ho hd h1 h2 => ?_)).mono ?_
  · have hk : k < 2 := (List.getElem?_eq_some_iff.1 hi).1
    obtain rfl : i = (k : Int) := by
      rcases k with _ | _ | k
      · simpa using hi.symm
      · simpa using hi.symm
      · omega
    exact supers1_calls hk hd (cell_only ho (fun hf => by have := HLT.out _ (.inl hf); omega) HX.out) (fun hf => by have := HLT.out _ (.inl hf); omega) (by rw [h1]; exact HL.out) (by rw [h2]; exact HW.out)
  · rintro e w2 ⟨u, rfl, hu, hd, ho⟩
    have HU := Lib.hid (show Rep.byte.list.list.val (fun b => W.heap.size ≤ b) w2 u (allSt st [0, 1]).2.1 from Rep.val_mono (fun b hb _ => Nat.le_trans HB1.out.size hb) hu)
    have HO := Lib.hid ((Only.of_below (F := F) HB1.out).trans ho)
    have HD2 := Lib.hid hd
    clear hu hd ho
    go_wp2_with fail
    go_ret2
    exact ⟨_, rfl, HU.out, HD2.out, HO.out⟩
end Go.Proofs.YthkepjhfeeohdaaGreatDoor
namespace Go.Proofs.YthkepjhfeeohdaaGreatDoor
open Go.RowKit

def set8z (W : World) (R : Nat) (v0 v1 v2 v3 v4 v5 v6 v7 : Value) : World := (((((((W.setCell ⟨R, 0, none⟩ v0).setCell ⟨R, 1, none⟩ v1).setCell ⟨R, 2, none⟩ v2).setCell ⟨R, 3, none⟩ v3).setCell ⟨R, 4, none⟩ v4).setCell ⟨R, 5, none⟩ v5).setCell ⟨R, 6, none⟩ v6).setCell ⟨R, 7, none⟩ v7
theorem set8z_below {B k : Nat} {w W : World} {v0 v1 v2 v3 v4 v5 v6 v7 : Value} (h : Below B w W) (hk : B ≤ k) : Below B w (set8z W k v0 v1 v2 v3 v4 v5 v6 v7) :=
  below_set (below_set (below_set (below_set (below_set (below_set (below_set (below_set h hk) hk) hk) hk) hk) hk) hk) hk
set_option maxRecDepth 100000 in
set_option maxHeartbeats 4000000 in
/-- super.Get of what is no seal -/
theorem superGetNone_calls {Q : Nat → Prop} {w : World} {v : Value} {l : List UInt8} (hx : Rep.byte.list.val Q w v l) (hn : sealGet l = none) :
    Calls Tryz.prog 87 #[v] w fun e w' => e = .returned (.tuple #[.agg #[.int .i64 0, .int .i64 0, .int .i64 0, .int .i64 0, .int .i64 0, .int .i64 0, .int .i64 0, .slice none 0 0], .bool false]) ∧ Below w.heap.size w w' := by
  have HX := Lib.hid hx
  have HN := Lib.hid hn
  obtain ⟨A0, c0, rfl, _, _, _⟩ := Rep.val_list hx
  obtain ⟨W1, hW1⟩ : ∃ W1, w.alloc (.cells #[.int .i64 0, .int .i64 0, .int .i64 0, .int .i64 0, .int .i64 0, .int .i64 0, .int .i64 0, .slice none 0 0] 108) = W1 := ⟨_, rfl⟩
  have hb1 : Below w.heap.size w W1 := by rw [← hW1]; exact (Below.refl _ _).alloc (Nat.le_refl _) _
  have hr1 : W1.heap[w.heap.size]? = some (.cells #[.int .i64 0, .int .i64 0, .int .i64 0, .int .i64 0, .int .i64 0, .int .i64 0, .int .i64 0, .slice none 0 0] 108 (0, 0)) := by rw [← hW1]; exact heap_alloc_new _ _
  have hz1 : W1.heap.size = w.heap.size + 1 := by rw [← hW1]; simp
  have HB1 := Lib.hid hb1
  have HZ1 := Lib.hid hz1
  have KR := Lib.hid (show ∀ W, Below W1.heap.size W1 W → W.heap[w.heap.size]? = some (.cells #[.int .i64 0, .int .i64 0, .int .i64 0, .int .i64 0, .int .i64 0, .int .i64 0, .int .i64 0, .slice none 0 0] 108 (0, 0)) from fun W h => (h.block _ (by omega)).trans hr1)
  have HX1 := Lib.hid (Rep.val_below (B := w.heap.size) (Rep.val_any HX.out) HB1.out fun _ h _ => h)
  have hfr : Tryz.f87.results = #[.cell 2 108, .tmp 3] := rfl
  clear hx hn hb1 hr1 hz1
  go_enter Tryz.func87, Tryz.ntmps87
  go_wp2_with fail
  try rw [hW1]
  clear hW1
  go_wp2_with fail
  refine (sealGet_calls HX1.out).mono ?_
  rintro e w2 ⟨u, rfl, hu, hb2⟩
  rw [HN.out] at hu ⊢
  obtain ⟨y, hy⟩ : ∃ y, y = (none : Option DSeal).getD seal0 := ⟨_, rfl⟩
  rw [← hy] at hu
  obtain ⟨A2, c2, rfl, f0, f1, f2, hs2⟩ := rSeal_val hu
  have D2 := Lib.hid hb2
  obtain ⟨W3, hW3⟩ : ∃ W3, w2.alloc (.cells #[.int .i64 y.epoch, .int .i64 y.no, .int .i64 y.kind, .slice A2 y.body.length c2] 209) = W3 := ⟨_, rfl⟩
  have hb3 : Below w2.heap.size w2 W3 := by rw [← hW3]; exact (Below.refl _ _).alloc (Nat.le_refl _) _
  have D3 := Lib.hid (D2.out.trans (hb3.mono D2.out.size))
  have e0 := cell_row (KR.out W3 D3.out) 0
  have e1 := cell_row (KR.out W3 D3.out) 1
  have e2 := cell_row (KR.out W3 D3.out) 2
  have e3 := cell_row (KR.out W3 D3.out) 3
  have e4 := cell_row (KR.out W3 D3.out) 4
  have e5 := cell_row (KR.out W3 D3.out) 5
  have e6 := cell_row (KR.out W3 D3.out) 6
  have e7 := cell_row (KR.out W3 D3.out) 7
  have z0 := frozen_row (KR.out W3 D3.out) 0
  have z1 := frozen_row (KR.out W3 D3.out) 1
  have z2 := frozen_row (KR.out W3 D3.out) 2
  have z3 := frozen_row (KR.out W3 D3.out) 3
  have z4 := frozen_row (KR.out W3 D3.out) 4
  have z5 := frozen_row (KR.out W3 D3.out) 5
  have z6 := frozen_row (KR.out W3 D3.out) 6
  have z7 := frozen_row (KR.out W3 D3.out) 7
  clear hu hb2 hb3 f0 f1 f2 hs2 hy
  go_wp2_with fail
  try rw [hW3]
  try go_wp2_with fail
  refine ⟨rfl, .tuple #[.agg #[.int .i64 0, .int .i64 0, .int .i64 0, .int .i64 0, .int .i64 0, .int .i64 0, .int .i64 0, .slice none 0 0], .bool false], ?_, ⟨rfl, set8z_below (HB1.out.trans (D3.out.mono HB1.out.size)) (Nat.le_refl _)⟩⟩
  simp only [results, hfr]
  go_simp

set_option maxRecDepth 100000 in
set_option maxHeartbeats 2000000 in
/-- super.Choose of two that are no seals -/
theorem superChooseNone_calls {Q Q' : Nat → Prop} {w : World} {v u : Value} {a b : List UInt8} (hx : Rep.byte.list.val Q w v a) (hy : Rep.byte.list.val Q' w u b) (ha : sealGet a = none) (hb : sealGet b = none) :
    Calls Tryz.prog 108 #[v, u] w fun e w' => e = .returned (.tuple #[.int .i64 0, .bool false]) ∧ Below w.heap.size w w' := by
  have HX := Lib.hid hx
  have HY := Lib.hid hy
  have HA := Lib.hid ha
  have HB := Lib.hid hb
  obtain ⟨A, c, rfl, _, _, _⟩ := Rep.val_list hx
  obtain ⟨B, d, rfl, _, _, _⟩ := Rep.val_list hy
  clear hx hy ha hb
  go_enter Tryz.func108, Tryz.ntmps108
  go_wp2_with fail
  refine (superGetNone_calls HX.out HA.out).mono ?_
  rintro e w1 ⟨rfl, hb1⟩
  have B1 := Lib.hid hb1
  have HY1 := Lib.hid (Rep.val_below (B := w.heap.size) HY.out hb1 (fun _ _ h => h.lt))
  clear hb1
  obtain ⟨W2, hW2⟩ : ∃ W2, w1.alloc (.cells #[.int .i64 0, .int .i64 0, .int .i64 0, .int .i64 0, .int .i64 0, .int .i64 0, .int .i64 0, .slice none 0 0] 108) = W2 := ⟨_, rfl⟩
  have hb2 : Below w1.heap.size w1 W2 := by rw [← hW2]; exact (Below.refl _ _).alloc (Nat.le_refl _) _
  have HY2 := Lib.hid (Rep.val_below (B := w1.heap.size) HY1.out hb2 (fun _ _ h => h.lt))
  have B2 := Lib.hid (B1.out.trans (hb2.mono B1.out.size))
  have HW2 := Lib.hid hW2
  clear hb2 hW2
  go_wp2_with fail
  try rw [HW2.out]
  try go_wp2_with fail
  refine (superGetNone_calls HY2.out HB.out).mono ?_
  rintro e w3 ⟨rfl, hb3⟩
  have B3 := Lib.hid (B2.out.trans (hb3.mono B2.out.size))
  clear hb3
  obtain ⟨W4, hW4⟩ : ∃ W4, w3.alloc (.cells #[.int .i64 0, .int .i64 0, .int .i64 0, .int .i64 0, .int .i64 0, .int .i64 0, .int .i64 0, .slice none 0 0] 108) = W4 := ⟨_, rfl⟩
  have hb4 : Below w3.heap.size w3 W4 := by rw [← hW4]; exact (Below.refl _ _).alloc (Nat.le_refl _) _
  have B4 := Lib.hid (B3.out.trans (hb4.mono B3.out.size))
  have HW4 := Lib.hid hW4
  clear hb4 hW4
  go_wp2_with fail
  try rw [HW4.out]
  try go_wp2_with fail
  go_ret2
  exact ⟨rfl, B4.out⟩
end Go.Proofs.YthkepjhfeeohdaaGreatDoor
namespace Go.Proofs.YthkepjhfeeohdaaGreatDoor
open Go.RowKit

def errPanic (e : Int) : List PanicEntry := [{ v := .iface 33 (.int .i64 e), recovered := false }]
theorem must_yes (e : Int) (w : World) : Calls Tryz.prog 14 #[.bool true, .int .i64 e] w fun en w' => en = .returned (.tuple #[]) ∧ w' = w := by
  go_enter Tryz.func14, Tryz.ntmps14
  go_wp2_with fail
  go_end0
  exact ⟨rfl, rfl⟩
theorem must_no (e : Int) (w : World) : Calls Tryz.prog 14 #[.bool false, .int .i64 e] w fun en w' => en = .panicked (errPanic e) ∧ w' = w := by
  go_enter Tryz.func14, Tryz.ntmps14
  go_wp2_with fail
  exact ⟨rfl, rfl, rfl⟩
set_option maxRecDepth 100000 in
set_option maxHeartbeats 1000000 in
theorem ended_panicking (p : Addr) (x y : Int) (older : List PanicEntry) (w : World) (hc : w.cell? p = some (.int .i64 x)) (hz : w.frozen? p = false) :
    CallsD Tryz.prog 13 #[.pointer (some p)] (.panicking ({ v := .iface 33 (.int .i64 y), recovered := false } :: older)) w fun e u' w' => e = .returned (.tuple #[]) ∧ u' = .panicking ({ v := .iface 33 (.int .i64 y), recovered := true } :: older) ∧ w' = w.setCell p (.int .i64 y) := by
  have hta : ∀ (w : World), (Instr.typeAssert (.iface 33 (.int .i64 y)) 20 33 true).run Tryz.prog w = .ok (.tuple #[.int .i64 y, .bool true]) w := fun _ => by kernel_rfl
  refine callsD_of_wpS Tryz.func13 rfl fun c₀ cs hu => ?_
  apply wpS_seq
  apply wpS_region
  generalize hK : Exit.thenS _ _ = K
  have HK := Lib.hid hK
  clear hK
  simp [wpOpsS, go_sem, recoverD, hu, Tryz.ntmps13]
  rw [← HK.out]
  clear HK K
  refine wpS_of_wp (P := Tryz.prog) ?_
  show Code.wp _ _ _ ({ tmps := #[.pointer (some p), undef, .iface 33 (.int .i64 y), undef, undef, .iface 33 (.int .i64 y), undef, undef, undef, undef, undef, undef, undef, undef, undef, undef, undef, undef, undef], defers := [] } : Act) _
  go_wp2_with fail
  trace_state
  simp [bodyPostS, results, Tryz.results13]
set_option maxRecDepth 100000 in
set_option maxHeartbeats 1000000 in
theorem ended_idle (p : Addr) (w : World) :
    CallsD Tryz.prog 13 #[.pointer (some p)] .returning w fun e u' w' => e = .returned (.tuple #[]) ∧ u' = .returning ∧ w' = w := by
  refine callsD_of_wpS Tryz.func13 rfl fun c₀ cs hu => ?_
  apply wpS_seq
  apply wpS_region
  generalize hK : Exit.thenS _ _ = K
  have HK := Lib.hid hK
  clear hK
  simp [wpOpsS, go_sem, recoverD, hu, Tryz.ntmps13]
  rw [← HK.out]
  clear HK K
  refine wpS_of_wp (P := Tryz.prog) ?_
  show Code.wp _ _ _ ({ tmps := #[.pointer (some p), undef, .nilIface, undef, undef, .nilIface, undef, undef, undef, undef, undef, undef, undef, undef, undef, undef, undef, undef, undef], defers := [] } : Act) _
  go_wp2_with fail
  cases c₀
  simp_all [bodyPostS, results, Tryz.results13]
end Go.Proofs.YthkepjhfeeohdaaGreatDoor
namespace Go.Proofs.YthkepjhfeeohdaaGreatDoor
open Go.RowKit

theorem bytes_at {Q : Nat → Prop} {W : World} {A : Option Addr} {xs : List (List UInt8)} (h : Rep.byte.list.At Q W A xs) {i : Nat} {x : List UInt8} (hx : xs[i]? = some x) :
    ∃ (b off : Nat) (u : Value), A = some ⟨b, off, none⟩ ∧ W.cell? ⟨b, off + i, none⟩ = some u ∧ Rep.byte.list.val Q W u x := by
  obtain ⟨b, off, es, h1, _, _, h3, h4⟩ := h.get hx
  obtain ⟨A', c', es', rfl, h5⟩ := h3
  refine ⟨b, off, .slice A' x.length c', h1, ?_, ⟨_, rfl, A', c', es', rfl, h5⟩⟩
  have := h4 0 _ rfl
  rwa [Nat.add_zero, show i * Rep.byte.list.size = i from Nat.mul_one i] at this

set_option maxRecDepth 100000 in
set_option maxHeartbeats 2000000 in
/-- store.newest of two that are no seals -/
theorem newestNone_calls {Q : Nat → Prop} {w : World} {p v : Value} {a b : List UInt8} (hx : Rep.byte.list.list.val Q w v [a, b]) (ha : sealGet a = none) (hb : sealGet b = none) :
    Calls Tryz.prog 66 #[p, v] w fun e w' => e = .returned (.tuple #[.pointer none, .int .i64 16]) ∧ Below w.heap.size w w' := by
  obtain ⟨A, c, rfl, hc1, hc2, hA⟩ := Rep.val_list hx
  obtain ⟨bk, off, u0, rfl, k0, h0⟩ := bytes_at hA (i := 0) (x := a) rfl
  obtain ⟨bk1, off1, u1, he, k1, h1⟩ := bytes_at hA (i := 1) (x := b) rfl
  obtain ⟨rfl, rfl⟩ : bk = bk1 ∧ off = off1 := by injection he with h; injection h with h1 h2; exact ⟨h1, h2⟩
  rw [Nat.add_zero] at k0
  have K0 := Lib.hid k0
  have K1 := Lib.hid k1
  have H0 := Lib.hid h0
  have H1 := Lib.hid h1
  have HA := Lib.hid ha
  have HB := Lib.hid hb
  have hc3 : 2 ≤ c := hc1
  unfold maxLen at hc2
  clear hx hA he k0 k1 h0 h1 ha hb hc1
  show Calls _ _ #[p, .slice (some ⟨bk, off, none⟩) 2 c] _ _
  go_enter Tryz.func66, Tryz.ntmps66
  go_wp2_with fail
  refine wp_region_held_drew (S := fun V => Below w.heap.size w V) (by kernel_rfl) ((Below.refl _ _).drew) (fun s0 => ?_)
  obtain ⟨v1, hv1⟩ : ∃ V, V = w.drew := ⟨_, rfl⟩
  rw [← hv1] at s0 ⊢
  have t1 : Below w.heap.size w v1 := s0
  clear hv1 s0
  refine tkHV (i := 0) (v := .slice (some ⟨bk, off, none⟩) 2 c) rfl t1 ?_
  go_simp
  refine tkHV (i := 1) (v := .pointer (some ⟨bk, off, none⟩)) rfl t1 ?_
  go_simp
  refine tkH (i := 2) (v := u0) rfl (Or.inl ⟨by rfl, fun w' h => by have e := cell_call (h : Below w.heap.size w w') K0.out; go_simp⟩) t1 ?_
  go_simp
  refine tkHV (i := 3) (v := .slice (some ⟨bk, off, none⟩) 2 c) rfl t1 ?_
  go_simp
  refine tkHV (i := 4) (v := .pointer (some ⟨bk, off + 1, none⟩)) rfl t1 ?_
  go_simp
  refine tkH (i := 5) (v := u1) rfl (Or.inl ⟨by rfl, fun w' h => by have e := cell_call (h : Below w.heap.size w w') K1.out; go_simp⟩) t1 ?_
  go_simp
  refine wpAnyH_all (rs := [6]) (by kernel_rfl) (by simp) ?_
  intro i2 hi2
  obtain rfl : i2 = 6 := by simpa using hi2
  clear hi2
  refine wpOp_step rfl (fun K hK => ?_)
  go_simp
  refine (superChooseNone_calls (Rep.val_keep (Q' := fun _ => True) (fun b _ hl => ⟨trivial, t1.block b hl.lt⟩) H0.out) (Rep.val_keep (Q' := fun _ => True) (fun b _ hl => ⟨trivial, t1.block b hl.lt⟩) H1.out) HA.out HB.out).mono ?_
  rintro e v2 ⟨rfl, hb2⟩
  have t2 : Below w.heap.size w v2 := t1.trans (hb2.mono t1.size)
  refine hK _ _ ⟨t2, ?_⟩
  clear hK K hb2
  refine tkHV (i := 7) (v := .tuple #[.int .i64 0, .bool false]) rfl t2 ?_
  go_simp
  refine tkHV (i := 8) (v := .int .i64 0) rfl t2 ?_
  go_simp
  refine tkHV (i := 9) (v := .bool false) rfl t2 ?_
  go_simp
  refine tkHV (i := 10) (v := .int .i64 0) rfl t2 ?_
  go_simp
  refine tkHV (i := 11) (v := .bool false) rfl t2 ?_
  go_simp
  refine wpAnyH_done (by kernel_rfl) ?_ _
  go_wp2_with fail
  go_ret2
  exact ⟨rfl, t2⟩

section
variable {W : World} {P : Nat} {F B : Nat → Prop} {n : Nat} {st st' : DiskSt} {a b : List UInt8}

set_option maxRecDepth 100000 in
set_option maxHeartbeats 2000000 in
/-- store.Load of a device without superblocks -/
theorem loadNone_calls (h : DiskAt W P F B n st) (h2 : 2 ≤ st.safe.length) (hl : ∀ x ∈ st.safe, x.length ≤ 100000) (hw : ∀ j, ∀ x ∈ st.wait j, x.length ≤ 100000)
    (hr : allSt st [0, 1] = (st', [a, b], 0)) (ha : sealGet a = none) (hb : sealGet b = none) :
    Calls Tryz.prog 44 #[.pointer (some ⟨P, 0, none⟩)] W fun e W' => e = .returned (.tuple #[.pointer none, .slice none 0 0, .int .i64 16]) ∧ Only F W W' := by
  have HD := Lib.hid h
  have HL := Lib.hid hl
  have HW := Lib.hid hw
  have HR := Lib.hid hr
  have HA := Lib.hid ha
  have HB := Lib.hid hb
  have h2' : ¬ ((st.safe.length : Int) < 2) := by omega
  clear h hl hw hr ha hb h2
  go_enter Tryz.func44, Tryz.ntmps44
  go_wp2_with fail
  refine (dsize_disk HD.out).mono ?_
  rintro e w1 ⟨rfl, hw1⟩
  obtain rfl := hw1.symm
  clear hw1
  go_wp2_with fail
  refine (supers_calls HD.out HL.out HW.out).mono ?_
  rintro e w2 ⟨u, rfl, hu, hd, ho⟩
  rw [HR.out] at hu hd ⊢
  have HU := Lib.hid hu
  have HO := Lib.hid ho
  obtain ⟨A, c, rfl, _, _, _⟩ := Rep.val_list hu
  clear hu hd ho
  go_wp2_with fail
  refine (newestNone_calls HU.out HA.out HB.out).mono ?_
  rintro e w3 ⟨rfl, hb3⟩
  have HO3 := Lib.hid (HO.out.trans (Only.of_below hb3))
  clear hb3
  go_wp2_with fail
  go_ret3
  exact ⟨rfl, HO3.out⟩

set_option maxRecDepth 100000 in
set_option maxHeartbeats 2000000 in
/-- revive.Open of a device without superblocks -/
theorem openNone_calls (h : DiskAt W P F B n st) (h2 : 2 ≤ st.safe.length) (hl : ∀ x ∈ st.safe, x.length ≤ 100000) (hw : ∀ j, ∀ x ∈ st.wait j, x.length ≤ 100000)
    (hr : allSt st [0, 1] = (st', [a, b], 0)) (ha : sealGet a = none) (hb : sealGet b = none) :
    Calls Tryz.prog 26 #[.pointer (some ⟨P, 0, none⟩)] W fun e W' => e = .returned (.tuple #[.pointer none, .int .i64 16]) ∧ Only F W W' := by
  have HC := Lib.hid (loadNone_calls h h2 hl hw hr ha hb)
  clear h h2 hl hw hr ha hb
  go_enter Tryz.func26, Tryz.ntmps26
  go_wp2_with fail
  refine HC.out.mono ?_
  rintro e w1 ⟨rfl, ho⟩
  have HO := Lib.hid ho
  clear ho
  go_wp2_with fail
  go_ret2
  exact ⟨rfl, HO.out⟩

set_option maxRecDepth 100000 in
set_option maxHeartbeats 2000000 in
/-- audit.Disk of a device without superblocks -/
theorem auditNone_calls (h : DiskAt W P F B n st) (h2 : 2 ≤ st.safe.length) (hl : ∀ x ∈ st.safe, x.length ≤ 100000) (hw : ∀ j, ∀ x ∈ st.wait j, x.length ≤ 100000)
    (hr : allSt st [0, 1] = (st', [a, b], 0)) (ha : sealGet a = none) (hb : sealGet b = none) :
    Calls Tryz.prog 11 #[.pointer (some ⟨P, 0, none⟩)] W fun e W' => e = .returned (.int .i64 16) ∧ Only F W W' := by
  have HLT := Lib.hid (show ∀ b, F b ∨ B b → b < W.heap.size by obtain ⟨_, _, _, _, hh⟩ := h; exact hh.lt)
  obtain ⟨W1, hW1⟩ : ∃ W1, W.alloc (.cells #[.int .i64 0] 33) = W1 := ⟨_, rfl⟩
  have hb1 : Below W.heap.size W W1 := by rw [← hW1]; exact (Below.refl _ _).alloc (Nat.le_refl _) _
  have hz1 : W1.heap.size = W.heap.size + 1 := by rw [← hW1]; simp
  have hr1 : W1.heap[W.heap.size]? = some (.cells #[.int .i64 0] 33 (0, 0)) := by rw [← hW1]; exact heap_alloc_new _ _
  have KR := Lib.hid (show ∀ V, Only F W1 V → V.heap[W.heap.size]? = some (.cells #[.int .i64 0] 33 (0, 0)) from fun V ho => (ho.block _ (by omega) (fun hf => by have := HLT.out _ (.inl hf); omega)).trans hr1)
  have HB1 := Lib.hid hb1
  have HZ1 := Lib.hid hz1
  have HC := Lib.hid (openNone_calls (h.below hb1) h2 hl hw hr ha hb)
  obtain ⟨e0, z0⟩ := rw1 hr1
  clear h h2 hl hw hr ha hb hb1 hz1 hr1
  go_enter_defers Tryz.func11, Tryz.ntmps11
  go_wp2_with fail
  try rw [hW1]
  clear hW1
  try go_wp2_with fail
  refine HC.out.mono ?_
  rintro e w2 ⟨rfl, ho⟩
  have HO := Lib.hid ho
  clear ho e0 z0
  go_wp2_with fail
  refine (must_no _ _).mono ?_
  rintro e w8 ⟨rfl, hw⟩
  obtain rfl := hw.symm
  have RR9 := Lib.hid (KR.out _ HO.out)
  obtain ⟨q9, z9⟩ := rw1 RR9.out
  have q8 : World.cell? (w2.setCell ⟨W.heap.size, 0, none⟩ (.int .i64 16)) ⟨W.heap.size, 0, none⟩ = some (.int .i64 16) := cell_row (heap_setRow RR9.out) 0
  have HFB := Lib.hid (show Only F W (w2.setCell ⟨W.heap.size, 0, none⟩ (.int .i64 16)) from (show Only F W w2 from (Only.of_below HB1.out).trans HO.out).late (Nat.le_refl _))
  refine leaves_cons (f := 13) (args := #[.pointer (some ⟨W.heap.size, 0, none⟩)]) (by simp) (by simp [go_sem]) ?_
  refine (ended_panicking ⟨W.heap.size, 0, none⟩ 0 16 [] _ q9 z9).mono ?_
  rintro e9 u9 w9 ⟨rfl, rfl, rfl⟩
  simp [Leaves, settle, results, Tryz.results11, go_sem]
  rw [q8]
  exact ⟨_, rfl, rfl, HFB.out⟩
end
end Go.Proofs.YthkepjhfeeohdaaGreatDoor
namespace Go.Proofs.YthkepjhfeeohdaaGreatDoor
open Go.RowKit
open Extern.Stop (cell)

theorem zeroBytes_is (n : Nat) : zeroBytes n = ((zeros n).map cell).toArray := by
  apply Array.ext'
  rw [zeroBytes, toList_madeCells_one]
  simp [zeros, cell]
end Go.Proofs.YthkepjhfeeohdaaGreatDoor
namespace Go.Proofs.YthkepjhfeeohdaaGreatDoor
open Go.RowKit
open Extern.Stop (cell)

/-- A sector of 512 bytes in a block of its own. -/
def rSec : Rep (List UInt8 × Nat) where
  size := 1
  wrap cs := cs.headD undef
  rd Q w cs x := cs = [.slice (some ⟨x.2, 0, none⟩) 512 512] ∧ Q x.2 ∧ SecAt w x.2 5 x.1
  len h := by rw [h.1]; rfl
  one h := by rw [h.1]; simp [Value.oneCell']
  back h := by rw [h.1]; rfl
  keep hk h := ⟨h.1, (hk _ h.2.1 ⟨_, _, _, h.2.2.blk⟩).1, h.2.2.keep (hk _ h.2.1 ⟨_, _, _, h.2.2.blk⟩).2⟩
/-- A new device as0 it grows: k sectors so far. -/
structure NewAt (w0 W : World) (P M k : Nat) (Sf : Option Addr) (cs : Nat) (xs : List (List UInt8 × Nat)) : Prop where
  len : xs.length = k
  blk : W.heap[P]? = some (.cells #[.slice Sf k cs, .map (some M), .int .i64 (-1), .bool false, .int .i64 0, .int .i64 0] 85 (0, 0))
  acc : rSec.acc 44 (P + 1) (fun b => P < b) W (.slice Sf k cs) xs
  map : W.heap[M]? = some (.map #[] 0)
  bel : Below w0.heap.size w0 W
  dis : (xs.map (·.2)).Nodup
  lt : ∀ x ∈ xs, P < x.2 ∧ x.2 < W.heap.size
  pos : w0.heap.size ≤ M ∧ M < P ∧ P < W.heap.size
def newN (n : Int) : Nat := (if n < 0 then 0 else if 4096 < n then 4096 else n).toNat
def NewPost (w : World) (n : Int) (e : Ending) (W : World) : Prop :=
  ∃ P M Sf cs xs, e = .returned (.pointer (some ⟨P, 0, none⟩)) ∧ NewAt w W P M (newN n) Sf cs xs ∧ ∀ x ∈ xs, x.1 = zeros 512
theorem newN_cases (n : Int) : (n < 0 ∧ newN n = 0) ∨ (4096 < n ∧ newN n = 4096) ∨ (0 ≤ n ∧ n ≤ 4096 ∧ n = (newN n : Nat)) := by
  unfold newN
  by_cases h : n < 0
  · exact .inl ⟨h, by rw [if_pos h]; rfl⟩
  · by_cases h2 : 4096 < n
    · exact .inr (.inl ⟨h2, by rw [if_neg h, if_pos h2]; rfl⟩)
    · exact .inr (.inr ⟨by omega, by omega, by rw [if_neg h, if_neg h2]; omega⟩)

theorem new_step {w0 wr v5 W7 : World} {P M k : Nat} {Sf A7 : Option Addr} {cs c7 : Nat} {xs : List (List UInt8 × Nat)} {u : Array Value} (h : NewAt w0 wr P M k Sf cs xs) (hb6 : Below wr.heap.size wr (v5.alloc (.cells u 44))) (hl : wr.heap.size < v5.heap.size)
    (q2 : rSec.acc 44 (P + 1) (fun b => P < b) W7 (.slice A7 (k + 1) c7) (xs ++ [(zeros 512, wr.heap.size)])) (q3 : (v5.alloc (.cells u 44)).grownBy W7 (Value.slice Sf k cs).ownBlock)
    (b7 : W7.heap[P]? = some (.cells #[.slice Sf k cs, .map (some M), .int .i64 (-1), .bool false, .int .i64 0, .int .i64 0] 85 (0, 0))) (hx : (xs ++ [(zeros 512, wr.heap.size)]).length = k + 1) :
    NewAt w0 (W7.setCell ⟨P, 0, none⟩ (.slice A7 (k + 1) c7)) P M (k + 1) A7 c7 (xs ++ [(zeros 512, wr.heap.size)]) := by
  have hown := Rep.acc_own h.acc
  have hown7 := Rep.acc_own q2
  have hpos := h.pos
  have s6 := hb6.size
  have s7 := q3.size
  have hs5 : (v5.alloc (.cells u 44)).heap.size = v5.heap.size + 1 := by simp
  refine ⟨hx, heap_setRow b7, Rep.acc_keep (fun b hb _ => Below.heap_setCell _ _ _ _ ?_) (fun _ hb _ => hb) q2, ?_, ?_, ?_, fun x hx => ?_, ⟨hpos.1, hpos.2.1, by simp; omega⟩⟩
  · show b ≠ P
    rcases hb with hb | hb
    · have hb' : P < b := hb; omega
    · have := (hown7 b hb).1; omega
  · rw [Below.heap_setCell _ _ _ _ (show M ≠ P by omega), q3.block M (by omega) (fun e => by have := (hown M e.symm).1; omega), hb6.block M (by omega)]
    exact h.map
  · exact below_set ((h.bel.trans (hb6.mono h.bel.size)).grown q3 (by have := h.bel.size; omega) (fun b hb => by have := (hown b hb).1; omega)) (by omega)
  · rw [List.map_append, List.nodup_append]
    refine ⟨h.dis, by simp, fun a ha b hb => ?_⟩
    simp at hb
    obtain ⟨x, hx, rfl⟩ := List.mem_map.1 ha
    have := (h.lt x hx).2
    omega
  · have hz : (W7.setCell ⟨P, 0, none⟩ (.slice A7 (k + 1) c7)).heap.size = W7.heap.size := by simp
    rw [hz]
    rcases List.mem_append.1 hx with hx | hx
    · have := h.lt x hx; omega
    · simp at hx; rw [hx]; exact ⟨hpos.2.2, by show wr.heap.size < _; omega⟩

set_option maxRecDepth 100000 in
set_option maxHeartbeats 400000 in
/-- disk.New -/
theorem dnew_calls {n : Int} (h0 : 0 ≤ n) (h1 : n ≤ 4096) (w : World) : Calls Tryz.prog 12 #[.int .i64 n] w (NewPost w n) := by
  have hmk : ∀ w, (Instr.makeSlice 44 (.int .i64 512) (.int .i64 512)).run Tryz.prog w = .ok (.slice (some ⟨w.heap.size, 0, none⟩) 512 512) (w.alloc (.cells (zeroBytes 512) 5)) :=
    fun w => run_make_bytes Tryz.underlying44 info5 512 (by omega) w
  have hmm := @run_makeMap Tryz.prog
  obtain ⟨Z, hZ⟩ : ∃ Z, Z = zeroBytes 512 := ⟨_, rfl⟩
  rw [← hZ] at hmk
  have HZ := Lib.hid (show Z = ((zeros 512).map cell).toArray by rw [hZ, zeroBytes_is])
  clear hZ
  obtain ⟨N, hN⟩ : ∃ N, N = newN n := ⟨_, rfl⟩
  have hcase : n = (N : Int) := by rcases newN_cases n with h | h | h <;> omega
  have HN := Lib.hid hN
  have HN4 := Lib.hid (show N ≤ 4096 by omega)
  clear hN
  obtain ⟨W1, hW1⟩ : ∃ W1, w.alloc (.map #[] 0) = W1 := ⟨_, rfl⟩
  have hm1 : W1.heap[w.heap.size]? = some (.map #[] 0) := by rw [← hW1]; exact heap_alloc_new _ _
  have hb1 : Below w.heap.size w W1 := by rw [← hW1]; exact (Below.refl _ _).alloc (Nat.le_refl _) _
  have hz1 : W1.heap.size = w.heap.size + 1 := by rw [← hW1]; simp
  obtain ⟨W2, hW2⟩ : ∃ W2, W1.alloc (.cells #[.slice none 0 0, .map (some w.heap.size), .int .i64 (-1), .bool false, .int .i64 0, .int .i64 0] 85) = W2 := ⟨_, rfl⟩
  have hz2 : W2.heap.size = w.heap.size + 1 + 1 := by rw [← hW2]; simp [hz1]
  have H0 := Lib.hid (show NewAt w W2 (w.heap.size + 1) w.heap.size 0 none 0 [] from ⟨rfl, by rw [← hW2, ← hz1]; exact heap_alloc_new _ _, Rep.acc_nil, by rw [← hW2, heap_alloc_old _ _ (by omega)]; exact hm1, by rw [← hW2]; exact hb1.alloc (by omega) _, by simp, by simp, ⟨Nat.le_refl _, by omega, by omega⟩⟩)
  clear hm1 hb1
  subst hcase
  go_enter Tryz.func12, Tryz.ntmps12
  go_wp2_with fail
  try rw [hW1]
  try rw [hW2]
  go_wp2_with fail
  clear hW1 hW2 hz1 hz2
  go_loopw [10] (fun i wr => ∃ (k : Nat) (Sf : Option Addr) (cs : Nat) (xs : List (List UInt8 × Nat)), i = .int .i64 k ∧ k ≤ N ∧ NewAt w wr (w.heap.size + 1) w.heap.size k Sf cs xs ∧ Hid (∀ x ∈ xs, x.1 = zeros 512)) (fun i _ => N - (intOf i).toNat)
  case atStart => exact ⟨0, none, 0, [], rfl, Nat.zero_le _, H0.out, fun x hx => by simp at hx⟩
  case round =>
    obtain ⟨k, Sf, cs, xs, rfl, hk, hr, hall⟩ := hrel
    have HR := Lib.hid hr
    by_cases hlt : (k : Int) < N
    · have hk2 : k < 4096 := by have := HN4.out; omega
      have hgb := hr.blk
      have hgp := hr.pos
      have c0 := cell_row hr.blk 0
      clear hr
      go_wp2_with fail
      refine wp_region_any (by kernel_rfl) ?_
      try (change wpAny _ _ _ _ _ _ _ (World.drew _))
      refine wpAny_take (i := 0) (v := .pointer (some ⟨w.heap.size + 1, 0, none⟩)) rfl (by kernel_rfl) (by kernel_rfl) (by kernel_rfl) (fun _ _ _ h => h) (Or.inl ⟨by rfl, fun w' => by go_simp⟩) ?_
      go_simp
      refine wpAny_take (i := 1) (v := .pointer (some ⟨w.heap.size + 1, 0, none⟩)) rfl (by kernel_rfl) (by kernel_rfl) (by kernel_rfl) (fun _ _ _ h => h) (Or.inl ⟨by rfl, fun w' => by go_simp⟩) ?_
      go_simp
      refine wpAny_take (i := 2) (v := .pointer (some ⟨w.heap.size + 1, 0, none⟩)) rfl (by kernel_rfl) (by kernel_rfl) (by kernel_rfl) (fun _ _ _ h => h) (Or.inl ⟨by rfl, fun w' => by go_simp⟩) ?_
      go_simp
      refine wpAny_take (i := 3) (v := .pointer (some ⟨w.heap.size + 1, 0, none⟩)) rfl (by kernel_rfl) (by kernel_rfl) (by kernel_rfl) (fun _ _ _ h => h) (Or.inl ⟨by rfl, fun w' => by go_simp⟩) ?_
      go_simp
      refine any_step [4, 5] (by kernel_rfl) (by simp) ?_
      intro j hj
      rcases (by simpa using hj : j = 4 ∨ j = 5) with rfl | rfl
      · refine wpOp_step rfl (fun K hK => ?_)
        go_simp
        refine hK _ _ ?_
        clear hK K
        refine any_step [5] (by kernel_rfl) (by simp) ?_
        intro j hj
        obtain rfl : j = 5 := by simpa using hj
        refine wpOp_step rfl (fun K hK => ?_)
        go_simp
        refine hK _ _ ?_
        clear hK K
        have HB5 := Lib.hid (show Below wr.heap.size wr (wr.alloc (.cells Z 5)).drew from ((Below.refl _ _).alloc (Nat.le_refl _) _).drew)
        have HS5 := Lib.hid (show SecAt (wr.alloc (.cells Z 5)).drew wr.heap.size 5 (zeros 512) from ⟨by rw [← HZ.out]; exact heap_alloc_new wr _, zeros_length _⟩)
        have c5 := (HB5.out.cell (p := ⟨w.heap.size + 1, 0, none⟩) hgp.2.2).trans c0
        generalize (wr.alloc (.cells Z 5)).drew = W5 at *
        refine any_step [6] (by kernel_rfl) (by simp) ?_
        intro j hj
        obtain rfl : j = 6 := by simpa using hj
        refine wpOp_step rfl (fun K hK => ?_)
        refine step_run rfl (exec_buildSlice (vy := .slice (some ⟨wr.heap.size, 0, none⟩) 512 512) rfl (.slice none 0 0) 1 Tryz.underlying83 info22' rfl rfl (by decide)) ?_
        go_simp
        refine hK _ _ ?_
        clear hK K
        have HB6 := Lib.hid (HB5.out.alloc HB5.out.size (.cells #[.slice (some ⟨wr.heap.size, 0, none⟩) 512 512] 44))
        have c6 := (HB6.out.cell (p := ⟨w.heap.size + 1, 0, none⟩) hgp.2.2).trans c0
        have hg6 := heap_alloc_new W5 (.cells #[.slice (some ⟨wr.heap.size, 0, none⟩) 512 512] 44)
        have hz6 : (W5.alloc (.cells #[.slice (some ⟨wr.heap.size, 0, none⟩) 512 512] 44)).heap.size = W5.heap.size + 1 := by simp
        have hacc6 : rSec.acc 44 (w.heap.size + 1 + 1) (fun b => w.heap.size + 1 < b) (W5.alloc (.cells #[.slice (some ⟨wr.heap.size, 0, none⟩) 512 512] 44)) (.slice Sf k cs) xs :=
          Rep.acc_keep (fun b _ hl => HB6.out.block b hl.lt) (fun _ hb _ => hb) HR.out.acc
        have hown := Rep.acc_own HR.out.acc
        have hrd6 : rSec.rd (fun b => w.heap.size + 1 < b ∧ (Value.slice Sf k cs).ownBlock ≠ some b) (W5.alloc (.cells #[.slice (some ⟨wr.heap.size, 0, none⟩) 512 512] 44)) [.slice (some ⟨wr.heap.size, 0, none⟩) 512 512] (zeros 512, wr.heap.size) :=
          ⟨rfl, ⟨hgp.2.2, fun e => by have := (hown _ e).2; omega⟩, HS5.out.keep (heap_alloc_old _ _ HS5.out.lt)⟩
        obtain ⟨v', W7, q1, q2, q3, q4⟩ := Rep.acc_more (P := Tryz.prog) (ty := 83) (ys := [(zeros 512, wr.heap.size)]) (A := some ⟨W5.heap.size, 0, none⟩) (m := 1) (c := 1) Tryz.underlying83 info22 rfl (by decide) rfl hacc6 rfl (Rep.row_one_elem hrd6)
          (fun _ => ⟨W5.heap.size, 0, rfl, fun j u hj => by rw [cell_of_row _ _ _ _ _ _ hg6, Nat.zero_add, ← hj]; simp⟩) (by have := HR.out.len; simp; unfold maxLen; omega) (by have := HR.out.len; simp; omega) (by have := HB6.out.size; omega)
        obtain ⟨A7, c7, rfl, hf1, hf2⟩ := Rep.acc_form q2
        have hxl : (xs ++ [(zeros 512, wr.heap.size)]).length = k + 1 := by rw [List.length_append, HR.out.len]; rfl
        rw [hxl] at q1 q2 q4
        refine any_step [7] (by kernel_rfl) (by simp) ?_
        intro j hj
        obtain rfl : j = 7 := by simpa using hj
        refine wpOp_step rfl (fun K hK => ?_)
        refine step_run rfl (exec_append (by rfl) (by rfl) (by rfl) q1) ?_
        go_simp
        refine hK _ _ ?_
        clear hK K
        have hPne : ∀ W8 : World, (W5.alloc (.cells #[.slice (some ⟨wr.heap.size, 0, none⟩) 512 512] 44)).grownBy W8 (Value.slice Sf k cs).ownBlock → W8.heap[w.heap.size + 1]? = wr.heap[w.heap.size + 1]? := fun W8 hg => (hg.block _ (by have := HB6.out.size; omega) (fun e => by have := (hown _ e.symm).1; omega)).trans (HB6.out.block _ hgp.2.2)
        have b7 := (hPne W7 q3).trans hgb
        obtain ⟨d0, z0⟩ := rw1 b7
        refine wpAny_take (i := 8) (v := .pointer (some ⟨w.heap.size + 1, 0, none⟩)) rfl (by kernel_rfl) (by kernel_rfl) (by kernel_rfl) (fun _ _ _ h => h) (Or.inl ⟨by rfl, fun w' => by go_simp⟩) ?_
        go_simp
        refine wpAny_take (i := 9) (v := .pointer (some ⟨w.heap.size + 1, 0, none⟩)) rfl (by kernel_rfl) (by kernel_rfl) (by kernel_rfl) (fun _ _ _ h => h) (Or.inl ⟨by rfl, fun w' => by go_simp⟩) ?_
        go_simp
        refine any_step [10] (by kernel_rfl) (by simp) ?_
        intro j hj
        obtain rfl : j = 10 := by simpa using hj
        refine wpOp_step rfl (fun K hK => ?_)
        go_simp
        refine hK _ _ ?_
        clear hK K
        have HNEW := Lib.hid (new_step (w0 := w) (v5 := W5) HR.out HB6.out HS5.out.lt q2 q3 b7 hxl)
        have HALL := Lib.hid (show ∀ x ∈ xs ++ [(zeros 512, wr.heap.size)], x.1 = zeros 512 from fun x hx => by rcases List.mem_append.1 hx with hx | hx; exact hall x hx; simp at hx; rw [hx])
        refine wpAny_done (by kernel_rfl) ?_ _
        clear q1 q2 q3 q4 b7 d0 z0 hrd6 hacc6 hg6 hz6 hPne hown
        go_wp2_with fail
        exact ⟨⟨k + 1, _, _, _, by go_num, by omega, HNEW.out, HALL.out⟩, by simp [intOf]; omega⟩
      · refine wpOp_step rfl (fun K hK => ?_)
        go_simp
        refine hK _ _ ?_
        clear hK K
        have HB5 := Lib.hid (show Below wr.heap.size wr (wr.alloc (.cells Z 5)).drew from ((Below.refl _ _).alloc (Nat.le_refl _) _).drew)
        have HS5 := Lib.hid (show SecAt (wr.alloc (.cells Z 5)).drew wr.heap.size 5 (zeros 512) from ⟨by rw [← HZ.out]; exact heap_alloc_new wr _, zeros_length _⟩)
        have c5 := (HB5.out.cell (p := ⟨w.heap.size + 1, 0, none⟩) hgp.2.2).trans c0
        generalize (wr.alloc (.cells Z 5)).drew = W5 at *
        refine any_step [4, 6] (by kernel_rfl) (by simp) ?_
        intro j hj
        rcases (by simpa using hj : j = 4 ∨ j = 6) with rfl | rfl
        · refine wpOp_step rfl (fun K hK => ?_)
          go_simp
          refine hK _ _ ?_
          clear hK K
          refine any_step [6] (by kernel_rfl) (by simp) ?_
          intro j hj
          obtain rfl : j = 6 := by simpa using hj
          refine wpOp_step rfl (fun K hK => ?_)
          refine step_run rfl (exec_buildSlice (vy := .slice (some ⟨wr.heap.size, 0, none⟩) 512 512) rfl (.slice none 0 0) 1 Tryz.underlying83 info22' rfl rfl (by decide)) ?_
          go_simp
          refine hK _ _ ?_
          clear hK K
          have HB6 := Lib.hid (HB5.out.alloc HB5.out.size (.cells #[.slice (some ⟨wr.heap.size, 0, none⟩) 512 512] 44))
          have c6 := (HB6.out.cell (p := ⟨w.heap.size + 1, 0, none⟩) hgp.2.2).trans c0
          have hg6 := heap_alloc_new W5 (.cells #[.slice (some ⟨wr.heap.size, 0, none⟩) 512 512] 44)
          have hz6 : (W5.alloc (.cells #[.slice (some ⟨wr.heap.size, 0, none⟩) 512 512] 44)).heap.size = W5.heap.size + 1 := by simp
          have hacc6 : rSec.acc 44 (w.heap.size + 1 + 1) (fun b => w.heap.size + 1 < b) (W5.alloc (.cells #[.slice (some ⟨wr.heap.size, 0, none⟩) 512 512] 44)) (.slice Sf k cs) xs :=
            Rep.acc_keep (fun b _ hl => HB6.out.block b hl.lt) (fun _ hb _ => hb) HR.out.acc
          have hown := Rep.acc_own HR.out.acc
          have hrd6 : rSec.rd (fun b => w.heap.size + 1 < b ∧ (Value.slice Sf k cs).ownBlock ≠ some b) (W5.alloc (.cells #[.slice (some ⟨wr.heap.size, 0, none⟩) 512 512] 44)) [.slice (some ⟨wr.heap.size, 0, none⟩) 512 512] (zeros 512, wr.heap.size) :=
            ⟨rfl, ⟨hgp.2.2, fun e => by have := (hown _ e).2; omega⟩, HS5.out.keep (heap_alloc_old _ _ HS5.out.lt)⟩
          obtain ⟨v', W7, q1, q2, q3, q4⟩ := Rep.acc_more (P := Tryz.prog) (ty := 83) (ys := [(zeros 512, wr.heap.size)]) (A := some ⟨W5.heap.size, 0, none⟩) (m := 1) (c := 1) Tryz.underlying83 info22 rfl (by decide) rfl hacc6 rfl (Rep.row_one_elem hrd6)
            (fun _ => ⟨W5.heap.size, 0, rfl, fun j u hj => by rw [cell_of_row _ _ _ _ _ _ hg6, Nat.zero_add, ← hj]; simp⟩) (by have := HR.out.len; simp; unfold maxLen; omega) (by have := HR.out.len; simp; omega) (by have := HB6.out.size; omega)
          obtain ⟨A7, c7, rfl, hf1, hf2⟩ := Rep.acc_form q2
          have hxl : (xs ++ [(zeros 512, wr.heap.size)]).length = k + 1 := by rw [List.length_append, HR.out.len]; rfl
          rw [hxl] at q1 q2 q4
          refine any_step [7] (by kernel_rfl) (by simp) ?_
          intro j hj
          obtain rfl : j = 7 := by simpa using hj
          refine wpOp_step rfl (fun K hK => ?_)
          refine step_run rfl (exec_append (by rfl) (by rfl) (by rfl) q1) ?_
          go_simp
          refine hK _ _ ?_
          clear hK K
          have hPne : ∀ W8 : World, (W5.alloc (.cells #[.slice (some ⟨wr.heap.size, 0, none⟩) 512 512] 44)).grownBy W8 (Value.slice Sf k cs).ownBlock → W8.heap[w.heap.size + 1]? = wr.heap[w.heap.size + 1]? := fun W8 hg => (hg.block _ (by have := HB6.out.size; omega) (fun e => by have := (hown _ e.symm).1; omega)).trans (HB6.out.block _ hgp.2.2)
          have b7 := (hPne W7 q3).trans hgb
          obtain ⟨d0, z0⟩ := rw1 b7
          refine wpAny_take (i := 8) (v := .pointer (some ⟨w.heap.size + 1, 0, none⟩)) rfl (by kernel_rfl) (by kernel_rfl) (by kernel_rfl) (fun _ _ _ h => h) (Or.inl ⟨by rfl, fun w' => by go_simp⟩) ?_
          go_simp
          refine wpAny_take (i := 9) (v := .pointer (some ⟨w.heap.size + 1, 0, none⟩)) rfl (by kernel_rfl) (by kernel_rfl) (by kernel_rfl) (fun _ _ _ h => h) (Or.inl ⟨by rfl, fun w' => by go_simp⟩) ?_
          go_simp
          refine any_step [10] (by kernel_rfl) (by simp) ?_
          intro j hj
          obtain rfl : j = 10 := by simpa using hj
          refine wpOp_step rfl (fun K hK => ?_)
          go_simp
          refine hK _ _ ?_
          clear hK K
          have HNEW := Lib.hid (new_step (w0 := w) (v5 := W5) HR.out HB6.out HS5.out.lt q2 q3 b7 hxl)
          have HALL := Lib.hid (show ∀ x ∈ xs ++ [(zeros 512, wr.heap.size)], x.1 = zeros 512 from fun x hx => by rcases List.mem_append.1 hx with hx | hx; exact hall x hx; simp at hx; rw [hx])
          refine wpAny_done (by kernel_rfl) ?_ _
          clear q1 q2 q3 q4 b7 d0 z0 hrd6 hacc6 hg6 hz6 hPne hown
          go_wp2_with fail
          exact ⟨⟨k + 1, _, _, _, by go_num, by omega, HNEW.out, HALL.out⟩, by simp [intOf]; omega⟩
        · refine wpOp_step rfl (fun K hK => ?_)
          refine step_run rfl (exec_buildSlice (vy := .slice (some ⟨wr.heap.size, 0, none⟩) 512 512) rfl (.slice none 0 0) 1 Tryz.underlying83 info22' rfl rfl (by decide)) ?_
          go_simp
          refine hK _ _ ?_
          clear hK K
          have HB6 := Lib.hid (HB5.out.alloc HB5.out.size (.cells #[.slice (some ⟨wr.heap.size, 0, none⟩) 512 512] 44))
          have c6 := (HB6.out.cell (p := ⟨w.heap.size + 1, 0, none⟩) hgp.2.2).trans c0
          refine any_step [4] (by kernel_rfl) (by simp) ?_
          intro j hj
          obtain rfl : j = 4 := by simpa using hj
          refine wpOp_step rfl (fun K hK => ?_)
          go_simp
          refine hK _ _ ?_
          clear hK K
          have hg6 := heap_alloc_new W5 (.cells #[.slice (some ⟨wr.heap.size, 0, none⟩) 512 512] 44)
          have hz6 : (W5.alloc (.cells #[.slice (some ⟨wr.heap.size, 0, none⟩) 512 512] 44)).heap.size = W5.heap.size + 1 := by simp
          have hacc6 : rSec.acc 44 (w.heap.size + 1 + 1) (fun b => w.heap.size + 1 < b) (W5.alloc (.cells #[.slice (some ⟨wr.heap.size, 0, none⟩) 512 512] 44)) (.slice Sf k cs) xs :=
            Rep.acc_keep (fun b _ hl => HB6.out.block b hl.lt) (fun _ hb _ => hb) HR.out.acc
          have hown := Rep.acc_own HR.out.acc
          have hrd6 : rSec.rd (fun b => w.heap.size + 1 < b ∧ (Value.slice Sf k cs).ownBlock ≠ some b) (W5.alloc (.cells #[.slice (some ⟨wr.heap.size, 0, none⟩) 512 512] 44)) [.slice (some ⟨wr.heap.size, 0, none⟩) 512 512] (zeros 512, wr.heap.size) :=
            ⟨rfl, ⟨hgp.2.2, fun e => by have := (hown _ e).2; omega⟩, HS5.out.keep (heap_alloc_old _ _ HS5.out.lt)⟩
          obtain ⟨v', W7, q1, q2, q3, q4⟩ := Rep.acc_more (P := Tryz.prog) (ty := 83) (ys := [(zeros 512, wr.heap.size)]) (A := some ⟨W5.heap.size, 0, none⟩) (m := 1) (c := 1) Tryz.underlying83 info22 rfl (by decide) rfl hacc6 rfl (Rep.row_one_elem hrd6)
            (fun _ => ⟨W5.heap.size, 0, rfl, fun j u hj => by rw [cell_of_row _ _ _ _ _ _ hg6, Nat.zero_add, ← hj]; simp⟩) (by have := HR.out.len; simp; unfold maxLen; omega) (by have := HR.out.len; simp; omega) (by have := HB6.out.size; omega)
          obtain ⟨A7, c7, rfl, hf1, hf2⟩ := Rep.acc_form q2
          have hxl : (xs ++ [(zeros 512, wr.heap.size)]).length = k + 1 := by rw [List.length_append, HR.out.len]; rfl
          rw [hxl] at q1 q2 q4
          refine any_step [7] (by kernel_rfl) (by simp) ?_
          intro j hj
          obtain rfl : j = 7 := by simpa using hj
          refine wpOp_step rfl (fun K hK => ?_)
          refine step_run rfl (exec_append (by rfl) (by rfl) (by rfl) q1) ?_
          go_simp
          refine hK _ _ ?_
          clear hK K
          have hPne : ∀ W8 : World, (W5.alloc (.cells #[.slice (some ⟨wr.heap.size, 0, none⟩) 512 512] 44)).grownBy W8 (Value.slice Sf k cs).ownBlock → W8.heap[w.heap.size + 1]? = wr.heap[w.heap.size + 1]? := fun W8 hg => (hg.block _ (by have := HB6.out.size; omega) (fun e => by have := (hown _ e.symm).1; omega)).trans (HB6.out.block _ hgp.2.2)
          have b7 := (hPne W7 q3).trans hgb
          obtain ⟨d0, z0⟩ := rw1 b7
          refine wpAny_take (i := 8) (v := .pointer (some ⟨w.heap.size + 1, 0, none⟩)) rfl (by kernel_rfl) (by kernel_rfl) (by kernel_rfl) (fun _ _ _ h => h) (Or.inl ⟨by rfl, fun w' => by go_simp⟩) ?_
          go_simp
          refine wpAny_take (i := 9) (v := .pointer (some ⟨w.heap.size + 1, 0, none⟩)) rfl (by kernel_rfl) (by kernel_rfl) (by kernel_rfl) (fun _ _ _ h => h) (Or.inl ⟨by rfl, fun w' => by go_simp⟩) ?_
          go_simp
          refine any_step [10] (by kernel_rfl) (by simp) ?_
          intro j hj
          obtain rfl : j = 10 := by simpa using hj
          refine wpOp_step rfl (fun K hK => ?_)
          go_simp
          refine hK _ _ ?_
          clear hK K
          have HNEW := Lib.hid (new_step (w0 := w) (v5 := W5) HR.out HB6.out HS5.out.lt q2 q3 b7 hxl)
          have HALL := Lib.hid (show ∀ x ∈ xs ++ [(zeros 512, wr.heap.size)], x.1 = zeros 512 from fun x hx => by rcases List.mem_append.1 hx with hx | hx; exact hall x hx; simp at hx; rw [hx])
          refine wpAny_done (by kernel_rfl) ?_ _
          clear q1 q2 q3 q4 b7 d0 z0 hrd6 hacc6 hg6 hz6 hPne hown
          go_wp2_with fail
          exact ⟨⟨k + 1, _, _, _, by go_num, by omega, HNEW.out, HALL.out⟩, by simp [intOf]; omega⟩
    · have hke : k = N := by omega
      have HK := Lib.hid hke
      go_wp2_with fail
      go_ret
      exact ⟨_, _, Sf, cs, xs, rfl, by rw [← HN.out, ← HK.out]; exact HR.out, hall⟩
end Go.Proofs.YthkepjhfeeohdaaGreatDoor
namespace Go.Proofs.YthkepjhfeeohdaaGreatDoor
open Go.RowKit
open Extern.Stop (cell)

theorem sec_row {Q Q' : Nat → Prop} {W : World} : ∀ {xs : List (List UInt8 × Nat)} {cs : List Value}, rSec.row Q W cs xs → (∀ x ∈ xs, Q x.2 → Q' x.2) → Rep.byte.list.row Q' W cs (xs.map (·.1))
  | [], _, h, _ => h
  | x :: xs, _, h, hq => by
    obtain ⟨es, rest, rfl, ⟨rfl, h1, h2⟩, h3⟩ := h
    refine ⟨_, rest, rfl, ?_, sec_row h3 fun y hy => hq y (by simp [hy])⟩
    have hv := h2.sl (a := 0) (n := 512) (c := 512) (by omega) (by omega) (by simp [maxLen])
    rw [List.drop_zero, List.take_of_length_le (by rw [h2.len]; omega)] at hv
    have hv2 := Rep.val_mono (Q' := Q') (fun b hb _ => by have : b = x.2 := hb; rw [this]; exact hq x (by simp) h1) hv
    obtain ⟨A', c', he, g1, g2, es, g3, g4⟩ := Rep.val_list hv2
    have hlen := h2.len
    rw [hlen] at he
    cases he
    exact ⟨_, _, es, by rw [hlen], g1, g2, g3, g4⟩
def newSt (l : List (List UInt8)) : DiskSt := ⟨l, fun _ => [], -1, false, 0, 0⟩
theorem empty_map {W : World} {M : Nat} (h : W.heap[M]? = some (.map #[] 0)) : W.ownsMap Tryz.prog 3 heldElem M 0 (.map []) :=
  ⟨#[], 0, h, ⟨by simp, Go.MapKept.stamped_empty 0, by simp⟩, Nat.le_refl _, rfl⟩
/-- A new device is a device. -/
theorem NewAt.disk {w0 W : World} {P M k : Nat} {Sf : Option Addr} {cs : Nat} {xs : List (List UInt8 × Nat)} (h : NewAt w0 W P M k Sf cs xs) :
    DiskAt W P (fun b => b = P ∨ b = M ∨ (Value.slice Sf k cs).ownBlock = some b) (fun b => b ∈ xs.map (·.2) ∧ (Value.slice Sf k cs).ownBlock ≠ some b) 0 (newSt (xs.map (·.1))) := by
  have hl : (xs.map (·.1)).length = k := by rw [List.length_map]; exact h.len
  have hown := Rep.acc_own h.acc
  have hpos := h.pos
  refine ⟨Sf, cs, M, .map [], ⟨?_, ?_, empty_map h.map, fun i => Rep.acc_nil, fun i => Nat.le_refl _, fun i hi => absurd rfl hi, rfl, .inl rfl, .inr (.inl rfl), ?_, fun i b hb => (by cases hb), fun i b hb => (by cases hb), fun i j b _ hb => (by cases hb), fun b hb hB => ?_, fun b hb => ?_, fun i hi => by cases hi⟩⟩
  · show W.heap[P]? = some (.cells #[.slice Sf (xs.map (·.1)).length cs, _, _, _, _, _] _ _)
    rw [hl]; exact h.blk
  · show Rep.byte.list.acc 44 0 _ W (.slice Sf (xs.map (·.1)).length cs) (xs.map (·.1))
    rw [hl]
    obtain ⟨cells, h1, h2⟩ := h.acc
    refine ⟨cells, ⟨?_, ?_⟩, ?_⟩
    · have := h1.1; rw [this, h.len, hl]; rfl
    · rcases h1.2 with ⟨e, e0⟩ | ⟨g, cap, cur, e, hb, hh, g1, g2, g3, g4⟩
      · exact .inl ⟨e, by rw [hl]; rw [h.len] at e0; exact e0⟩
      · rw [h.len] at e g1 g4
        exact .inr ⟨g, cap, cur, by rw [hl]; exact e, Nat.zero_le _, hh, by rw [hl]; exact g1, g2, g3, by rw [hl]; exact g4⟩
    · exact sec_row h2 fun x hx hq => ⟨⟨List.mem_map.2 ⟨x, hx, rfl⟩, hq.2⟩, hq.2⟩
  · show ∀ b, (Value.slice Sf (xs.map (·.1)).length cs).ownBlock = some b → _
    rw [hl]; exact fun b hb => .inr (.inr hb)
  · obtain ⟨x, hx, rfl⟩ := List.mem_map.1 hB.1
    have := (h.lt x hx).1
    rcases hb with hb | hb | hb
    · omega
    · omega
    · exact hB.2 hb
  · rcases hb with (hb | hb | hb) | hb
    · omega
    · omega
    · exact (hown b hb).2
    · obtain ⟨x, hx, rfl⟩ := List.mem_map.1 hb.1
      exact (h.lt x hx).2

theorem row_set {Q : Nat → Prop} {W W' : World} {C : List UInt8} {bk : Nat} : ∀ {xs : List (List UInt8 × Nat)} {cs : List Value} {k : Nat} (_ : k < xs.length) (_ : (xs.map (·.2)).Nodup) (_ : rSec.row Q W cs xs) (_ : (xs[k]'‹_›).2 = bk) (_ : SecAt W' bk 5 C) (_ : ∀ b, b ≠ bk → W'.heap[b]? = W.heap[b]?), rSec.row Q W' cs (xs.set k (C, bk))
  | [], _, k, hk, _, _, _, _, _ => by simp at hk
  | x :: xs, _, 0, hk, hd, h, hbk, hc, hw => by
    obtain ⟨es, rest, rfl, ⟨rfl, h1, h2⟩, h3⟩ := h
    have e : x.2 = bk := hbk
    refine ⟨_, rest, rfl, ⟨by rw [← e], e ▸ h1, hc⟩, ?_⟩
    have hd2 := (List.nodup_cons.1 hd).1
    have : ∀ {ys : List (List UInt8 × Nat)} {cs : List Value}, (∀ y ∈ ys, y.2 ≠ bk) → rSec.row Q W cs ys → rSec.row Q W' cs ys := by
      intro ys
      induction ys with
      | nil => intro cs _ h; exact h
      | cons y ys ih =>
        intro cs hne h
        obtain ⟨es, rest, rfl, ⟨rfl, g1, g2⟩, g3⟩ := h
        exact ⟨_, rest, rfl, ⟨rfl, g1, g2.keep (hw _ (hne y (by simp)))⟩, ih (fun z hz => hne z (by simp [hz])) g3⟩
    exact this (fun y hy e2 => hd2 (List.mem_map.2 ⟨y, hy, e2.trans e.symm⟩)) h3
  | x :: xs, _, k + 1, hk, hd, h, hbk, hc, hw => by
    obtain ⟨es, rest, rfl, ⟨rfl, h1, h2⟩, h3⟩ := h
    have hd2 := (List.nodup_cons.1 hd)
    have hk2 : k < xs.length := by simpa using hk
    have hne : x.2 ≠ bk := fun e => hd2.1 (List.mem_map.2 ⟨xs[k], List.getElem_mem hk2, hbk.trans e.symm⟩)
    exact ⟨_, rest, rfl, ⟨rfl, h1, h2.keep (hw _ hne)⟩, row_set hk2 hd2.2 h3 hbk hc hw⟩
theorem NewAt.set {w0 W W' : World} {P M k j : Nat} {Sf : Option Addr} {cs : Nat} {xs : List (List UInt8 × Nat)} {C : List UInt8} {bk : Nat} (h : NewAt w0 W P M k Sf cs xs) (hj : j < xs.length) (hbk : xs[j].2 = bk)
    (hc : SecAt W' bk 5 C) (hw : ∀ b, b ≠ bk → W'.heap[b]? = W.heap[b]?) (hs : W'.heap.size = W.heap.size) (ho : W'.os = W.os ∧ W'.tape = W.tape ∧ W'.output = W.output) (hne : (Value.slice Sf k cs).ownBlock ≠ some bk) :
    NewAt w0 W' P M k Sf cs (xs.set j (C, bk)) := by
  have hlt := h.lt xs[j] (List.getElem_mem hj)
  rw [hbk] at hlt
  have hpos := h.pos
  have hmap : (xs.set j (C, bk)).map (·.2) = xs.map (·.2) := by
    rw [List.map_set]
    show (xs.map (·.2)).set j bk = xs.map (·.2)
    have : (xs.map (·.2))[j]'(by simpa using hj) = bk := by simp [hbk]
    rw [← this, List.set_getElem_self]
  obtain ⟨cells, h1, h2⟩ := h.acc
  refine ⟨by rw [List.length_set]; exact h.len, (hw P (by omega)).trans h.blk, ⟨cells, ?_, row_set hj h.dis h2 hbk hc hw⟩, (hw M (by omega)).trans h.map,
    ⟨ho.1.trans h.bel.os, ho.2.1.trans h.bel.tape, ho.2.2.trans h.bel.output, by rw [hs]; exact h.bel.size, fun b hb => (hw b (by omega)).trans (h.bel.block b hb)⟩, by rw [hmap]; exact h.dis, fun x hx => ?_, ⟨hpos.1, hpos.2.1, by rw [hs]; exact hpos.2.2⟩⟩
  · rw [List.length_set]
    refine ⟨h1.1, ?_⟩
    rcases h1.2 with e | ⟨g, cap, cur, e, hb, hh, r⟩
    · exact .inl e
    · refine .inr ⟨g, cap, cur, e, hb, (hw g (fun e2 => ?_)).trans hh, r⟩
      apply hne
      rw [e, e2]; rfl
  · rw [hs]
    rcases List.mem_or_eq_of_mem_set hx with hx | rfl
    · exact h.lt x hx
    · exact hlt

end Go.Proofs.YthkepjhfeeohdaaGreatDoor
namespace Go.Proofs.YthkepjhfeeohdaaGreatDoor
open Go.RowKit

@[ext] structure DIds where
  entities : Int
  limit : Int
  gens : List Int
  free : List Int
  deriving DecidableEq

def rIds : Rep DIds := ((Rep.int .i64).pair ((Rep.int .i64).pair ((Rep.int .i64).list.pair (Rep.int .i64).list))).iso fun x => (x.entities, x.limit, x.gens, x.free)
theorem rIds_open {Q : Nat → Prop} {w : World} {cs : List Value} {x : DIds} (h : rIds.rd Q w cs x) : ∃ (A_gens : Option Addr) (c_gens : Nat) (A_free : Option Addr) (c_free : Nat), cs = [.int .i64 x.entities, .int .i64 x.limit, .slice A_gens x.gens.length c_gens, .slice A_free x.free.length c_free] ∧ (Lit.int .i64 x.entities).wf = true ∧ (Lit.int .i64 x.limit).wf = true ∧ (Rep.int .i64).Sl Q w A_gens c_gens x.gens ∧ (Rep.int .i64).Sl Q w A_free c_free x.free := by
  obtain ⟨a0, b0, rfl, h0, g0⟩ := h
  obtain ⟨e0, w0⟩ := h0
  subst e0
  obtain ⟨a1, b1, rfl, h1, g1⟩ := g0
  obtain ⟨e1, w1⟩ := h1
  subst e1
  obtain ⟨a2, b2, rfl, h2, g2⟩ := g1
  obtain ⟨A2, c2, e2, w2⟩ := Rep.rd_sl h2
  subst e2
  obtain ⟨A3, c3, e3, w3⟩ := Rep.rd_sl g2
  subst e3
  exact ⟨A2, c2, A3, c3, rfl, w0, w1, w2, w3⟩
theorem rIds_mk {Q : Nat → Prop} {w : World} {x : DIds} {A_gens : Option Addr} {c_gens : Nat} {A_free : Option Addr} {c_free : Nat} (f0 : (Lit.int .i64 x.entities).wf = true) (f1 : (Lit.int .i64 x.limit).wf = true) (f2 : (Rep.int .i64).Sl Q w A_gens c_gens x.gens) (f3 : (Rep.int .i64).Sl Q w A_free c_free x.free) : rIds.rd Q w [.int .i64 x.entities, .int .i64 x.limit, .slice A_gens x.gens.length c_gens, .slice A_free x.free.length c_free] x := by
  exact ⟨_, _, rfl, ⟨rfl, f0⟩, ⟨_, _, rfl, ⟨rfl, f1⟩, ⟨_, _, rfl, Rep.sl_rd f2, Rep.sl_rd f3⟩⟩⟩
theorem rIds_val {Q : Nat → Prop} {w : World} {v : Value} {x : DIds} (h : rIds.val Q w v x) : ∃ (A_gens : Option Addr) (c_gens : Nat) (A_free : Option Addr) (c_free : Nat), v = .agg #[.int .i64 x.entities, .int .i64 x.limit, .slice A_gens x.gens.length c_gens, .slice A_free x.free.length c_free] ∧ (Lit.int .i64 x.entities).wf = true ∧ (Lit.int .i64 x.limit).wf = true ∧ (Rep.int .i64).Sl Q w A_gens c_gens x.gens ∧ (Rep.int .i64).Sl Q w A_free c_free x.free := by
  obtain ⟨cs, rfl, h⟩ := h
  obtain ⟨A_gens, c_gens, A_free, c_free, e, f0, f1, f2, f3⟩ := rIds_open h
  subst e
  exact ⟨A_gens, c_gens, A_free, c_free, rfl, f0, f1, f2, f3⟩
theorem rIds_agg {Q : Nat → Prop} {w : World} {x : DIds} {A_gens : Option Addr} {c_gens : Nat} {A_free : Option Addr} {c_free : Nat} (f0 : (Lit.int .i64 x.entities).wf = true) (f1 : (Lit.int .i64 x.limit).wf = true) (f2 : (Rep.int .i64).Sl Q w A_gens c_gens x.gens) (f3 : (Rep.int .i64).Sl Q w A_free c_free x.free) : rIds.val Q w (.agg #[.int .i64 x.entities, .int .i64 x.limit, .slice A_gens x.gens.length c_gens, .slice A_free x.free.length c_free]) x := ⟨_, rfl, rIds_mk f0 f1 f2 f3⟩

end Go.Proofs.YthkepjhfeeohdaaGreatDoor
namespace Go.Proofs.YthkepjhfeeohdaaGreatDoor
open Go.RowKit

def noID : DID := ⟨0, 0⟩
def compSize (c : DConf) (k : Int) : Option Int := if 0 ≤ k then (c.comps[k.toNat]?).map (·.size) else none
/-- Parts that may be. -/
structure PartsOk (c : DConf) (l : List DPart) : Prop where
  size : ∀ p ∈ l, compSize c p.comp = some (p.data.length : Int)
  up : l.Pairwise fun a b => a.comp < b.comp
theorem up_length {l : List Int} {n : Nat} (hu : l.Pairwise (· < ·)) (h0 : ∀ x ∈ l, 0 ≤ x) (h1 : ∀ x ∈ l, x < n) : l.length ≤ n := by
  have key : ∀ (l : List Int) (lo : Int), l.Pairwise (· < ·) → (∀ x ∈ l, lo ≤ x) → (∀ x ∈ l, x < n) → lo ≤ n → lo + l.length ≤ n := by
    intro l
    induction l with
    | nil => intro lo _ _ _ h; simpa using h
    | cons x r ih =>
      intro lo hu h0 h1 hl
      have h2 := List.pairwise_cons.1 hu
      have hx := h0 x (by simp)
      have hx1 := h1 x (by simp)
      have := ih (x + 1) h2.2 (fun y hy => by have := h2.1 y hy; omega) (fun y hy => h1 y (by simp [hy])) (by omega)
      rw [List.length_cons]
      omega
  have := key l 0 hu h0 h1 (by omega)
  omega
theorem nodup_length {l : List Int} {n : Nat} (hu : l.Nodup) (h0 : ∀ x ∈ l, 0 ≤ x) (h1 : ∀ x ∈ l, x < n) : l.length ≤ n := by
  induction n generalizing l with
  | zero =>
    cases l with
    | nil => simp
    | cons x r => have a := h0 x (by simp); have b := h1 x (by simp); omega
  | succ n ih =>
    have hl := ih (l := l.erase (n : Int)) (hu.erase _) (fun x hx => h0 x (List.mem_of_mem_erase hx)) (fun x hx => by
      have h2 := (List.Nodup.mem_erase_iff hu).1 hx
      have := h1 x h2.2
      omega)
    rw [List.length_erase] at hl
    split at hl <;> omega
theorem compSize_lt {c : DConf} {k n : Int} (h : compSize c k = some n) : 0 ≤ k ∧ k < c.comps.length ∧ ∃ x, c.comps[k.toNat]? = some x ∧ x.size = n := by
  unfold compSize at h
  split at h
  · rename_i h0
    obtain ⟨x, hx, he⟩ := Option.map_eq_some_iff.1 h
    have := (List.getElem?_eq_some_iff.1 hx).1
    exact ⟨h0, by omega, x, hx, he⟩
  · cases h
theorem compSize_small {c : DConf} {k n : Int} (hr : confRight c = true) (h : compSize c k = some n) : 0 ≤ n ∧ n ≤ 64 := by
  obtain ⟨h0, h1, x, hx, rfl⟩ := compSize_lt h
  obtain ⟨hl, he⟩ := List.getElem?_eq_some_iff.1 hx
  have := (right_facts hr).2 _ hl
  rw [he] at this
  exact ⟨this.1, this.2.1⟩
theorem PartsOk.len {c : DConf} {l : List DPart} (h : PartsOk c l) : l.length ≤ c.comps.length := by
  have := up_length (l := l.map (·.comp)) (n := c.comps.length) (List.pairwise_map.2 h.up) (fun x hx => by
    obtain ⟨p, hp, rfl⟩ := List.mem_map.1 hx
    exact (compSize_lt (h.size p hp)).1) (fun x hx => by
    obtain ⟨p, hp, rfl⟩ := List.mem_map.1 hx
    exact (compSize_lt (h.size p hp)).2.1)
  rwa [List.length_map] at this
theorem PartsOk.data {c : DConf} {l : List DPart} (hr : confRight c = true) (h : PartsOk c l) {p : DPart} (hp : p ∈ l) : p.data.length ≤ 64 := by
  have := compSize_small hr (h.size p hp)
  omega
section
variable {c : DConf} {s : DState}
end
end Go.Proofs.YthkepjhfeeohdaaGreatDoor
