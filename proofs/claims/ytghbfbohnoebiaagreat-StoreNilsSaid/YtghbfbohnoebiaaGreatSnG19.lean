/- Texts on which the proofs stand: Sector, Seal, LeCut. No condition is laid on any input. -/
import Derived.Test.YtghbfbohnoebiaaGreatSnG14
import Derived.Test.YtghbfbohnoebiaaGreatSnG17
import Derived.Deep.WholeRow
import Derived.Deep.RegionLaw
import Derived.Deep.MidRow
import Derived.OwnWalk
import Derived.Stop.BytesEq
namespace Go.Proofs.YtghbfbohnoebiaaGreat
open Go.RowKit
open Extern.Stop (cell)

theorem cells_of (l : List UInt8) : (l.map fun x => Value.int .u8 (x.toNat : Int)) = l.map cell := rfl
/-- Block S holds the bytes L. -/
structure SecAt (w : World) (S : Nat) (t : TypeId) (L : List UInt8) : Prop where
  blk : w.heap[S]? = some (.cells (L.map cell).toArray t (0, 0))
  len : L.length = 512
theorem SecAt.lt {w : World} {S : Nat} {t : TypeId} {L : List UInt8} (h : SecAt w S t L) : S < w.heap.size := IsC.lt ⟨_, _, _, h.blk⟩
theorem SecAt.keep {w w' : World} {S : Nat} {t : TypeId} {L : List UInt8} (h : SecAt w S t L) (hk : w'.heap[S]? = w.heap[S]?) : SecAt w' S t L := ⟨hk.trans h.blk, h.len⟩
theorem SecAt.below {w w' : World} {S : Nat} {t : TypeId} {L : List UInt8} (h : SecAt w S t L) (hb : Below w.heap.size w w') : SecAt w' S t L := h.keep (hb.block S h.lt)
theorem SecAt.sl {w : World} {S : Nat} {t : TypeId} {L : List UInt8} (h : SecAt w S t L) {a n c : Nat} (hn : a + n ≤ 512) (hc : n ≤ c) (hm : c ≤ maxLen) :
    Rep.byte.list.val (fun b => b = S) w (.slice (some ⟨S, a, none⟩) n c) ((L.drop a).take n) := by
  have hl := h.len
  refine Rep.list_val (by rw [List.length_take, List.length_drop]; omega) hc hm ⟨_, Rep.byte_row _, fun _ => ⟨S, a, rfl, rfl, ⟨_, _, _, h.blk⟩, fun j u hj => ?_⟩⟩
  rw [cell_of_row _ _ _ _ _ _ h.blk, ← hj, cells_of]
  have hj' := (List.getElem?_eq_some_iff.1 hj).1
  rw [List.length_map, List.length_take, List.length_drop] at hj'
  simp only [List.getElem?_toArray, List.getElem?_map, List.getElem?_take, List.getElem?_drop]
  rw [if_pos (by omega)]

set_option maxRecDepth 100000 in
/-- seal.near -/
theorem near_calls {n high : Int} (h0 : 0 ≤ high) (w : World) :
    Calls Tryz.prog 232 #[.int .i64 n, .int .i64 high] w fun e w' => e = .returned (.int .i64 (near n high)) ∧ w' = w := by
  by_cases h1 : n < 0
  · have HF := Lib.hid (show near n high = 0 by unfold near; rw [if_pos h1])
    have h2 : n ≤ high := by omega
    go_enter Tryz.func232, Tryz.ntmps232
    go_wp2_with fail
    all_goals (go_ret; exact ⟨by rw [HF.out]; first | rfl | exact congrArg (fun i => Ending.returned (.int .i64 i)) (by omega), rfl⟩)
  · by_cases h2 : high < n
    · have HF := Lib.hid (show near n high = high by unfold near; rw [if_neg h1, if_pos h2])
      go_enter Tryz.func232, Tryz.ntmps232
      go_wp2_with fail
      all_goals (go_ret; exact ⟨by rw [HF.out]; first | rfl | exact congrArg (fun i => Ending.returned (.int .i64 i)) (by omega), rfl⟩)
    · have HF := Lib.hid (show near n high = n by unfold near; rw [if_neg h1, if_neg h2])
      go_enter Tryz.func232, Tryz.ntmps232
      go_wp2_with fail
      all_goals (go_ret; exact ⟨by rw [HF.out]; first | rfl | exact congrArg (fun i => Ending.returned (.int .i64 i)) (by omega), rfl⟩)
theorem size5 : (Tryz.prog.info? 5).map (·.size) = some 1 := by kernel_rfl
theorem size_sector : (Tryz.prog.info? 255).map (·.size) = some 512 := by kernel_rfl
theorem zero_sector : (Tryz.prog.info? 255).map (fun i => (i.zero, i.size)) = some (some (.agg ((zeros 512).map cell).toArray), 512) := by kernel_rfl

theorem copy_from {Q : Nat → Prop} {w : World} {A : Option Addr} {c : Nat} {X : List UInt8} (h : Rep.byte.Sl Q w A c X) (h0 : 0 < (X.map cell).length) : ∃ ad, A = some ad ∧ ∀ j v, (X.map cell)[j]? = some v → w.cell? (ad.add j) = some v := by
  obtain ⟨_, _, es, h1, h2⟩ := h
  obtain ⟨b, off, hA, _, _, hc⟩ := h2 (by simpa using h0)
  refine ⟨_, hA, fun j v hj => ?_⟩
  rw [Addr.add_mid]
  exact hc j v (by rw [Rep.row_byte h1]; exact hj)
theorem copy_len {X : List UInt8} {a : Nat} (h : a + X.length ≤ 512) : (X.map cell).length = Nat.min X.length (512 - a) := by
  rw [List.length_map]; exact (Nat.min_eq_left (by omega)).symm
theorem copy_fit {w : World} {S a : Nat} {t : TypeId} {L X : List UInt8} (h : SecAt w S t L) (hw : a + X.length ≤ 512) : a + (X.map cell).length ≤ (L.map cell).length := by
  rw [List.length_map, List.length_map, h.len]; exact hw
theorem copy_one (X : List UInt8) : ∀ v ∈ X.map cell, v.oneCell' = true := by
  intro v hv
  obtain ⟨x, _, rfl⟩ := List.mem_map.1 hv
  rfl
theorem sec_copied {w w' : World} {S a : Nat} {t : TypeId} {L X : List UInt8} (h : SecAt w S t L) (hw : a + X.length ≤ 512) (hg : w'.heap[S]? = some (.cells (splice (L.map cell) a (X.map cell)).toArray t (0, 0))) : SecAt w' S t (splice L a X) :=
  ⟨by rw [hg, splice_map], by rw [length_splice _ _ _ (by rw [h.len]; exact hw)]; exact h.len⟩

set_option maxRecDepth 100000 in
set_option maxHeartbeats 1000000 in
/-- (*seal.sector).num -/
theorem secnum_calls {w : World} {S a : Nat} {t : TypeId} {L : List UInt8} {width n : Int} (h : SecAt w S t L) (ha : a < 512) (hw : a + (num width n).length ≤ 512) (hwf1 : (Lit.int .i64 width).wf = true) (hwf : (Lit.int .i64 n).wf = true) :
    Calls Tryz.prog 233 #[.pointer (some ⟨S, 0, none⟩), .int .i64 a, .int .i64 width, .int .i64 n] w fun e w' => e = .returned (.tuple #[]) ∧ SecAt w' S t (splice L a (num width n)) ∧ Below S w w' := by
  have H := Lib.hid h
  obtain ⟨X, hX⟩ : ∃ X, X = num width n := ⟨_, rfl⟩
  rw [← hX] at hw ⊢
  have HX := Lib.hid hX
  have HW := Lib.hid hw
  have HWF := Lib.hid hwf
  have HWF1 := Lib.hid hwf1
  have HZ := Lib.hid (show ∀ w : World, Rep.byte.list.val (fun _ => True) w (.slice none 0 0) ([] : List UInt8) from fun w => Rep.val_nil (by simp [maxLen]))
  clear h hX hw hwf hwf1
  have ha1 : (a : Int) ≤ 512 := by omega
  have ha2 : ¬ 512 = a := by omega
  go_enter Tryz.func233, Tryz.ntmps233
  go_wp2_with fail
  go_region_law (first
    | (go_simp; go_at_call 168; refine (put_calls (HZ.out _) (by simp) HWF1.out HWF.out).mono ?_; rintro e w1 ⟨u, rfl, hu, hb1⟩; rw [← HX.out, List.nil_append] at hu; obtain ⟨A5, c5, rfl, hs5⟩ := Rep.val_sl (Rep.acc_fresh hu); have CP := Lib.hid (copy_from hs5); have HB1 := Lib.hid (show Below S w w1 from (Below.refl S w).drew.trans (hb1.mono (Nat.le_of_lt H.out.lt))); have H1 := Lib.hid (show SecAt w1 S t L from H.out.keep (hb1.block _ H.out.lt)); clear hu hb1 hs5)
    | (refine step_copy_splice rfl (.tmp 11) (.tmp 14) 71 71 rfl 5 Tryz.underlying71 size5 (some ⟨S, a, none⟩) A5 (512 - a) (512 - a) X.length c5 (by exact rfl) (by exact rfl) S a (L.map cell) t H1.out.blk (X.map cell) (copy_len HW.out) (fun h => ⟨rfl, CP.out h⟩) (copy_fit H.out HW.out) (copy_one X) S w HB1.out (Nat.le_refl _) ?_; intro w4 hg4 hb4))
  go_wp2_with fail
  exact ⟨rfl, .tuple #[], by simp [results], rfl, sec_copied H1.out HW.out hg4.out, hb4⟩

/-- A slice of two slices. -/
theorem val_two {w : World} {S : Nat} {t : TypeId} {L : List UInt8} (h : SecAt w S t L) (t2 : TypeId) :
    Rep.byte.list.list.val (fun _ => True) (w.alloc (.cells #[.slice (some ⟨S, 0, none⟩) 16 512, .slice (some ⟨S, 20, none⟩) 492 492] t2)) (.slice (some ⟨w.heap.size, 0, none⟩) 2 2) [L.take 16, L.drop 20] := by
  have hn := heap_alloc_new w (.cells #[.slice (some ⟨S, 0, none⟩) 16 512, .slice (some ⟨S, 20, none⟩) 492 492] t2)
  have hl := h.len
  have h2 : SecAt (w.alloc (.cells #[.slice (some ⟨S, 0, none⟩) 16 512, .slice (some ⟨S, 20, none⟩) 492 492] t2)) S t L := h.keep (heap_alloc_old _ _ h.lt)
  have v1 := h2.sl (a := 0) (n := 16) (c := 512) (by omega) (by omega) (by simp [maxLen])
  have v2 := h2.sl (a := 20) (n := 492) (c := 492) (by omega) (by omega) (by simp [maxLen])
  rw [List.drop_zero] at v1
  rw [List.take_of_length_le (by rw [List.length_drop]; omega)] at v2
  obtain ⟨cs1, e1, r1⟩ := Rep.val_mono (Q' := fun _ => True) (fun _ _ _ => trivial) v1
  obtain ⟨cs2, e2, r2⟩ := Rep.val_mono (Q' := fun _ => True) (fun _ _ _ => trivial) v2
  have g1 : cs1 = [.slice (some ⟨S, 0, none⟩) 16 512] := by
    obtain ⟨A', c', es, rfl, _⟩ := r1
    have : Value.slice (some ⟨S, 0, none⟩) 16 512 = .slice A' _ c' := e1
    rw [this]
  have g2 : cs2 = [.slice (some ⟨S, 20, none⟩) 492 492] := by
    obtain ⟨A', c', es, rfl, _⟩ := r2
    have : Value.slice (some ⟨S, 20, none⟩) 492 492 = .slice A' _ c' := e2
    rw [this]
  subst g1 g2
  refine Rep.list_val rfl (Nat.le_refl _) (by simp [maxLen]) ⟨[.slice (some ⟨S, 0, none⟩) 16 512, .slice (some ⟨S, 20, none⟩) 492 492], ⟨[_], [_], rfl, r1, ⟨[_], [], rfl, r2, rfl⟩⟩, fun _ => ⟨w.heap.size, 0, rfl, trivial, ⟨_, _, _, hn⟩, ?_⟩⟩
  intro j u hj
  rw [cell_of_row _ _ _ _ _ _ hn, Nat.zero_add]
  simpa using hj

set_option maxRecDepth 100000 in
set_option maxHeartbeats 1000000 in
/-- (*seal.sector).sum -/
theorem secsum_calls {w : World} {S : Nat} {t : TypeId} {L : List UInt8} (h : SecAt w S t L) :
    Calls Tryz.prog 234 #[.pointer (some ⟨S, 0, none⟩)] w fun e w' => e = .returned (.int .i64 ((crcOf (L.take 16 ++ L.drop 20) : Nat) : Int)) ∧ Below w.heap.size w w' := by
  have H := Lib.hid (show SecAt w.drew S t L from h.keep rfl)
  have hwr := crc_i64 (L.take 16 ++ L.drop 20)
  have HE := Lib.hid (show [L.take 16, L.drop 20].flatten = L.take 16 ++ L.drop 20 by simp)
  clear h
  generalize L.take 16 ++ L.drop 20 = M at *
  go_enter Tryz.func234, Tryz.ntmps234
  go_wp2_with fail
  go_region_law (go_simp; go_at_call 241; refine (crcOf_calls (l := [L.take 16, L.drop 20]) (val_two H.out 71)).mono ?_; rintro e w1 ⟨rfl, hw⟩; rw [HE.out]; have HB1 := Lib.hid (show Below w.heap.size w w1 by rw [hw]; exact (Below.refl w.heap.size w).drew.alloc (Nat.le_refl _) _); clear hw)
  go_wp2_with fail
  go_ret
  exact ⟨by first | rfl | (rw [hwr]; rfl), HB1.out⟩
end Go.Proofs.YtghbfbohnoebiaaGreat
namespace Go.Proofs.YtghbfbohnoebiaaGreat
open Go.RowKit
open Extern.Stop (cell)

/-- What stands while a sector is made: the seal in its box, the result's block. -/
structure SealBox (W : World) (B : Nat) (x : DSeal) (A : Option Addr) (c : Nat) : Prop where
  c0 : W.cell? ⟨B, 0, none⟩ = some (.int .i64 x.epoch)
  c1 : W.cell? ⟨B, 1, none⟩ = some (.int .i64 x.no)
  c2 : W.cell? ⟨B, 2, none⟩ = some (.int .i64 x.kind)
  c3 : W.cell? ⟨B, 3, none⟩ = some (.slice A x.body.length c)
  sl : Rep.byte.Sl (fun b => b < B) W A c x.body
theorem SealBox.later {W W' : World} {B : Nat} {x : DSeal} {A : Option Addr} {c : Nat} (h : SealBox W B x A c) (hb : Below (B + 1) W W') : SealBox W' B x A c :=
  ⟨(hb.cell (p := ⟨B, 0, none⟩) (Nat.lt_succ_self _)).trans h.c0, (hb.cell (p := ⟨B, 1, none⟩) (Nat.lt_succ_self _)).trans h.c1, (hb.cell (p := ⟨B, 2, none⟩) (Nat.lt_succ_self _)).trans h.c2,
   (hb.cell (p := ⟨B, 3, none⟩) (Nat.lt_succ_self _)).trans h.c3, h.sl.keep fun b hq _ => ⟨hq, hb.block b (by omega)⟩⟩
theorem SealBox.made {Q : Nat → Prop} {w : World} {x : DSeal} {A : Option Addr} {c : Nat} (h : Rep.byte.Sl Q w A c x.body) (t : TypeId) :
    SealBox (w.alloc (.cells #[.int .i64 x.epoch, .int .i64 x.no, .int .i64 x.kind, .slice A x.body.length c] t)) w.heap.size x A c :=
  ⟨by simp, by simp, by simp, by simp, h.keep fun _ _ hl => ⟨hl.lt, Below.heap_alloc _ _ _ hl.lt⟩⟩

set_option maxRecDepth 100000 in
set_option maxHeartbeats 2000000 in
/-- seal.made -/
theorem made_calls {Q : Nat → Prop} {w : World} {v : Value} {x : DSeal} (hx : rSeal.val Q w v x) :
    Calls Tryz.prog 206 #[v] w fun e w' => e = .returned (.agg ((sealBytes x).map cell).toArray) ∧ Below w.heap.size w w' := by
  obtain ⟨A, c, rfl, f0, f1, f2, hs⟩ := rSeal_val hx
  have hz := (zero_of_info zero_sector).1
  obtain ⟨Z, hZ⟩ : ∃ Z, Z = ((zeros 512).map cell).toArray := ⟨_, rfl⟩
  rw [← hZ] at hz
  have hsl := hs.1
  have hsm := hs.2.1
  unfold maxLen at hsm
  obtain ⟨W1, hW1⟩ : ∃ W1, w.alloc (.cells #[.int .i64 x.epoch, .int .i64 x.no, .int .i64 x.kind, .slice A x.body.length c] 194) = W1 := ⟨_, rfl⟩
  have hm : SealBox W1 w.heap.size x A c := by rw [← hW1]; exact SealBox.made hs _
  have hb1 : Below w.heap.size w W1 := by rw [← hW1]; exact (Below.refl _ _).alloc (Nat.le_refl _) _
  have hz1 : W1.heap.size = w.heap.size + 1 := by rw [← hW1]; simp
  obtain ⟨W2, hW2⟩ : ∃ W2, W1.alloc (.cells Z 255) = W2 := ⟨_, rfl⟩
  have hr2 : W2.heap[w.heap.size + 1]? = some (.cells Z 255 (0, 0)) := by rw [← hW2, ← hz1]; exact heap_alloc_new _ _
  have hb2 : Below (w.heap.size + 1) W1 W2 := by rw [← hW2]; exact (Below.refl _ _).alloc (Nat.le_of_eq hz1.symm) _
  have hz2 : W2.heap.size = w.heap.size + 1 + 1 := by rw [← hW2]; simp [hz1]
  obtain ⟨W3, hW3⟩ : ∃ W3, W2.alloc (.cells Z 255) = W3 := ⟨_, rfl⟩
  have hs3 : SecAt W3 (w.heap.size + 1 + 1) 255 (zeros 512) := ⟨by rw [← hW3, ← hZ, ← hz2]; exact heap_alloc_new _ _, zeros_length _⟩
  have hb3 : Below (w.heap.size + 1 + 1) W2 W3 := by rw [← hW3]; exact (Below.refl _ _).alloc (Nat.le_of_eq hz2.symm) _
  have hB3 : Below w.heap.size w W3 := hb1.trans ((hb2.mono (by omega)).trans (hb3.mono (by omega)))
  have KS := Lib.hid (show ∀ W, Below (w.heap.size + 1 + 1) W3 W → SealBox W w.heap.size x A c ∧ W.heap[w.heap.size + 1]? = some (.cells Z 255 (0, 0)) ∧ Below w.heap.size w W from fun W h =>
    ⟨((hm.later hb2).later (hb3.mono (by omega))).later (h.mono (by omega)),
     by rw [h.block _ (by omega), hb3.block _ (by omega)]; exact hr2, hB3.trans (h.mono (by omega))⟩)
  have HS3 := Lib.hid hs3
  have HZ := Lib.hid (show Z.size = 512 by rw [hZ]; simp [zeros_length])
  have k1 := near_le (n := x.epoch) (high := maxEpoch) (by decide)
  have k2 := near_le (n := x.no) (high := maxEpoch) (by decide)
  have k3 := near_le (n := x.kind) (high := 255) (by decide)
  have k4 := near_ge (n := x.epoch) (high := maxEpoch) (by decide)
  have k5 := near_ge (n := x.no) (high := maxEpoch) (by decide)
  have k6 := near_ge (n := x.kind) (high := 255) (by decide)
  have WE := Lib.hid (show (Lit.int .i64 (near x.epoch maxEpoch)).wf = true from wf_i64 (by omega) (by unfold maxEpoch at *; omega))
  have WN := Lib.hid (show (Lit.int .i64 (near x.no maxEpoch)).wf = true from wf_i64 (by omega) (by unfold maxEpoch at *; omega))
  have WK := Lib.hid (show (Lit.int .i64 (near x.kind 255)).wf = true from wf_i64 (by omega) (by omega))
  have WC := Lib.hid (show (Lit.int .i64 ((crcOf ((laid7 x).take 16 ++ (laid7 x).drop 20) : Nat) : Int)).wf = true from wf_i64 (by omega) (by have := crcOf_lt ((laid7 x).take 16 ++ (laid7 x).drop 20); omega))
  obtain ⟨c0, c1, c2, c3, _⟩ := (KS.out _ (Below.refl _ _)).1
  clear hx hs hm hr2 hb1 hb2 hb3 hB3 hs3 hZ k1 k2 k3 k4 k5 k6
  by_cases h472 : (x.body.length : Int) ≤ 472
  · have HY := Lib.hid (show (x.body.take 472).length = x.body.length by rw [List.length_take]; omega)
    have HM := Lib.hid (show x.body.length ≤ 472 by omega)
    have WM := Lib.hid (show (Lit.int .i64 ((x.body.length : Nat) : Int)).wf = true from wf_i64 (by omega) (by omega))
    go_enter Tryz.func206, Tryz.ntmps206
    go_wp2_with fail
    try rw [hW1]
    go_wp2_with fail
    try rw [hW2]
    go_wp2_with fail
    try rw [hW3]
    clear hW1 hW2 hW3 hz1 hz2
    go_quiet ((go_at_call 232; exact Calls.quiet_of_same (near_calls (by decide) _)))
    have H0 := Lib.hid (show SecAt (W3.drewN nq) (w.heap.size + 1 + 1) 255 (zeros 512) from HS3.out.keep rfl)
    have D00 := Lib.hid (show Below (w.heap.size + 1 + 1) W3 (W3.drewN nq) from below_drewN (Below.refl _ _) nq)
    have hc0 := KS.out _ D00.out
    clear c0 c1 c2 c3
    have KS4 := Lib.hid (show ∀ W, Below (w.heap.size + 1 + 1) (W3.drewN nq) W → SealBox W w.heap.size x A c ∧ W.heap[w.heap.size + 1]? = some (.cells Z 255 (0, 0)) ∧ Below w.heap.size w W from fun W h => KS.out _ (D00.out.trans h))
    clear KS D00
    generalize W3.drewN nq = W4 at *
    have KS := KS4
    have D0 := Lib.hid (Below.refl (w.heap.size + 1 + 1) W4)
    obtain ⟨c0, c1, c2, c3, _⟩ := hc0.1
    clear hc0 KS4 HS3
    go_wp2_with fail
    refine (secnum_calls (a := 0) (width := 8) (n := near x.epoch maxEpoch) H0.out (by decide) (by rw [num_len8]; decide) rfl WE.out).mono ?_
    rintro e w1 ⟨rfl, hs, hb⟩
    have H1 := Lib.hid (show SecAt w1 (w.heap.size + 1 + 1) 255 (laid1 x) from hs)
    have D1 := Lib.hid (D0.out.trans hb)
    clear hs hb c0 c1 c2 c3
    obtain ⟨c0, c1, c2, c3, _⟩ := (KS.out _ D1.out).1
    go_wp2_with fail
    refine (secnum_calls (a := 8) (width := 8) (n := near x.no maxEpoch) H1.out (by decide) (by rw [num_len8]; decide) rfl WN.out).mono ?_
    rintro e w2 ⟨rfl, hs, hb⟩
    have H2 := Lib.hid (show SecAt w2 (w.heap.size + 1 + 1) 255 (laid2 x) from hs)
    have D2 := Lib.hid (D1.out.trans hb)
    clear hs hb c0 c1 c2 c3
    obtain ⟨c0, c1, c2, c3, _⟩ := (KS.out _ D2.out).1
    go_wp2_with (go_at_call 232; refine (near_calls (by decide) _).mono ?_; rintro e w' ⟨rfl, hw⟩; have hw2 := hw.symm; subst hw2; clear hw)
    refine (secnum_calls (a := 20) (width := 1) (n := near x.kind 255) H2.out (by decide) (by rw [num_len1]; decide) rfl WK.out).mono ?_
    rintro e w3 ⟨rfl, hs, hb⟩
    have H3 := Lib.hid (show SecAt w3 (w.heap.size + 1 + 1) 255 (laid3 x) from hs)
    have D3 := Lib.hid (D2.out.trans hb)
    clear hs hb c0 c1 c2 c3
    obtain ⟨c0, c1, c2, c3, _⟩ := (KS.out _ D3.out).1
    go_wp2_with fail
    refine (secnum_calls (a := 22) (width := 2) (n := x.body.length) H3.out (by decide) (by rw [num_len2]; decide) rfl WM.out).mono ?_
    rintro e w4 ⟨rfl, hs, hb⟩
    have H4 := Lib.hid (show SecAt w4 (w.heap.size + 1 + 1) 255 (laid4 x) by unfold laid4; rw [HY.out]; exact hs)
    have D4 := Lib.hid (D3.out.trans hb)
    have HC := Lib.hid (copy_from (Q := fun b => b < w.heap.size) (X := x.body.take 472) (c := c) (by have := (KS.out _ D4.out).1.sl; exact ⟨by rw [List.length_take]; have := this.1; omega, this.2.1, this.2.2.take 472⟩))
    clear hs hb c0 c1 c2 c3
    go_wp2_with (refine wpList_copy_splice rfl (.tmp 31) (.tmp 32) 71 71 rfl 5 Tryz.underlying71 size5 (some ⟨w.heap.size + 1 + 1, 24, none⟩) A 488 488 x.body.length c (by exact rfl) (by exact rfl) (w.heap.size + 1 + 1) 24 ((laid4 x).map cell) 255 H4.out.blk ((x.body.take 472).map cell) (by rw [List.length_map, HY.out]; exact (Nat.min_eq_left (by have := HM.out; omega)).symm) (fun h => ⟨rfl, HC.out h⟩) (by have := HM.out; have := HY.out; have := H4.out.len; simp only [List.length_map]; omega) (copy_one _) (w.heap.size + 1 + 1) W4 D4.out (Nat.le_refl _) ?_; intro w5 hg5 hb5; have H5 := Lib.hid (show SecAt w5 (w.heap.size + 1 + 1) 255 (laid5 x) from sec_copied H4.out (by have := HM.out; have := HY.out; omega) hg5.out); have D5 := Lib.hid hb5; clear hg5 hb5)
    refine (secnum_calls (a := 496) (width := 8) (n := near x.no maxEpoch) H5.out (by decide) (by rw [num_len8]; decide) rfl WN.out).mono ?_
    rintro e w6 ⟨rfl, hs, hb⟩
    have H6 := Lib.hid (show SecAt w6 (w.heap.size + 1 + 1) 255 (laid6 x) from hs)
    have D6 := Lib.hid (D5.out.trans hb)
    clear hs hb
    go_wp2_with fail
    refine (secnum_calls (a := 504) (width := 8) (n := near x.epoch maxEpoch) H6.out (by decide) (by rw [num_len8]; decide) rfl WE.out).mono ?_
    rintro e w7 ⟨rfl, hs, hb⟩
    have H7 := Lib.hid (show SecAt w7 (w.heap.size + 1 + 1) 255 (laid7 x) from hs)
    have D7 := Lib.hid (D6.out.trans hb)
    clear hs hb
    go_wp2_with fail
    refine (secsum_calls H7.out).mono ?_
    rintro e w8 ⟨rfl, hb⟩
    have H8 := Lib.hid (H7.out.below hb)
    have D8 := Lib.hid (D7.out.trans (hb.mono (Nat.le_of_lt H7.out.lt)))
    clear hb
    go_wp2_with fail
    refine (secnum_calls (a := 16) (width := 4) (n := (crcOf ((laid7 x).take 16 ++ (laid7 x).drop 20) : Nat)) H8.out (by decide) (by rw [num_len4]; decide) rfl WC.out).mono ?_
    rintro e w9 ⟨rfl, hs, hb⟩
    have H9 := Lib.hid (show SecAt w9 (w.heap.size + 1 + 1) 255 (sealBytes x) by rw [← laid8_is]; exact hs)
    have D9 := Lib.hid (D8.out.trans hb)
    clear hs hb
    obtain ⟨C, hC⟩ : ∃ C, C = ((sealBytes x).map cell).toArray := ⟨_, rfl⟩
    have HC2 := Lib.hid hC
    have HCs := Lib.hid (show C.size = 512 by rw [hC]; simp [sealBytes_length])
    have HC1 := Lib.hid (show C.all (·.oneCell') = true by rw [hC, Array.all_eq_true_iff_forall_mem]; intro v hv; exact copy_one _ v (by simpa using hv))
    have HB9 := Lib.hid (show w9.heap[w.heap.size + 1 + 1]? = some (.cells C 255 (0, 0)) by rw [hC]; exact H9.out.blk)
    have HR9 := Lib.hid (KS.out _ D9.out).2.1
    clear hC
    go_wp2_with (first
      | (refine wpList_load_row rfl 255 (.tmp 3) rfl (w.heap.size + 1 + 1) rfl 255 C (0, 0) (.array 512 5) HB9.out Tryz.underlying255 rfl (by rw [HCs.out]; exact size_sector) ?_)
      | (refine wpList_store_row rfl 255 (.tmp 2) (.tmp 40) rfl (w.heap.size + 1) C rfl rfl 255 Z HR9.out (by rw [HCs.out]; exact size_sector) (by rw [HZ.out, HCs.out]) HC1.out ?_))
    refine ⟨rfl, .agg C, results_cell_row (p := 2) (ty := 255) rfl _ _ (w.heap.size + 1) 255 C (0, 0) (.array 512 5) rfl (setRow_heap _ _ _ _ _ _ HR9.out) Tryz.underlying255 rfl (by rw [HCs.out]; exact size_sector), by rw [HC2.out], below_setRow (KS.out _ D9.out).2.2 (Nat.le_succ _) _⟩
  · have HY := Lib.hid (show (x.body.take 472).length = 472 by rw [List.length_take]; omega)
    have HM := Lib.hid (show 472 ≤ 472 by omega)
    have WM := Lib.hid (show (Lit.int .i64 ((472 : Nat) : Int)).wf = true from wf_i64 (by omega) (by omega))
    have g472 : (472 : Int) < x.body.length := by omega
    have g473 : (472 : Int) ≤ c := by omega
    go_enter Tryz.func206, Tryz.ntmps206
    go_wp2_with fail
    try rw [hW1]
    go_wp2_with fail
    try rw [hW2]
    go_wp2_with fail
    try rw [hW3]
    clear hW1 hW2 hW3 hz1 hz2
    go_quiet ((go_at_call 232; exact Calls.quiet_of_same (near_calls (by decide) _)))
    have H0 := Lib.hid (show SecAt (W3.drewN nq) (w.heap.size + 1 + 1) 255 (zeros 512) from HS3.out.keep rfl)
    have D00 := Lib.hid (show Below (w.heap.size + 1 + 1) W3 (W3.drewN nq) from below_drewN (Below.refl _ _) nq)
    have hc0 := KS.out _ D00.out
    clear c0 c1 c2 c3
    have KS4 := Lib.hid (show ∀ W, Below (w.heap.size + 1 + 1) (W3.drewN nq) W → SealBox W w.heap.size x A c ∧ W.heap[w.heap.size + 1]? = some (.cells Z 255 (0, 0)) ∧ Below w.heap.size w W from fun W h => KS.out _ (D00.out.trans h))
    clear KS D00
    generalize W3.drewN nq = W4 at *
    have KS := KS4
    have D0 := Lib.hid (Below.refl (w.heap.size + 1 + 1) W4)
    obtain ⟨c0, c1, c2, c3, _⟩ := hc0.1
    clear hc0 KS4 HS3
    go_wp2_with fail
    refine (secnum_calls (a := 0) (width := 8) (n := near x.epoch maxEpoch) H0.out (by decide) (by rw [num_len8]; decide) rfl WE.out).mono ?_
    rintro e w1 ⟨rfl, hs, hb⟩
    have H1 := Lib.hid (show SecAt w1 (w.heap.size + 1 + 1) 255 (laid1 x) from hs)
    have D1 := Lib.hid (D0.out.trans hb)
    clear hs hb c0 c1 c2 c3
    obtain ⟨c0, c1, c2, c3, _⟩ := (KS.out _ D1.out).1
    go_wp2_with fail
    refine (secnum_calls (a := 8) (width := 8) (n := near x.no maxEpoch) H1.out (by decide) (by rw [num_len8]; decide) rfl WN.out).mono ?_
    rintro e w2 ⟨rfl, hs, hb⟩
    have H2 := Lib.hid (show SecAt w2 (w.heap.size + 1 + 1) 255 (laid2 x) from hs)
    have D2 := Lib.hid (D1.out.trans hb)
    clear hs hb c0 c1 c2 c3
    obtain ⟨c0, c1, c2, c3, _⟩ := (KS.out _ D2.out).1
    go_wp2_with (go_at_call 232; refine (near_calls (by decide) _).mono ?_; rintro e w' ⟨rfl, hw⟩; have hw2 := hw.symm; subst hw2; clear hw)
    refine (secnum_calls (a := 20) (width := 1) (n := near x.kind 255) H2.out (by decide) (by rw [num_len1]; decide) rfl WK.out).mono ?_
    rintro e w3 ⟨rfl, hs, hb⟩
    have H3 := Lib.hid (show SecAt w3 (w.heap.size + 1 + 1) 255 (laid3 x) from hs)
    have D3 := Lib.hid (D2.out.trans hb)
    clear hs hb c0 c1 c2 c3
    obtain ⟨c0, c1, c2, c3, _⟩ := (KS.out _ D3.out).1
    go_wp2_with fail
    refine (secnum_calls (a := 22) (width := 2) (n := 472) H3.out (by decide) (by rw [num_len2]; decide) rfl WM.out).mono ?_
    rintro e w4 ⟨rfl, hs, hb⟩
    have H4 := Lib.hid (show SecAt w4 (w.heap.size + 1 + 1) 255 (laid4 x) by unfold laid4; rw [HY.out]; exact hs)
    have D4 := Lib.hid (D3.out.trans hb)
    have HC := Lib.hid (copy_from (Q := fun b => b < w.heap.size) (X := x.body.take 472) (c := c) (by have := (KS.out _ D4.out).1.sl; exact ⟨by rw [List.length_take]; have := this.1; omega, this.2.1, this.2.2.take 472⟩))
    clear hs hb c0 c1 c2 c3
    go_wp2_with (refine wpList_copy_splice rfl (.tmp 31) (.tmp 32) 71 71 rfl 5 Tryz.underlying71 size5 (some ⟨w.heap.size + 1 + 1, 24, none⟩) A 488 488 472 c (by exact rfl) (by exact rfl) (w.heap.size + 1 + 1) 24 ((laid4 x).map cell) 255 H4.out.blk ((x.body.take 472).map cell) (by rw [List.length_map, HY.out]; exact (Nat.min_eq_left (by have := HM.out; omega)).symm) (fun h => ⟨rfl, HC.out h⟩) (by have := HM.out; have := HY.out; have := H4.out.len; simp only [List.length_map]; omega) (copy_one _) (w.heap.size + 1 + 1) W4 D4.out (Nat.le_refl _) ?_; intro w5 hg5 hb5; have H5 := Lib.hid (show SecAt w5 (w.heap.size + 1 + 1) 255 (laid5 x) from sec_copied H4.out (by have := HM.out; have := HY.out; omega) hg5.out); have D5 := Lib.hid hb5; clear hg5 hb5)
    refine (secnum_calls (a := 496) (width := 8) (n := near x.no maxEpoch) H5.out (by decide) (by rw [num_len8]; decide) rfl WN.out).mono ?_
    rintro e w6 ⟨rfl, hs, hb⟩
    have H6 := Lib.hid (show SecAt w6 (w.heap.size + 1 + 1) 255 (laid6 x) from hs)
    have D6 := Lib.hid (D5.out.trans hb)
    clear hs hb
    go_wp2_with fail
    refine (secnum_calls (a := 504) (width := 8) (n := near x.epoch maxEpoch) H6.out (by decide) (by rw [num_len8]; decide) rfl WE.out).mono ?_
    rintro e w7 ⟨rfl, hs, hb⟩
    have H7 := Lib.hid (show SecAt w7 (w.heap.size + 1 + 1) 255 (laid7 x) from hs)
    have D7 := Lib.hid (D6.out.trans hb)
    clear hs hb
    go_wp2_with fail
    refine (secsum_calls H7.out).mono ?_
    rintro e w8 ⟨rfl, hb⟩
    have H8 := Lib.hid (H7.out.below hb)
    have D8 := Lib.hid (D7.out.trans (hb.mono (Nat.le_of_lt H7.out.lt)))
    clear hb
    go_wp2_with fail
    refine (secnum_calls (a := 16) (width := 4) (n := (crcOf ((laid7 x).take 16 ++ (laid7 x).drop 20) : Nat)) H8.out (by decide) (by rw [num_len4]; decide) rfl WC.out).mono ?_
    rintro e w9 ⟨rfl, hs, hb⟩
    have H9 := Lib.hid (show SecAt w9 (w.heap.size + 1 + 1) 255 (sealBytes x) by rw [← laid8_is]; exact hs)
    have D9 := Lib.hid (D8.out.trans hb)
    clear hs hb
    obtain ⟨C, hC⟩ : ∃ C, C = ((sealBytes x).map cell).toArray := ⟨_, rfl⟩
    have HC2 := Lib.hid hC
    have HCs := Lib.hid (show C.size = 512 by rw [hC]; simp [sealBytes_length])
    have HC1 := Lib.hid (show C.all (·.oneCell') = true by rw [hC, Array.all_eq_true_iff_forall_mem]; intro v hv; exact copy_one _ v (by simpa using hv))
    have HB9 := Lib.hid (show w9.heap[w.heap.size + 1 + 1]? = some (.cells C 255 (0, 0)) by rw [hC]; exact H9.out.blk)
    have HR9 := Lib.hid (KS.out _ D9.out).2.1
    clear hC
    go_wp2_with (first
      | (refine wpList_load_row rfl 255 (.tmp 3) rfl (w.heap.size + 1 + 1) rfl 255 C (0, 0) (.array 512 5) HB9.out Tryz.underlying255 rfl (by rw [HCs.out]; exact size_sector) ?_)
      | (refine wpList_store_row rfl 255 (.tmp 2) (.tmp 40) rfl (w.heap.size + 1) C rfl rfl 255 Z HR9.out (by rw [HCs.out]; exact size_sector) (by rw [HZ.out, HCs.out]) HC1.out ?_))
    refine ⟨rfl, .agg C, results_cell_row (p := 2) (ty := 255) rfl _ _ (w.heap.size + 1) 255 C (0, 0) (.array 512 5) rfl (setRow_heap _ _ _ _ _ _ HR9.out) Tryz.underlying255 rfl (by rw [HCs.out]; exact size_sector), by rw [HC2.out], below_setRow (KS.out _ D9.out).2.2 (Nat.le_succ _) _⟩

set_option maxRecDepth 100000 in
set_option maxHeartbeats 2000000 in
/-- seal.Put -/
theorem sealPut_calls {Q : Nat → Prop} {w : World} {v : Value} {x : DSeal} (hx : rSeal.val Q w v x) :
    Calls Tryz.prog 169 #[v] w (Res Rep.byte.list (fun b => w.heap.size ≤ b) w (sealBytes x)) := by
  obtain ⟨A, c, rfl, f0, f1, f2, hs⟩ := rSeal_val hx
  have hz := (zero_of_info zero_sector).1
  obtain ⟨Z, hZ⟩ : ∃ Z, Z = ((zeros 512).map cell).toArray := ⟨_, rfl⟩
  rw [← hZ] at hz
  obtain ⟨W1, hW1⟩ : ∃ W1, w.alloc (.cells #[.int .i64 x.epoch, .int .i64 x.no, .int .i64 x.kind, .slice A x.body.length c] 194) = W1 := ⟨_, rfl⟩
  have hm : SealBox W1 w.heap.size x A c := by rw [← hW1]; exact SealBox.made hs _
  have hb1 : Below w.heap.size w W1 := by rw [← hW1]; exact (Below.refl _ _).alloc (Nat.le_refl _) _
  obtain ⟨c0, c1, c2, c3, sl⟩ := hm
  have HV := Lib.hid (rSeal_agg f0 f1 f2 sl)
  have HB1 := Lib.hid hb1
  have HZ := Lib.hid (show Z.size = 512 by rw [hZ]; simp [zeros_length])
  obtain ⟨C, hC⟩ : ∃ C, C = ((sealBytes x).map cell).toArray := ⟨_, rfl⟩
  have HC2 := Lib.hid hC
  have HCs := Lib.hid (show C.size = 512 by rw [hC]; simp [sealBytes_length])
  have HC1 := Lib.hid (show C.all (·.oneCell') = true by rw [hC, Array.all_eq_true_iff_forall_mem]; intro v hv; exact copy_one _ v (by simpa using hv))
  clear hx hs hb1 hZ hC
  go_enter Tryz.func169, Tryz.ntmps169
  go_wp2_with fail
  try rw [hW1]
  clear hW1
  go_wp2_with fail
  refine (made_calls HV.out).mono ?_
  rintro e w2 ⟨rfl, hb⟩
  rw [← HC2.out]
  have HB2 := Lib.hid (HB1.out.trans (hb.mono HB1.out.size))
  have HN := Lib.hid (heap_alloc_new w2 (.cells Z 255))
  have HB3 := Lib.hid (HB2.out.alloc HB2.out.size (.cells Z 255))
  clear hb c0 c1 c2 c3
  go_wp2_with (refine wpList_store_row rfl 255 (.tmp 3) (.tmp 5) rfl w2.heap.size C rfl rfl 255 Z HN.out (by rw [HCs.out]; exact size_sector) (by rw [HZ.out, HCs.out]) HC1.out ?_)
  go_ret
  have HS : SecAt ((w2.alloc (.cells Z 255)).setRow w2.heap.size C) w2.heap.size 255 (sealBytes x) := ⟨by rw [← HC2.out]; exact setRow_heap _ _ _ _ _ _ HN.out, sealBytes_length x⟩
  have hv := HS.sl (a := 0) (n := 512) (c := 512) (by omega) (by omega) (by simp [maxLen])
  rw [List.drop_zero, List.take_of_length_le (by rw [sealBytes_length]; omega)] at hv
  exact ⟨_, rfl, Rep.val_mono (fun b hb _ => by have : b = w2.heap.size := hb; rw [this]; exact HB2.out.size) hv, below_setRow HB3.out HB2.out.size _⟩
end Go.Proofs.YtghbfbohnoebiaaGreat
namespace Go.Proofs.YtghbfbohnoebiaaGreat
open Go.RowKit
open Extern.Stop (cell)

theorem zeroBytes_is (n : Nat) : zeroBytes n = ((zeros n).map cell).toArray := by
  apply Array.ext'
  rw [zeroBytes, toList_madeCells_one]
  simp [zeros, cell]
theorem cut_splice (l : List UInt8) (n : Nat) : splice (zeros n) 0 (l.take n) = cutTo l n := by
  have hk : (l.take n).length ≤ n := by rw [List.length_take]; omega
  have hz : zeros n = zeros (l.take n).length ++ zeros (n - (l.take n).length) := by rw [← zeros_add]; congr 1; omega
  have h2 : n - (l.take n).length = n - l.length := by rw [List.length_take]; omega
  rw [hz, splice_here (zeros_length _), cutTo, h2]; rfl

set_option maxRecDepth 100000 in
set_option maxHeartbeats 1000000 in
/-- le.Cut -/
theorem lecut_calls {Q : Nat → Prop} {w : World} {v : Value} {l : List UInt8} {n : Nat} (hx : Rep.byte.list.val Q w v l) (hn : n ≤ 65535) :
    Calls Tryz.prog 160 #[v, .int .i64 n] w fun e w' => e = .returned (.slice (some ⟨w.heap.size, 0, none⟩) n n) ∧ w'.heap[w.heap.size]? = some (.cells ((cutTo l n).map cell).toArray 5 (0, 0)) ∧ Below w.heap.size w w' := by
  obtain ⟨A, c, rfl, hs⟩ := Rep.val_sl hx
  have hmk : ∀ w, (Instr.makeSlice 71 (.int .i64 (n : Int)) (.int .i64 (n : Int))).run Tryz.prog w = .ok (.slice (some ⟨w.heap.size, 0, none⟩) n n) (w.alloc (.cells (zeroBytes n) 5)) :=
    fun w => run_make_bytes Tryz.underlying71 info5 n (by omega) w
  have HG := Lib.hid (show (w.alloc (.cells (zeroBytes n) 5)).heap[w.heap.size]? = some (.cells ((zeros n).map cell).toArray 5 (0, 0)) by rw [heap_alloc_new, zeroBytes_is])
  have HB := Lib.hid (show Below w.heap.size w (w.alloc (.cells (zeroBytes n) 5)) from (Below.refl _ _).alloc (Nat.le_refl _) _)
  have HS := Lib.hid (hs.keep (w' := w.alloc (.cells (zeroBytes n) 5)) (Q' := fun _ => True) fun b hb hl => ⟨trivial, Below.heap_alloc _ _ _ hl.lt⟩)
  have HC := Lib.hid (copy_from (X := l.take n) (c := c) (A := A) (w := w.alloc (.cells (zeroBytes n) 5)) (Q := fun _ => True) (by have := HS.out; exact ⟨by rw [List.length_take]; have := this.1; omega, this.2.1, this.2.2.take n⟩))
  have HE := Lib.hid (cut_splice l n)
  have HL := Lib.hid (show ((l.take n).map cell).length = Nat.min l.length n by rw [List.length_map, List.length_take]; exact Nat.min_comm _ _)
  have HF := Lib.hid (show 0 + ((l.take n).map cell).length ≤ ((zeros n).map cell).length by rw [List.length_map, List.length_map, List.length_take, zeros_length]; omega)
  have n1 : (0 : Int) ≤ n := by omega
  have n2 : (n : Int) ≤ 65535 := by omega
  clear hx hs hn
  obtain ⟨Y, hY⟩ : ∃ Y, Y = l.take n := ⟨_, rfl⟩
  rw [← hY] at HC HE HL HF
  clear hY
  obtain ⟨Z, hZ⟩ : ∃ Z, Z = zeroBytes n := ⟨_, rfl⟩
  rw [← hZ] at hmk HG HB HC
  clear HS hZ
  go_enter Tryz.func160, Tryz.ntmps160
  go_wp2_with (refine wpList_copy_splice rfl (.tmp 10) (.tmp 11) 71 71 rfl 5 Tryz.underlying71 size5 (some ⟨w.heap.size, 0, none⟩) A n n l.length c (by exact rfl) (by exact rfl) w.heap.size 0 ((zeros n).map cell) 5 HG.out (Y.map cell) HL.out (fun h => ⟨rfl, HC.out h⟩) HF.out (copy_one Y) w.heap.size w HB.out (Nat.le_refl _) ?_; intro w5 hg5 hb5; have H5 := Lib.hid hg5.out; have D5 := Lib.hid hb5; clear hg5 hb5)
  go_ret
  exact ⟨rfl, by rw [H5.out, ← splice_map, HE.out], D5.out⟩
end Go.Proofs.YtghbfbohnoebiaaGreat
