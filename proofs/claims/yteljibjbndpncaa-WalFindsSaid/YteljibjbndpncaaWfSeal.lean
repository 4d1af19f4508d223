/- Walks of a seal as a sector. -/
import Derived.Test.YteljibjbndpncaaWfSector
namespace Go.Proofs.Yteljibjbndpncaa
open Go.RowKit
open Extern.Stop (cell)

/-- What stands while a sector is made: the seal in its box, the result's block. -/
structure SealBox (W : World) (B : Nat) (x : DSeal) (A : Option Addr) (c : Nat) : Prop where
  c0 : W.cell? ⟨B, 0, none⟩ = some (.int .i64 x.epoch)
  c1 : W.cell? ⟨B, 1, none⟩ = some (.int .i64 x.no)
  c2 : W.cell? ⟨B, 2, none⟩ = some (.int .i64 x.kind)
  c3 : W.cell? ⟨B, 3, none⟩ = some (.slice A x.body.length c)
  sl : Rep.byte.Sl (fun b => b < B) W A c x.body
theorem SealBox.later {W W' : World} {B : Nat} {x : DSeal} {A : Option Addr} {c : Nat} (h : SealBox W B x A c) (hb : Below (B + 1) W W') : SealBox W' B x A c :=
  ⟨(hb.cell (p := ⟨B, 0, none⟩) (Nat.lt_succ_self _)).trans h.c0, (hb.cell (p := ⟨B, 1, none⟩) (Nat.lt_succ_self _)).trans h.c1, (hb.cell (p := ⟨B, 2, none⟩) (Nat.lt_succ_self _)).trans h.c2,
   (hb.cell (p := ⟨B, 3, none⟩) (Nat.lt_succ_self _)).trans h.c3, h.sl.keep fun b hq _ => ⟨hq, hb.block b (by omega)⟩⟩
theorem SealBox.made {Q : Nat → Prop} {w : World} {x : DSeal} {A : Option Addr} {c : Nat} (h : Rep.byte.Sl Q w A c x.body) (t : TypeId) :
    SealBox (w.alloc (.cells #[.int .i64 x.epoch, .int .i64 x.no, .int .i64 x.kind, .slice A x.body.length c] t)) w.heap.size x A c :=
  ⟨by simp, by simp, by simp, by simp, h.keep fun _ _ hl => ⟨hl.lt, Below.heap_alloc _ _ _ hl.lt⟩⟩

set_option maxRecDepth 100000 in
set_option maxHeartbeats 2000000 in
/-- seal.made -/
theorem made_calls {Q : Nat → Prop} {w : World} {v : Value} {x : DSeal} (hx : rSeal.val Q w v x) :
    Calls Try.prog 114 #[v] w fun e w' => e = .returned (.agg ((sealBytes x).map cell).toArray) ∧ Below w.heap.size w w' := by
  obtain ⟨A, c, rfl, f0, f1, f2, hs⟩ := rSeal_val hx
  have hz := (zero_of_info zero_sector).1
  obtain ⟨Z, hZ⟩ : ∃ Z, Z = ((zeros 512).map cell).toArray := ⟨_, rfl⟩
  rw [← hZ] at hz
  have hsl := hs.1
  have hsm := hs.2.1
  unfold maxLen at hsm
  obtain ⟨W1, hW1⟩ : ∃ W1, w.alloc (.cells #[.int .i64 x.epoch, .int .i64 x.no, .int .i64 x.kind, .slice A x.body.length c] 157) = W1 := ⟨_, rfl⟩
  have hm : SealBox W1 w.heap.size x A c := by rw [← hW1]; exact SealBox.made hs _
  have hb1 : Below w.heap.size w W1 := by rw [← hW1]; exact (Below.refl _ _).alloc (Nat.le_refl _) _
  have hz1 : W1.heap.size = w.heap.size + 1 := by rw [← hW1]; simp
  obtain ⟨W2, hW2⟩ : ∃ W2, W1.alloc (.cells Z 185) = W2 := ⟨_, rfl⟩
  have hr2 : W2.heap[w.heap.size + 1]? = some (.cells Z 185 (0, 0)) := by rw [← hW2, ← hz1]; exact heap_alloc_new _ _
  have hb2 : Below (w.heap.size + 1) W1 W2 := by rw [← hW2]; exact (Below.refl _ _).alloc (Nat.le_of_eq hz1.symm) _
  have hz2 : W2.heap.size = w.heap.size + 1 + 1 := by rw [← hW2]; simp [hz1]
  obtain ⟨W3, hW3⟩ : ∃ W3, W2.alloc (.cells Z 185) = W3 := ⟨_, rfl⟩
  have hs3 : SecAt W3 (w.heap.size + 1 + 1) 185 (zeros 512) := ⟨by rw [← hW3, ← hZ, ← hz2]; exact heap_alloc_new _ _, zeros_length _⟩
  have hb3 : Below (w.heap.size + 1 + 1) W2 W3 := by rw [← hW3]; exact (Below.refl _ _).alloc (Nat.le_of_eq hz2.symm) _
  have hB3 : Below w.heap.size w W3 := hb1.trans ((hb2.mono (by omega)).trans (hb3.mono (by omega)))
  have KS := Lib.hid (show ∀ W, Below (w.heap.size + 1 + 1) W3 W → SealBox W w.heap.size x A c ∧ W.heap[w.heap.size + 1]? = some (.cells Z 185 (0, 0)) ∧ Below w.heap.size w W from fun W h =>
    ⟨((hm.later hb2).later (hb3.mono (by omega))).later (h.mono (by omega)),
     by rw [h.block _ (by omega), hb3.block _ (by omega)]; exact hr2, hB3.trans (h.mono (by omega))⟩)
  have HS3 := Lib.hid hs3
  have HZ := Lib.hid (show Z.size = 512 by rw [hZ]; simp [zeros_length])
  have k1 := near_le (n := x.epoch) (high := maxEpoch) (by decide)
  have k2 := near_le (n := x.no) (high := maxEpoch) (by decide)
  have k3 := near_le (n := x.kind) (high := 255) (by decide)
  have k4 := near_ge (n := x.epoch) (high := maxEpoch) (by decide)
  have k5 := near_ge (n := x.no) (high := maxEpoch) (by decide)
  have k6 := near_ge (n := x.kind) (high := 255) (by decide)
  have WE := Lib.hid (show (Lit.int .i64 (near x.epoch maxEpoch)).wf = true from wf_i64 (by omega) (by unfold maxEpoch at *; omega))
  have WN := Lib.hid (show (Lit.int .i64 (near x.no maxEpoch)).wf = true from wf_i64 (by omega) (by unfold maxEpoch at *; omega))
  have WK := Lib.hid (show (Lit.int .i64 (near x.kind 255)).wf = true from wf_i64 (by omega) (by omega))
  have WC := Lib.hid (show (Lit.int .i64 ((crcOf ((laid7 x).take 16 ++ (laid7 x).drop 20) : Nat) : Int)).wf = true from wf_i64 (by omega) (by have := crcOf_lt ((laid7 x).take 16 ++ (laid7 x).drop 20); omega))
  obtain ⟨c0, c1, c2, c3, _⟩ := (KS.out _ (Below.refl _ _)).1
  clear hx hs hm hr2 hb1 hb2 hb3 hB3 hs3 hZ k1 k2 k3 k4 k5 k6
  by_cases h472 : (x.body.length : Int) ≤ 472
  · have HY := Lib.hid (show (x.body.take 472).length = x.body.length by rw [List.length_take]; omega)
    have HM := Lib.hid (show x.body.length ≤ 472 by omega)
    have WM := Lib.hid (show (Lit.int .i64 ((x.body.length : Nat) : Int)).wf = true from wf_i64 (by omega) (by omega))
    go_enter Try.func114, Try.ntmps114
    go_wp2_with fail
    try rw [hW1]
    go_wp2_with fail
    try rw [hW2]
    go_wp2_with fail
    try rw [hW3]
    clear hW1 hW2 hW3 hz1 hz2
    go_quiet ((go_at_call 131; exact Calls.quiet_of_same (near_calls (by decide) _)))
    have H0 := Lib.hid (show SecAt (W3.drewN nq) (w.heap.size + 1 + 1) 185 (zeros 512) from HS3.out.keep rfl)
    have D00 := Lib.hid (show Below (w.heap.size + 1 + 1) W3 (W3.drewN nq) from below_drewN (Below.refl _ _) nq)
    have hc0 := KS.out _ D00.out
    clear c0 c1 c2 c3
    have KS4 := Lib.hid (show ∀ W, Below (w.heap.size + 1 + 1) (W3.drewN nq) W → SealBox W w.heap.size x A c ∧ W.heap[w.heap.size + 1]? = some (.cells Z 185 (0, 0)) ∧ Below w.heap.size w W from fun W h => KS.out _ (D00.out.trans h))
    clear KS D00
    generalize W3.drewN nq = W4 at *
    have KS := KS4
    have D0 := Lib.hid (Below.refl (w.heap.size + 1 + 1) W4)
    obtain ⟨c0, c1, c2, c3, _⟩ := hc0.1
    clear hc0 KS4 HS3
    go_wp2_with fail
    refine (secnum_calls (a := 0) (width := 8) (n := near x.epoch maxEpoch) H0.out (by decide) (by rw [num_len8]; decide) rfl WE.out).mono ?_
    rintro e w1 ⟨rfl, hs, hb⟩
    have H1 := Lib.hid (show SecAt w1 (w.heap.size + 1 + 1) 185 (laid1 x) from hs)
    have D1 := Lib.hid (D0.out.trans hb)
    clear hs hb c0 c1 c2 c3
    obtain ⟨c0, c1, c2, c3, _⟩ := (KS.out _ D1.out).1
    go_wp2_with fail
    refine (secnum_calls (a := 8) (width := 8) (n := near x.no maxEpoch) H1.out (by decide) (by rw [num_len8]; decide) rfl WN.out).mono ?_
    rintro e w2 ⟨rfl, hs, hb⟩
    have H2 := Lib.hid (show SecAt w2 (w.heap.size + 1 + 1) 185 (laid2 x) from hs)
    have D2 := Lib.hid (D1.out.trans hb)
    clear hs hb c0 c1 c2 c3
    obtain ⟨c0, c1, c2, c3, _⟩ := (KS.out _ D2.out).1
    go_wp2_with (go_at_call 131; refine (near_calls (by decide) _).mono ?_; rintro e w' ⟨rfl, hw⟩; have hw2 := hw.symm; subst hw2; clear hw)
    refine (secnum_calls (a := 20) (width := 1) (n := near x.kind 255) H2.out (by decide) (by rw [num_len1]; decide) rfl WK.out).mono ?_
    rintro e w3 ⟨rfl, hs, hb⟩
    have H3 := Lib.hid (show SecAt w3 (w.heap.size + 1 + 1) 185 (laid3 x) from hs)
    have D3 := Lib.hid (D2.out.trans hb)
    clear hs hb c0 c1 c2 c3
    obtain ⟨c0, c1, c2, c3, _⟩ := (KS.out _ D3.out).1
    go_wp2_with fail
    refine (secnum_calls (a := 22) (width := 2) (n := x.body.length) H3.out (by decide) (by rw [num_len2]; decide) rfl WM.out).mono ?_
    rintro e w4 ⟨rfl, hs, hb⟩
    have H4 := Lib.hid (show SecAt w4 (w.heap.size + 1 + 1) 185 (laid4 x) by unfold laid4; rw [HY.out]; exact hs)
    have D4 := Lib.hid (D3.out.trans hb)
    have HC := Lib.hid (copy_from (Q := fun b => b < w.heap.size) (X := x.body.take 472) (c := c) (by have := (KS.out _ D4.out).1.sl; exact ⟨by rw [List.length_take]; have := this.1; omega, this.2.1, this.2.2.take 472⟩))
    clear hs hb c0 c1 c2 c3
    go_wp2_with (refine wpList_copy_splice rfl (.tmp 31) (.tmp 32) 33 33 rfl 5 Try.underlying33 size5 (some ⟨w.heap.size + 1 + 1, 24, none⟩) A 488 488 x.body.length c (by exact rfl) (by exact rfl) (w.heap.size + 1 + 1) 24 ((laid4 x).map cell) 185 H4.out.blk ((x.body.take 472).map cell) (by rw [List.length_map, HY.out]; exact (Nat.min_eq_left (by have := HM.out; omega)).symm) (fun h => ⟨rfl, HC.out h⟩) (by have := HM.out; have := HY.out; have := H4.out.len; simp only [List.length_map]; omega) (copy_one _) (w.heap.size + 1 + 1) W4 D4.out (Nat.le_refl _) ?_; intro w5 hg5 hb5; have H5 := Lib.hid (show SecAt w5 (w.heap.size + 1 + 1) 185 (laid5 x) from sec_copied H4.out (by have := HM.out; have := HY.out; omega) hg5.out); have D5 := Lib.hid hb5; clear hg5 hb5)
    refine (secnum_calls (a := 496) (width := 8) (n := near x.no maxEpoch) H5.out (by decide) (by rw [num_len8]; decide) rfl WN.out).mono ?_
    rintro e w6 ⟨rfl, hs, hb⟩
    have H6 := Lib.hid (show SecAt w6 (w.heap.size + 1 + 1) 185 (laid6 x) from hs)
    have D6 := Lib.hid (D5.out.trans hb)
    clear hs hb
    go_wp2_with fail
    refine (secnum_calls (a := 504) (width := 8) (n := near x.epoch maxEpoch) H6.out (by decide) (by rw [num_len8]; decide) rfl WE.out).mono ?_
    rintro e w7 ⟨rfl, hs, hb⟩
    have H7 := Lib.hid (show SecAt w7 (w.heap.size + 1 + 1) 185 (laid7 x) from hs)
    have D7 := Lib.hid (D6.out.trans hb)
    clear hs hb
    go_wp2_with fail
    refine (secsum_calls H7.out).mono ?_
    rintro e w8 ⟨rfl, hb⟩
    have H8 := Lib.hid (H7.out.below hb)
    have D8 := Lib.hid (D7.out.trans (hb.mono (Nat.le_of_lt H7.out.lt)))
    clear hb
    go_wp2_with fail
    refine (secnum_calls (a := 16) (width := 4) (n := (crcOf ((laid7 x).take 16 ++ (laid7 x).drop 20) : Nat)) H8.out (by decide) (by rw [num_len4]; decide) rfl WC.out).mono ?_
    rintro e w9 ⟨rfl, hs, hb⟩
    have H9 := Lib.hid (show SecAt w9 (w.heap.size + 1 + 1) 185 (sealBytes x) by rw [← laid8_is]; exact hs)
    have D9 := Lib.hid (D8.out.trans hb)
    clear hs hb
    obtain ⟨C, hC⟩ : ∃ C, C = ((sealBytes x).map cell).toArray := ⟨_, rfl⟩
    have HC2 := Lib.hid hC
    have HCs := Lib.hid (show C.size = 512 by rw [hC]; simp [sealBytes_length])
    have HC1 := Lib.hid (show C.all (·.oneCell') = true by rw [hC, Array.all_eq_true_iff_forall_mem]; intro v hv; exact copy_one _ v (by simpa using hv))
    have HB9 := Lib.hid (show w9.heap[w.heap.size + 1 + 1]? = some (.cells C 185 (0, 0)) by rw [hC]; exact H9.out.blk)
    have HR9 := Lib.hid (KS.out _ D9.out).2.1
    clear hC
    go_wp2_with (first
      | (refine wpList_load_row rfl 185 (.tmp 3) rfl (w.heap.size + 1 + 1) rfl 185 C (0, 0) (.array 512 5) HB9.out Try.underlying185 rfl (by rw [HCs.out]; exact size_sector) ?_)
      | (refine wpList_store_row rfl 185 (.tmp 2) (.tmp 40) rfl (w.heap.size + 1) C rfl rfl 185 Z HR9.out (by rw [HCs.out]; exact size_sector) (by rw [HZ.out, HCs.out]) HC1.out ?_))
    refine ⟨rfl, .agg C, results_cell_row (p := 2) (ty := 185) rfl _ _ (w.heap.size + 1) 185 C (0, 0) (.array 512 5) rfl (setRow_heap _ _ _ _ _ _ HR9.out) Try.underlying185 rfl (by rw [HCs.out]; exact size_sector), by rw [HC2.out], below_setRow (KS.out _ D9.out).2.2 (Nat.le_succ _) _⟩
  · have HY := Lib.hid (show (x.body.take 472).length = 472 by rw [List.length_take]; omega)
    have HM := Lib.hid (show 472 ≤ 472 by omega)
    have WM := Lib.hid (show (Lit.int .i64 ((472 : Nat) : Int)).wf = true from wf_i64 (by omega) (by omega))
    have g472 : (472 : Int) < x.body.length := by omega
    have g473 : (472 : Int) ≤ c := by omega
    go_enter Try.func114, Try.ntmps114
    go_wp2_with fail
    try rw [hW1]
    go_wp2_with fail
    try rw [hW2]
    go_wp2_with fail
    try rw [hW3]
    clear hW1 hW2 hW3 hz1 hz2
    go_quiet ((go_at_call 131; exact Calls.quiet_of_same (near_calls (by decide) _)))
    have H0 := Lib.hid (show SecAt (W3.drewN nq) (w.heap.size + 1 + 1) 185 (zeros 512) from HS3.out.keep rfl)
    have D00 := Lib.hid (show Below (w.heap.size + 1 + 1) W3 (W3.drewN nq) from below_drewN (Below.refl _ _) nq)
    have hc0 := KS.out _ D00.out
    clear c0 c1 c2 c3
    have KS4 := Lib.hid (show ∀ W, Below (w.heap.size + 1 + 1) (W3.drewN nq) W → SealBox W w.heap.size x A c ∧ W.heap[w.heap.size + 1]? = some (.cells Z 185 (0, 0)) ∧ Below w.heap.size w W from fun W h => KS.out _ (D00.out.trans h))
    clear KS D00
    generalize W3.drewN nq = W4 at *
    have KS := KS4
    have D0 := Lib.hid (Below.refl (w.heap.size + 1 + 1) W4)
    obtain ⟨c0, c1, c2, c3, _⟩ := hc0.1
    clear hc0 KS4 HS3
    go_wp2_with fail
    refine (secnum_calls (a := 0) (width := 8) (n := near x.epoch maxEpoch) H0.out (by decide) (by rw [num_len8]; decide) rfl WE.out).mono ?_
    rintro e w1 ⟨rfl, hs, hb⟩
    have H1 := Lib.hid (show SecAt w1 (w.heap.size + 1 + 1) 185 (laid1 x) from hs)
    have D1 := Lib.hid (D0.out.trans hb)
    clear hs hb c0 c1 c2 c3
    obtain ⟨c0, c1, c2, c3, _⟩ := (KS.out _ D1.out).1
    go_wp2_with fail
    refine (secnum_calls (a := 8) (width := 8) (n := near x.no maxEpoch) H1.out (by decide) (by rw [num_len8]; decide) rfl WN.out).mono ?_
    rintro e w2 ⟨rfl, hs, hb⟩
    have H2 := Lib.hid (show SecAt w2 (w.heap.size + 1 + 1) 185 (laid2 x) from hs)
    have D2 := Lib.hid (D1.out.trans hb)
    clear hs hb c0 c1 c2 c3
    obtain ⟨c0, c1, c2, c3, _⟩ := (KS.out _ D2.out).1
    go_wp2_with (go_at_call 131; refine (near_calls (by decide) _).mono ?_; rintro e w' ⟨rfl, hw⟩; have hw2 := hw.symm; subst hw2; clear hw)
    refine (secnum_calls (a := 20) (width := 1) (n := near x.kind 255) H2.out (by decide) (by rw [num_len1]; decide) rfl WK.out).mono ?_
    rintro e w3 ⟨rfl, hs, hb⟩
    have H3 := Lib.hid (show SecAt w3 (w.heap.size + 1 + 1) 185 (laid3 x) from hs)
    have D3 := Lib.hid (D2.out.trans hb)
    clear hs hb c0 c1 c2 c3
    obtain ⟨c0, c1, c2, c3, _⟩ := (KS.out _ D3.out).1
    go_wp2_with fail
    refine (secnum_calls (a := 22) (width := 2) (n := 472) H3.out (by decide) (by rw [num_len2]; decide) rfl WM.out).mono ?_
    rintro e w4 ⟨rfl, hs, hb⟩
    have H4 := Lib.hid (show SecAt w4 (w.heap.size + 1 + 1) 185 (laid4 x) by unfold laid4; rw [HY.out]; exact hs)
    have D4 := Lib.hid (D3.out.trans hb)
    have HC := Lib.hid (copy_from (Q := fun b => b < w.heap.size) (X := x.body.take 472) (c := c) (by have := (KS.out _ D4.out).1.sl; exact ⟨by rw [List.length_take]; have := this.1; omega, this.2.1, this.2.2.take 472⟩))
    clear hs hb c0 c1 c2 c3
    go_wp2_with (refine wpList_copy_splice rfl (.tmp 31) (.tmp 32) 33 33 rfl 5 Try.underlying33 size5 (some ⟨w.heap.size + 1 + 1, 24, none⟩) A 488 488 472 c (by exact rfl) (by exact rfl) (w.heap.size + 1 + 1) 24 ((laid4 x).map cell) 185 H4.out.blk ((x.body.take 472).map cell) (by rw [List.length_map, HY.out]; exact (Nat.min_eq_left (by have := HM.out; omega)).symm) (fun h => ⟨rfl, HC.out h⟩) (by have := HM.out; have := HY.out; have := H4.out.len; simp only [List.length_map]; omega) (copy_one _) (w.heap.size + 1 + 1) W4 D4.out (Nat.le_refl _) ?_; intro w5 hg5 hb5; have H5 := Lib.hid (show SecAt w5 (w.heap.size + 1 + 1) 185 (laid5 x) from sec_copied H4.out (by have := HM.out; have := HY.out; omega) hg5.out); have D5 := Lib.hid hb5; clear hg5 hb5)
    refine (secnum_calls (a := 496) (width := 8) (n := near x.no maxEpoch) H5.out (by decide) (by rw [num_len8]; decide) rfl WN.out).mono ?_
    rintro e w6 ⟨rfl, hs, hb⟩
    have H6 := Lib.hid (show SecAt w6 (w.heap.size + 1 + 1) 185 (laid6 x) from hs)
    have D6 := Lib.hid (D5.out.trans hb)
    clear hs hb
    go_wp2_with fail
    refine (secnum_calls (a := 504) (width := 8) (n := near x.epoch maxEpoch) H6.out (by decide) (by rw [num_len8]; decide) rfl WE.out).mono ?_
    rintro e w7 ⟨rfl, hs, hb⟩
    have H7 := Lib.hid (show SecAt w7 (w.heap.size + 1 + 1) 185 (laid7 x) from hs)
    have D7 := Lib.hid (D6.out.trans hb)
    clear hs hb
    go_wp2_with fail
    refine (secsum_calls H7.out).mono ?_
    rintro e w8 ⟨rfl, hb⟩
    have H8 := Lib.hid (H7.out.below hb)
    have D8 := Lib.hid (D7.out.trans (hb.mono (Nat.le_of_lt H7.out.lt)))
    clear hb
    go_wp2_with fail
    refine (secnum_calls (a := 16) (width := 4) (n := (crcOf ((laid7 x).take 16 ++ (laid7 x).drop 20) : Nat)) H8.out (by decide) (by rw [num_len4]; decide) rfl WC.out).mono ?_
    rintro e w9 ⟨rfl, hs, hb⟩
    have H9 := Lib.hid (show SecAt w9 (w.heap.size + 1 + 1) 185 (sealBytes x) by rw [← laid8_is]; exact hs)
    have D9 := Lib.hid (D8.out.trans hb)
    clear hs hb
    obtain ⟨C, hC⟩ : ∃ C, C = ((sealBytes x).map cell).toArray := ⟨_, rfl⟩
    have HC2 := Lib.hid hC
    have HCs := Lib.hid (show C.size = 512 by rw [hC]; simp [sealBytes_length])
    have HC1 := Lib.hid (show C.all (·.oneCell') = true by rw [hC, Array.all_eq_true_iff_forall_mem]; intro v hv; exact copy_one _ v (by simpa using hv))
    have HB9 := Lib.hid (show w9.heap[w.heap.size + 1 + 1]? = some (.cells C 185 (0, 0)) by rw [hC]; exact H9.out.blk)
    have HR9 := Lib.hid (KS.out _ D9.out).2.1
    clear hC
    go_wp2_with (first
      | (refine wpList_load_row rfl 185 (.tmp 3) rfl (w.heap.size + 1 + 1) rfl 185 C (0, 0) (.array 512 5) HB9.out Try.underlying185 rfl (by rw [HCs.out]; exact size_sector) ?_)
      | (refine wpList_store_row rfl 185 (.tmp 2) (.tmp 40) rfl (w.heap.size + 1) C rfl rfl 185 Z HR9.out (by rw [HCs.out]; exact size_sector) (by rw [HZ.out, HCs.out]) HC1.out ?_))
    refine ⟨rfl, .agg C, results_cell_row (p := 2) (ty := 185) rfl _ _ (w.heap.size + 1) 185 C (0, 0) (.array 512 5) rfl (setRow_heap _ _ _ _ _ _ HR9.out) Try.underlying185 rfl (by rw [HCs.out]; exact size_sector), by rw [HC2.out], below_setRow (KS.out _ D9.out).2.2 (Nat.le_succ _) _⟩

set_option maxRecDepth 100000 in
set_option maxHeartbeats 2000000 in
/-- seal.Put -/
theorem sealPut_calls {Q : Nat → Prop} {w : World} {v : Value} {x : DSeal} (hx : rSeal.val Q w v x) :
    Calls Try.prog 94 #[v] w (Res Rep.byte.list (fun b => w.heap.size ≤ b) w (sealBytes x)) := by
  obtain ⟨A, c, rfl, f0, f1, f2, hs⟩ := rSeal_val hx
  have hz := (zero_of_info zero_sector).1
  obtain ⟨Z, hZ⟩ : ∃ Z, Z = ((zeros 512).map cell).toArray := ⟨_, rfl⟩
  rw [← hZ] at hz
  obtain ⟨W1, hW1⟩ : ∃ W1, w.alloc (.cells #[.int .i64 x.epoch, .int .i64 x.no, .int .i64 x.kind, .slice A x.body.length c] 157) = W1 := ⟨_, rfl⟩
  have hm : SealBox W1 w.heap.size x A c := by rw [← hW1]; exact SealBox.made hs _
  have hb1 : Below w.heap.size w W1 := by rw [← hW1]; exact (Below.refl _ _).alloc (Nat.le_refl _) _
  obtain ⟨c0, c1, c2, c3, sl⟩ := hm
  have HV := Lib.hid (rSeal_agg f0 f1 f2 sl)
  have HB1 := Lib.hid hb1
  have HZ := Lib.hid (show Z.size = 512 by rw [hZ]; simp [zeros_length])
  obtain ⟨C, hC⟩ : ∃ C, C = ((sealBytes x).map cell).toArray := ⟨_, rfl⟩
  have HC2 := Lib.hid hC
  have HCs := Lib.hid (show C.size = 512 by rw [hC]; simp [sealBytes_length])
  have HC1 := Lib.hid (show C.all (·.oneCell') = true by rw [hC, Array.all_eq_true_iff_forall_mem]; intro v hv; exact copy_one _ v (by simpa using hv))
  clear hx hs hb1 hZ hC
  go_enter Try.func94, Try.ntmps94
  go_wp2_with fail
  try rw [hW1]
  clear hW1
  go_wp2_with fail
  refine (made_calls HV.out).mono ?_
  rintro e w2 ⟨rfl, hb⟩
  rw [← HC2.out]
  have HB2 := Lib.hid (HB1.out.trans (hb.mono HB1.out.size))
  have HN := Lib.hid (heap_alloc_new w2 (.cells Z 185))
  have HB3 := Lib.hid (HB2.out.alloc HB2.out.size (.cells Z 185))
  clear hb c0 c1 c2 c3
  go_wp2_with (refine wpList_store_row rfl 185 (.tmp 3) (.tmp 5) rfl w2.heap.size C rfl rfl 185 Z HN.out (by rw [HCs.out]; exact size_sector) (by rw [HZ.out, HCs.out]) HC1.out ?_)
  go_ret
  have HS : SecAt ((w2.alloc (.cells Z 185)).setRow w2.heap.size C) w2.heap.size 185 (sealBytes x) := ⟨by rw [← HC2.out]; exact setRow_heap _ _ _ _ _ _ HN.out, sealBytes_length x⟩
  have hv := HS.sl (a := 0) (n := 512) (c := 512) (by omega) (by omega) (by simp [maxLen])
  rw [List.drop_zero, List.take_of_length_le (by rw [sealBytes_length]; omega)] at hv
  exact ⟨_, rfl, Rep.val_mono (fun b hb _ => by have : b = w2.heap.size := hb; rw [this]; exact HB2.out.size) hv, below_setRow HB3.out HB2.out.size _⟩
end Go.Proofs.Yteljibjbndpncaa
