/- Walk of a seal as a sector: the reference's. Printed by gen_rseal.py. -/
import Derived.Test.YtfpmkenobphfnaaPstCutTo
import Derived.Test.YtfpmkenobphfnaaPstSeal
namespace Go.Proofs.Ytfpmkenobphfnaa
open Go.RowKit

set_option maxRecDepth 100000 in
set_option maxHeartbeats 4000000 in
/-- ref03.Put -/
theorem rsealPut_calls {Q : Nat → Prop} {w : World} {v : Value} {x : DSeal} (hx : rSeal.val Q w v x) :
    Calls Try.prog 151 #[v] w (Res Rep.byte.list (fun b => w.heap.size ≤ b) w (sealBytes x)) := by
  obtain ⟨A, c, rfl, f0, f1, f2, hs⟩ := rSeal_val hx
  have hsl := hs.1
  have hsm := hs.2.1
  unfold maxLen at hsm
  obtain ⟨W1, hW1⟩ : ∃ W1, w.alloc (.cells #[.int .i64 x.epoch, .int .i64 x.no, .int .i64 x.kind, .slice A x.body.length c] 224) = W1 := ⟨_, rfl⟩
  have hm : SealBox W1 w.heap.size x A c := by rw [← hW1]; exact SealBox.made hs _
  have hb1 : Below w.heap.size w W1 := by rw [← hW1]; exact (Below.refl _ _).alloc (Nat.le_refl _) _
  have hz1 : W1.heap.size = w.heap.size + 1 := by rw [← hW1]; simp
  have KS0 := Lib.hid (show ∀ W, Below W1.heap.size W1 W → SealBox W w.heap.size x A c ∧ Below w.heap.size w W from fun W h => ⟨hm.later (h.mono (by omega)), hb1.trans (h.mono (by omega))⟩)
  have k1 := near_le (n := x.epoch) (high := maxEpoch) (by decide)
  have k2 := near_le (n := x.no) (high := maxEpoch) (by decide)
  have k3 := near_le (n := x.kind) (high := 255) (by decide)
  have k4 := near_ge (n := x.epoch) (high := maxEpoch) (by decide)
  have k5 := near_ge (n := x.no) (high := maxEpoch) (by decide)
  have k6 := near_ge (n := x.kind) (high := 255) (by decide)
  have WE := Lib.hid (show (Lit.int .i64 (near x.epoch maxEpoch)).wf = true from wf_i64 (by omega) (by unfold maxEpoch at *; omega))
  have WN := Lib.hid (show (Lit.int .i64 (near x.no maxEpoch)).wf = true from wf_i64 (by omega) (by unfold maxEpoch at *; omega))
  have WK := Lib.hid (show (Lit.int .i64 (near x.kind 255)).wf = true from wf_i64 (by omega) (by omega))
  have WC := Lib.hid (show (Lit.int .i64 ((crcOf (sealFront x ++ sealRest x) : Nat) : Int)).wf = true from wf_i64 (by omega) (by have := crcOf_lt (sealFront x ++ sealRest x); omega))
  have HWR := Lib.hid (crc_i64 (sealFront x ++ sealRest x))
  obtain ⟨Y, hY⟩ : ∃ Y, Y = x.body.take 472 := ⟨_, rfl⟩
  have HB0 := Lib.hid (show ∀ W, Below W1.heap.size W1 W → ∀ n, n = Y.length → Rep.byte.list.val (fun b => b < w.heap.size) W (.slice A n c) Y from fun W h n hn => by
    have hm2 := (KS0.out W h).1.sl
    rw [hY] at hn ⊢
    exact Rep.list_val hn (by rw [hn, List.length_take]; have := hm2.1; omega) hm2.2.1 (hm2.2.2.take 472))
  obtain ⟨c0, c1, c2, c3, _⟩ := hm
  clear hx hs hb1 hz1 k1 k2 k3 k4 k5 k6
  have hYl : Y.length ≤ 472 := by rw [hY, List.length_take]; omega
  have hfr : sealFront x = num 8 (near x.epoch maxEpoch) ++ num 8 (near x.no maxEpoch) := rfl
  have hre : sealRest x = num 1 (near x.kind 255) ++ ([0] ++ (num 2 (Y.length : Int) ++ (cutTo Y 472 ++ (num 8 (near x.no maxEpoch) ++ num 8 (near x.epoch maxEpoch))))) := by rw [hY]; rfl
  by_cases h472 : (x.body.length : Int) ≤ 472
  · have hMl : Y.length = x.body.length := by rw [hY, List.length_take]; omega
    obtain ⟨q1, hq1⟩ : ∃ z : List UInt8, z = num 8 (near x.epoch maxEpoch) := ⟨_, rfl⟩
    have lq1 : q1.length = 8 := by rw [hq1]; simp [num_len8]
    obtain ⟨q2, hq2⟩ : ∃ z : List UInt8, z = q1 ++ num 8 (near x.no maxEpoch) := ⟨_, rfl⟩
    have lq2 : q2.length = 16 := by rw [hq2]; simp [lq1, num_len8]
    obtain ⟨r1, hr1⟩ : ∃ z : List UInt8, z = num 1 (near x.kind 255) := ⟨_, rfl⟩
    have lr1 : r1.length = 1 := by rw [hr1]; simp [num_len1]
    obtain ⟨r2, hr2⟩ : ∃ z : List UInt8, z = r1 ++ [0] := ⟨_, rfl⟩
    have lr2 : r2.length = 2 := by rw [hr2]; simp [lr1]
    obtain ⟨r3, hr3⟩ : ∃ z : List UInt8, z = r2 ++ num 2 ((x.body.length : Nat) : Int) := ⟨_, rfl⟩
    have lr3 : r3.length = 4 := by rw [hr3]; simp [lr2, num_len2]
    obtain ⟨r4, hr4⟩ : ∃ z : List UInt8, z = r3 ++ cutTo Y 472 := ⟨_, rfl⟩
    have lr4 : r4.length = 476 := by rw [hr4]; simp [lr3, cutTo_length]
    obtain ⟨r5, hr5⟩ : ∃ z : List UInt8, z = r4 ++ num 8 (near x.no maxEpoch) := ⟨_, rfl⟩
    have lr5 : r5.length = 484 := by rw [hr5]; simp [lr4, num_len8]
    obtain ⟨r6, hr6⟩ : ∃ z : List UInt8, z = r5 ++ num 8 (near x.epoch maxEpoch) := ⟨_, rfl⟩
    have lr6 : r6.length = 492 := by rw [hr6]; simp [lr5, num_len8]
    obtain ⟨t1, ht1⟩ : ∃ z : List UInt8, z = [] ++ q2 := ⟨_, rfl⟩
    have lt1 : t1.length = 16 := by rw [ht1]; simp [lq2]
    obtain ⟨t2, ht2⟩ : ∃ z : List UInt8, z = t1 ++ r6 := ⟨_, rfl⟩
    have lt2 : t2.length = 508 := by rw [ht2]; simp [lt1, lr6]
    obtain ⟨f3, hf3⟩ : ∃ z : List UInt8, z = q2 ++ num 4 (crcOf t2 : Nat) := ⟨_, rfl⟩
    have lf3 : f3.length = 20 := by rw [hf3]; simp [lq2, num_len4]
    obtain ⟨f4, hf4⟩ : ∃ z : List UInt8, z = f3 ++ r6 := ⟨_, rfl⟩
    have lf4 : f4.length = 512 := by rw [hf4]; simp [lf3, lr6]
    have HFq := Lib.hid (show sealFront x = q2 by rw [hq2, hq1, hfr])
    have HRq := Lib.hid (show sealRest x = r6 by rw [hr6, hr5, hr4, hr3, hr2, hr1, hre, hMl]; simp only [List.append_assoc])
    have HTq := (show t2 = sealFront x ++ sealRest x by rw [HFq.out, HRq.out, ht2, ht1, List.nil_append])
    have HFin := Lib.hid (show sealBytes x = f4 by rw [hf4, hf3, List.append_assoc, sealBytes, HFq.out, HRq.out, HTq, HFq.out, HRq.out])
    have WCT := Lib.hid (show (Lit.int .i64 ((crcOf t2 : Nat) : Int)).wf = true by rw [HTq]; exact WC.out)
    have LT1 := Lib.hid (show ([] : List UInt8).length + q2.length ≤ maxLen ∧ (([] : List UInt8).length + q2.length) * 1 ≤ 140737488355328 by rw [lq2]; decide)
    have LT2 := Lib.hid (show t1.length + r6.length ≤ maxLen ∧ (t1.length + r6.length) * 1 ≤ 140737488355328 by rw [lt1, lr6]; decide)
    have L3 := Lib.hid (show q2.length + (num 4 (crcOf t2 : Nat)).length ≤ maxLen ∧ (q2.length + (num 4 (crcOf t2 : Nat)).length) * 1 ≤ 140737488355328 by rw [lq2, num_len4]; decide)
    have L4 := Lib.hid (show f3.length + r6.length ≤ maxLen ∧ (f3.length + r6.length) * 1 ≤ 140737488355328 by rw [lf3, lr6]; decide)
    have L1 := Lib.hid (show q1.length + (num 8 (near x.no maxEpoch)).length ≤ maxLen ∧ (q1.length + (num 8 (near x.no maxEpoch)).length) * 1 ≤ 140737488355328 by rw [lq1, num_len8]; decide)
    have M1 := Lib.hid (show r1.length + 1 ≤ maxLen ∧ (r1.length + 1) * 1 ≤ 140737488355328 by rw [lr1]; decide)
    have M2 := Lib.hid (show r2.length + (num 2 ((x.body.length : Nat) : Int)).length ≤ maxLen ∧ (r2.length + (num 2 ((x.body.length : Nat) : Int)).length) * 1 ≤ 140737488355328 by rw [lr2, num_len2]; decide)
    have M3 := Lib.hid (show r3.length + (cutTo Y 472).length ≤ maxLen ∧ (r3.length + (cutTo Y 472).length) * 1 ≤ 140737488355328 by rw [lr3, cutTo_length]; decide)
    have M4 := Lib.hid (show r4.length + (num 8 (near x.no maxEpoch)).length ≤ maxLen ∧ (r4.length + (num 8 (near x.no maxEpoch)).length) * 1 ≤ 140737488355328 by rw [lr4, num_len8]; decide)
    have M5 := Lib.hid (show r5.length + (num 8 (near x.epoch maxEpoch)).length ≤ maxLen ∧ (r5.length + (num 8 (near x.epoch maxEpoch)).length) * 1 ≤ 140737488355328 by rw [lr5, num_len8]; decide)
    have E1 := Lib.hid hq1
    have E2 := Lib.hid hq2
    have F1 := Lib.hid hr1
    have F2 := Lib.hid hr2
    have F3 := Lib.hid hr3
    have F4 := Lib.hid hr4
    have F5 := Lib.hid hr5
    have F6 := Lib.hid hr6
    have ET1 := Lib.hid ht1
    have ET2 := Lib.hid ht2
    have E3 := Lib.hid hf3
    have E4 := Lib.hid hf4
    have LQ2 := Lib.hid lq2
    have LR6 := Lib.hid lr6
    have HB := Lib.hid (show ∀ W, Below W1.heap.size W1 W → Rep.byte.list.val (fun b => b < w.heap.size) W (.slice A x.body.length c) Y from fun W h => HB0.out W h _ hMl.symm)
    have WM := Lib.hid (show (Lit.int .i64 ((x.body.length : Nat) : Int)).wf = true from wf_i64 (by omega) (by omega))
    clear hq1 lq1 hq2 lq2 hr1 lr1 hr2 lr2 hr3 lr3 hr4 lr4 hr5 lr5 hr6 lr6 ht1 lt1 ht2 lt2 hf3 lf3 hf4 lf4 hfr hre hMl hYl hY HTq
    go_enter Try.func151, Try.ntmps151
    go_wp2_with fail
    try rw [hW1]
    clear hW1
    go_quiet ((go_at_call 204; exact Calls.quiet_of_same (rnear_calls _)))
    have D00 := Lib.hid (show Below W1.heap.size W1 (W1.drewN nq) from below_drewN (Below.refl _ _) nq)
    have hsz : (W1.drewN nq).heap.size = W1.heap.size := rfl
    have hc0 := KS0.out _ D00.out
    clear c0 c1 c2 c3
    have KS := Lib.hid (show ∀ W, Below (W1.drewN nq).heap.size (W1.drewN nq) W → SealBox W w.heap.size x A c ∧ Below w.heap.size w W from fun W h => KS0.out _ (D00.out.trans h))
    have HBd := Lib.hid (show ∀ W, Below (W1.drewN nq).heap.size (W1.drewN nq) W → Rep.byte.list.val (fun b => b < w.heap.size) W (.slice A x.body.length c) Y from fun W h => HB.out _ (D00.out.trans h))
    clear HB
    have HB := HBd
    clear HBd D00 HB0 KS0 hsz
    generalize W1.drewN nq = W4 at *
    obtain ⟨c0, c1, c2, c3, _⟩ := hc0.1
    clear hc0
    go_wp2_with fail
    refine (rnum_calls (width := 8) (n := near x.epoch maxEpoch) rfl WE.out).mono ?_
    rintro e w1 ⟨u1, rfl, hu, hb⟩
    have HU1 := Lib.hid hu
    have D1 := Lib.hid hb
    rw [← E1.out] at hu
    have HF1 := Lib.hid hu
    clear hu hb c0 c1 c2 c3
    obtain ⟨c0, c1, c2, c3, _⟩ := (KS.out _ D1.out).1
    go_wp2_with fail
    refine (rnum_calls (width := 8) (n := near x.no maxEpoch) rfl WN.out).mono ?_
    rintro e w2 ⟨u2, rfl, hu, hb⟩
    have HN2 := Lib.hid (Rep.acc_fresh hu)
    have G2 := Lib.hid (D1.out.trans (hb.mono D1.out.size))
    have HA2 := Lib.hid (Rep.acc_later HF1.out hb)
    clear hu hb c0 c1 c2 c3
    obtain ⟨c0, c1, c2, c3, _⟩ := (KS.out _ G2.out).1
    go_wp2_with (first
      | (refine wpList_spread_leaf (e := 5) (base := W4.heap.size) (Q := fun _ => False) Rep.leaf_byte rfl _ _ 36 rfl (.int .u8 0) 1 1 Try.underlying36 info5 rfl (by decide) rfl _ q1 (by exact rfl) HA2.out _ (num 8 (near x.no maxEpoch)) (by exact rfl) HN2.out L1.out.1 L1.out.2 G2.out.size ?_; intro v2 w3 hacc hgr hat; rw [← E2.out] at hacc; have HF2 := Lib.hid hacc; have D2 := Lib.hid (Rep.acc_below HA2.out G2.out hgr G2.out.size); clear hacc hgr hat c0 c1 c2 c3; obtain ⟨c0, c1, c2, c3, _⟩ := (KS.out _ D2.out).1)
      | (go_at_call 204; refine (rnear_calls _).mono ?_; rintro e w' ⟨rfl, hw⟩; have hw2 := hw.symm; subst hw2; clear hw))
    have R0 := Lib.hid (Below.refl w3.heap.size w3)
    refine (rnum_calls (width := 1) (n := near x.kind 255) rfl WK.out).mono ?_
    rintro e w4 ⟨u3, rfl, hu, hb⟩
    rw [← F1.out] at hu
    have HR1 := Lib.hid hu
    have R1 := Lib.hid hb
    clear hu hb c0 c1 c2 c3
    obtain ⟨c0, c1, c2, c3, _⟩ := (KS.out _ (D2.out.trans (R1.out.mono D2.out.size))).1
    go_wp2_with (refine wpList_snoc (e := 5) (base := w3.heap.size) (Q := fun _ => False) (r := Rep.byte) rfl rfl _ _ 36 _ rfl rfl rfl (.int .u8 0) 1 1 Try.underlying36 info5 rfl (by decide) rfl _ _ HR1.out (0 : UInt8) _ (by exact rfl) lit0 (by exact rfl) (by exact rfl) M1.out.1 M1.out.2 R1.out.size ?_; intro v3 w5 hacc hgr hat; rw [← F2.out] at hacc; have HR2 := Lib.hid hacc; have R2 := Lib.hid (Rep.acc_below HR1.out R1.out hgr R1.out.size); clear hacc hgr hat)
    refine (rnum_calls (width := 2) (n := ((x.body.length : Nat) : Int)) rfl WM.out).mono ?_
    rintro e w6 ⟨u4, rfl, hu, hb⟩
    have N3 := Lib.hid (Rep.acc_fresh hu)
    have P3 := Lib.hid (R2.out.trans (hb.mono R2.out.size))
    have HA3 := Lib.hid (Rep.acc_later HR2.out hb)
    clear hu hb c0 c1 c2 c3
    go_wp2_with (refine wpList_spread_leaf (e := 5) (base := w3.heap.size) (Q := fun _ => False) Rep.leaf_byte rfl _ _ 36 rfl (.int .u8 0) 1 1 Try.underlying36 info5 rfl (by decide) rfl _ r2 (by exact rfl) HA3.out _ (num 2 ((x.body.length : Nat) : Int)) (by exact rfl) N3.out M2.out.1 M2.out.2 P3.out.size ?_; intro v4 w7 hacc hgr hat; rw [← F3.out] at hacc; have HR3 := Lib.hid hacc; have R3 := Lib.hid (Rep.acc_below HA3.out P3.out hgr P3.out.size); clear hacc hgr hat)
    refine (rcutTo_calls (n := 472) (l := Y) (HB.out _ (D2.out.trans (R3.out.mono D2.out.size))) (by decide)).mono ?_
    rintro e w8 ⟨u5, rfl, hu, hb⟩
    have N4 := Lib.hid (Rep.acc_fresh hu)
    have P4 := Lib.hid (R3.out.trans (hb.mono R3.out.size))
    have HA4 := Lib.hid (Rep.acc_later HR3.out hb)
    clear hu hb
    go_wp2_with (refine wpList_spread_leaf (e := 5) (base := w3.heap.size) (Q := fun _ => False) Rep.leaf_byte rfl _ _ 36 rfl (.int .u8 0) 1 1 Try.underlying36 info5 rfl (by decide) rfl _ r3 (by exact rfl) HA4.out _ (cutTo Y 472) (by exact rfl) N4.out M3.out.1 M3.out.2 P4.out.size ?_; intro v5 w9 hacc hgr hat; rw [← F4.out] at hacc; have HR4 := Lib.hid hacc; have R4 := Lib.hid (Rep.acc_below HA4.out P4.out hgr P4.out.size); clear hacc hgr hat)
    refine (rnum_calls (width := 8) (n := near x.no maxEpoch) rfl WN.out).mono ?_
    rintro e w10 ⟨u6, rfl, hu, hb⟩
    have N5 := Lib.hid (Rep.acc_fresh hu)
    have P5 := Lib.hid (R4.out.trans (hb.mono R4.out.size))
    have HA5 := Lib.hid (Rep.acc_later HR4.out hb)
    clear hu hb
    go_wp2_with (refine wpList_spread_leaf (e := 5) (base := w3.heap.size) (Q := fun _ => False) Rep.leaf_byte rfl _ _ 36 rfl (.int .u8 0) 1 1 Try.underlying36 info5 rfl (by decide) rfl _ r4 (by exact rfl) HA5.out _ (num 8 (near x.no maxEpoch)) (by exact rfl) N5.out M4.out.1 M4.out.2 P5.out.size ?_; intro v6 w11 hacc hgr hat; rw [← F5.out] at hacc; have HR5 := Lib.hid hacc; have R5 := Lib.hid (Rep.acc_below HA5.out P5.out hgr P5.out.size); clear hacc hgr hat)
    refine (rnum_calls (width := 8) (n := near x.epoch maxEpoch) rfl WE.out).mono ?_
    rintro e w12 ⟨u7, rfl, hu, hb⟩
    have N6 := Lib.hid (Rep.acc_fresh hu)
    have P6 := Lib.hid (R5.out.trans (hb.mono R5.out.size))
    have HA6 := Lib.hid (Rep.acc_later HR5.out hb)
    clear hu hb
    go_wp2_with (first
      | (refine wpList_spread_leaf (e := 5) (base := w3.heap.size) (Q := fun _ => False) Rep.leaf_byte rfl _ _ 36 rfl (.int .u8 0) 1 1 Try.underlying36 info5 rfl (by decide) rfl _ r5 (by exact rfl) HA6.out _ (num 8 (near x.epoch maxEpoch)) (by exact rfl) N6.out M5.out.1 M5.out.2 P6.out.size ?_; intro v7 w13 hacc hgr hat; rw [← F6.out] at hacc; have HR6 := Lib.hid hacc; have R6 := Lib.hid (Rep.acc_below HA6.out P6.out hgr P6.out.size); clear hacc hgr hat; have T0 := Lib.hid (Rep.acc_made (r := Rep.byte) (e := 5) (base := w13.heap.size) (Q := fun _ => False) w13 #[] 0 (Nat.le_refl _) (by decide) rfl); have TB0 := Lib.hid (show Below w13.heap.size w13 (w13.alloc (.cells #[] 5)) from (Below.refl _ _).alloc (Nat.le_refl _) _); have FV0 := Lib.hid (Rep.acc_val (Rep.acc_later HF2.out (R6.out.trans (TB0.out.mono R6.out.size)))))
      | (refine wpList_spread_leaf (e := 5) (base := w13.heap.size) (Q := fun _ => False) Rep.leaf_byte rfl _ _ 36 rfl (.int .u8 0) 1 1 Try.underlying36 info5 rfl (by decide) rfl _ [] (by exact rfl) T0.out _ q2 (by exact rfl) FV0.out LT1.out.1 LT1.out.2 TB0.out.size ?_; intro v8 w14 hacc hgr hat; rw [← ET1.out] at hacc; have T1 := Lib.hid hacc; have TB1 := Lib.hid (Rep.acc_below T0.out TB0.out hgr TB0.out.size); clear hacc hgr hat; have RV1 := Lib.hid (Rep.acc_val (Rep.acc_later HR6.out TB1.out)))
      | (refine wpList_spread_leaf (e := 5) (base := w13.heap.size) (Q := fun _ => False) Rep.leaf_byte rfl _ _ 36 rfl (.int .u8 0) 1 1 Try.underlying36 info5 rfl (by decide) rfl _ t1 (by exact rfl) T1.out _ r6 (by exact rfl) RV1.out LT2.out.1 LT2.out.2 TB1.out.size ?_; intro v9 w15 hacc hgr hat; rw [← ET2.out] at hacc; have T2 := Lib.hid hacc; have TB2 := Lib.hid (Rep.acc_below T1.out TB1.out hgr TB1.out.size); clear hacc hgr hat))
    refine (rcrc_calls (l := t2) (Rep.acc_val T2.out)).mono ?_
    rintro e w' ⟨rfl, hw⟩
    have hw2 := hw.symm
    subst hw2
    clear hw
    have hwr := crc_i64 t2
    go_wp2_with fail
    refine (rnum_calls (width := 4) (n := (crcOf t2 : Nat)) rfl WCT.out).mono ?_
    rintro e w16 ⟨u8, rfl, hu, hb⟩
    have HN8 := Lib.hid (Rep.acc_fresh hu)
    have G8 := Lib.hid (R6.out.trans ((TB2.out.trans (hb.mono TB2.out.size)).mono R6.out.size))
    have GG8 := Lib.hid (D2.out.trans (G8.out.mono D2.out.size))
    have FA8 := Lib.hid (Rep.acc_later HF2.out G8.out)
    have RV8 := Lib.hid (Rep.val_below (B := w13.heap.size) (Rep.acc_fresh HR6.out) (TB2.out.trans (hb.mono TB2.out.size)) fun _ _ h => h.lt)
    have HRO := Lib.hid (show ∀ b, w3.heap.size ≤ b → v2.ownBlock ≠ some b from fun b hb he => by have := (Rep.acc_own HF2.out b he).2; omega)
    clear hu hb
    go_wp2_with (first
      | (refine wpList_spread_leaf (e := 5) (base := W4.heap.size) (Q := fun _ => False) Rep.leaf_byte rfl _ _ 36 rfl (.int .u8 0) 1 1 Try.underlying36 info5 rfl (by decide) rfl _ q2 (by exact rfl) FA8.out _ (num 4 (crcOf t2 : Nat)) (by exact rfl) HN8.out L3.out.1 L3.out.2 GG8.out.size ?_; intro v10 w17 hacc hgr hat; rw [← E3.out] at hacc; have HF3 := Lib.hid hacc; have D3 := Lib.hid (Rep.acc_below FA8.out GG8.out hgr GG8.out.size); have RV9 := Lib.hid (Rep.val_grown RV8.out hgr HRO.out); clear hacc hgr hat)
      | (refine wpList_spread_leaf (e := 5) (base := W4.heap.size) (Q := fun _ => False) Rep.leaf_byte rfl _ _ 36 rfl (.int .u8 0) 1 1 Try.underlying36 info5 rfl (by decide) rfl _ f3 (by exact rfl) HF3.out _ r6 (by exact rfl) RV9.out L4.out.1 L4.out.2 D3.out.size ?_; intro v11 w18 hacc hgr hat; rw [← E4.out] at hacc; have HF4 := Lib.hid hacc; have D4 := Lib.hid (Rep.acc_below HF3.out D3.out hgr D3.out.size); clear hacc hgr hat))
    go_ret
    exact ⟨_, rfl, by rw [HFin.out]; exact Rep.val_mono (fun b hb _ => Nat.le_trans (KS.out _ (Below.refl _ _)).2.size hb) (Rep.acc_fresh HF4.out), (KS.out _ D4.out).2⟩
  · have hMl : Y.length = 472 := by rw [hY, List.length_take]; omega
    have g472 : (472 : Int) < x.body.length := by omega
    have g473 : (472 : Int) ≤ c := by omega
    obtain ⟨q1, hq1⟩ : ∃ z : List UInt8, z = num 8 (near x.epoch maxEpoch) := ⟨_, rfl⟩
    have lq1 : q1.length = 8 := by rw [hq1]; simp [num_len8]
    obtain ⟨q2, hq2⟩ : ∃ z : List UInt8, z = q1 ++ num 8 (near x.no maxEpoch) := ⟨_, rfl⟩
    have lq2 : q2.length = 16 := by rw [hq2]; simp [lq1, num_len8]
    obtain ⟨r1, hr1⟩ : ∃ z : List UInt8, z = num 1 (near x.kind 255) := ⟨_, rfl⟩
    have lr1 : r1.length = 1 := by rw [hr1]; simp [num_len1]
    obtain ⟨r2, hr2⟩ : ∃ z : List UInt8, z = r1 ++ [0] := ⟨_, rfl⟩
    have lr2 : r2.length = 2 := by rw [hr2]; simp [lr1]
    obtain ⟨r3, hr3⟩ : ∃ z : List UInt8, z = r2 ++ num 2 ((472 : Nat) : Int) := ⟨_, rfl⟩
    have lr3 : r3.length = 4 := by rw [hr3]; simp [lr2, num_len2]
    obtain ⟨r4, hr4⟩ : ∃ z : List UInt8, z = r3 ++ cutTo Y 472 := ⟨_, rfl⟩
    have lr4 : r4.length = 476 := by rw [hr4]; simp [lr3, cutTo_length]
    obtain ⟨r5, hr5⟩ : ∃ z : List UInt8, z = r4 ++ num 8 (near x.no maxEpoch) := ⟨_, rfl⟩
    have lr5 : r5.length = 484 := by rw [hr5]; simp [lr4, num_len8]
    obtain ⟨r6, hr6⟩ : ∃ z : List UInt8, z = r5 ++ num 8 (near x.epoch maxEpoch) := ⟨_, rfl⟩
    have lr6 : r6.length = 492 := by rw [hr6]; simp [lr5, num_len8]
    obtain ⟨t1, ht1⟩ : ∃ z : List UInt8, z = [] ++ q2 := ⟨_, rfl⟩
    have lt1 : t1.length = 16 := by rw [ht1]; simp [lq2]
    obtain ⟨t2, ht2⟩ : ∃ z : List UInt8, z = t1 ++ r6 := ⟨_, rfl⟩
    have lt2 : t2.length = 508 := by rw [ht2]; simp [lt1, lr6]
    obtain ⟨f3, hf3⟩ : ∃ z : List UInt8, z = q2 ++ num 4 (crcOf t2 : Nat) := ⟨_, rfl⟩
    have lf3 : f3.length = 20 := by rw [hf3]; simp [lq2, num_len4]
    obtain ⟨f4, hf4⟩ : ∃ z : List UInt8, z = f3 ++ r6 := ⟨_, rfl⟩
    have lf4 : f4.length = 512 := by rw [hf4]; simp [lf3, lr6]
    have HFq := Lib.hid (show sealFront x = q2 by rw [hq2, hq1, hfr])
    have HRq := Lib.hid (show sealRest x = r6 by rw [hr6, hr5, hr4, hr3, hr2, hr1, hre, hMl]; simp only [List.append_assoc])
    have HTq := (show t2 = sealFront x ++ sealRest x by rw [HFq.out, HRq.out, ht2, ht1, List.nil_append])
    have HFin := Lib.hid (show sealBytes x = f4 by rw [hf4, hf3, List.append_assoc, sealBytes, HFq.out, HRq.out, HTq, HFq.out, HRq.out])
    have WCT := Lib.hid (show (Lit.int .i64 ((crcOf t2 : Nat) : Int)).wf = true by rw [HTq]; exact WC.out)
    have LT1 := Lib.hid (show ([] : List UInt8).length + q2.length ≤ maxLen ∧ (([] : List UInt8).length + q2.length) * 1 ≤ 140737488355328 by rw [lq2]; decide)
    have LT2 := Lib.hid (show t1.length + r6.length ≤ maxLen ∧ (t1.length + r6.length) * 1 ≤ 140737488355328 by rw [lt1, lr6]; decide)
    have L3 := Lib.hid (show q2.length + (num 4 (crcOf t2 : Nat)).length ≤ maxLen ∧ (q2.length + (num 4 (crcOf t2 : Nat)).length) * 1 ≤ 140737488355328 by rw [lq2, num_len4]; decide)
    have L4 := Lib.hid (show f3.length + r6.length ≤ maxLen ∧ (f3.length + r6.length) * 1 ≤ 140737488355328 by rw [lf3, lr6]; decide)
    have L1 := Lib.hid (show q1.length + (num 8 (near x.no maxEpoch)).length ≤ maxLen ∧ (q1.length + (num 8 (near x.no maxEpoch)).length) * 1 ≤ 140737488355328 by rw [lq1, num_len8]; decide)
    have M1 := Lib.hid (show r1.length + 1 ≤ maxLen ∧ (r1.length + 1) * 1 ≤ 140737488355328 by rw [lr1]; decide)
    have M2 := Lib.hid (show r2.length + (num 2 ((472 : Nat) : Int)).length ≤ maxLen ∧ (r2.length + (num 2 ((472 : Nat) : Int)).length) * 1 ≤ 140737488355328 by rw [lr2, num_len2]; decide)
    have M3 := Lib.hid (show r3.length + (cutTo Y 472).length ≤ maxLen ∧ (r3.length + (cutTo Y 472).length) * 1 ≤ 140737488355328 by rw [lr3, cutTo_length]; decide)
    have M4 := Lib.hid (show r4.length + (num 8 (near x.no maxEpoch)).length ≤ maxLen ∧ (r4.length + (num 8 (near x.no maxEpoch)).length) * 1 ≤ 140737488355328 by rw [lr4, num_len8]; decide)
    have M5 := Lib.hid (show r5.length + (num 8 (near x.epoch maxEpoch)).length ≤ maxLen ∧ (r5.length + (num 8 (near x.epoch maxEpoch)).length) * 1 ≤ 140737488355328 by rw [lr5, num_len8]; decide)
    have E1 := Lib.hid hq1
    have E2 := Lib.hid hq2
    have F1 := Lib.hid hr1
    have F2 := Lib.hid hr2
    have F3 := Lib.hid hr3
    have F4 := Lib.hid hr4
    have F5 := Lib.hid hr5
    have F6 := Lib.hid hr6
    have ET1 := Lib.hid ht1
    have ET2 := Lib.hid ht2
    have E3 := Lib.hid hf3
    have E4 := Lib.hid hf4
    have LQ2 := Lib.hid lq2
    have LR6 := Lib.hid lr6
    have HB := Lib.hid (show ∀ W, Below W1.heap.size W1 W → Rep.byte.list.val (fun b => b < w.heap.size) W (.slice A 472 c) Y from fun W h => HB0.out W h _ hMl.symm)
    have WM := Lib.hid (show (Lit.int .i64 ((472 : Nat) : Int)).wf = true from wf_i64 (by omega) (by omega))
    clear hq1 lq1 hq2 lq2 hr1 lr1 hr2 lr2 hr3 lr3 hr4 lr4 hr5 lr5 hr6 lr6 ht1 lt1 ht2 lt2 hf3 lf3 hf4 lf4 hfr hre hMl hYl hY HTq
    go_enter Try.func151, Try.ntmps151
    go_wp2_with fail
    try rw [hW1]
    clear hW1
    go_quiet ((go_at_call 204; exact Calls.quiet_of_same (rnear_calls _)))
    have D00 := Lib.hid (show Below W1.heap.size W1 (W1.drewN nq) from below_drewN (Below.refl _ _) nq)
    have hsz : (W1.drewN nq).heap.size = W1.heap.size := rfl
    have hc0 := KS0.out _ D00.out
    clear c0 c1 c2 c3
    have KS := Lib.hid (show ∀ W, Below (W1.drewN nq).heap.size (W1.drewN nq) W → SealBox W w.heap.size x A c ∧ Below w.heap.size w W from fun W h => KS0.out _ (D00.out.trans h))
    have HBd := Lib.hid (show ∀ W, Below (W1.drewN nq).heap.size (W1.drewN nq) W → Rep.byte.list.val (fun b => b < w.heap.size) W (.slice A 472 c) Y from fun W h => HB.out _ (D00.out.trans h))
    clear HB
    have HB := HBd
    clear HBd D00 HB0 KS0 hsz
    generalize W1.drewN nq = W4 at *
    obtain ⟨c0, c1, c2, c3, _⟩ := hc0.1
    clear hc0
    go_wp2_with fail
    refine (rnum_calls (width := 8) (n := near x.epoch maxEpoch) rfl WE.out).mono ?_
    rintro e w1 ⟨u1, rfl, hu, hb⟩
    have HU1 := Lib.hid hu
    have D1 := Lib.hid hb
    rw [← E1.out] at hu
    have HF1 := Lib.hid hu
    clear hu hb c0 c1 c2 c3
    obtain ⟨c0, c1, c2, c3, _⟩ := (KS.out _ D1.out).1
    go_wp2_with fail
    refine (rnum_calls (width := 8) (n := near x.no maxEpoch) rfl WN.out).mono ?_
    rintro e w2 ⟨u2, rfl, hu, hb⟩
    have HN2 := Lib.hid (Rep.acc_fresh hu)
    have G2 := Lib.hid (D1.out.trans (hb.mono D1.out.size))
    have HA2 := Lib.hid (Rep.acc_later HF1.out hb)
    clear hu hb c0 c1 c2 c3
    obtain ⟨c0, c1, c2, c3, _⟩ := (KS.out _ G2.out).1
    go_wp2_with (first
      | (refine wpList_spread_leaf (e := 5) (base := W4.heap.size) (Q := fun _ => False) Rep.leaf_byte rfl _ _ 36 rfl (.int .u8 0) 1 1 Try.underlying36 info5 rfl (by decide) rfl _ q1 (by exact rfl) HA2.out _ (num 8 (near x.no maxEpoch)) (by exact rfl) HN2.out L1.out.1 L1.out.2 G2.out.size ?_; intro v2 w3 hacc hgr hat; rw [← E2.out] at hacc; have HF2 := Lib.hid hacc; have D2 := Lib.hid (Rep.acc_below HA2.out G2.out hgr G2.out.size); clear hacc hgr hat c0 c1 c2 c3; obtain ⟨c0, c1, c2, c3, _⟩ := (KS.out _ D2.out).1)
      | (go_at_call 204; refine (rnear_calls _).mono ?_; rintro e w' ⟨rfl, hw⟩; have hw2 := hw.symm; subst hw2; clear hw))
    have R0 := Lib.hid (Below.refl w3.heap.size w3)
    refine (rnum_calls (width := 1) (n := near x.kind 255) rfl WK.out).mono ?_
    rintro e w4 ⟨u3, rfl, hu, hb⟩
    rw [← F1.out] at hu
    have HR1 := Lib.hid hu
    have R1 := Lib.hid hb
    clear hu hb c0 c1 c2 c3
    obtain ⟨c0, c1, c2, c3, _⟩ := (KS.out _ (D2.out.trans (R1.out.mono D2.out.size))).1
    go_wp2_with (refine wpList_snoc (e := 5) (base := w3.heap.size) (Q := fun _ => False) (r := Rep.byte) rfl rfl _ _ 36 _ rfl rfl rfl (.int .u8 0) 1 1 Try.underlying36 info5 rfl (by decide) rfl _ _ HR1.out (0 : UInt8) _ (by exact rfl) lit0 (by exact rfl) (by exact rfl) M1.out.1 M1.out.2 R1.out.size ?_; intro v3 w5 hacc hgr hat; rw [← F2.out] at hacc; have HR2 := Lib.hid hacc; have R2 := Lib.hid (Rep.acc_below HR1.out R1.out hgr R1.out.size); clear hacc hgr hat)
    refine (rnum_calls (width := 2) (n := ((472 : Nat) : Int)) rfl WM.out).mono ?_
    rintro e w6 ⟨u4, rfl, hu, hb⟩
    have N3 := Lib.hid (Rep.acc_fresh hu)
    have P3 := Lib.hid (R2.out.trans (hb.mono R2.out.size))
    have HA3 := Lib.hid (Rep.acc_later HR2.out hb)
    clear hu hb c0 c1 c2 c3
    go_wp2_with (refine wpList_spread_leaf (e := 5) (base := w3.heap.size) (Q := fun _ => False) Rep.leaf_byte rfl _ _ 36 rfl (.int .u8 0) 1 1 Try.underlying36 info5 rfl (by decide) rfl _ r2 (by exact rfl) HA3.out _ (num 2 ((472 : Nat) : Int)) (by exact rfl) N3.out M2.out.1 M2.out.2 P3.out.size ?_; intro v4 w7 hacc hgr hat; rw [← F3.out] at hacc; have HR3 := Lib.hid hacc; have R3 := Lib.hid (Rep.acc_below HA3.out P3.out hgr P3.out.size); clear hacc hgr hat)
    refine (rcutTo_calls (n := 472) (l := Y) (HB.out _ (D2.out.trans (R3.out.mono D2.out.size))) (by decide)).mono ?_
    rintro e w8 ⟨u5, rfl, hu, hb⟩
    have N4 := Lib.hid (Rep.acc_fresh hu)
    have P4 := Lib.hid (R3.out.trans (hb.mono R3.out.size))
    have HA4 := Lib.hid (Rep.acc_later HR3.out hb)
    clear hu hb
    go_wp2_with (refine wpList_spread_leaf (e := 5) (base := w3.heap.size) (Q := fun _ => False) Rep.leaf_byte rfl _ _ 36 rfl (.int .u8 0) 1 1 Try.underlying36 info5 rfl (by decide) rfl _ r3 (by exact rfl) HA4.out _ (cutTo Y 472) (by exact rfl) N4.out M3.out.1 M3.out.2 P4.out.size ?_; intro v5 w9 hacc hgr hat; rw [← F4.out] at hacc; have HR4 := Lib.hid hacc; have R4 := Lib.hid (Rep.acc_below HA4.out P4.out hgr P4.out.size); clear hacc hgr hat)
    refine (rnum_calls (width := 8) (n := near x.no maxEpoch) rfl WN.out).mono ?_
    rintro e w10 ⟨u6, rfl, hu, hb⟩
    have N5 := Lib.hid (Rep.acc_fresh hu)
    have P5 := Lib.hid (R4.out.trans (hb.mono R4.out.size))
    have HA5 := Lib.hid (Rep.acc_later HR4.out hb)
    clear hu hb
    go_wp2_with (refine wpList_spread_leaf (e := 5) (base := w3.heap.size) (Q := fun _ => False) Rep.leaf_byte rfl _ _ 36 rfl (.int .u8 0) 1 1 Try.underlying36 info5 rfl (by decide) rfl _ r4 (by exact rfl) HA5.out _ (num 8 (near x.no maxEpoch)) (by exact rfl) N5.out M4.out.1 M4.out.2 P5.out.size ?_; intro v6 w11 hacc hgr hat; rw [← F5.out] at hacc; have HR5 := Lib.hid hacc; have R5 := Lib.hid (Rep.acc_below HA5.out P5.out hgr P5.out.size); clear hacc hgr hat)
    refine (rnum_calls (width := 8) (n := near x.epoch maxEpoch) rfl WE.out).mono ?_
    rintro e w12 ⟨u7, rfl, hu, hb⟩
    have N6 := Lib.hid (Rep.acc_fresh hu)
    have P6 := Lib.hid (R5.out.trans (hb.mono R5.out.size))
    have HA6 := Lib.hid (Rep.acc_later HR5.out hb)
    clear hu hb
    go_wp2_with (first
      | (refine wpList_spread_leaf (e := 5) (base := w3.heap.size) (Q := fun _ => False) Rep.leaf_byte rfl _ _ 36 rfl (.int .u8 0) 1 1 Try.underlying36 info5 rfl (by decide) rfl _ r5 (by exact rfl) HA6.out _ (num 8 (near x.epoch maxEpoch)) (by exact rfl) N6.out M5.out.1 M5.out.2 P6.out.size ?_; intro v7 w13 hacc hgr hat; rw [← F6.out] at hacc; have HR6 := Lib.hid hacc; have R6 := Lib.hid (Rep.acc_below HA6.out P6.out hgr P6.out.size); clear hacc hgr hat; have T0 := Lib.hid (Rep.acc_made (r := Rep.byte) (e := 5) (base := w13.heap.size) (Q := fun _ => False) w13 #[] 0 (Nat.le_refl _) (by decide) rfl); have TB0 := Lib.hid (show Below w13.heap.size w13 (w13.alloc (.cells #[] 5)) from (Below.refl _ _).alloc (Nat.le_refl _) _); have FV0 := Lib.hid (Rep.acc_val (Rep.acc_later HF2.out (R6.out.trans (TB0.out.mono R6.out.size)))))
      | (refine wpList_spread_leaf (e := 5) (base := w13.heap.size) (Q := fun _ => False) Rep.leaf_byte rfl _ _ 36 rfl (.int .u8 0) 1 1 Try.underlying36 info5 rfl (by decide) rfl _ [] (by exact rfl) T0.out _ q2 (by exact rfl) FV0.out LT1.out.1 LT1.out.2 TB0.out.size ?_; intro v8 w14 hacc hgr hat; rw [← ET1.out] at hacc; have T1 := Lib.hid hacc; have TB1 := Lib.hid (Rep.acc_below T0.out TB0.out hgr TB0.out.size); clear hacc hgr hat; have RV1 := Lib.hid (Rep.acc_val (Rep.acc_later HR6.out TB1.out)))
      | (refine wpList_spread_leaf (e := 5) (base := w13.heap.size) (Q := fun _ => False) Rep.leaf_byte rfl _ _ 36 rfl (.int .u8 0) 1 1 Try.underlying36 info5 rfl (by decide) rfl _ t1 (by exact rfl) T1.out _ r6 (by exact rfl) RV1.out LT2.out.1 LT2.out.2 TB1.out.size ?_; intro v9 w15 hacc hgr hat; rw [← ET2.out] at hacc; have T2 := Lib.hid hacc; have TB2 := Lib.hid (Rep.acc_below T1.out TB1.out hgr TB1.out.size); clear hacc hgr hat))
    refine (rcrc_calls (l := t2) (Rep.acc_val T2.out)).mono ?_
    rintro e w' ⟨rfl, hw⟩
    have hw2 := hw.symm
    subst hw2
    clear hw
    have hwr := crc_i64 t2
    go_wp2_with fail
    refine (rnum_calls (width := 4) (n := (crcOf t2 : Nat)) rfl WCT.out).mono ?_
    rintro e w16 ⟨u8, rfl, hu, hb⟩
    have HN8 := Lib.hid (Rep.acc_fresh hu)
    have G8 := Lib.hid (R6.out.trans ((TB2.out.trans (hb.mono TB2.out.size)).mono R6.out.size))
    have GG8 := Lib.hid (D2.out.trans (G8.out.mono D2.out.size))
    have FA8 := Lib.hid (Rep.acc_later HF2.out G8.out)
    have RV8 := Lib.hid (Rep.val_below (B := w13.heap.size) (Rep.acc_fresh HR6.out) (TB2.out.trans (hb.mono TB2.out.size)) fun _ _ h => h.lt)
    have HRO := Lib.hid (show ∀ b, w3.heap.size ≤ b → v2.ownBlock ≠ some b from fun b hb he => by have := (Rep.acc_own HF2.out b he).2; omega)
    clear hu hb
    go_wp2_with (first
      | (refine wpList_spread_leaf (e := 5) (base := W4.heap.size) (Q := fun _ => False) Rep.leaf_byte rfl _ _ 36 rfl (.int .u8 0) 1 1 Try.underlying36 info5 rfl (by decide) rfl _ q2 (by exact rfl) FA8.out _ (num 4 (crcOf t2 : Nat)) (by exact rfl) HN8.out L3.out.1 L3.out.2 GG8.out.size ?_; intro v10 w17 hacc hgr hat; rw [← E3.out] at hacc; have HF3 := Lib.hid hacc; have D3 := Lib.hid (Rep.acc_below FA8.out GG8.out hgr GG8.out.size); have RV9 := Lib.hid (Rep.val_grown RV8.out hgr HRO.out); clear hacc hgr hat)
      | (refine wpList_spread_leaf (e := 5) (base := W4.heap.size) (Q := fun _ => False) Rep.leaf_byte rfl _ _ 36 rfl (.int .u8 0) 1 1 Try.underlying36 info5 rfl (by decide) rfl _ f3 (by exact rfl) HF3.out _ r6 (by exact rfl) RV9.out L4.out.1 L4.out.2 D3.out.size ?_; intro v11 w18 hacc hgr hat; rw [← E4.out] at hacc; have HF4 := Lib.hid hacc; have D4 := Lib.hid (Rep.acc_below HF3.out D3.out hgr D3.out.size); clear hacc hgr hat))
    go_ret
    exact ⟨_, rfl, by rw [HFin.out]; exact Rep.val_mono (fun b hb _ => Nat.le_trans (KS.out _ (Below.refl _ _)).2.size hb) (Rep.acc_fresh HF4.out), (KS.out _ D4.out).2⟩
end Go.Proofs.Ytfpmkenobphfnaa
