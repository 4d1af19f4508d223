/- Walk of a superblock as a sector: ref26. Printed by gen_rsuperput.py. -/
import Derived.Test.YthjjnlilpklacaaSupRSeal
import Derived.Test.YthjjnlilpklacaaSupSuperPut
namespace Go.Proofs.Ythjjnlilpklacaa
open Go.RowKit

set_option maxRecDepth 100000 in
set_option maxHeartbeats 2000000 in
/-- ref26.Put -/
theorem rsuperPut_calls {Q : Nat → Prop} {w : World} {v : Value} {x : DSuper} (hx : rSuper.val Q w v x) (hd : x.dir.length ≤ 1000000) :
    Calls Try.prog 68 #[v] w (Res Rep.byte.list (fun b => w.heap.size ≤ b) w (superBytes x)) := by
  obtain ⟨A, c, rfl, f0, f1, f2, f3, f4, f5, f6, hs⟩ := rSuper_val hx
  have hsm := hs.2.1
  unfold maxLen at hsm
  obtain ⟨W1, hW1⟩ : ∃ W1, w.alloc (.cells #[.int .i64 x.epoch, .int .i64 x.gen, .int .i64 x.log, .int .i64 x.pages, .int .i64 x.head, .int .i64 x.seq, .int .i64 x.long, .slice A x.dir.length c] 114) = W1 := ⟨_, rfl⟩
  have hm : SuperBox W1 w.heap.size x A c := by rw [← hW1]; exact SuperBox.made hs _
  have hb1 : Below w.heap.size w W1 := by rw [← hW1]; exact (Below.refl _ _).alloc (Nat.le_refl _) _
  have hz1 : W1.heap.size = w.heap.size + 1 := by rw [← hW1]; simp
  have HB := Lib.hid hb1
  have KM := Lib.hid (show ∀ W, Below W1.heap.size W1 W → SuperBox W w.heap.size x A c from fun W h => hm.later (h.mono (Nat.le_of_eq hz1.symm)))
  have KS := Lib.hid (show ∀ W, Below W1.heap.size W1 W → W.cell? ⟨w.heap.size, 0, none⟩ = some (.int .i64 x.epoch) ∧ W.cell? ⟨w.heap.size, 1, none⟩ = some (.int .i64 x.gen) ∧ W.cell? ⟨w.heap.size, 2, none⟩ = some (.int .i64 x.log) ∧ W.cell? ⟨w.heap.size, 3, none⟩ = some (.int .i64 x.pages) ∧ W.cell? ⟨w.heap.size, 4, none⟩ = some (.int .i64 x.head) ∧ W.cell? ⟨w.heap.size, 5, none⟩ = some (.int .i64 x.seq) ∧ W.cell? ⟨w.heap.size, 6, none⟩ = some (.int .i64 x.long) ∧ W.cell? ⟨w.heap.size, 7, none⟩ = some (.slice A x.dir.length c) from
    fun W h => have m := KM.out W h; ⟨m.c0, m.c1, m.c2, m.c3, m.c4, m.c5, m.c6, m.c7⟩)
  obtain ⟨q1, hq1⟩ : ∃ z, z = num 4 x.log := ⟨_, rfl⟩
  obtain ⟨q2, hq2⟩ : ∃ z, z = q1 ++ num 4 x.pages := ⟨_, rfl⟩
  obtain ⟨q3, hq3⟩ : ∃ z, z = q2 ++ num 8 x.head := ⟨_, rfl⟩
  obtain ⟨q4, hq4⟩ : ∃ z, z = q3 ++ num 8 x.seq := ⟨_, rfl⟩
  obtain ⟨q5, hq5⟩ : ∃ z, z = q4 ++ num 4 x.long := ⟨_, rfl⟩
  have HH := Lib.hid (show q5 = superHead x by rw [hq5, hq4, hq3, hq2, hq1]; simp [superHead])
  have HN := Lib.hid (show q5.length = 28 by rw [HH.out]; exact superHead_length x)
  have n1 : q1.length = 4 := by rw [hq1, num_len4]
  have n2 : q2.length = 8 := by rw [hq2, List.length_append, num_len4]; omega
  have n3 : q3.length = 16 := by rw [hq3, List.length_append, num_len8]; omega
  have n4 : q4.length = 24 := by rw [hq4, List.length_append, num_len8]; omega
  have S2 := Lib.hid (show q1.length + (num 4 x.pages).length ≤ maxLen ∧ (q1.length + (num 4 x.pages).length) * 1 ≤ 140737488355328 by rw [num_len4]; unfold maxLen; omega)
  have S3 := Lib.hid (show q2.length + (num 8 x.head).length ≤ maxLen ∧ (q2.length + (num 8 x.head).length) * 1 ≤ 140737488355328 by rw [num_len8]; unfold maxLen; omega)
  have S4 := Lib.hid (show q3.length + (num 8 x.seq).length ≤ maxLen ∧ (q3.length + (num 8 x.seq).length) * 1 ≤ 140737488355328 by rw [num_len8]; unfold maxLen; omega)
  have S5 := Lib.hid (show q4.length + (num 4 x.long).length ≤ maxLen ∧ (q4.length + (num 4 x.long).length) * 1 ≤ 140737488355328 by rw [num_len4]; unfold maxLen; omega)
  have E1 := Lib.hid hq1
  have E2 := Lib.hid hq2
  have E3 := Lib.hid hq3
  have E4 := Lib.hid hq4
  have E5 := Lib.hid hq5
  have F0 := Lib.hid f0
  have F1 := Lib.hid f1
  have F2 := Lib.hid f2
  have F3 := Lib.hid f3
  have F4 := Lib.hid f4
  have F5 := Lib.hid f5
  have F6 := Lib.hid f6
  have HD := Lib.hid hd
  clear hx hs hm hq1 hq2 hq3 hq4 hq5 n1 n2 n3 n4 f0 f1 f2 f3 f4 f5 f6 hb1
  obtain ⟨c0, c1, c2, c3, c4, c5, c6, c7⟩ := KS.out _ (Below.refl _ _)
  go_enter Try.func68, Try.ntmps68
  go_wp2_with fail
  try rw [hW1]
  clear hW1
  go_wp2_with fail
  go_region_held3 (fun W => W.cell? ⟨w.heap.size, 2, none⟩ = some (.int .i64 x.log) ∧ W.cell? ⟨w.heap.size, 3, none⟩ = some (.int .i64 x.pages))
    (first
      | exact ⟨(KS.out _ (Below.refl _ _).drew).2.2.1, (KS.out _ (Below.refl _ _).drew).2.2.2.1⟩
      | exact ⟨(KS.out _ D1.out).2.2.1, (KS.out _ D1.out).2.2.2.1⟩
      | exact ⟨(KS.out _ G2.out).2.2.1, (KS.out _ G2.out).2.2.2.1⟩
      | exact ⟨(KS.out _ D2.out).2.2.1, (KS.out _ D2.out).2.2.2.1⟩)
    (first
      | (go_at_call_of 107 (Value.int IntKind.i64 x.log); refine (rnum_calls (width := 4) (n := x.log) rfl F2.out).mono ?_; rintro e w1 ⟨u1, rfl, hu1, hb1⟩; rw [← E1.out] at hu1; have D1 := Lib.hid ((Below.refl W1.heap.size W1).drew.trans hb1); have HU1 := Lib.hid hu1; obtain ⟨A_1, c_1, rfl, _, _⟩ := Rep.acc_form hu1; clear hu1 hb1)
      | (go_at_call_of 107 (Value.int IntKind.i64 x.pages); refine (rnum_calls (width := 4) (n := x.pages) rfl F3.out).mono ?_; rintro e w2 ⟨u2, rfl, hu2, hb2⟩; have G2 := Lib.hid (D1.out.trans (hb2.mono D1.out.size)); have HW2 := Lib.hid (Rep.acc_later HU1.out hb2); have HU2 := Lib.hid (Rep.acc_val hu2); clear hu2 hb2)
      | (refine step_spread_leaf (e := 5) (base := W1.heap.size) (Q := fun _ => False) Rep.leaf_byte rfl _ _ 22 rfl (.int .u8 0) 1 1 Try.underlying22 info5 rfl (by decide) rfl _ q1 (by exact rfl) HW2.out _ (num 4 x.pages) (by exact rfl) HU2.out S2.out.1 S2.out.2 G2.out.size ?_; intro s2 a2 hacc2 hgr2 hat2; rw [← E2.out] at hacc2; have D2 := Lib.hid (Rep.acc_below HW2.out G2.out hgr2 G2.out.size); have HV2 := Lib.hid hacc2; clear hacc2 hgr2 hat2))
  clear c0 c1 c2 c3 c4 c5 c6 c7
  obtain ⟨c0, c1, c2, c3, c4, c5, c6, c7⟩ := KS.out _ D2.out
  go_wp2_with fail
  refine (rnum_calls (width := 8) (n := x.head) rfl F4.out).mono ?_
  rintro e v3 ⟨u3, rfl, hu3, hb3⟩
  have G3 := Lib.hid (D2.out.trans (hb3.mono D2.out.size))
  have U3 := Lib.hid (Rep.acc_val hu3)
  have V3 := Lib.hid (Rep.acc_later HV2.out hb3)
  clear hu3 hb3 c0 c1 c2 c3 c4 c5 c6 c7
  go_wp2_with (refine wpList_spread_leaf (e := 5) (base := W1.heap.size) (Q := fun _ => False) Rep.leaf_byte rfl _ _ 22 rfl (.int .u8 0) 1 1 Try.underlying22 info5 rfl (by decide) rfl _ q2 (by exact rfl) V3.out _ (num 8 x.head) (by exact rfl) U3.out S3.out.1 S3.out.2 G3.out.size ?_; intro s3 a3 hacc3 hgr3 hat3; rw [← E3.out] at hacc3; have D3 := Lib.hid (Rep.acc_below V3.out G3.out hgr3 G3.out.size); have HV3 := Lib.hid hacc3; clear hacc3 hgr3 hat3; obtain ⟨c0, c1, c2, c3, c4, c5, c6, c7⟩ := KS.out _ D3.out)
  go_wp2_with fail
  refine (rnum_calls (width := 8) (n := x.seq) rfl F5.out).mono ?_
  rintro e v4 ⟨u4, rfl, hu4, hb4⟩
  have G4 := Lib.hid (D3.out.trans (hb4.mono D3.out.size))
  have U4 := Lib.hid (Rep.acc_val hu4)
  have V4 := Lib.hid (Rep.acc_later HV3.out hb4)
  clear hu4 hb4 c0 c1 c2 c3 c4 c5 c6 c7
  go_wp2_with (refine wpList_spread_leaf (e := 5) (base := W1.heap.size) (Q := fun _ => False) Rep.leaf_byte rfl _ _ 22 rfl (.int .u8 0) 1 1 Try.underlying22 info5 rfl (by decide) rfl _ q3 (by exact rfl) V4.out _ (num 8 x.seq) (by exact rfl) U4.out S4.out.1 S4.out.2 G4.out.size ?_; intro s4 a4 hacc4 hgr4 hat4; rw [← E4.out] at hacc4; have D4 := Lib.hid (Rep.acc_below V4.out G4.out hgr4 G4.out.size); have HV4 := Lib.hid hacc4; clear hacc4 hgr4 hat4; obtain ⟨c0, c1, c2, c3, c4, c5, c6, c7⟩ := KS.out _ D4.out)
  go_wp2_with fail
  refine (rnum_calls (width := 4) (n := x.long) rfl F6.out).mono ?_
  rintro e v5 ⟨u5, rfl, hu5, hb5⟩
  have G5 := Lib.hid (D4.out.trans (hb5.mono D4.out.size))
  have U5 := Lib.hid (Rep.acc_val hu5)
  have V5 := Lib.hid (Rep.acc_later HV4.out hb5)
  clear hu5 hb5 c0 c1 c2 c3 c4 c5 c6 c7
  go_wp2_with (refine wpList_spread_leaf (e := 5) (base := W1.heap.size) (Q := fun _ => False) Rep.leaf_byte rfl _ _ 22 rfl (.int .u8 0) 1 1 Try.underlying22 info5 rfl (by decide) rfl _ q4 (by exact rfl) V5.out _ (num 4 x.long) (by exact rfl) U5.out S5.out.1 S5.out.2 G5.out.size ?_; intro s5 a5 hacc5 hgr5 hat5; rw [← E5.out] at hacc5; have D5 := Lib.hid (Rep.acc_below V5.out G5.out hgr5 G5.out.size); have HV5 := Lib.hid hacc5; clear hacc5 hgr5 hat5; obtain ⟨c0, c1, c2, c3, c4, c5, c6, c7⟩ := KS.out _ D5.out)
  have HSL := Lib.hid (show ∀ W, Below W1.heap.size a5 W → (Rep.int .i64).Sl (fun b => b < w.heap.size) W A c x.dir from fun W h => (KM.out W (D5.out.trans h)).sl)
  have HLJ := Lib.hid (show ∀ j, j ≤ x.dir.length → (q5 ++ ((x.dir.take j).map (num 2)).flatten).length ≤ 1000000000 by
    intro j hj; have h1 := HN.out; have h2 := HD.out; have h3 := nums2_length (x.dir.take j); have h4 : (x.dir.take j).length ≤ j := by rw [List.length_take]; omega
    rw [List.length_append, h3]; omega)
  clear c0 c1 c2 c3 c4 c5 c6 c7
  go_loopw [3, 4] (fun s i wr => ∃ j : Nat, i = .int .i64 j ∧ j ≤ x.dir.length ∧ Rep.byte.acc 5 W1.heap.size (fun _ => False) wr s (q5 ++ ((x.dir.take j).map (num 2)).flatten) ∧ Below W1.heap.size a5 wr)
    (fun _ i _ => x.dir.length - (intOf i).toNat)
  case atStart => exact ⟨0, rfl, by omega, by simpa using HV5.out, Below.refl _ _⟩
  case round =>
    obtain ⟨j, rfl, hj, hv, hb1⟩ := hrel
    have HB6 := Lib.hid hb1
    have B6 := Lib.hid (D5.out.trans hb1)
    obtain ⟨c0, c1, c2, c3, c4, c5, c6, c7⟩ := KS.out _ B6.out
    by_cases hlt2 : (j : Int) < x.dir.length
    · have hj' : j < x.dir.length := by omega
      obtain ⟨bp, op, rfl, cp0, wp0⟩ := Rep.At.int (HSL.out _ hb1).2.2 (List.getElem?_eq_getElem hj')
      have T2 := Lib.hid (show q5 ++ ((x.dir.take (j + 1)).map (num 2)).flatten = (q5 ++ ((x.dir.take j).map (num 2)).flatten) ++ num 2 x.dir[j] by rw [take_flatten_succ (num 2) hj', List.append_assoc])
      have L6 := Lib.hid (HLJ.out j (by omega))
      generalize x.dir[j] = p at *
      generalize q5 ++ ((x.dir.take j).map (num 2)).flatten = r at hv T2 L6
      have L7 := Lib.hid (show r.length + (num 2 p).length ≤ maxLen ∧ (r.length + (num 2 p).length) * 1 ≤ 140737488355328 by have h1 := L6.out; have h2 := num_length 2 p; unfold maxLen; omega)
      have HV6 := Lib.hid hv
      obtain ⟨A6, c6', rfl, _, _⟩ := Rep.acc_form hv
      clear hv hb1
      go_wp2_with fail
      refine (rnum_calls (width := 2) (n := p) rfl wp0).mono ?_
      rintro e w6 ⟨u6, rfl, hu6, hb6⟩
      have G6 := Lib.hid (HB6.out.trans (hb6.mono B6.out.size))
      have U6 := Lib.hid (Rep.acc_val hu6)
      have V6 := Lib.hid (Rep.acc_later HV6.out hb6)
      have Z6 := Lib.hid (Nat.le_trans B6.out.size hb6.size)
      clear hu6 hb6 c0 c1 c2 c3 c4 c5 c6 c7 cp0
      go_wp2_with (refine wpList_spread_leaf (e := 5) (base := W1.heap.size) (Q := fun _ => False) Rep.leaf_byte rfl _ _ 22 rfl (.int .u8 0) 1 1 Try.underlying22 info5 rfl (by decide) rfl _ r (by exact rfl) V6.out _ (num 2 p) (by exact rfl) U6.out L7.out.1 L7.out.2 Z6.out ?_; intro s6 a6 hacc6 hgr6 hat; rw [← T2.out] at hacc6; have D6 := Lib.hid (Rep.acc_below V6.out G6.out hgr6 Z6.out); have HV7 := Lib.hid hacc6; clear hacc6 hgr6 hat)
      exact ⟨⟨j + 1, by go_num, by omega, HV7.out, D6.out⟩, by simp [intOf]; omega⟩
    · obtain rfl : j = x.dir.length := by omega
      rw [show q5 ++ ((x.dir.take x.dir.length).map (num 2)).flatten = superBody x by rw [List.take_length, HH.out]; rfl] at hv
      have HL := Lib.hid (superBody_length x)
      obtain ⟨A6, c6', rfl, hl0, hl00⟩ := Rep.acc_form hv
      obtain ⟨A7, c7', he, hl1, hl2, hl3⟩ := Rep.val_list (Rep.acc_val hv)
      cases he
      have HV6 := Lib.hid (show rSeal.val _ wr (.agg #[.int .i64 x.epoch, .int .i64 x.gen, .int .i64 3, .slice A6 (superBody x).length c6']) ⟨x.epoch, x.gen, 3, superBody x⟩ from
        rSeal_agg (x := ⟨x.epoch, x.gen, 3, superBody x⟩) F0.out F1.out rfl ⟨hl1, hl2, hl3⟩)
      have T := Lib.hid (show superBytes x = sealBytes ⟨x.epoch, x.gen, 3, superBody x⟩ from rfl)
      have hlen : (superBody x).length = x.dir.length * 2 + 28 := by rw [HL.out]; omega
      generalize superBody x = q at *
      have HLQ := Lib.hid hlen
      clear hv hb1 hl3 hlen
      go_wp2_with fail
      refine (rsealPut_calls HV6.out).mono ?_
      rintro e w7 ⟨u7, rfl, hu7, hb7⟩
      go_wp2_with fail
      go_ret
      exact ⟨_, rfl, by rw [T.out]; exact Rep.val_mono (fun b hb _ => Nat.le_trans HB.out.size (Nat.le_trans B6.out.size hb)) hu7, HB.out.trans (B6.out.trans (hb7.mono B6.out.size) |>.mono HB.out.size)⟩
end Go.Proofs.Ythjjnlilpklacaa
