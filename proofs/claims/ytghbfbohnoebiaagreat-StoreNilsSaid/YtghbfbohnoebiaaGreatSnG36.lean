/- Texts on which the proofs stand: SuperPut, SuperSame. No condition is laid on any input. -/
import Derived.Test.YtghbfbohnoebiaaGreatSnG4
import Derived.Test.YtghbfbohnoebiaaGreatSnG32
namespace Go.Proofs.YtghbfbohnoebiaaGreat
open Go.RowKit

/-- A superblock in its box. -/
structure SuperBox (W : World) (B : Nat) (x : DSuper) (A : Option Addr) (c : Nat) : Prop where
  c0 : W.cell? ⟨B, 0, none⟩ = some (.int .i64 x.epoch)
  c1 : W.cell? ⟨B, 1, none⟩ = some (.int .i64 x.gen)
  c2 : W.cell? ⟨B, 2, none⟩ = some (.int .i64 x.log)
  c3 : W.cell? ⟨B, 3, none⟩ = some (.int .i64 x.pages)
  c4 : W.cell? ⟨B, 4, none⟩ = some (.int .i64 x.head)
  c5 : W.cell? ⟨B, 5, none⟩ = some (.int .i64 x.seq)
  c6 : W.cell? ⟨B, 6, none⟩ = some (.int .i64 x.long)
  c7 : W.cell? ⟨B, 7, none⟩ = some (.slice A x.dir.length c)
  sl : (Rep.int .i64).Sl (fun b => b < B) W A c x.dir
theorem SuperBox.later {W W' : World} {B : Nat} {x : DSuper} {A : Option Addr} {c : Nat} (h : SuperBox W B x A c) (hb : Below (B + 1) W W') : SuperBox W' B x A c :=
  ⟨(hb.cell (p := ⟨B, 0, none⟩) (Nat.lt_succ_self _)).trans h.c0, (hb.cell (p := ⟨B, 1, none⟩) (Nat.lt_succ_self _)).trans h.c1, (hb.cell (p := ⟨B, 2, none⟩) (Nat.lt_succ_self _)).trans h.c2, (hb.cell (p := ⟨B, 3, none⟩) (Nat.lt_succ_self _)).trans h.c3, (hb.cell (p := ⟨B, 4, none⟩) (Nat.lt_succ_self _)).trans h.c4, (hb.cell (p := ⟨B, 5, none⟩) (Nat.lt_succ_self _)).trans h.c5, (hb.cell (p := ⟨B, 6, none⟩) (Nat.lt_succ_self _)).trans h.c6, (hb.cell (p := ⟨B, 7, none⟩) (Nat.lt_succ_self _)).trans h.c7, h.sl.keep fun b hq _ => ⟨hq, hb.block b (by omega)⟩⟩
theorem SuperBox.made {Q : Nat → Prop} {w : World} {x : DSuper} {A : Option Addr} {c : Nat} (h : (Rep.int .i64).Sl Q w A c x.dir) (t : TypeId) :
    SuperBox (w.alloc (.cells #[.int .i64 x.epoch, .int .i64 x.gen, .int .i64 x.log, .int .i64 x.pages, .int .i64 x.head, .int .i64 x.seq, .int .i64 x.long, .slice A x.dir.length c] t)) w.heap.size x A c :=
  ⟨by simp, by simp, by simp, by simp, by simp, by simp, by simp, by simp, h.keep fun _ _ hl => ⟨hl.lt, Below.heap_alloc _ _ _ hl.lt⟩⟩

set_option maxRecDepth 100000 in
set_option maxHeartbeats 2000000 in
/-- super.Put -/
theorem superPut_calls {Q : Nat → Prop} {w : World} {v : Value} {x : DSuper} (hx : rSuper.val Q w v x) (hd : x.dir.length ≤ 1000000) :
    Calls Tryz.prog 120 #[v] w (Res Rep.byte.list (fun b => w.heap.size ≤ b) w (superBytes x)) := by
  obtain ⟨A, c, rfl, f0, f1, f2, f3, f4, f5, f6, hs⟩ := rSuper_val hx
  have hsm := hs.2.1
  unfold maxLen at hsm
  obtain ⟨W1, hW1⟩ : ∃ W1, w.alloc (.cells #[.int .i64 x.epoch, .int .i64 x.gen, .int .i64 x.log, .int .i64 x.pages, .int .i64 x.head, .int .i64 x.seq, .int .i64 x.long, .slice A x.dir.length c] 37) = W1 := ⟨_, rfl⟩
  have hm : SuperBox W1 w.heap.size x A c := by rw [← hW1]; exact SuperBox.made hs _
  have hb1 : Below w.heap.size w W1 := by rw [← hW1]; exact (Below.refl _ _).alloc (Nat.le_refl _) _
  have hz1 : W1.heap.size = w.heap.size + 1 := by rw [← hW1]; simp
  have HB := Lib.hid hb1
  have KM := Lib.hid (show ∀ W, Below W1.heap.size W1 W → SuperBox W w.heap.size x A c from fun W h => hm.later (h.mono (Nat.le_of_eq hz1.symm)))
  have KS := Lib.hid (show ∀ W, Below W1.heap.size W1 W → W.cell? ⟨w.heap.size, 0, none⟩ = some (.int .i64 x.epoch) ∧ W.cell? ⟨w.heap.size, 1, none⟩ = some (.int .i64 x.gen) ∧ W.cell? ⟨w.heap.size, 2, none⟩ = some (.int .i64 x.log) ∧ W.cell? ⟨w.heap.size, 3, none⟩ = some (.int .i64 x.pages) ∧ W.cell? ⟨w.heap.size, 4, none⟩ = some (.int .i64 x.head) ∧ W.cell? ⟨w.heap.size, 5, none⟩ = some (.int .i64 x.seq) ∧ W.cell? ⟨w.heap.size, 6, none⟩ = some (.int .i64 x.long) ∧ W.cell? ⟨w.heap.size, 7, none⟩ = some (.slice A x.dir.length c) from
    fun W h => have m := KM.out W h; ⟨m.c0, m.c1, m.c2, m.c3, m.c4, m.c5, m.c6, m.c7⟩)
  have HZ := Lib.hid (show ∀ w : World, Rep.byte.list.val (fun _ => True) w (.slice none 0 0) ([] : List UInt8) from fun w => Rep.val_nil (by simp [maxLen]))
  obtain ⟨q1, hq1⟩ : ∃ z, z = ([] : List UInt8) ++ num 4 x.log := ⟨_, rfl⟩
  obtain ⟨q2, hq2⟩ : ∃ z, z = q1 ++ num 4 x.pages := ⟨_, rfl⟩
  obtain ⟨q3, hq3⟩ : ∃ z, z = q2 ++ num 8 x.head := ⟨_, rfl⟩
  obtain ⟨q4, hq4⟩ : ∃ z, z = q3 ++ num 8 x.seq := ⟨_, rfl⟩
  obtain ⟨q5, hq5⟩ : ∃ z, z = q4 ++ num 4 x.long := ⟨_, rfl⟩
  have HH := Lib.hid (show q5 = superHead x by rw [hq5, hq4, hq3, hq2, hq1]; simp [superHead])
  have HN := Lib.hid (show q5.length = 28 by rw [HH.out]; exact superHead_length x)
  have L : q1.length ≤ 28 ∧ q2.length ≤ 28 ∧ q3.length ≤ 28 ∧ q4.length ≤ 28 := by
    have h := HN.out
    rw [hq5, List.length_append] at h
    have h4 : q4.length ≤ 28 := by omega
    have a3 : q3.length ≤ q4.length := by rw [hq4, List.length_append]; omega
    have a2 : q2.length ≤ q3.length := by rw [hq3, List.length_append]; omega
    have a1 : q1.length ≤ q2.length := by rw [hq2, List.length_append]; omega
    omega
  have L1 := Lib.hid (show q1.length ≤ 1000000000 by omega)
  have L2 := Lib.hid (show q2.length ≤ 1000000000 by omega)
  have L3 := Lib.hid (show q3.length ≤ 1000000000 by omega)
  have L4 := Lib.hid (show q4.length ≤ 1000000000 by omega)
  have E1 := Lib.hid hq1
  have E2 := Lib.hid hq2
  have E3 := Lib.hid hq3
  have E4 := Lib.hid hq4
  have E5 := Lib.hid hq5
  have F0 := Lib.hid f0
  have F1 := Lib.hid f1
  have F2 := Lib.hid f2
  have F3 := Lib.hid f3
  have F4 := Lib.hid f4
  have F5 := Lib.hid f5
  have F6 := Lib.hid f6
  have HD := Lib.hid hd
  have HC := Lib.hid hs
  clear hx hs hm hq1 hq2 hq3 hq4 hq5 L f0 f1 f2 f3 f4 f5 f6 hb1
  obtain ⟨c0, c1, c2, c3, c4, c5, c6, c7⟩ := KS.out _ (Below.refl _ _)
  go_enter Tryz.func120, Tryz.ntmps120
  go_wp2_with fail
  try rw [hW1]
  clear hW1
  go_wp2_with fail
  go_region_held3 (fun W => W.cell? ⟨w.heap.size, 2, none⟩ = some (.int .i64 x.log) ∧ W.cell? ⟨w.heap.size, 3, none⟩ = some (.int .i64 x.pages))
    (first
      | exact ⟨(KS.out _ (Below.refl _ _).drew).2.2.1, (KS.out _ (Below.refl _ _).drew).2.2.2.1⟩
      | exact ⟨(KS.out _ D1.out).2.2.1, (KS.out _ D1.out).2.2.2.1⟩
      | exact ⟨(KS.out _ D2.out).2.2.1, (KS.out _ D2.out).2.2.2.1⟩)
    (first
      | (go_at_call_of 168 (Value.int IntKind.i64 x.log); refine (put_calls (width := 4) (n := x.log) (HZ.out _) (by simp) rfl F2.out).mono ?_; rintro e w1 ⟨u1, rfl, hu1, hb1⟩; rw [← E1.out] at hu1; have D1 := Lib.hid ((Below.refl W1.heap.size W1).drew.trans hb1); have HU1 := Lib.hid (Rep.acc_val hu1); obtain ⟨A_1, c_1, rfl, _, _⟩ := Rep.acc_form hu1; clear hu1 hb1)
      | (go_at_call_of 168 (Value.int IntKind.i64 x.pages); refine (put_calls (width := 4) (n := x.pages) HU1.out L1.out rfl F3.out).mono ?_; rintro e w2 ⟨u2, rfl, hu2, hb2⟩; rw [← E2.out] at hu2; have D2 := Lib.hid (D1.out.trans (hb2.mono D1.out.size)); have HU2 := Lib.hid hu2; obtain ⟨A_2, c_2, rfl, _, _⟩ := Rep.acc_form hu2; clear hu2 hb2))
  go_wp2_with fail
  clear c0 c1 c2 c3 c4 c5 c6 c7
  have D2d := Lib.hid (show Below W1.heap.size W1 _ from D2.out.drew)
  obtain ⟨c0, c1, c2, c3, c4, c5, c6, c7⟩ := KS.out _ D2.out
  go_region_held3 (fun W => W.cell? ⟨w.heap.size, 4, none⟩ = some (.int .i64 x.head) ∧ W.cell? ⟨w.heap.size, 5, none⟩ = some (.int .i64 x.seq))
    (first
      | exact ⟨(KS.out _ D2d.out).2.2.2.2.1, (KS.out _ D2d.out).2.2.2.2.2.1⟩
      | exact ⟨(KS.out _ D3.out).2.2.2.2.1, (KS.out _ D3.out).2.2.2.2.2.1⟩
      | exact ⟨(KS.out _ D4.out).2.2.2.2.1, (KS.out _ D4.out).2.2.2.2.2.1⟩)
    (first
      | (go_at_call_of 168 (Value.int IntKind.i64 x.head); refine (put_calls (width := 8) (n := x.head) (Rep.acc_val (Rep.acc_later HU2.out (Below.refl _ _).drew)) L2.out rfl F4.out).mono ?_; rintro e w3 ⟨u3, rfl, hu3, hb3⟩; rw [← E3.out] at hu3; have D3 := Lib.hid (D2d.out.trans (hb3.mono D2d.out.size)); have HU3 := Lib.hid (Rep.acc_val hu3); obtain ⟨A_3, c_3, rfl, _, _⟩ := Rep.acc_form hu3; clear hu3 hb3)
      | (go_at_call_of 168 (Value.int IntKind.i64 x.seq); refine (put_calls (width := 8) (n := x.seq) HU3.out L3.out rfl F5.out).mono ?_; rintro e w4 ⟨u4, rfl, hu4, hb4⟩; rw [← E4.out] at hu4; have D4 := Lib.hid (D3.out.trans (hb4.mono D3.out.size)); have HU4 := Lib.hid (Rep.acc_val hu4); obtain ⟨A_4, c_4, rfl, _, _⟩ := Rep.acc_form hu4; clear hu4 hb4))
  clear c0 c1 c2 c3 c4 c5 c6 c7
  obtain ⟨c0, c1, c2, c3, c4, c5, c6, c7⟩ := KS.out _ D4.out
  go_wp2_with fail
  refine (put_calls (width := 4) (n := x.long) HU4.out L4.out rfl F6.out).mono ?_
  rintro e w5 ⟨u5, rfl, hu5, hb5⟩
  rw [← E5.out] at hu5
  have D5 := Lib.hid (D4.out.trans (hb5.mono D4.out.size))
  have HU5 := Lib.hid (show Rep.byte.list.val (fun b => w.heap.size ≤ b) w5 u5 q5 from Rep.val_mono (fun b hb _ => Nat.le_trans HB.out.size (Nat.le_trans D4.out.size hb)) (Rep.acc_fresh hu5))
  obtain ⟨A_5, c_5, rfl, _, _⟩ := Rep.acc_form hu5
  clear hu5 hb5 c0 c1 c2 c3 c4 c5 c6 c7
  obtain ⟨c0, c1, c2, c3, c4, c5, c6, c7⟩ := KS.out _ D5.out
  have HSL := Lib.hid (show ∀ W, Below w5.heap.size w5 W → (Rep.int .i64).Sl (fun b => b < w.heap.size) W A c x.dir from fun W h => (KM.out W (D5.out.trans (h.mono D5.out.size))).sl)
  have HLJ := Lib.hid (show ∀ j, j ≤ x.dir.length → (q5 ++ ((x.dir.take j).map (num 2)).flatten).length ≤ 1000000000 by
    intro j hj; have h1 := HN.out; have h2 := HD.out; have h3 := nums2_length (x.dir.take j); have h4 : (x.dir.take j).length ≤ j := by rw [List.length_take]; omega
    rw [List.length_append, h3]; omega)
  go_wp2_with fail
  clear c0 c1 c2 c3 c4 c5 c6 c7
  go_loopw [3, 26] (fun s i wr => ∃ j : Nat, i = .int .i64 j ∧ j ≤ x.dir.length ∧ Rep.byte.list.val (fun b => w.heap.size ≤ b) wr s (q5 ++ ((x.dir.take j).map (num 2)).flatten) ∧ Below w5.heap.size w5 wr)
    (fun _ i _ => x.dir.length - (intOf i).toNat)
  case atStart => exact ⟨0, rfl, by omega, by simpa using HU5.out, Below.refl _ _⟩
  case round =>
    obtain ⟨j, rfl, hj, hv, hb1⟩ := hrel
    have HB6 := Lib.hid hb1
    by_cases hlt2 : (j : Int) < x.dir.length
    · have hj' : j < x.dir.length := by omega
      obtain ⟨bp, op, rfl, cp0, wp0⟩ := Rep.At.int (HSL.out _ hb1).2.2 (List.getElem?_eq_getElem hj')
      have T2 := Lib.hid (show q5 ++ ((x.dir.take (j + 1)).map (num 2)).flatten = (q5 ++ ((x.dir.take j).map (num 2)).flatten) ++ num 2 x.dir[j] by rw [take_flatten_succ (num 2) hj', List.append_assoc])
      have L6 := Lib.hid (HLJ.out j (by omega))
      generalize x.dir[j] = p at *
      generalize q5 ++ ((x.dir.take j).map (num 2)).flatten = r at hv T2 L6
      have HV6 := Lib.hid hv
      obtain ⟨A6, c6, rfl, _, _, _⟩ := Rep.val_list hv
      clear hv hb1
      go_wp2_with fail
      refine (put_calls (width := 2) (n := p) HV6.out L6.out rfl wp0).mono ?_
      rintro e w6 ⟨u6, rfl, hu6, hb6⟩
      rw [← T2.out] at hu6
      go_wp2_with fail
      exact ⟨⟨j + 1, by go_num, by omega, Rep.val_mono (fun b hb _ => Nat.le_trans HB.out.size (Nat.le_trans D5.out.size (Nat.le_trans HB6.out.size hb))) (Rep.acc_fresh hu6), HB6.out.trans (hb6.mono HB6.out.size)⟩, by simp [intOf]; omega⟩
    · obtain rfl : j = x.dir.length := by omega
      rw [show q5 ++ ((x.dir.take x.dir.length).map (num 2)).flatten = superBody x by rw [List.take_length, HH.out]; rfl] at hv
      have HL := Lib.hid (superBody_length x)
      obtain ⟨A6, c6, rfl, hl1, hl2, hl3⟩ := Rep.val_list hv
      have HV6 := Lib.hid (show rSeal.val (fun b => w.heap.size ≤ b) wr (.agg #[.int .i64 x.epoch, .int .i64 x.gen, .int .i64 3, .slice A6 (superBody x).length c6]) ⟨x.epoch, x.gen, 3, superBody x⟩ from
        rSeal_agg (x := ⟨x.epoch, x.gen, 3, superBody x⟩) F0.out F1.out rfl ⟨hl1, hl2, hl3⟩)
      have D6 := Lib.hid (D5.out.trans (hb1.mono D5.out.size))
      obtain ⟨c0, c1, c2, c3, c4, c5, c6, c7⟩ := KS.out _ D6.out
      have T := Lib.hid (show superBytes x = sealBytes ⟨x.epoch, x.gen, 3, superBody x⟩ from rfl)
      generalize superBody x = q at *
      clear hv hb1 hl3
      go_wp2_with fail
      refine (sealPut_calls HV6.out).mono ?_
      rintro e w7 ⟨u7, rfl, hu7, hb7⟩
      go_wp2_with fail
      go_ret
      exact ⟨_, rfl, by rw [T.out]; exact Rep.val_mono (fun b hb _ => Nat.le_trans HB.out.size (Nat.le_trans D6.out.size hb)) hu7, HB.out.trans (D6.out.trans (hb7.mono D6.out.size) |>.mono HB.out.size)⟩
end Go.Proofs.YtghbfbohnoebiaaGreat
namespace Go.Proofs.YtghbfbohnoebiaaGreat
open Go.RowKit

set_option maxRecDepth 100000 in
set_option maxHeartbeats 2000000 in
/-- r26.Same -/
theorem rsuperSame_calls {Q Q' : Nat → Prop} {w : World} {v u : Value} {x y : DSuper} (hx : rSuper.val Q w v x) (hy : rSuper.val Q' w u y) :
    Calls Tryz.prog 23 #[v, u] w fun e w' => e = .returned (.bool (decide (x = y))) ∧ Below w.heap.size w w' := by
  obtain ⟨A, c, rfl, _, _, _, _, _, _, _, hs⟩ := rSuper_val hx
  obtain ⟨B, d, rfl, _, _, _, _, _, _, _, ht⟩ := rSuper_val hy
  obtain ⟨W1, hW1⟩ : ∃ W1, w.alloc (.cells #[.int .i64 x.epoch, .int .i64 x.gen, .int .i64 x.log, .int .i64 x.pages, .int .i64 x.head, .int .i64 x.seq, .int .i64 x.long, .slice A x.dir.length c] 37) = W1 := ⟨_, rfl⟩
  have hb1 : Below w.heap.size w W1 := by rw [← hW1]; exact (Below.refl _ _).alloc (Nat.le_refl _) _
  have hz1 : W1.heap.size = w.heap.size + 1 := by rw [← hW1]; simp
  have hm1 : SuperBox W1 w.heap.size x A c := by rw [← hW1]; exact SuperBox.made hs _
  obtain ⟨W2, hW2⟩ : ∃ W2, W1.alloc (.cells #[.int .i64 y.epoch, .int .i64 y.gen, .int .i64 y.log, .int .i64 y.pages, .int .i64 y.head, .int .i64 y.seq, .int .i64 y.long, .slice B y.dir.length d] 37) = W2 := ⟨_, rfl⟩
  have hb2 : Below W1.heap.size W1 W2 := by rw [← hW2]; exact (Below.refl _ _).alloc (Nat.le_refl _) _
  have hm2 : SuperBox W2 (w.heap.size + 1) y B d := by
    rw [← hW2, ← hz1]; exact SuperBox.made (Q := Q') (ht.keep fun b h1 h2 => ⟨h1, hb1.block b h2.lt⟩) _
  have hB : Below w.heap.size w W2 := hb1.trans (hb2.mono hb1.size)
  have M1 := hm1.later (hb2.mono (Nat.le_of_eq hz1.symm))
  obtain ⟨c0, c1, c2, c3, c4, c5, c6, c7, sc⟩ := M1
  obtain ⟨d0, d1, d2, d3, d4, d5, d6, d7, sd⟩ := hm2
  have r1 : W1.heap[w.heap.size]? = some (.cells #[.int .i64 x.epoch, .int .i64 x.gen, .int .i64 x.log, .int .i64 x.pages, .int .i64 x.head, .int .i64 x.seq, .int .i64 x.long, .slice A x.dir.length c] 37 (0, 0)) := by rw [← hW1]; exact heap_alloc_new _ _
  have r2 : W2.heap[w.heap.size + 1]? = some (.cells #[.int .i64 y.epoch, .int .i64 y.gen, .int .i64 y.log, .int .i64 y.pages, .int .i64 y.head, .int .i64 y.seq, .int .i64 y.long, .slice B y.dir.length d] 37 (0, 0)) := by rw [← hW2, ← hz1]; exact heap_alloc_new _ _
  have R1 := Lib.hid (show W2.frozen? ⟨w.heap.size, 7, none⟩ = false from frozen_row ((hb2.block _ (by omega)).trans r1) 7)
  have R2 := Lib.hid (show W2.frozen? ⟨w.heap.size + 1, 7, none⟩ = false from frozen_row r2 7)
  have HB := Lib.hid hB
  have HZ := Lib.hid hz1
  have HS := Lib.hid (show ∀ n, Calls Tryz.prog 17 #[.slice A x.dir.length c, .slice B y.dir.length d] (W2.drewN n) fun e w' => e = .returned (.bool (decide (x.dir = y.dir))) ∧ ∃ m, w' = (W2.drewN n).drewN m from
    fun n => sameList (Rep.val_keep (w := W2) (fun _ h _ => ⟨h, rfl⟩) sc.val) (Rep.val_keep (w := W2) (fun _ h _ => ⟨h, rfl⟩) sd.val))
  clear hx hy hs ht hb1 hb2 hB hm1 sc sd r1 r2
  by_cases h0 : x.epoch = y.epoch
  case neg =>
    have g0 : (x.epoch == y.epoch) = false := by simp [h0]
    have HE := Lib.hid (show decide (x = y) = false from decide_eq_false (by rintro rfl; exact h0 rfl))
    clear h0
    go_enter Tryz.func23, Tryz.ntmps23
    go_wp2_with fail
    try rw [hW1]
    go_wp2_with fail
    try rw [hW2]
    clear hW1 hW2 hz1
    go_wp2_with fail
    go_ret
    exact ⟨by first | (rw [HE.out]; done) | (rw [HE.out]; rfl), HB.out⟩
  have g0 : (x.epoch == y.epoch) = true := by simp [h0]
  have H0 := Lib.hid h0
  clear h0
  by_cases h1 : x.gen = y.gen
  case neg =>
    have g1 : (x.gen == y.gen) = false := by simp [h1]
    have HE := Lib.hid (show decide (x = y) = false from decide_eq_false (by rintro rfl; exact h1 rfl))
    clear h1
    go_enter Tryz.func23, Tryz.ntmps23
    go_wp2_with fail
    try rw [hW1]
    go_wp2_with fail
    try rw [hW2]
    clear hW1 hW2 hz1
    go_wp2_with fail
    go_ret
    exact ⟨by first | (rw [HE.out]; done) | (rw [HE.out]; rfl), HB.out⟩
  have g1 : (x.gen == y.gen) = true := by simp [h1]
  have H1 := Lib.hid h1
  clear h1
  by_cases h2 : x.log = y.log
  case neg =>
    have g2 : (x.log == y.log) = false := by simp [h2]
    have HE := Lib.hid (show decide (x = y) = false from decide_eq_false (by rintro rfl; exact h2 rfl))
    clear h2
    go_enter Tryz.func23, Tryz.ntmps23
    go_wp2_with fail
    try rw [hW1]
    go_wp2_with fail
    try rw [hW2]
    clear hW1 hW2 hz1
    go_wp2_with fail
    go_ret
    exact ⟨by first | (rw [HE.out]; done) | (rw [HE.out]; rfl), HB.out⟩
  have g2 : (x.log == y.log) = true := by simp [h2]
  have H2 := Lib.hid h2
  clear h2
  by_cases h3 : x.pages = y.pages
  case neg =>
    have g3 : (x.pages == y.pages) = false := by simp [h3]
    have HE := Lib.hid (show decide (x = y) = false from decide_eq_false (by rintro rfl; exact h3 rfl))
    clear h3
    go_enter Tryz.func23, Tryz.ntmps23
    go_wp2_with fail
    try rw [hW1]
    go_wp2_with fail
    try rw [hW2]
    clear hW1 hW2 hz1
    go_wp2_with fail
    go_ret
    exact ⟨by first | (rw [HE.out]; done) | (rw [HE.out]; rfl), HB.out⟩
  have g3 : (x.pages == y.pages) = true := by simp [h3]
  have H3 := Lib.hid h3
  clear h3
  by_cases h4 : x.head = y.head
  case neg =>
    have g4 : (x.head == y.head) = false := by simp [h4]
    have HE := Lib.hid (show decide (x = y) = false from decide_eq_false (by rintro rfl; exact h4 rfl))
    clear h4
    go_enter Tryz.func23, Tryz.ntmps23
    go_wp2_with fail
    try rw [hW1]
    go_wp2_with fail
    try rw [hW2]
    clear hW1 hW2 hz1
    go_wp2_with fail
    go_ret
    exact ⟨by first | (rw [HE.out]; done) | (rw [HE.out]; rfl), HB.out⟩
  have g4 : (x.head == y.head) = true := by simp [h4]
  have H4 := Lib.hid h4
  clear h4
  by_cases h5 : x.seq = y.seq
  case neg =>
    have g5 : (x.seq == y.seq) = false := by simp [h5]
    have HE := Lib.hid (show decide (x = y) = false from decide_eq_false (by rintro rfl; exact h5 rfl))
    clear h5
    go_enter Tryz.func23, Tryz.ntmps23
    go_wp2_with fail
    try rw [hW1]
    go_wp2_with fail
    try rw [hW2]
    clear hW1 hW2 hz1
    go_wp2_with fail
    go_ret
    exact ⟨by first | (rw [HE.out]; done) | (rw [HE.out]; rfl), HB.out⟩
  have g5 : (x.seq == y.seq) = true := by simp [h5]
  have H5 := Lib.hid h5
  clear h5
  by_cases h6 : x.long = y.long
  case neg =>
    have g6 : (x.long == y.long) = false := by simp [h6]
    have HE := Lib.hid (show decide (x = y) = false from decide_eq_false (by rintro rfl; exact h6 rfl))
    clear h6
    go_enter Tryz.func23, Tryz.ntmps23
    go_wp2_with fail
    try rw [hW1]
    go_wp2_with fail
    try rw [hW2]
    clear hW1 hW2 hz1
    go_wp2_with fail
    go_ret
    exact ⟨by first | (rw [HE.out]; done) | (rw [HE.out]; rfl), HB.out⟩
  have g6 : (x.long == y.long) = true := by simp [h6]
  have H6 := Lib.hid h6
  clear h6
  have HE := Lib.hid (show decide (x.dir = y.dir) = decide (x = y) from by
    have e : x.dir = y.dir ↔ x = y := ⟨fun h => DSuper.ext H0.out H1.out H2.out H3.out H4.out H5.out H6.out h, fun h => by rw [h]⟩
    simp only [e])
  go_enter Tryz.func23, Tryz.ntmps23
  go_wp2_with fail
  try rw [hW1]
  go_wp2_with fail
  try rw [hW2]
  clear hW1 hW2 hz1
  go_wp2_with fail
  refine (HS.out 0).mono ?_
  rintro e w1 ⟨rfl, n, rfl⟩
  have HB2 := Lib.hid (show Below w.heap.size w ((W2.drewN 0).drewN n) from below_drewN (below_drewN HB.out 0) n)
  go_wp2_with fail
  go_ret
  exact ⟨by rw [← HE.out]; first | rfl | simp, HB2.out⟩

end Go.Proofs.YtghbfbohnoebiaaGreat
