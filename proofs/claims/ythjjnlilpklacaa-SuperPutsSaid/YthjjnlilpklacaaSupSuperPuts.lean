/- The statement on superblocks there and back, walked. Printed by gen_superlaws.py. -/
import Derived.Test.YthjjnlilpklacaaSupLive26
import Derived.Test.YthjjnlilpklacaaSupRSuperRight
import Derived.Test.YthjjnlilpklacaaSupSuperRight
import Derived.Test.YthjjnlilpklacaaSupSuperSame
namespace Go.Proofs.Ythjjnlilpklacaa
open Go.RowKit

set_option maxRecDepth 100000 in
set_option maxHeartbeats 4000000 in
/-- SuperPuts -/
theorem superPuts_calls {Q : Nat → Prop} {w : World} {v : Value} {x : DSuper} (hx : rSuper.val Q w v x) :
    Calls Try.prog 9 #[v] w fun e w' => e = .returned (.bool true) ∧ Below w.heap.size w w' := by
  obtain ⟨A, c, rfl, _, _, _, _, _, _, _, hs⟩ := rSuper_val hx
  have hsm := hs.2.1
  unfold maxLen at hsm
  obtain ⟨W1, hW1⟩ : ∃ W1, w.alloc (.cells #[.int .i64 x.epoch, .int .i64 x.gen, .int .i64 x.log, .int .i64 x.pages, .int .i64 x.head, .int .i64 x.seq, .int .i64 x.long, .slice A x.dir.length c] 114) = W1 := ⟨_, rfl⟩
  have KX := Lib.hid (show BoxK W1 w.heap.size x A c by rw [← hW1]; exact BoxK.made hx)
  have BB := Lib.hid (show Below w.heap.size w W1 by rw [← hW1]; exact (Below.refl _ _).alloc (Nat.le_refl _) _)
  clear hx hs
  have x0 := cell_row (KX.out.row _ (Below.refl _ _)) 0
  have x1 := cell_row (KX.out.row _ (Below.refl _ _)) 1
  have x2 := cell_row (KX.out.row _ (Below.refl _ _)) 2
  have x3 := cell_row (KX.out.row _ (Below.refl _ _)) 3
  have x4 := cell_row (KX.out.row _ (Below.refl _ _)) 4
  have x5 := cell_row (KX.out.row _ (Below.refl _ _)) 5
  have x6 := cell_row (KX.out.row _ (Below.refl _ _)) 6
  have x7 := cell_row (KX.out.row _ (Below.refl _ _)) 7
  go_enter Try.func9, Try.ntmps9
  by_cases h300 : (300 : Int) < x.dir.length
  case pos =>
    go_wp2_with fail
    try rw [hW1]
    clear hW1
    try go_wp2_with fail
    refine (live26 _).mono ?_
    rintro e w9 ⟨rfl, hb9⟩
    go_wp2_with fail
    go_ret
    exact ⟨rfl, BB.out.trans (hb9.mono BB.out.size)⟩
  have HL := Lib.hid (show x.dir.length ≤ 1000000 by omega)
  obtain ⟨X, hX⟩ : ∃ X, X = superBytes x := ⟨_, rfl⟩
  have EX := Lib.hid hX
  have HPG := Lib.hid (show superRight x = true → superGet X = some x from fun h => by rw [hX]; exact super_put_get h)
  clear hX hsm
  go_wp2_with fail
  try rw [hW1]
  clear hW1
  try go_wp2_with fail
  refine (superPut_calls (KX.out.val _ (Below.refl _ _)) HL.out).mono ?_
  rintro e w2 ⟨u2, rfl, hu, hb⟩
  clear x0 x1 x2 x3 x4 x5 x6 x7
  rw [← EX.out] at hu
  have KX := Lib.hid (KX.out.later hb)
  have BB := Lib.hid (BB.out.trans (hb.mono BB.out.size))
  have VS := Lib.hid (stepV hu (Below.refl _ _))
  obtain ⟨AS, cS, rfl, _, _, _⟩ := Rep.val_list hu
  clear hu hb h300
  obtain ⟨r, hr⟩ : ∃ r, r = superRight x := ⟨_, rfl⟩
  have HR := Lib.hid hr
  have hrs := boolS r
  clear hr
  go_wp2_with fail
  refine wp_region_held_drew (S := fun W => Below w2.heap.size w2 W) (by kernel_rfl) ((Below.refl _ _).drew) (fun s0 => ?_)
  refine wpAnyH_take (i := 0) (v := .slice AS X.length cS) rfl (by kernel_rfl) (by kernel_rfl) (by kernel_rfl) (fun _ _ _ h => h) (Or.inl ⟨by rfl, fun w' _ => by go_simp⟩) s0 ?_
  go_simp
  refine wpAnyH_take (i := 1) (v := .agg #[.int .i64 x.epoch, .int .i64 x.gen, .int .i64 x.log, .int .i64 x.pages, .int .i64 x.head, .int .i64 x.seq, .int .i64 x.long, .slice A x.dir.length c]) rfl (by kernel_rfl) (by kernel_rfl) (by kernel_rfl) (fun _ _ _ h => h) (Or.inl ⟨by rfl, fun w' h => by have x0 := cell_row (KX.out.row _ (h : Below w2.heap.size w2 w')) 0; have x1 := cell_row (KX.out.row _ (h : Below w2.heap.size w2 w')) 1; have x2 := cell_row (KX.out.row _ (h : Below w2.heap.size w2 w')) 2; have x3 := cell_row (KX.out.row _ (h : Below w2.heap.size w2 w')) 3; have x4 := cell_row (KX.out.row _ (h : Below w2.heap.size w2 w')) 4; have x5 := cell_row (KX.out.row _ (h : Below w2.heap.size w2 w')) 5; have x6 := cell_row (KX.out.row _ (h : Below w2.heap.size w2 w')) 6; have x7 := cell_row (KX.out.row _ (h : Below w2.heap.size w2 w')) 7; go_simp⟩) s0 ?_
  go_simp
  refine wpAnyH_all (rs := [2]) (by kernel_rfl) (by simp) ?_
  intro i hi
  obtain rfl : i = 2 := by simpa using hi
  clear hi
  refine wpOp_step rfl (fun K hK => ?_)
  go_simp
  refine (rsuperPut_calls (KX.out.val _ s0) HL.out).mono ?_
  rintro e w3 ⟨u3, rfl, hu, hb⟩
  rw [← EX.out] at hu
  have s1 := s0.trans (hb.mono s0.size)
  have V3 := Lib.hid hu
  obtain ⟨A3, c3, rfl, _, _, _⟩ := Rep.val_list hu
  refine hK _ _ ⟨s1, ?_⟩
  clear hu hb
  clear hK K
  refine wpAnyH_all (rs := [3]) (by kernel_rfl) (by simp) ?_
  intro i hi
  obtain rfl : i = 3 := by simpa using hi
  clear hi
  refine wpOp_step rfl (fun K hK => ?_)
  go_simp
  refine (sameBytes (stepV VS.out s1) V3.out).mono ?_
  rintro e w' ⟨rfl, hw⟩
  have hw2 := hw.symm
  subst hw2
  clear hw
  rw [decide_eq_true (rfl : X = X)]
  refine hK _ _ ⟨s1, ?_⟩
  clear hK K
  refine wpAnyH_take (i := 4) (v := .bool false) rfl (by kernel_rfl) (by kernel_rfl) (by kernel_rfl) (fun _ _ _ h => h) (Or.inl ⟨by rfl, fun w' _ => by go_simp⟩) s1 ?_
  go_simp
  refine wpAnyH_take (i := 5) (v := .bool false) rfl (by kernel_rfl) (by kernel_rfl) (by kernel_rfl) (fun _ _ _ h => h) (Or.inl ⟨by rfl, fun w' _ => by go_simp⟩) s1 ?_
  go_simp
  refine wpAnyH_take (i := 6) (v := .agg #[.int .i64 x.epoch, .int .i64 x.gen, .int .i64 x.log, .int .i64 x.pages, .int .i64 x.head, .int .i64 x.seq, .int .i64 x.long, .slice A x.dir.length c]) rfl (by kernel_rfl) (by kernel_rfl) (by kernel_rfl) (fun _ _ _ h => h) (Or.inl ⟨by rfl, fun w' h => by have x0 := cell_row (KX.out.row _ (h : Below w2.heap.size w2 w')) 0; have x1 := cell_row (KX.out.row _ (h : Below w2.heap.size w2 w')) 1; have x2 := cell_row (KX.out.row _ (h : Below w2.heap.size w2 w')) 2; have x3 := cell_row (KX.out.row _ (h : Below w2.heap.size w2 w')) 3; have x4 := cell_row (KX.out.row _ (h : Below w2.heap.size w2 w')) 4; have x5 := cell_row (KX.out.row _ (h : Below w2.heap.size w2 w')) 5; have x6 := cell_row (KX.out.row _ (h : Below w2.heap.size w2 w')) 6; have x7 := cell_row (KX.out.row _ (h : Below w2.heap.size w2 w')) 7; go_simp⟩) s1 ?_
  go_simp
  refine wpAnyH_take (i := 8) (v := .agg #[.int .i64 x.epoch, .int .i64 x.gen, .int .i64 x.log, .int .i64 x.pages, .int .i64 x.head, .int .i64 x.seq, .int .i64 x.long, .slice A x.dir.length c]) rfl (by kernel_rfl) (by kernel_rfl) (by kernel_rfl) (fun _ _ _ h => h) (Or.inl ⟨by rfl, fun w' h => by have x0 := cell_row (KX.out.row _ (h : Below w2.heap.size w2 w')) 0; have x1 := cell_row (KX.out.row _ (h : Below w2.heap.size w2 w')) 1; have x2 := cell_row (KX.out.row _ (h : Below w2.heap.size w2 w')) 2; have x3 := cell_row (KX.out.row _ (h : Below w2.heap.size w2 w')) 3; have x4 := cell_row (KX.out.row _ (h : Below w2.heap.size w2 w')) 4; have x5 := cell_row (KX.out.row _ (h : Below w2.heap.size w2 w')) 5; have x6 := cell_row (KX.out.row _ (h : Below w2.heap.size w2 w')) 6; have x7 := cell_row (KX.out.row _ (h : Below w2.heap.size w2 w')) 7; go_simp⟩) s1 ?_
  go_simp
  refine wpAnyH_all (rs := [7]) (by kernel_rfl) (by simp) ?_
  intro i hi
  obtain rfl : i = 7 := by simpa using hi
  clear hi
  refine wpOp_step rfl (fun K hK => ?_)
  go_simp
  refine (superRight_calls (KX.out.val _ s1)).mono ?_
  rintro e w4 ⟨rfl, hb⟩
  rw [← HR.out]
  have s2 := s1.trans (hb.mono s1.size)
  refine hK _ _ ⟨s2, ?_⟩
  clear hb
  clear hK K
  refine wpAnyH_all (rs := [9]) (by kernel_rfl) (by simp) ?_
  intro i hi
  obtain rfl : i = 9 := by simpa using hi
  clear hi
  refine wpOp_step rfl (fun K hK => ?_)
  go_simp
  refine (rsuperRight_calls (KX.out.val _ s2)).mono ?_
  rintro e w5 ⟨rfl, hb⟩
  rw [← HR.out]
  have s3 := s2.trans (hb.mono s2.size)
  refine hK _ _ ⟨s3, ?_⟩
  clear hb
  clear hK K
  refine wpAnyH_take (i := 10) (v := .bool false) rfl (by kernel_rfl) (by kernel_rfl) (by kernel_rfl) (fun _ _ _ h => h) (Or.inl ⟨by rfl, fun w' _ => by go_simp⟩) s3 ?_
  go_simp
  refine wpAnyH_take (i := 11) (v := .bool false) rfl (by kernel_rfl) (by kernel_rfl) (by kernel_rfl) (fun _ _ _ h => h) (Or.inl ⟨by rfl, fun w' _ => by go_simp⟩) s3 ?_
  go_simp
  refine wpAnyH_done (by kernel_rfl) ?_ _
  have KX := Lib.hid (KX.out.later s3)
  have VS := Lib.hid (stepV VS.out s3)
  have BB := Lib.hid (BB.out.trans (s3.mono BB.out.size))
  clear s0 s1 s2 s3
  go_wp2_with fail
  refine (superGet_calls VS.out).mono ?_
  rintro e w6 ⟨u, rfl, hu, hb⟩
  obtain ⟨g, hg⟩ : ∃ g, g = superGet X := ⟨_, rfl⟩
  have HG := Lib.hid hg
  obtain ⟨y, hy⟩ : ∃ y, y = g.getD superNone := ⟨_, rfl⟩
  have HY := Lib.hid hy
  obtain ⟨f, hf⟩ : ∃ f, f = g.isSome := ⟨_, rfl⟩
  have HFS := Lib.hid hf
  rw [← hg, ← hy] at hu
  rw [← hg, ← hf]
  clear hg hy hf
  obtain ⟨AY, cY, rfl, _, _, _, _, _, _, _, _⟩ := rSuper_val hu
  have KX := Lib.hid (KX.out.later hb)
  have VS := Lib.hid (stepV VS.out hb)
  have BB := Lib.hid (BB.out.trans (hb.mono BB.out.size))
  obtain ⟨WY, hWY⟩ : ∃ W, w6.alloc (.cells #[.int .i64 y.epoch, .int .i64 y.gen, .int .i64 y.log, .int .i64 y.pages, .int .i64 y.head, .int .i64 y.seq, .int .i64 y.long, .slice AY y.dir.length cY] 114) = W := ⟨_, rfl⟩
  have hbY : Below w6.heap.size w6 WY := by rw [← hWY]; exact (Below.refl _ _).alloc (Nat.le_refl _) _
  have KX := Lib.hid (KX.out.later hbY)
  have VS := Lib.hid (stepV VS.out hbY)
  have BB := Lib.hid (BB.out.trans (hbY.mono BB.out.size))
  have KY := Lib.hid (show BoxK WY w6.heap.size y AY cY by rw [← hWY]; exact BoxK.made hu)
  clear hu hb hbY
  go_wp2_with fail
  try rw [hWY]
  clear hWY
  try go_wp2_with fail
  refine (rsuperGet_calls VS.out).mono ?_
  rintro e w7 ⟨u, rfl, hu, hb⟩
  rw [← HG.out, ← HY.out] at hu
  rw [← HG.out, ← HFS.out]
  obtain ⟨AZ, cZ, rfl, _, _, _, _, _, _, _, _⟩ := rSuper_val hu
  have KX := Lib.hid (KX.out.later hb)
  have KY := Lib.hid (KY.out.later hb)
  have VS := Lib.hid (stepV VS.out hb)
  have BB := Lib.hid (BB.out.trans (hb.mono BB.out.size))
  obtain ⟨WZ, hWZ⟩ : ∃ W, w7.alloc (.cells #[.int .i64 y.epoch, .int .i64 y.gen, .int .i64 y.log, .int .i64 y.pages, .int .i64 y.head, .int .i64 y.seq, .int .i64 y.long, .slice AZ y.dir.length cZ] 114) = W := ⟨_, rfl⟩
  have hbZ : Below w7.heap.size w7 WZ := by rw [← hWZ]; exact (Below.refl _ _).alloc (Nat.le_refl _) _
  have KX := Lib.hid (KX.out.later hbZ)
  have KY := Lib.hid (KY.out.later hbZ)
  have VS := Lib.hid (stepV VS.out hbZ)
  have BB := Lib.hid (BB.out.trans (hbZ.mono BB.out.size))
  have KZ := Lib.hid (show BoxK WZ w7.heap.size y AZ cZ by rw [← hWZ]; exact BoxK.made hu)
  clear hu hb hbZ
  have hfs := boolS f
  have y0 := cell_row (KY.out.row _ (Below.refl _ _)) 0
  have y1 := cell_row (KY.out.row _ (Below.refl _ _)) 1
  have y2 := cell_row (KY.out.row _ (Below.refl _ _)) 2
  have y3 := cell_row (KY.out.row _ (Below.refl _ _)) 3
  have y4 := cell_row (KY.out.row _ (Below.refl _ _)) 4
  have y5 := cell_row (KY.out.row _ (Below.refl _ _)) 5
  have y6 := cell_row (KY.out.row _ (Below.refl _ _)) 6
  have y7 := cell_row (KY.out.row _ (Below.refl _ _)) 7
  have z0 := cell_row (KZ.out.row _ (Below.refl _ _)) 0
  have z1 := cell_row (KZ.out.row _ (Below.refl _ _)) 1
  have z2 := cell_row (KZ.out.row _ (Below.refl _ _)) 2
  have z3 := cell_row (KZ.out.row _ (Below.refl _ _)) 3
  have z4 := cell_row (KZ.out.row _ (Below.refl _ _)) 4
  have z5 := cell_row (KZ.out.row _ (Below.refl _ _)) 5
  have z6 := cell_row (KZ.out.row _ (Below.refl _ _)) 6
  have z7 := cell_row (KZ.out.row _ (Below.refl _ _)) 7
  go_wp2_with fail
  try rw [hWZ]
  clear hWZ
  try go_wp2_with fail
  refine (rsuperSame_calls (KY.out.val _ (Below.refl _ _)) (KZ.out.val _ (Below.refl _ _))).mono ?_
  rintro e w8 ⟨rfl, hb⟩
  rw [decide_eq_true (rfl : y = y)]
  clear y0 y1 y2 y3 y4 y5 y6 y7
  clear z0 z1 z2 z3 z4 z5 z6 z7
  clear KZ
  have KX := Lib.hid (KX.out.later hb)
  have KY := Lib.hid (KY.out.later hb)
  have VS := Lib.hid (stepV VS.out hb)
  have BB := Lib.hid (BB.out.trans (hb.mono BB.out.size))
  clear hb
  have x0 := cell_row (KX.out.row _ (Below.refl _ _)) 0
  have x1 := cell_row (KX.out.row _ (Below.refl _ _)) 1
  have x2 := cell_row (KX.out.row _ (Below.refl _ _)) 2
  have x3 := cell_row (KX.out.row _ (Below.refl _ _)) 3
  have x4 := cell_row (KX.out.row _ (Below.refl _ _)) 4
  have x5 := cell_row (KX.out.row _ (Below.refl _ _)) 5
  have x6 := cell_row (KX.out.row _ (Below.refl _ _)) 6
  have x7 := cell_row (KX.out.row _ (Below.refl _ _)) 7
  go_wp2_with fail
  refine (rsuperRight_calls (KX.out.val _ (Below.refl _ _))).mono ?_
  rintro e w9 ⟨rfl, hb⟩
  rw [← HR.out]
  clear x0 x1 x2 x3 x4 x5 x6 x7
  have KX := Lib.hid (KX.out.later hb)
  have KY := Lib.hid (KY.out.later hb)
  have VS := Lib.hid (stepV VS.out hb)
  have BB := Lib.hid (BB.out.trans (hb.mono BB.out.size))
  clear hb
  cases r with
  | false =>
    have x0 := cell_row (KX.out.row _ (Below.refl _ _)) 0
    have x1 := cell_row (KX.out.row _ (Below.refl _ _)) 1
    have x2 := cell_row (KX.out.row _ (Below.refl _ _)) 2
    have x3 := cell_row (KX.out.row _ (Below.refl _ _)) 3
    have x4 := cell_row (KX.out.row _ (Below.refl _ _)) 4
    have x5 := cell_row (KX.out.row _ (Below.refl _ _)) 5
    have x6 := cell_row (KX.out.row _ (Below.refl _ _)) 6
    have x7 := cell_row (KX.out.row _ (Below.refl _ _)) 7
    go_wp2_with fail
    refine (superSame_calls (KX.out.val _ (Below.refl _ _)) (KX.out.val _ (Below.refl _ _))).mono ?_
    rintro e w11 ⟨rfl, hb⟩
    rw [decide_eq_true (rfl : x = x)]
    clear x0 x1 x2 x3 x4 x5 x6 x7
    have KX := Lib.hid (KX.out.later hb)
    have KY := Lib.hid (KY.out.later hb)
    have VS := Lib.hid (stepV VS.out hb)
    have BB := Lib.hid (BB.out.trans (hb.mono BB.out.size))
    clear hb
    go_wp2_with fail
    refine (live26 _).mono ?_
    rintro e w9 ⟨rfl, hb9⟩
    go_wp2_with fail
    go_ret
    exact ⟨rfl, BB.out.trans (hb9.mono BB.out.size)⟩
  | true =>
    have e1 : g = some x := by rw [HG.out]; exact HPG.out HR.out.symm
    have e2 : f = true := by rw [HFS.out, e1]; rfl
    have e3 : y = x := by rw [HY.out, e1]; rfl
    subst e2
    have EY := Lib.hid e3
    clear e1 e3 hfs hrs
    have x0 := cell_row (KX.out.row _ (Below.refl _ _)) 0
    have x1 := cell_row (KX.out.row _ (Below.refl _ _)) 1
    have x2 := cell_row (KX.out.row _ (Below.refl _ _)) 2
    have x3 := cell_row (KX.out.row _ (Below.refl _ _)) 3
    have x4 := cell_row (KX.out.row _ (Below.refl _ _)) 4
    have x5 := cell_row (KX.out.row _ (Below.refl _ _)) 5
    have x6 := cell_row (KX.out.row _ (Below.refl _ _)) 6
    have x7 := cell_row (KX.out.row _ (Below.refl _ _)) 7
    have y0 := cell_row (KY.out.row _ (Below.refl _ _)) 0
    have y1 := cell_row (KY.out.row _ (Below.refl _ _)) 1
    have y2 := cell_row (KY.out.row _ (Below.refl _ _)) 2
    have y3 := cell_row (KY.out.row _ (Below.refl _ _)) 3
    have y4 := cell_row (KY.out.row _ (Below.refl _ _)) 4
    have y5 := cell_row (KY.out.row _ (Below.refl _ _)) 5
    have y6 := cell_row (KY.out.row _ (Below.refl _ _)) 6
    have y7 := cell_row (KY.out.row _ (Below.refl _ _)) 7
    go_wp2_with fail
    refine (rsuperSame_calls (KX.out.val _ (Below.refl _ _)) (KY.out.val _ (Below.refl _ _))).mono ?_
    rintro e w10 ⟨rfl, hb⟩
    rw [decide_eq_true EY.out.symm]
    clear x0 x1 x2 x3 x4 x5 x6 x7
    clear y0 y1 y2 y3 y4 y5 y6 y7
    have KX := Lib.hid (KX.out.later hb)
    have KY := Lib.hid (KY.out.later hb)
    have VS := Lib.hid (stepV VS.out hb)
    have BB := Lib.hid (BB.out.trans (hb.mono BB.out.size))
    clear hb
    have x0 := cell_row (KX.out.row _ (Below.refl _ _)) 0
    have x1 := cell_row (KX.out.row _ (Below.refl _ _)) 1
    have x2 := cell_row (KX.out.row _ (Below.refl _ _)) 2
    have x3 := cell_row (KX.out.row _ (Below.refl _ _)) 3
    have x4 := cell_row (KX.out.row _ (Below.refl _ _)) 4
    have x5 := cell_row (KX.out.row _ (Below.refl _ _)) 5
    have x6 := cell_row (KX.out.row _ (Below.refl _ _)) 6
    have x7 := cell_row (KX.out.row _ (Below.refl _ _)) 7
    go_wp2_with fail
    refine (superSame_calls (KX.out.val _ (Below.refl _ _)) (KX.out.val _ (Below.refl _ _))).mono ?_
    rintro e w11 ⟨rfl, hb⟩
    rw [decide_eq_true (rfl : x = x)]
    clear x0 x1 x2 x3 x4 x5 x6 x7
    have KX := Lib.hid (KX.out.later hb)
    have KY := Lib.hid (KY.out.later hb)
    have VS := Lib.hid (stepV VS.out hb)
    have BB := Lib.hid (BB.out.trans (hb.mono BB.out.size))
    clear hb
    go_wp2_with fail
    refine (live26 _).mono ?_
    rintro e w9 ⟨rfl, hb9⟩
    go_wp2_with fail
    go_ret
    exact ⟨rfl, BB.out.trans (hb9.mono BB.out.size)⟩
end Go.Proofs.Ythjjnlilpklacaa
