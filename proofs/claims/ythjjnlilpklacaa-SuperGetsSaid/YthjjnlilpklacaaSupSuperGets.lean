/- The statement on which superblock any bytes are, walked. Printed by gen_superlaws.py. -/
import Derived.Test.YthjjnlilpklacaaSupLive26
import Derived.Test.YthjjnlilpklacaaSupRSuperRight
import Derived.Test.YthjjnlilpklacaaSupSuperRight
import Derived.Test.YthjjnlilpklacaaSupSuperSame
namespace Go.Proofs.Ythjjnlilpklacaa
open Go.RowKit

set_option maxRecDepth 100000 in
set_option maxHeartbeats 4000000 in
/-- SuperGets -/
theorem superGets_calls {Q Q' R R' : Nat → Prop} {w : World} {va vb vx vy : Value} {a b : List UInt8} {x y : DSuper} (ha : Rep.byte.list.val Q w va a) (hb : Rep.byte.list.val Q' w vb b) (hx : rSuper.val R w vx x) (hy : rSuper.val R' w vy y) :
    Calls Try.prog 10 #[va, vb, vx, vy] w fun e w' => e = .returned (.bool true) ∧ Below w.heap.size w w' := by
  obtain ⟨A0, c0, rfl, _, hm0, _⟩ := Rep.val_list ha
  obtain ⟨A1, c1, rfl, _, hm1, _⟩ := Rep.val_list hb
  obtain ⟨A, c, rfl, _, _, _, _, _, _, _, hs⟩ := rSuper_val hx
  obtain ⟨B, d, rfl, _, _, _, _, _, _, _, ht⟩ := rSuper_val hy
  have hsm := hs.2.1
  have htm := ht.2.1
  unfold maxLen at hsm htm hm0 hm1
  obtain ⟨W1, hW1⟩ : ∃ W1, w.alloc (.cells #[.int .i64 x.epoch, .int .i64 x.gen, .int .i64 x.log, .int .i64 x.pages, .int .i64 x.head, .int .i64 x.seq, .int .i64 x.long, .slice A x.dir.length c] 114) = W1 := ⟨_, rfl⟩
  have h1 : Below w.heap.size w W1 := by rw [← hW1]; exact (Below.refl _ _).alloc (Nat.le_refl _) _
  have hz1 : W1.heap.size = w.heap.size + 1 := by rw [← hW1]; simp
  obtain ⟨W2, hW2⟩ : ∃ W2, W1.alloc (.cells #[.int .i64 y.epoch, .int .i64 y.gen, .int .i64 y.log, .int .i64 y.pages, .int .i64 y.head, .int .i64 y.seq, .int .i64 y.long, .slice B y.dir.length d] 114) = W2 := ⟨_, rfl⟩
  have h2 : Below W1.heap.size W1 W2 := by rw [← hW2]; exact (Below.refl _ _).alloc (Nat.le_refl _) _
  have KX := Lib.hid (show BoxK W2 w.heap.size x A c by refine BoxK.later (W1 := W1) ?_ h2; rw [← hW1]; exact BoxK.made hx)
  have KY := Lib.hid (show BoxK W2 (w.heap.size + 1) y B d by rw [← hz1, ← hW2]; exact BoxK.made (stepV hy h1))
  have BB := Lib.hid (show Below w.heap.size w W2 from h1.trans (h2.mono h1.size))
  have VA := Lib.hid (stepV (stepV ha h1) h2)
  have VB := Lib.hid (stepV (stepV hb h1) h2)
  rw [← hW1] at hW2
  clear ha hb hx hy hs ht hW1 h1 h2 hz1
  have x0 := cell_row (KX.out.row _ (Below.refl _ _)) 0
  have x1 := cell_row (KX.out.row _ (Below.refl _ _)) 1
  have x2 := cell_row (KX.out.row _ (Below.refl _ _)) 2
  have x3 := cell_row (KX.out.row _ (Below.refl _ _)) 3
  have x4 := cell_row (KX.out.row _ (Below.refl _ _)) 4
  have x5 := cell_row (KX.out.row _ (Below.refl _ _)) 5
  have x6 := cell_row (KX.out.row _ (Below.refl _ _)) 6
  have x7 := cell_row (KX.out.row _ (Below.refl _ _)) 7
  have y0 := cell_row (KY.out.row _ (Below.refl _ _)) 0
  have y1 := cell_row (KY.out.row _ (Below.refl _ _)) 1
  have y2 := cell_row (KY.out.row _ (Below.refl _ _)) 2
  have y3 := cell_row (KY.out.row _ (Below.refl _ _)) 3
  have y4 := cell_row (KY.out.row _ (Below.refl _ _)) 4
  have y5 := cell_row (KY.out.row _ (Below.refl _ _)) 5
  have y6 := cell_row (KY.out.row _ (Below.refl _ _)) 6
  have y7 := cell_row (KY.out.row _ (Below.refl _ _)) 7
  go_enter Try.func10, Try.ntmps10
  by_cases q0 : (600 : Int) < a.length
  case pos =>
    go_wp2_with fail
    try rw [hW2]
    clear hW2
    try go_wp2_with fail
    refine (live26 _).mono ?_
    rintro e w9 ⟨rfl, hb9⟩
    go_wp2_with fail
    go_ret
    exact ⟨rfl, BB.out.trans (hb9.mono BB.out.size)⟩
  by_cases q1 : (600 : Int) < b.length
  case pos =>
    go_wp2_with fail
    try rw [hW2]
    clear hW2
    try go_wp2_with fail
    refine (live26 _).mono ?_
    rintro e w9 ⟨rfl, hb9⟩
    go_wp2_with fail
    go_ret
    exact ⟨rfl, BB.out.trans (hb9.mono BB.out.size)⟩
  by_cases q2 : (300 : Int) < x.dir.length
  case pos =>
    go_wp2_with fail
    try rw [hW2]
    clear hW2
    try go_wp2_with fail
    refine (live26 _).mono ?_
    rintro e w9 ⟨rfl, hb9⟩
    go_wp2_with fail
    go_ret
    exact ⟨rfl, BB.out.trans (hb9.mono BB.out.size)⟩
  by_cases q3 : (300 : Int) < y.dir.length
  case pos =>
    go_wp2_with fail
    try rw [hW2]
    clear hW2
    try go_wp2_with fail
    refine (live26 _).mono ?_
    rintro e w9 ⟨rfl, hb9⟩
    go_wp2_with fail
    go_ret
    exact ⟨rfl, BB.out.trans (hb9.mono BB.out.size)⟩
  have GP := Lib.hid (fun (z : DSuper) (h : superGet a = some z) => super_get_put h)
  go_wp2_with fail
  try rw [hW2]
  clear hW2
  try go_wp2_with fail
  clear q0 q1 q2 q3 hsm htm hm0 hm1
  clear x0 x1 x2 x3 x4 x5 x6 x7
  clear y0 y1 y2 y3 y4 y5 y6 y7
  refine (superGet_calls VA.out).mono ?_
  rintro e w3 ⟨u, rfl, hu, hb⟩
  obtain ⟨g, hg⟩ : ∃ g, g = superGet a := ⟨_, rfl⟩
  have HG := Lib.hid hg
  obtain ⟨z, hz⟩ : ∃ z, z = g.getD superNone := ⟨_, rfl⟩
  have HZ := Lib.hid hz
  obtain ⟨f, hf⟩ : ∃ f, f = g.isSome := ⟨_, rfl⟩
  have HFS := Lib.hid hf
  rw [← hg, ← hz] at hu
  rw [← hg, ← hf]
  clear hg hz hf
  obtain ⟨AP, cP, rfl, _, _, _, _, _, _, _, _⟩ := rSuper_val hu
  have KX := Lib.hid (KX.out.later hb)
  have KY := Lib.hid (KY.out.later hb)
  have VA := Lib.hid (stepV VA.out hb)
  have VB := Lib.hid (stepV VB.out hb)
  have BB := Lib.hid (BB.out.trans (hb.mono BB.out.size))
  obtain ⟨WP, hWP⟩ : ∃ W, w3.alloc (.cells #[.int .i64 z.epoch, .int .i64 z.gen, .int .i64 z.log, .int .i64 z.pages, .int .i64 z.head, .int .i64 z.seq, .int .i64 z.long, .slice AP z.dir.length cP] 114) = W := ⟨_, rfl⟩
  have hbP : Below w3.heap.size w3 WP := by rw [← hWP]; exact (Below.refl _ _).alloc (Nat.le_refl _) _
  have KX := Lib.hid (KX.out.later hbP)
  have KY := Lib.hid (KY.out.later hbP)
  have VA := Lib.hid (stepV VA.out hbP)
  have VB := Lib.hid (stepV VB.out hbP)
  have BB := Lib.hid (BB.out.trans (hbP.mono BB.out.size))
  have KP := Lib.hid (show BoxK WP w3.heap.size z AP cP by rw [← hWP]; exact BoxK.made hu)
  clear hu hb hbP
  go_wp2_with fail
  try rw [hWP]
  clear hWP
  try go_wp2_with fail
  refine (rsuperGet_calls VA.out).mono ?_
  rintro e w4 ⟨u, rfl, hu, hb⟩
  rw [← HG.out, ← HZ.out] at hu
  rw [← HG.out, ← HFS.out]
  obtain ⟨AR, cR, rfl, _, _, _, _, _, _, _, _⟩ := rSuper_val hu
  have KX := Lib.hid (KX.out.later hb)
  have KY := Lib.hid (KY.out.later hb)
  have KP := Lib.hid (KP.out.later hb)
  have VA := Lib.hid (stepV VA.out hb)
  have VB := Lib.hid (stepV VB.out hb)
  have BB := Lib.hid (BB.out.trans (hb.mono BB.out.size))
  obtain ⟨WR, hWR⟩ : ∃ W, w4.alloc (.cells #[.int .i64 z.epoch, .int .i64 z.gen, .int .i64 z.log, .int .i64 z.pages, .int .i64 z.head, .int .i64 z.seq, .int .i64 z.long, .slice AR z.dir.length cR] 114) = W := ⟨_, rfl⟩
  have hbR : Below w4.heap.size w4 WR := by rw [← hWR]; exact (Below.refl _ _).alloc (Nat.le_refl _) _
  have KX := Lib.hid (KX.out.later hbR)
  have KY := Lib.hid (KY.out.later hbR)
  have KP := Lib.hid (KP.out.later hbR)
  have VA := Lib.hid (stepV VA.out hbR)
  have VB := Lib.hid (stepV VB.out hbR)
  have BB := Lib.hid (BB.out.trans (hbR.mono BB.out.size))
  have KR := Lib.hid (show BoxK WR w4.heap.size z AR cR by rw [← hWR]; exact BoxK.made hu)
  clear hu hb hbR
  go_wp2_with fail
  try rw [hWR]
  clear hWR
  try go_wp2_with fail
  refine (superChoose_calls sget VA.out VB.out).mono ?_
  rintro e w5 ⟨rfl, hb⟩
  obtain ⟨ch, hch⟩ : ∃ ch, ch = chooseOf a b := ⟨_, rfl⟩
  have HCH := Lib.hid hch
  rw [← hch]
  clear hch
  obtain ⟨m, h⟩ := ch
  have KX := Lib.hid (KX.out.later hb)
  have KY := Lib.hid (KY.out.later hb)
  have KP := Lib.hid (KP.out.later hb)
  have KR := Lib.hid (KR.out.later hb)
  have VA := Lib.hid (stepV VA.out hb)
  have VB := Lib.hid (stepV VB.out hb)
  have BB := Lib.hid (BB.out.trans (hb.mono BB.out.size))
  clear hb
  go_wp2_with fail
  refine (rsuperChoose_calls rget26 VA.out VB.out).mono ?_
  rintro e w6 ⟨rfl, hb⟩
  rw [← HCH.out]
  have KX := Lib.hid (KX.out.later hb)
  have KY := Lib.hid (KY.out.later hb)
  have KP := Lib.hid (KP.out.later hb)
  have KR := Lib.hid (KR.out.later hb)
  have VA := Lib.hid (stepV VA.out hb)
  have VB := Lib.hid (stepV VB.out hb)
  have BB := Lib.hid (BB.out.trans (hb.mono BB.out.size))
  clear hb
  have hfs := boolS f
  have hhs := boolS h
  obtain ⟨r, hr⟩ : ∃ r, r = decide (x = y) := ⟨_, rfl⟩
  have HR := Lib.hid hr
  have hrs := boolS r
  clear hr
  go_wp2_with fail
  refine wp_region_held_drew (S := fun W => Below w6.heap.size w6 W) (by kernel_rfl) ((Below.refl _ _).drew) (fun s0 => ?_)
  refine wpAnyH_take (i := 0) (v := .bool f) rfl (by kernel_rfl) (by kernel_rfl) (by kernel_rfl) (fun _ _ _ h => h) (Or.inl ⟨by rfl, fun w' _ => by go_simp⟩) s0 ?_
  go_simp
  refine wpAnyH_take (i := 1) (v := .bool f) rfl (by kernel_rfl) (by kernel_rfl) (by kernel_rfl) (fun _ _ _ h => h) (Or.inl ⟨by rfl, fun w' _ => by go_simp⟩) s0 ?_
  go_simp
  refine wpAnyH_take (i := 2) (v := .bool false) rfl (by kernel_rfl) (by kernel_rfl) (by kernel_rfl) (fun _ _ _ h => h) (Or.inl ⟨by rfl, fun w' _ => by go_simp⟩) s0 ?_
  go_simp
  refine wpAnyH_take (i := 3) (v := .bool false) rfl (by kernel_rfl) (by kernel_rfl) (by kernel_rfl) (fun _ _ _ h => h) (Or.inl ⟨by rfl, fun w' _ => by go_simp⟩) s0 ?_
  go_simp
  refine wpAnyH_take (i := 4) (v := .agg #[.int .i64 z.epoch, .int .i64 z.gen, .int .i64 z.log, .int .i64 z.pages, .int .i64 z.head, .int .i64 z.seq, .int .i64 z.long, .slice AP z.dir.length cP]) rfl (by kernel_rfl) (by kernel_rfl) (by kernel_rfl) (fun _ _ _ h => h) (Or.inl ⟨by rfl, fun w' h => by have x0 := cell_row (KP.out.row _ (h : Below w6.heap.size w6 w')) 0; have x1 := cell_row (KP.out.row _ (h : Below w6.heap.size w6 w')) 1; have x2 := cell_row (KP.out.row _ (h : Below w6.heap.size w6 w')) 2; have x3 := cell_row (KP.out.row _ (h : Below w6.heap.size w6 w')) 3; have x4 := cell_row (KP.out.row _ (h : Below w6.heap.size w6 w')) 4; have x5 := cell_row (KP.out.row _ (h : Below w6.heap.size w6 w')) 5; have x6 := cell_row (KP.out.row _ (h : Below w6.heap.size w6 w')) 6; have x7 := cell_row (KP.out.row _ (h : Below w6.heap.size w6 w')) 7; go_simp⟩) s0 ?_
  go_simp
  refine wpAnyH_take (i := 5) (v := .agg #[.int .i64 z.epoch, .int .i64 z.gen, .int .i64 z.log, .int .i64 z.pages, .int .i64 z.head, .int .i64 z.seq, .int .i64 z.long, .slice AR z.dir.length cR]) rfl (by kernel_rfl) (by kernel_rfl) (by kernel_rfl) (fun _ _ _ h => h) (Or.inl ⟨by rfl, fun w' h => by have x0 := cell_row (KR.out.row _ (h : Below w6.heap.size w6 w')) 0; have x1 := cell_row (KR.out.row _ (h : Below w6.heap.size w6 w')) 1; have x2 := cell_row (KR.out.row _ (h : Below w6.heap.size w6 w')) 2; have x3 := cell_row (KR.out.row _ (h : Below w6.heap.size w6 w')) 3; have x4 := cell_row (KR.out.row _ (h : Below w6.heap.size w6 w')) 4; have x5 := cell_row (KR.out.row _ (h : Below w6.heap.size w6 w')) 5; have x6 := cell_row (KR.out.row _ (h : Below w6.heap.size w6 w')) 6; have x7 := cell_row (KR.out.row _ (h : Below w6.heap.size w6 w')) 7; go_simp⟩) s0 ?_
  go_simp
  refine wpAnyH_all (rs := [6]) (by kernel_rfl) (by simp) ?_
  intro i hi
  obtain rfl : i = 6 := by simpa using hi
  clear hi
  refine wpOp_step rfl (fun K hK => ?_)
  go_simp
  refine (rsuperSame_calls (KP.out.val _ s0) (KR.out.val _ s0)).mono ?_
  rintro e w7 ⟨rfl, hb⟩
  rw [decide_eq_true (rfl : z = z)]
  have s6 := s0.trans (hb.mono s0.size)
  refine hK _ _ ⟨s6, ?_⟩
  clear hb
  clear hK K
  refine wpAnyH_take (i := 7) (v := .bool false) rfl (by kernel_rfl) (by kernel_rfl) (by kernel_rfl) (fun _ _ _ h => h) (Or.inl ⟨by rfl, fun w' _ => by go_simp⟩) s6 ?_
  go_simp
  refine wpAnyH_take (i := 8) (v := .bool false) rfl (by kernel_rfl) (by kernel_rfl) (by kernel_rfl) (fun _ _ _ h => h) (Or.inl ⟨by rfl, fun w' _ => by go_simp⟩) s6 ?_
  go_simp
  refine wpAnyH_take (i := 9) (v := .bool false) rfl (by kernel_rfl) (by kernel_rfl) (by kernel_rfl) (fun _ _ _ h => h) (Or.inl ⟨by rfl, fun w' _ => by go_simp⟩) s6 ?_
  go_simp
  refine wpAnyH_take (i := 10) (v := .int .i64 m) rfl (by kernel_rfl) (by kernel_rfl) (by kernel_rfl) (fun _ _ _ h => h) (Or.inl ⟨by rfl, fun w' _ => by go_simp⟩) s6 ?_
  go_simp
  refine wpAnyH_take (i := 11) (v := .int .i64 m) rfl (by kernel_rfl) (by kernel_rfl) (by kernel_rfl) (fun _ _ _ h => h) (Or.inl ⟨by rfl, fun w' _ => by go_simp⟩) s6 ?_
  go_simp
  refine wpAnyH_take (i := 12) (v := .bool false) rfl (by kernel_rfl) (by kernel_rfl) (by kernel_rfl) (fun _ _ _ h => h) (Or.inl ⟨by rfl, fun w' _ => by go_simp⟩) s6 ?_
  go_simp
  refine wpAnyH_take (i := 13) (v := .bool false) rfl (by kernel_rfl) (by kernel_rfl) (by kernel_rfl) (fun _ _ _ h => h) (Or.inl ⟨by rfl, fun w' _ => by go_simp⟩) s6 ?_
  go_simp
  refine wpAnyH_take (i := 14) (v := .bool false) rfl (by kernel_rfl) (by kernel_rfl) (by kernel_rfl) (fun _ _ _ h => h) (Or.inl ⟨by rfl, fun w' _ => by go_simp⟩) s6 ?_
  go_simp
  refine wpAnyH_take (i := 15) (v := .bool h) rfl (by kernel_rfl) (by kernel_rfl) (by kernel_rfl) (fun _ _ _ h => h) (Or.inl ⟨by rfl, fun w' _ => by go_simp⟩) s6 ?_
  go_simp
  refine wpAnyH_take (i := 16) (v := .bool h) rfl (by kernel_rfl) (by kernel_rfl) (by kernel_rfl) (fun _ _ _ h => h) (Or.inl ⟨by rfl, fun w' _ => by go_simp⟩) s6 ?_
  go_simp
  refine wpAnyH_take (i := 17) (v := .bool false) rfl (by kernel_rfl) (by kernel_rfl) (by kernel_rfl) (fun _ _ _ h => h) (Or.inl ⟨by rfl, fun w' _ => by go_simp⟩) s6 ?_
  go_simp
  refine wpAnyH_take (i := 18) (v := .bool false) rfl (by kernel_rfl) (by kernel_rfl) (by kernel_rfl) (fun _ _ _ h => h) (Or.inl ⟨by rfl, fun w' _ => by go_simp⟩) s6 ?_
  go_simp
  refine wpAnyH_take (i := 19) (v := .bool false) rfl (by kernel_rfl) (by kernel_rfl) (by kernel_rfl) (fun _ _ _ h => h) (Or.inl ⟨by rfl, fun w' _ => by go_simp⟩) s6 ?_
  go_simp
  refine wpAnyH_take (i := 20) (v := .agg #[.int .i64 x.epoch, .int .i64 x.gen, .int .i64 x.log, .int .i64 x.pages, .int .i64 x.head, .int .i64 x.seq, .int .i64 x.long, .slice A x.dir.length c]) rfl (by kernel_rfl) (by kernel_rfl) (by kernel_rfl) (fun _ _ _ h => h) (Or.inl ⟨by rfl, fun w' h => by have x0 := cell_row (KX.out.row _ (h : Below w6.heap.size w6 w')) 0; have x1 := cell_row (KX.out.row _ (h : Below w6.heap.size w6 w')) 1; have x2 := cell_row (KX.out.row _ (h : Below w6.heap.size w6 w')) 2; have x3 := cell_row (KX.out.row _ (h : Below w6.heap.size w6 w')) 3; have x4 := cell_row (KX.out.row _ (h : Below w6.heap.size w6 w')) 4; have x5 := cell_row (KX.out.row _ (h : Below w6.heap.size w6 w')) 5; have x6 := cell_row (KX.out.row _ (h : Below w6.heap.size w6 w')) 6; have x7 := cell_row (KX.out.row _ (h : Below w6.heap.size w6 w')) 7; go_simp⟩) s6 ?_
  go_simp
  refine wpAnyH_take (i := 21) (v := .agg #[.int .i64 y.epoch, .int .i64 y.gen, .int .i64 y.log, .int .i64 y.pages, .int .i64 y.head, .int .i64 y.seq, .int .i64 y.long, .slice B y.dir.length d]) rfl (by kernel_rfl) (by kernel_rfl) (by kernel_rfl) (fun _ _ _ h => h) (Or.inl ⟨by rfl, fun w' h => by have x0 := cell_row (KY.out.row _ (h : Below w6.heap.size w6 w')) 0; have x1 := cell_row (KY.out.row _ (h : Below w6.heap.size w6 w')) 1; have x2 := cell_row (KY.out.row _ (h : Below w6.heap.size w6 w')) 2; have x3 := cell_row (KY.out.row _ (h : Below w6.heap.size w6 w')) 3; have x4 := cell_row (KY.out.row _ (h : Below w6.heap.size w6 w')) 4; have x5 := cell_row (KY.out.row _ (h : Below w6.heap.size w6 w')) 5; have x6 := cell_row (KY.out.row _ (h : Below w6.heap.size w6 w')) 6; have x7 := cell_row (KY.out.row _ (h : Below w6.heap.size w6 w')) 7; go_simp⟩) s6 ?_
  go_simp
  refine wpAnyH_take (i := 23) (v := .agg #[.int .i64 x.epoch, .int .i64 x.gen, .int .i64 x.log, .int .i64 x.pages, .int .i64 x.head, .int .i64 x.seq, .int .i64 x.long, .slice A x.dir.length c]) rfl (by kernel_rfl) (by kernel_rfl) (by kernel_rfl) (fun _ _ _ h => h) (Or.inl ⟨by rfl, fun w' h => by have x0 := cell_row (KX.out.row _ (h : Below w6.heap.size w6 w')) 0; have x1 := cell_row (KX.out.row _ (h : Below w6.heap.size w6 w')) 1; have x2 := cell_row (KX.out.row _ (h : Below w6.heap.size w6 w')) 2; have x3 := cell_row (KX.out.row _ (h : Below w6.heap.size w6 w')) 3; have x4 := cell_row (KX.out.row _ (h : Below w6.heap.size w6 w')) 4; have x5 := cell_row (KX.out.row _ (h : Below w6.heap.size w6 w')) 5; have x6 := cell_row (KX.out.row _ (h : Below w6.heap.size w6 w')) 6; have x7 := cell_row (KX.out.row _ (h : Below w6.heap.size w6 w')) 7; go_simp⟩) s6 ?_
  go_simp
  refine wpAnyH_take (i := 24) (v := .agg #[.int .i64 y.epoch, .int .i64 y.gen, .int .i64 y.log, .int .i64 y.pages, .int .i64 y.head, .int .i64 y.seq, .int .i64 y.long, .slice B y.dir.length d]) rfl (by kernel_rfl) (by kernel_rfl) (by kernel_rfl) (fun _ _ _ h => h) (Or.inl ⟨by rfl, fun w' h => by have x0 := cell_row (KY.out.row _ (h : Below w6.heap.size w6 w')) 0; have x1 := cell_row (KY.out.row _ (h : Below w6.heap.size w6 w')) 1; have x2 := cell_row (KY.out.row _ (h : Below w6.heap.size w6 w')) 2; have x3 := cell_row (KY.out.row _ (h : Below w6.heap.size w6 w')) 3; have x4 := cell_row (KY.out.row _ (h : Below w6.heap.size w6 w')) 4; have x5 := cell_row (KY.out.row _ (h : Below w6.heap.size w6 w')) 5; have x6 := cell_row (KY.out.row _ (h : Below w6.heap.size w6 w')) 6; have x7 := cell_row (KY.out.row _ (h : Below w6.heap.size w6 w')) 7; go_simp⟩) s6 ?_
  go_simp
  refine wpAnyH_all (rs := [22]) (by kernel_rfl) (by simp) ?_
  intro i hi
  obtain rfl : i = 22 := by simpa using hi
  clear hi
  refine wpOp_step rfl (fun K hK => ?_)
  go_simp
  refine (superSame_calls (KX.out.val _ s6) (KY.out.val _ s6)).mono ?_
  rintro e w8 ⟨rfl, hb⟩
  rw [← HR.out]
  have s22 := s6.trans (hb.mono s6.size)
  refine hK _ _ ⟨s22, ?_⟩
  clear hb
  clear hK K
  refine wpAnyH_all (rs := [25]) (by kernel_rfl) (by simp) ?_
  intro i hi
  obtain rfl : i = 25 := by simpa using hi
  clear hi
  refine wpOp_step rfl (fun K hK => ?_)
  go_simp
  refine (rsuperSame_calls (KX.out.val _ s22) (KY.out.val _ s22)).mono ?_
  rintro e w9 ⟨rfl, hb⟩
  rw [← HR.out]
  have s25 := s22.trans (hb.mono s22.size)
  refine hK _ _ ⟨s25, ?_⟩
  clear hb
  clear hK K
  refine wpAnyH_take (i := 26) (v := .bool false) rfl (by kernel_rfl) (by kernel_rfl) (by kernel_rfl) (fun _ _ _ h => h) (Or.inl ⟨by rfl, fun w' _ => by go_simp⟩) s25 ?_
  go_simp
  refine wpAnyH_take (i := 27) (v := .bool false) rfl (by kernel_rfl) (by kernel_rfl) (by kernel_rfl) (fun _ _ _ h => h) (Or.inl ⟨by rfl, fun w' _ => by go_simp⟩) s25 ?_
  go_simp
  refine wpAnyH_done (by kernel_rfl) ?_ _
  have KX := Lib.hid (KX.out.later s25)
  have KY := Lib.hid (KY.out.later s25)
  have KP := Lib.hid (KP.out.later s25)
  have KR := Lib.hid (KR.out.later s25)
  have VA := Lib.hid (stepV VA.out s25)
  have VB := Lib.hid (stepV VB.out s25)
  have BB := Lib.hid (BB.out.trans (s25.mono BB.out.size))
  clear s0 s6 s22 s25 hfs hhs hrs
  cases g with
  | none =>
    have e2 : f = false := HFS.out
    subst e2
    go_wp2_with fail
    refine (live26 _).mono ?_
    rintro e w9 ⟨rfl, hb9⟩
    go_wp2_with fail
    go_ret
    exact ⟨rfl, BB.out.trans (hb9.mono BB.out.size)⟩
  | some z' =>
    obtain rfl : z = z' := HZ.out
    have e2 : f = true := HFS.out
    subst e2
    have GZ := Lib.hid (GP.out z HG.out.symm)
    have GD := Lib.hid (show z.dir.length ≤ 1000000 by have := (superRight_iff.1 GZ.out.2).dir; omega)
    have x0 := cell_row (KP.out.row _ (Below.refl _ _)) 0
    have x1 := cell_row (KP.out.row _ (Below.refl _ _)) 1
    have x2 := cell_row (KP.out.row _ (Below.refl _ _)) 2
    have x3 := cell_row (KP.out.row _ (Below.refl _ _)) 3
    have x4 := cell_row (KP.out.row _ (Below.refl _ _)) 4
    have x5 := cell_row (KP.out.row _ (Below.refl _ _)) 5
    have x6 := cell_row (KP.out.row _ (Below.refl _ _)) 6
    have x7 := cell_row (KP.out.row _ (Below.refl _ _)) 7
    go_wp2_with fail
    refine (superPut_calls (KP.out.val _ (Below.refl _ _)) GD.out).mono ?_
    rintro e w10 ⟨u, rfl, hu, hb⟩
    rw [GZ.out.1] at hu
    clear x0 x1 x2 x3 x4 x5 x6 x7
    have KX := Lib.hid (KX.out.later hb)
    have KY := Lib.hid (KY.out.later hb)
    have KP := Lib.hid (KP.out.later hb)
    have KR := Lib.hid (KR.out.later hb)
    have VA := Lib.hid (stepV VA.out hb)
    have VB := Lib.hid (stepV VB.out hb)
    have BB := Lib.hid (BB.out.trans (hb.mono BB.out.size))
    have VU := Lib.hid hu
    obtain ⟨AU, cU, rfl, _, _, _⟩ := Rep.val_list hu
    clear hu hb
    go_wp2_with fail
    refine (sameBytes VU.out VA.out).mono ?_
    rintro e w11 ⟨rfl, hw⟩
    have hw2 := hw.symm
    subst hw2
    clear hw
    rw [decide_eq_true (rfl : a = a)]
    go_wp2_with fail
    refine (live26 _).mono ?_
    rintro e w9 ⟨rfl, hb9⟩
    go_wp2_with fail
    go_ret
    exact ⟨rfl, BB.out.trans (hb9.mono BB.out.size)⟩
end Go.Proofs.Ythjjnlilpklacaa
