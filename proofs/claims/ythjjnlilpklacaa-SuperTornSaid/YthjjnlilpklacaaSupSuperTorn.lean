/- The statement on a part of a superblock, walked. Printed by gen_superlaws.py. -/
import Derived.Test.YthjjnlilpklacaaSupLive26
import Derived.Test.YthjjnlilpklacaaSupRSuperRight
import Derived.Test.YthjjnlilpklacaaSupSuperEpochs
import Derived.Test.YthjjnlilpklacaaSupSuperRight
import Derived.Test.YthjjnlilpklacaaSupSuperSame
import Derived.Test.YthjjnlilpklacaaSupTear
namespace Go.Proofs.Ythjjnlilpklacaa
open Go.RowKit

/-- A copy of a superblock with another generation. -/
theorem BoxK.copy {Q : Nat → Prop} {w : World} {x : DSuper} {A : Option Addr} {c : Nat} {gen : Int} (h : rSuper.val Q w (.agg #[.int .i64 x.epoch, .int .i64 x.gen, .int .i64 x.log, .int .i64 x.pages, .int .i64 x.head, .int .i64 x.seq, .int .i64 x.long, .slice A x.dir.length c]) x) (hg : (Lit.int .i64 gen).wf = true) :
    BoxK ((w.alloc (.cells #[.int .i64 x.epoch, .int .i64 x.gen, .int .i64 x.log, .int .i64 x.pages, .int .i64 x.head, .int .i64 x.seq, .int .i64 x.long, .slice A x.dir.length c] 114)).setCell ⟨w.heap.size, 1, none⟩ (.int .i64 gen)) w.heap.size ⟨x.epoch, gen, x.log, x.pages, x.head, x.seq, x.long, x.dir⟩ A c := by
  obtain ⟨A', c', he, f0, f1, f2, f3, f4, f5, f6, hs⟩ := rSuper_val h
  cases he
  have hv : rSuper.val (fun _ => True) w (.agg #[.int .i64 x.epoch, .int .i64 gen, .int .i64 x.log, .int .i64 x.pages, .int .i64 x.head, .int .i64 x.seq, .int .i64 x.long, .slice A x.dir.length c]) ⟨x.epoch, gen, x.log, x.pages, x.head, x.seq, x.long, x.dir⟩ :=
    rSuper_agg (x := ⟨x.epoch, gen, x.log, x.pages, x.head, x.seq, x.long, x.dir⟩) f0 hg f2 f3 f4 f5 f6 (hs.keep fun _ _ _ => ⟨trivial, rfl⟩)
  have hb : Below w.heap.size w ((w.alloc (.cells #[.int .i64 x.epoch, .int .i64 x.gen, .int .i64 x.log, .int .i64 x.pages, .int .i64 x.head, .int .i64 x.seq, .int .i64 x.long, .slice A x.dir.length c] 114)).setCell ⟨w.heap.size, 1, none⟩ (.int .i64 gen)) := below_set ((Below.refl _ _).alloc (Nat.le_refl _) _) (Nat.le_refl _)
  exact ⟨fun W hW => (hW.block _ (by simp)).trans (heap_setRow (heap_alloc_new _ _)), fun W hW => Rep.val_below (B := w.heap.size) hv (hb.trans (hW.mono hb.size)) (fun _ _ h => h.lt)⟩

set_option maxRecDepth 100000 in
set_option maxHeartbeats 4000000 in
/-- SuperTorn -/
theorem superTorn_calls {Q R : Nat → Prop} {w : World} {va vx : Value} {a : List UInt8} {x : DSuper} {gen k : Int} (ha : Rep.byte.list.val Q w va a) (hx : rSuper.val R w vx x) (hg : (Lit.int .i64 gen).wf = true) (hk : (Lit.int .i64 k).wf = true) :
    Calls Try.prog 8 #[va, vx, .int .i64 gen, .int .i64 k] w fun e w' => e = .returned (.bool true) ∧ Below w.heap.size w w' := by
  obtain ⟨A0, c0, rfl, _, hm0, _⟩ := Rep.val_list ha
  obtain ⟨A, c, rfl, _, _, _, _, _, _, _, hs⟩ := rSuper_val hx
  have hsm := hs.2.1
  unfold maxLen at hsm hm0
  have HWG := Lib.hid hg
  have HWK := Lib.hid hk
  obtain ⟨W1, hW1⟩ : ∃ W1, w.alloc (.cells #[.int .i64 x.epoch, .int .i64 x.gen, .int .i64 x.log, .int .i64 x.pages, .int .i64 x.head, .int .i64 x.seq, .int .i64 x.long, .slice A x.dir.length c] 114) = W1 := ⟨_, rfl⟩
  have h1 : Below w.heap.size w W1 := by rw [← hW1]; exact (Below.refl _ _).alloc (Nat.le_refl _) _
  have KX := Lib.hid (show BoxK W1 w.heap.size x A c by rw [← hW1]; exact BoxK.made hx)
  have BB := Lib.hid (show Below w.heap.size w W1 from h1)
  have VA := Lib.hid (stepV ha h1)
  clear ha hx hs hg hk h1
  have x0 := cell_row (KX.out.row _ (Below.refl _ _)) 0
  have x1 := cell_row (KX.out.row _ (Below.refl _ _)) 1
  have x2 := cell_row (KX.out.row _ (Below.refl _ _)) 2
  have x3 := cell_row (KX.out.row _ (Below.refl _ _)) 3
  have x4 := cell_row (KX.out.row _ (Below.refl _ _)) 4
  have x5 := cell_row (KX.out.row _ (Below.refl _ _)) 5
  have x6 := cell_row (KX.out.row _ (Below.refl _ _)) 6
  have x7 := cell_row (KX.out.row _ (Below.refl _ _)) 7
  go_enter Try.func8, Try.ntmps8
  by_cases q0 : (a.length : Int) = 512
  case neg =>
    have q0b : ((a.length : Int) != 512) = true := by simpa using q0
    go_wp2_with fail
    try rw [hW1]
    clear hW1
    try go_wp2_with fail
    refine (live26 _).mono ?_
    rintro e w9 ⟨rfl, hb9⟩
    go_wp2_with fail
    go_ret
    exact ⟨rfl, BB.out.trans (hb9.mono BB.out.size)⟩
  have q0b : ((a.length : Int) != 512) = false := by simpa using q0
  by_cases q1 : (300 : Int) < x.dir.length
  case pos =>
    go_wp2_with fail
    try rw [hW1]
    clear hW1
    try go_wp2_with fail
    refine (live26 _).mono ?_
    rintro e w9 ⟨rfl, hb9⟩
    go_wp2_with fail
    go_ret
    exact ⟨rfl, BB.out.trans (hb9.mono BB.out.size)⟩
  have HL := Lib.hid (show x.dir.length ≤ 1000000 by omega)
  have HA5 := Lib.hid (show a.length = 512 by omega)
  obtain ⟨r, hr⟩ : ∃ r, r = superRight x := ⟨_, rfl⟩
  have HR := Lib.hid hr
  clear hr
  go_wp2_with fail
  try rw [hW1]
  clear hW1
  try go_wp2_with fail
  clear q0 q0b q1 hsm hm0
  refine (rsuperRight_calls (KX.out.val _ (Below.refl _ _))).mono ?_
  rintro e w2 ⟨rfl, hb⟩
  rw [← HR.out]
  clear x0 x1 x2 x3 x4 x5 x6 x7
  have KX := Lib.hid (KX.out.later hb)
  have VA := Lib.hid (stepV VA.out hb)
  have BB := Lib.hid (BB.out.trans (hb.mono BB.out.size))
  clear hb
  cases r with
  | false =>
    go_wp2_with fail
    refine (live26 _).mono ?_
    rintro e w9 ⟨rfl, hb9⟩
    go_wp2_with fail
    go_ret
    exact ⟨rfl, BB.out.trans (hb9.mono BB.out.size)⟩
  | true =>
  have RX := Lib.hid (superRight_iff.1 HR.out.symm)
  obtain ⟨X, hX⟩ : ∃ X, X = superBytes x := ⟨_, rfl⟩
  have EX := Lib.hid hX
  clear hX
  have x0 := cell_row (KX.out.row _ (Below.refl _ _)) 0
  have x1 := cell_row (KX.out.row _ (Below.refl _ _)) 1
  have x2 := cell_row (KX.out.row _ (Below.refl _ _)) 2
  have x3 := cell_row (KX.out.row _ (Below.refl _ _)) 3
  have x4 := cell_row (KX.out.row _ (Below.refl _ _)) 4
  have x5 := cell_row (KX.out.row _ (Below.refl _ _)) 5
  have x6 := cell_row (KX.out.row _ (Below.refl _ _)) 6
  have x7 := cell_row (KX.out.row _ (Below.refl _ _)) 7
  go_wp2_with fail
  refine (rsuperPut_calls (KX.out.val _ (Below.refl _ _)) HL.out).mono ?_
  rintro e w3 ⟨u, rfl, hu, hb⟩
  rw [← EX.out] at hu
  clear x0 x1 x2 x3 x4 x5 x6 x7
  have KX := Lib.hid (KX.out.later hb)
  have VA := Lib.hid (stepV VA.out hb)
  have BB := Lib.hid (BB.out.trans (hb.mono BB.out.size))
  have VX := Lib.hid (stepV hu (Below.refl _ _))
  obtain ⟨AX, cX, rfl, _, _, _⟩ := Rep.val_list hu
  clear hu hb
  go_wp2_with fail
  refine (epochs_calls VA.out).mono ?_
  rintro e w' ⟨rfl, hw⟩
  have hw2 := hw.symm
  subst hw2
  clear hw
  obtain ⟨ea, hea⟩ : ∃ n, n = (epochsOf a).1 := ⟨_, rfl⟩
  obtain ⟨eb, heb⟩ : ∃ n, n = (epochsOf a).2 := ⟨_, rfl⟩
  rw [← hea, ← heb]
  have HEA := Lib.hid hea
  have HEB := Lib.hid heb
  clear hea heb
  have q0 := cell_row (KX.out.row _ (Below.refl _ _)) 0
  have q1 := cell_row (KX.out.row _ (Below.refl _ _)) 1
  have q2 := cell_row (KX.out.row _ (Below.refl _ _)) 2
  have q3 := cell_row (KX.out.row _ (Below.refl _ _)) 3
  have q4 := cell_row (KX.out.row _ (Below.refl _ _)) 4
  have q5 := cell_row (KX.out.row _ (Below.refl _ _)) 5
  have q6 := cell_row (KX.out.row _ (Below.refl _ _)) 6
  have q7 := cell_row (KX.out.row _ (Below.refl _ _)) 7
  by_cases p1 : ea < x.epoch ∧ eb < x.epoch
  case neg =>
    by_cases p2 : ea < x.epoch
    case pos =>
      have p3 : ¬ eb < x.epoch := fun h => p1 ⟨p2, h⟩
      clear p1
      have o0 := cell_row (KX.out.row _ (Below.refl _ _)) 0
      have o1 := cell_row (KX.out.row _ (Below.refl _ _)) 1
      have o2 := cell_row (KX.out.row _ (Below.refl _ _)) 2
      have o3 := cell_row (KX.out.row _ (Below.refl _ _)) 3
      have o4 := cell_row (KX.out.row _ (Below.refl _ _)) 4
      have o5 := cell_row (KX.out.row _ (Below.refl _ _)) 5
      have o6 := cell_row (KX.out.row _ (Below.refl _ _)) 6
      have o7 := cell_row (KX.out.row _ (Below.refl _ _)) 7
      obtain ⟨WC, hWC⟩ : ∃ W, (w3.alloc (.cells #[.int .i64 x.epoch, .int .i64 x.gen, .int .i64 x.log, .int .i64 x.pages, .int .i64 x.head, .int .i64 x.seq, .int .i64 x.long, .slice A x.dir.length c] 114)).setCell ⟨w3.heap.size, 1, none⟩ (.int .i64 gen) = W := ⟨_, rfl⟩
      have hbC : Below w3.heap.size w3 WC := by rw [← hWC]; exact below_set ((Below.refl _ _).alloc (Nat.le_refl _) _) (Nat.le_refl _)
      have KY0 : BoxK WC w3.heap.size ⟨x.epoch, gen, x.log, x.pages, x.head, x.seq, x.long, x.dir⟩ A c := by rw [← hWC]; exact BoxK.copy (KX.out.val _ (Below.refl _ _)) HWG.out
      obtain ⟨y, hy⟩ : ∃ y, y = (⟨x.epoch, gen, x.log, x.pages, x.head, x.seq, x.long, x.dir⟩ : DSuper) := ⟨_, rfl⟩
      rw [← hy] at KY0
      have KY := Lib.hid KY0
      have HY := Lib.hid hy
      have YE := Lib.hid (show y.epoch = x.epoch by rw [hy])
      have YG := Lib.hid (show y.gen = gen by rw [hy])
      have YL := Lib.hid (show y.dir.length ≤ 1000000 by rw [hy]; exact HL.out)
      have YS := Lib.hid (show y.dir.length = x.dir.length by rw [hy])
      have KX := Lib.hid (KX.out.later hbC)
      have VA := Lib.hid (stepV VA.out hbC)
      have VX := Lib.hid (stepV VX.out hbC)
      have BB := Lib.hid (BB.out.trans (hbC.mono BB.out.size))
      clear hbC KY0 hy
      have x0 := cell_row (KX.out.row _ (Below.refl _ _)) 0
      have x1 := cell_row (KX.out.row _ (Below.refl _ _)) 1
      have x2 := cell_row (KX.out.row _ (Below.refl _ _)) 2
      have x3 := cell_row (KX.out.row _ (Below.refl _ _)) 3
      have x4 := cell_row (KX.out.row _ (Below.refl _ _)) 4
      have x5 := cell_row (KX.out.row _ (Below.refl _ _)) 5
      have x6 := cell_row (KX.out.row _ (Below.refl _ _)) 6
      have x7 := cell_row (KX.out.row _ (Below.refl _ _)) 7
      have y0 := cell_row (KY.out.row _ (Below.refl _ _)) 0
      have y1 := cell_row (KY.out.row _ (Below.refl _ _)) 1
      have y2 := cell_row (KY.out.row _ (Below.refl _ _)) 2
      have y3 := cell_row (KY.out.row _ (Below.refl _ _)) 3
      have y4 := cell_row (KY.out.row _ (Below.refl _ _)) 4
      have y5 := cell_row (KY.out.row _ (Below.refl _ _)) 5
      have y6 := cell_row (KY.out.row _ (Below.refl _ _)) 6
      have y7 := cell_row (KY.out.row _ (Below.refl _ _)) 7
      go_wp2_with fail
      try rw [hWC]
      clear hWC
      try go_wp2_with fail
      clear o0 o1 o2 o3 o4 o5 o6 o7
      refine (rsuperRight_calls (KY.out.val _ (Below.refl _ _))).mono ?_
      rintro e v2 ⟨rfl, hb⟩
      clear x0 x1 x2 x3 x4 x5 x6 x7
      clear y0 y1 y2 y3 y4 y5 y6 y7
      have KX := Lib.hid (KX.out.later hb)
      have KY := Lib.hid (KY.out.later hb)
      have VA := Lib.hid (stepV VA.out hb)
      have VX := Lib.hid (stepV VX.out hb)
      have BB := Lib.hid (BB.out.trans (hb.mono BB.out.size))
      clear hb
      obtain ⟨ry, hry⟩ : ∃ r, r = superRight y := ⟨_, rfl⟩
      rw [← hry]
      have HRY := Lib.hid hry
      clear hry
      have x0 := cell_row (KX.out.row _ (Below.refl _ _)) 0
      have x1 := cell_row (KX.out.row _ (Below.refl _ _)) 1
      have x2 := cell_row (KX.out.row _ (Below.refl _ _)) 2
      have x3 := cell_row (KX.out.row _ (Below.refl _ _)) 3
      have x4 := cell_row (KX.out.row _ (Below.refl _ _)) 4
      have x5 := cell_row (KX.out.row _ (Below.refl _ _)) 5
      have x6 := cell_row (KX.out.row _ (Below.refl _ _)) 6
      have x7 := cell_row (KX.out.row _ (Below.refl _ _)) 7
      cases ry with
      | false =>
        go_wp2_with fail
        refine (live26 _).mono ?_
        rintro e w9 ⟨rfl, hb9⟩
        go_wp2_with fail
        go_ret
        exact ⟨rfl, BB.out.trans (hb9.mono BB.out.size)⟩
      | true =>
        by_cases hgg : gen = x.gen
        case pos =>
          have hgb : (gen == x.gen) = true := by simpa using hgg
          clear hgg
          go_wp2_with fail
          refine (live26 _).mono ?_
          rintro e w9 ⟨rfl, hb9⟩
          go_wp2_with fail
          go_ret
          exact ⟨rfl, BB.out.trans (hb9.mono BB.out.size)⟩
        have hgb : (gen == x.gen) = false := by simpa using hgg
        have HNG := Lib.hid (show y.gen ≠ x.gen by rw [YG.out]; exact hgg)
        clear hgg
        have RY := Lib.hid (superRight_iff.1 HRY.out.symm)
        obtain ⟨Y, hY⟩ : ∃ Y, Y = superBytes y := ⟨_, rfl⟩
        have EY := Lib.hid hY
        clear hY
        have y0 := cell_row (KY.out.row _ (Below.refl _ _)) 0
        have y1 := cell_row (KY.out.row _ (Below.refl _ _)) 1
        have y2 := cell_row (KY.out.row _ (Below.refl _ _)) 2
        have y3 := cell_row (KY.out.row _ (Below.refl _ _)) 3
        have y4 := cell_row (KY.out.row _ (Below.refl _ _)) 4
        have y5 := cell_row (KY.out.row _ (Below.refl _ _)) 5
        have y6 := cell_row (KY.out.row _ (Below.refl _ _)) 6
        have y7 := cell_row (KY.out.row _ (Below.refl _ _)) 7
        go_wp2_with fail
        refine (rsuperPut_calls (KY.out.val _ (Below.refl _ _)) YL.out).mono ?_
        rintro e v3 ⟨u, rfl, hu, hb⟩
        rw [← EY.out] at hu
        clear x0 x1 x2 x3 x4 x5 x6 x7
        clear y0 y1 y2 y3 y4 y5 y6 y7
        have KX := Lib.hid (KX.out.later hb)
        have KY := Lib.hid (KY.out.later hb)
        have VA := Lib.hid (stepV VA.out hb)
        have VX := Lib.hid (stepV VX.out hb)
        have BB := Lib.hid (BB.out.trans (hb.mono BB.out.size))
        have VY := Lib.hid (stepV hu (Below.refl _ _))
        obtain ⟨AY, cY, rfl, _, _, _⟩ := Rep.val_list hu
        clear hu hb
        go_wp2_with fail
        refine (tear_calls VY.out VX.out HWK.out).mono ?_
        rintro e v4 ⟨u, rfl, hu, hb⟩
        obtain ⟨t, ht⟩ : ∃ t, t = tearOf Y X k := ⟨_, rfl⟩
        rw [← ht] at hu
        have HT := Lib.hid ht
        clear ht
        have KX := Lib.hid (KX.out.later hb)
        have KY := Lib.hid (KY.out.later hb)
        have VA := Lib.hid (stepV VA.out hb)
        have VX := Lib.hid (stepV VX.out hb)
        have VY := Lib.hid (stepV VY.out hb)
        have BB := Lib.hid (BB.out.trans (hb.mono BB.out.size))
        have VT := Lib.hid (stepV hu (Below.refl _ _))
        obtain ⟨AT, cT, rfl, _, _, _⟩ := Rep.val_list hu
        clear hu hb
        go_wp2_with fail
        refine (superGet_calls VT.out).mono ?_
        rintro e v5 ⟨u, rfl, hu, hb⟩
        obtain ⟨g, hg⟩ : ∃ g, g = superGet t := ⟨_, rfl⟩
        have HG2 := Lib.hid hg
        rw [← hg] at hu
        rw [← hg]
        obtain ⟨z, hz⟩ : ∃ z, z = g.getD superNone := ⟨_, rfl⟩
        rw [← hz] at hu
        clear hg hz
        obtain ⟨AG, cG, rfl, _, _, _, _, _, _, _, _⟩ := rSuper_val hu
        have KX := Lib.hid (KX.out.later hb)
        have KY := Lib.hid (KY.out.later hb)
        have VA := Lib.hid (stepV VA.out hb)
        have VX := Lib.hid (stepV VX.out hb)
        have VY := Lib.hid (stepV VY.out hb)
        have VT := Lib.hid (stepV VT.out hb)
        have BB := Lib.hid (BB.out.trans (hb.mono BB.out.size))
        obtain ⟨WG, hWG⟩ : ∃ W, v5.alloc (.cells #[.int .i64 z.epoch, .int .i64 z.gen, .int .i64 z.log, .int .i64 z.pages, .int .i64 z.head, .int .i64 z.seq, .int .i64 z.long, .slice AG z.dir.length cG] 114) = W := ⟨_, rfl⟩
        have hbG : Below v5.heap.size v5 WG := by rw [← hWG]; exact (Below.refl _ _).alloc (Nat.le_refl _) _
        have KX := Lib.hid (KX.out.later hbG)
        have KY := Lib.hid (KY.out.later hbG)
        have VA := Lib.hid (stepV VA.out hbG)
        have VX := Lib.hid (stepV VX.out hbG)
        have VY := Lib.hid (stepV VY.out hbG)
        have VT := Lib.hid (stepV VT.out hbG)
        have BB := Lib.hid (BB.out.trans (hbG.mono BB.out.size))
        clear hu hb hbG
        obtain ⟨f, hf⟩ : ∃ f, f = g.isSome := ⟨_, rfl⟩
        rw [← hf]
        cases g with
        | none =>
          have e2 : f = false := hf
          subst e2
          clear hf
          go_wp2_with fail
          try rw [hWG]
          clear hWG
          try go_wp2_with fail
          refine (live26 _).mono ?_
          rintro e w9 ⟨rfl, hb9⟩
          go_wp2_with fail
          go_ret
          exact ⟨rfl, BB.out.trans (hb9.mono BB.out.size)⟩
        | some z' =>
          have e2 : f = true := hf
          subst e2
          clear hf
          have HTW := Lib.hid (show t = Y ∨ t = X by rw [HT.out, EY.out, EX.out]; exact torn_twin RX.out RY.out YE.out HNG.out (z := z') (by rw [← EY.out, ← EX.out, ← HT.out]; exact HG2.out.symm))
          go_wp2_with fail
          try rw [hWG]
          clear hWG
          try go_wp2_with fail
          refine (sameBytes VT.out VY.out).mono ?_
          rintro e w' ⟨rfl, hw⟩
          have hw2 := hw.symm
          subst hw2
          clear hw
          by_cases ht : t = Y
          case pos =>
            rw [decide_eq_true ht]
            clear ht
            go_wp2_with fail
            refine (live26 _).mono ?_
            rintro e w9 ⟨rfl, hb9⟩
            go_wp2_with fail
            go_ret
            exact ⟨rfl, BB.out.trans (hb9.mono BB.out.size)⟩
          rw [decide_eq_false ht]
          have ht2 : t = X := HTW.out.resolve_left ht
          have HT2 := Lib.hid ht2
          clear ht ht2
          go_wp2_with fail
          refine (sameBytes VT.out VX.out).mono ?_
          rintro e w' ⟨rfl, hw⟩
          have hw2 := hw.symm
          subst hw2
          clear hw
          rw [decide_eq_true HT2.out]
          go_wp2_with fail
          refine (live26 _).mono ?_
          rintro e w9 ⟨rfl, hb9⟩
          go_wp2_with fail
          go_ret
          exact ⟨rfl, BB.out.trans (hb9.mono BB.out.size)⟩
    case neg =>
      clear p1
      have o0 := cell_row (KX.out.row _ (Below.refl _ _)) 0
      have o1 := cell_row (KX.out.row _ (Below.refl _ _)) 1
      have o2 := cell_row (KX.out.row _ (Below.refl _ _)) 2
      have o3 := cell_row (KX.out.row _ (Below.refl _ _)) 3
      have o4 := cell_row (KX.out.row _ (Below.refl _ _)) 4
      have o5 := cell_row (KX.out.row _ (Below.refl _ _)) 5
      have o6 := cell_row (KX.out.row _ (Below.refl _ _)) 6
      have o7 := cell_row (KX.out.row _ (Below.refl _ _)) 7
      obtain ⟨WC, hWC⟩ : ∃ W, (w3.alloc (.cells #[.int .i64 x.epoch, .int .i64 x.gen, .int .i64 x.log, .int .i64 x.pages, .int .i64 x.head, .int .i64 x.seq, .int .i64 x.long, .slice A x.dir.length c] 114)).setCell ⟨w3.heap.size, 1, none⟩ (.int .i64 gen) = W := ⟨_, rfl⟩
      have hbC : Below w3.heap.size w3 WC := by rw [← hWC]; exact below_set ((Below.refl _ _).alloc (Nat.le_refl _) _) (Nat.le_refl _)
      have KY0 : BoxK WC w3.heap.size ⟨x.epoch, gen, x.log, x.pages, x.head, x.seq, x.long, x.dir⟩ A c := by rw [← hWC]; exact BoxK.copy (KX.out.val _ (Below.refl _ _)) HWG.out
      obtain ⟨y, hy⟩ : ∃ y, y = (⟨x.epoch, gen, x.log, x.pages, x.head, x.seq, x.long, x.dir⟩ : DSuper) := ⟨_, rfl⟩
      rw [← hy] at KY0
      have KY := Lib.hid KY0
      have HY := Lib.hid hy
      have YE := Lib.hid (show y.epoch = x.epoch by rw [hy])
      have YG := Lib.hid (show y.gen = gen by rw [hy])
      have YL := Lib.hid (show y.dir.length ≤ 1000000 by rw [hy]; exact HL.out)
      have YS := Lib.hid (show y.dir.length = x.dir.length by rw [hy])
      have KX := Lib.hid (KX.out.later hbC)
      have VA := Lib.hid (stepV VA.out hbC)
      have VX := Lib.hid (stepV VX.out hbC)
      have BB := Lib.hid (BB.out.trans (hbC.mono BB.out.size))
      clear hbC KY0 hy
      have x0 := cell_row (KX.out.row _ (Below.refl _ _)) 0
      have x1 := cell_row (KX.out.row _ (Below.refl _ _)) 1
      have x2 := cell_row (KX.out.row _ (Below.refl _ _)) 2
      have x3 := cell_row (KX.out.row _ (Below.refl _ _)) 3
      have x4 := cell_row (KX.out.row _ (Below.refl _ _)) 4
      have x5 := cell_row (KX.out.row _ (Below.refl _ _)) 5
      have x6 := cell_row (KX.out.row _ (Below.refl _ _)) 6
      have x7 := cell_row (KX.out.row _ (Below.refl _ _)) 7
      have y0 := cell_row (KY.out.row _ (Below.refl _ _)) 0
      have y1 := cell_row (KY.out.row _ (Below.refl _ _)) 1
      have y2 := cell_row (KY.out.row _ (Below.refl _ _)) 2
      have y3 := cell_row (KY.out.row _ (Below.refl _ _)) 3
      have y4 := cell_row (KY.out.row _ (Below.refl _ _)) 4
      have y5 := cell_row (KY.out.row _ (Below.refl _ _)) 5
      have y6 := cell_row (KY.out.row _ (Below.refl _ _)) 6
      have y7 := cell_row (KY.out.row _ (Below.refl _ _)) 7
      go_wp2_with fail
      try rw [hWC]
      clear hWC
      try go_wp2_with fail
      clear o0 o1 o2 o3 o4 o5 o6 o7
      refine (rsuperRight_calls (KY.out.val _ (Below.refl _ _))).mono ?_
      rintro e v2 ⟨rfl, hb⟩
      clear x0 x1 x2 x3 x4 x5 x6 x7
      clear y0 y1 y2 y3 y4 y5 y6 y7
      have KX := Lib.hid (KX.out.later hb)
      have KY := Lib.hid (KY.out.later hb)
      have VA := Lib.hid (stepV VA.out hb)
      have VX := Lib.hid (stepV VX.out hb)
      have BB := Lib.hid (BB.out.trans (hb.mono BB.out.size))
      clear hb
      obtain ⟨ry, hry⟩ : ∃ r, r = superRight y := ⟨_, rfl⟩
      rw [← hry]
      have HRY := Lib.hid hry
      clear hry
      have x0 := cell_row (KX.out.row _ (Below.refl _ _)) 0
      have x1 := cell_row (KX.out.row _ (Below.refl _ _)) 1
      have x2 := cell_row (KX.out.row _ (Below.refl _ _)) 2
      have x3 := cell_row (KX.out.row _ (Below.refl _ _)) 3
      have x4 := cell_row (KX.out.row _ (Below.refl _ _)) 4
      have x5 := cell_row (KX.out.row _ (Below.refl _ _)) 5
      have x6 := cell_row (KX.out.row _ (Below.refl _ _)) 6
      have x7 := cell_row (KX.out.row _ (Below.refl _ _)) 7
      cases ry with
      | false =>
        go_wp2_with fail
        refine (live26 _).mono ?_
        rintro e w9 ⟨rfl, hb9⟩
        go_wp2_with fail
        go_ret
        exact ⟨rfl, BB.out.trans (hb9.mono BB.out.size)⟩
      | true =>
        by_cases hgg : gen = x.gen
        case pos =>
          have hgb : (gen == x.gen) = true := by simpa using hgg
          clear hgg
          go_wp2_with fail
          refine (live26 _).mono ?_
          rintro e w9 ⟨rfl, hb9⟩
          go_wp2_with fail
          go_ret
          exact ⟨rfl, BB.out.trans (hb9.mono BB.out.size)⟩
        have hgb : (gen == x.gen) = false := by simpa using hgg
        have HNG := Lib.hid (show y.gen ≠ x.gen by rw [YG.out]; exact hgg)
        clear hgg
        have RY := Lib.hid (superRight_iff.1 HRY.out.symm)
        obtain ⟨Y, hY⟩ : ∃ Y, Y = superBytes y := ⟨_, rfl⟩
        have EY := Lib.hid hY
        clear hY
        have y0 := cell_row (KY.out.row _ (Below.refl _ _)) 0
        have y1 := cell_row (KY.out.row _ (Below.refl _ _)) 1
        have y2 := cell_row (KY.out.row _ (Below.refl _ _)) 2
        have y3 := cell_row (KY.out.row _ (Below.refl _ _)) 3
        have y4 := cell_row (KY.out.row _ (Below.refl _ _)) 4
        have y5 := cell_row (KY.out.row _ (Below.refl _ _)) 5
        have y6 := cell_row (KY.out.row _ (Below.refl _ _)) 6
        have y7 := cell_row (KY.out.row _ (Below.refl _ _)) 7
        go_wp2_with fail
        refine (rsuperPut_calls (KY.out.val _ (Below.refl _ _)) YL.out).mono ?_
        rintro e v3 ⟨u, rfl, hu, hb⟩
        rw [← EY.out] at hu
        clear x0 x1 x2 x3 x4 x5 x6 x7
        clear y0 y1 y2 y3 y4 y5 y6 y7
        have KX := Lib.hid (KX.out.later hb)
        have KY := Lib.hid (KY.out.later hb)
        have VA := Lib.hid (stepV VA.out hb)
        have VX := Lib.hid (stepV VX.out hb)
        have BB := Lib.hid (BB.out.trans (hb.mono BB.out.size))
        have VY := Lib.hid (stepV hu (Below.refl _ _))
        obtain ⟨AY, cY, rfl, _, _, _⟩ := Rep.val_list hu
        clear hu hb
        go_wp2_with fail
        refine (tear_calls VY.out VX.out HWK.out).mono ?_
        rintro e v4 ⟨u, rfl, hu, hb⟩
        obtain ⟨t, ht⟩ : ∃ t, t = tearOf Y X k := ⟨_, rfl⟩
        rw [← ht] at hu
        have HT := Lib.hid ht
        clear ht
        have KX := Lib.hid (KX.out.later hb)
        have KY := Lib.hid (KY.out.later hb)
        have VA := Lib.hid (stepV VA.out hb)
        have VX := Lib.hid (stepV VX.out hb)
        have VY := Lib.hid (stepV VY.out hb)
        have BB := Lib.hid (BB.out.trans (hb.mono BB.out.size))
        have VT := Lib.hid (stepV hu (Below.refl _ _))
        obtain ⟨AT, cT, rfl, _, _, _⟩ := Rep.val_list hu
        clear hu hb
        go_wp2_with fail
        refine (superGet_calls VT.out).mono ?_
        rintro e v5 ⟨u, rfl, hu, hb⟩
        obtain ⟨g, hg⟩ : ∃ g, g = superGet t := ⟨_, rfl⟩
        have HG2 := Lib.hid hg
        rw [← hg] at hu
        rw [← hg]
        obtain ⟨z, hz⟩ : ∃ z, z = g.getD superNone := ⟨_, rfl⟩
        rw [← hz] at hu
        clear hg hz
        obtain ⟨AG, cG, rfl, _, _, _, _, _, _, _, _⟩ := rSuper_val hu
        have KX := Lib.hid (KX.out.later hb)
        have KY := Lib.hid (KY.out.later hb)
        have VA := Lib.hid (stepV VA.out hb)
        have VX := Lib.hid (stepV VX.out hb)
        have VY := Lib.hid (stepV VY.out hb)
        have VT := Lib.hid (stepV VT.out hb)
        have BB := Lib.hid (BB.out.trans (hb.mono BB.out.size))
        obtain ⟨WG, hWG⟩ : ∃ W, v5.alloc (.cells #[.int .i64 z.epoch, .int .i64 z.gen, .int .i64 z.log, .int .i64 z.pages, .int .i64 z.head, .int .i64 z.seq, .int .i64 z.long, .slice AG z.dir.length cG] 114) = W := ⟨_, rfl⟩
        have hbG : Below v5.heap.size v5 WG := by rw [← hWG]; exact (Below.refl _ _).alloc (Nat.le_refl _) _
        have KX := Lib.hid (KX.out.later hbG)
        have KY := Lib.hid (KY.out.later hbG)
        have VA := Lib.hid (stepV VA.out hbG)
        have VX := Lib.hid (stepV VX.out hbG)
        have VY := Lib.hid (stepV VY.out hbG)
        have VT := Lib.hid (stepV VT.out hbG)
        have BB := Lib.hid (BB.out.trans (hbG.mono BB.out.size))
        clear hu hb hbG
        obtain ⟨f, hf⟩ : ∃ f, f = g.isSome := ⟨_, rfl⟩
        rw [← hf]
        cases g with
        | none =>
          have e2 : f = false := hf
          subst e2
          clear hf
          go_wp2_with fail
          try rw [hWG]
          clear hWG
          try go_wp2_with fail
          refine (live26 _).mono ?_
          rintro e w9 ⟨rfl, hb9⟩
          go_wp2_with fail
          go_ret
          exact ⟨rfl, BB.out.trans (hb9.mono BB.out.size)⟩
        | some z' =>
          have e2 : f = true := hf
          subst e2
          clear hf
          have HTW := Lib.hid (show t = Y ∨ t = X by rw [HT.out, EY.out, EX.out]; exact torn_twin RX.out RY.out YE.out HNG.out (z := z') (by rw [← EY.out, ← EX.out, ← HT.out]; exact HG2.out.symm))
          go_wp2_with fail
          try rw [hWG]
          clear hWG
          try go_wp2_with fail
          refine (sameBytes VT.out VY.out).mono ?_
          rintro e w' ⟨rfl, hw⟩
          have hw2 := hw.symm
          subst hw2
          clear hw
          by_cases ht : t = Y
          case pos =>
            rw [decide_eq_true ht]
            clear ht
            go_wp2_with fail
            refine (live26 _).mono ?_
            rintro e w9 ⟨rfl, hb9⟩
            go_wp2_with fail
            go_ret
            exact ⟨rfl, BB.out.trans (hb9.mono BB.out.size)⟩
          rw [decide_eq_false ht]
          have ht2 : t = X := HTW.out.resolve_left ht
          have HT2 := Lib.hid ht2
          clear ht ht2
          go_wp2_with fail
          refine (sameBytes VT.out VX.out).mono ?_
          rintro e w' ⟨rfl, hw⟩
          have hw2 := hw.symm
          subst hw2
          clear hw
          rw [decide_eq_true HT2.out]
          go_wp2_with fail
          refine (live26 _).mono ?_
          rintro e w9 ⟨rfl, hb9⟩
          go_wp2_with fail
          go_ret
          exact ⟨rfl, BB.out.trans (hb9.mono BB.out.size)⟩
  case pos =>
    obtain ⟨p2, p3⟩ := p1
    have P2 := Lib.hid p2
    have P3 := Lib.hid p3
    go_wp2_with fail
    refine (tear_calls VA.out VX.out HWK.out).mono ?_
    rintro e w4 ⟨u, rfl, hu, hb⟩
    obtain ⟨s, hs⟩ : ∃ t, t = tearOf a X k := ⟨_, rfl⟩
    rw [← hs] at hu
    have HS := Lib.hid hs
    clear hs
    clear q0 q1 q2 q3 q4 q5 q6 q7
    have KX := Lib.hid (KX.out.later hb)
    have VA := Lib.hid (stepV VA.out hb)
    have VX := Lib.hid (stepV VX.out hb)
    have BB := Lib.hid (BB.out.trans (hb.mono BB.out.size))
    have VS := Lib.hid (stepV hu (Below.refl _ _))
    obtain ⟨AS, cS, rfl, _, _, _⟩ := Rep.val_list hu
    clear hu hb p2 p3
    go_wp2_with fail
    refine (superGet_calls VS.out).mono ?_
    rintro e w5 ⟨u, rfl, hu, hb⟩
    obtain ⟨g, hg⟩ : ∃ g, g = superGet s := ⟨_, rfl⟩
    have HG1 := Lib.hid hg
    rw [← hg] at hu
    rw [← hg]
    obtain ⟨z, hz⟩ : ∃ z, z = g.getD superNone := ⟨_, rfl⟩
    rw [← hz] at hu
    clear hg hz
    obtain ⟨AH, cH, rfl, _, _, _, _, _, _, _, _⟩ := rSuper_val hu
    have KX := Lib.hid (KX.out.later hb)
    have VA := Lib.hid (stepV VA.out hb)
    have VX := Lib.hid (stepV VX.out hb)
    have VS := Lib.hid (stepV VS.out hb)
    have BB := Lib.hid (BB.out.trans (hb.mono BB.out.size))
    obtain ⟨WH, hWH⟩ : ∃ W, w5.alloc (.cells #[.int .i64 z.epoch, .int .i64 z.gen, .int .i64 z.log, .int .i64 z.pages, .int .i64 z.head, .int .i64 z.seq, .int .i64 z.long, .slice AH z.dir.length cH] 114) = W := ⟨_, rfl⟩
    have hbH : Below w5.heap.size w5 WH := by rw [← hWH]; exact (Below.refl _ _).alloc (Nat.le_refl _) _
    have KX := Lib.hid (KX.out.later hbH)
    have VA := Lib.hid (stepV VA.out hbH)
    have VX := Lib.hid (stepV VX.out hbH)
    have VS := Lib.hid (stepV VS.out hbH)
    have BB := Lib.hid (BB.out.trans (hbH.mono BB.out.size))
    clear hu hb hbH
    obtain ⟨f, hf⟩ : ∃ f, f = g.isSome := ⟨_, rfl⟩
    rw [← hf]
    cases g with
    | none =>
      have e2 : f = false := hf
      subst e2
      clear hf
      have o0 := cell_row (KX.out.row _ (Below.refl _ _)) 0
      have o1 := cell_row (KX.out.row _ (Below.refl _ _)) 1
      have o2 := cell_row (KX.out.row _ (Below.refl _ _)) 2
      have o3 := cell_row (KX.out.row _ (Below.refl _ _)) 3
      have o4 := cell_row (KX.out.row _ (Below.refl _ _)) 4
      have o5 := cell_row (KX.out.row _ (Below.refl _ _)) 5
      have o6 := cell_row (KX.out.row _ (Below.refl _ _)) 6
      have o7 := cell_row (KX.out.row _ (Below.refl _ _)) 7
      obtain ⟨WC, hWC⟩ : ∃ W, (WH.alloc (.cells #[.int .i64 x.epoch, .int .i64 x.gen, .int .i64 x.log, .int .i64 x.pages, .int .i64 x.head, .int .i64 x.seq, .int .i64 x.long, .slice A x.dir.length c] 114)).setCell ⟨WH.heap.size, 1, none⟩ (.int .i64 gen) = W := ⟨_, rfl⟩
      have hbC : Below WH.heap.size WH WC := by rw [← hWC]; exact below_set ((Below.refl _ _).alloc (Nat.le_refl _) _) (Nat.le_refl _)
      have KY0 : BoxK WC WH.heap.size ⟨x.epoch, gen, x.log, x.pages, x.head, x.seq, x.long, x.dir⟩ A c := by rw [← hWC]; exact BoxK.copy (KX.out.val _ (Below.refl _ _)) HWG.out
      obtain ⟨y, hy⟩ : ∃ y, y = (⟨x.epoch, gen, x.log, x.pages, x.head, x.seq, x.long, x.dir⟩ : DSuper) := ⟨_, rfl⟩
      rw [← hy] at KY0
      have KY := Lib.hid KY0
      have HY := Lib.hid hy
      have YE := Lib.hid (show y.epoch = x.epoch by rw [hy])
      have YG := Lib.hid (show y.gen = gen by rw [hy])
      have YL := Lib.hid (show y.dir.length ≤ 1000000 by rw [hy]; exact HL.out)
      have YS := Lib.hid (show y.dir.length = x.dir.length by rw [hy])
      have KX := Lib.hid (KX.out.later hbC)
      have VA := Lib.hid (stepV VA.out hbC)
      have VX := Lib.hid (stepV VX.out hbC)
      have VS := Lib.hid (stepV VS.out hbC)
      have BB := Lib.hid (BB.out.trans (hbC.mono BB.out.size))
      clear hbC KY0 hy
      have x0 := cell_row (KX.out.row _ (Below.refl _ _)) 0
      have x1 := cell_row (KX.out.row _ (Below.refl _ _)) 1
      have x2 := cell_row (KX.out.row _ (Below.refl _ _)) 2
      have x3 := cell_row (KX.out.row _ (Below.refl _ _)) 3
      have x4 := cell_row (KX.out.row _ (Below.refl _ _)) 4
      have x5 := cell_row (KX.out.row _ (Below.refl _ _)) 5
      have x6 := cell_row (KX.out.row _ (Below.refl _ _)) 6
      have x7 := cell_row (KX.out.row _ (Below.refl _ _)) 7
      have y0 := cell_row (KY.out.row _ (Below.refl _ _)) 0
      have y1 := cell_row (KY.out.row _ (Below.refl _ _)) 1
      have y2 := cell_row (KY.out.row _ (Below.refl _ _)) 2
      have y3 := cell_row (KY.out.row _ (Below.refl _ _)) 3
      have y4 := cell_row (KY.out.row _ (Below.refl _ _)) 4
      have y5 := cell_row (KY.out.row _ (Below.refl _ _)) 5
      have y6 := cell_row (KY.out.row _ (Below.refl _ _)) 6
      have y7 := cell_row (KY.out.row _ (Below.refl _ _)) 7
      go_wp2_with fail
      try rw [hWC]
      clear hWC hWH
      try go_wp2_with fail
      clear o0 o1 o2 o3 o4 o5 o6 o7
      refine (rsuperRight_calls (KY.out.val _ (Below.refl _ _))).mono ?_
      rintro e v2 ⟨rfl, hb⟩
      clear x0 x1 x2 x3 x4 x5 x6 x7
      clear y0 y1 y2 y3 y4 y5 y6 y7
      have KX := Lib.hid (KX.out.later hb)
      have KY := Lib.hid (KY.out.later hb)
      have VA := Lib.hid (stepV VA.out hb)
      have VX := Lib.hid (stepV VX.out hb)
      have VS := Lib.hid (stepV VS.out hb)
      have BB := Lib.hid (BB.out.trans (hb.mono BB.out.size))
      clear hb
      obtain ⟨ry, hry⟩ : ∃ r, r = superRight y := ⟨_, rfl⟩
      rw [← hry]
      have HRY := Lib.hid hry
      clear hry
      have x0 := cell_row (KX.out.row _ (Below.refl _ _)) 0
      have x1 := cell_row (KX.out.row _ (Below.refl _ _)) 1
      have x2 := cell_row (KX.out.row _ (Below.refl _ _)) 2
      have x3 := cell_row (KX.out.row _ (Below.refl _ _)) 3
      have x4 := cell_row (KX.out.row _ (Below.refl _ _)) 4
      have x5 := cell_row (KX.out.row _ (Below.refl _ _)) 5
      have x6 := cell_row (KX.out.row _ (Below.refl _ _)) 6
      have x7 := cell_row (KX.out.row _ (Below.refl _ _)) 7
      cases ry with
      | false =>
        go_wp2_with fail
        refine (live26 _).mono ?_
        rintro e w9 ⟨rfl, hb9⟩
        go_wp2_with fail
        go_ret
        exact ⟨rfl, BB.out.trans (hb9.mono BB.out.size)⟩
      | true =>
        by_cases hgg : gen = x.gen
        case pos =>
          have hgb : (gen == x.gen) = true := by simpa using hgg
          clear hgg
          go_wp2_with fail
          refine (live26 _).mono ?_
          rintro e w9 ⟨rfl, hb9⟩
          go_wp2_with fail
          go_ret
          exact ⟨rfl, BB.out.trans (hb9.mono BB.out.size)⟩
        have hgb : (gen == x.gen) = false := by simpa using hgg
        have HNG := Lib.hid (show y.gen ≠ x.gen by rw [YG.out]; exact hgg)
        clear hgg
        have RY := Lib.hid (superRight_iff.1 HRY.out.symm)
        obtain ⟨Y, hY⟩ : ∃ Y, Y = superBytes y := ⟨_, rfl⟩
        have EY := Lib.hid hY
        clear hY
        have y0 := cell_row (KY.out.row _ (Below.refl _ _)) 0
        have y1 := cell_row (KY.out.row _ (Below.refl _ _)) 1
        have y2 := cell_row (KY.out.row _ (Below.refl _ _)) 2
        have y3 := cell_row (KY.out.row _ (Below.refl _ _)) 3
        have y4 := cell_row (KY.out.row _ (Below.refl _ _)) 4
        have y5 := cell_row (KY.out.row _ (Below.refl _ _)) 5
        have y6 := cell_row (KY.out.row _ (Below.refl _ _)) 6
        have y7 := cell_row (KY.out.row _ (Below.refl _ _)) 7
        go_wp2_with fail
        refine (rsuperPut_calls (KY.out.val _ (Below.refl _ _)) YL.out).mono ?_
        rintro e v3 ⟨u, rfl, hu, hb⟩
        rw [← EY.out] at hu
        clear x0 x1 x2 x3 x4 x5 x6 x7
        clear y0 y1 y2 y3 y4 y5 y6 y7
        have KX := Lib.hid (KX.out.later hb)
        have KY := Lib.hid (KY.out.later hb)
        have VA := Lib.hid (stepV VA.out hb)
        have VX := Lib.hid (stepV VX.out hb)
        have VS := Lib.hid (stepV VS.out hb)
        have BB := Lib.hid (BB.out.trans (hb.mono BB.out.size))
        have VY := Lib.hid (stepV hu (Below.refl _ _))
        obtain ⟨AY, cY, rfl, _, _, _⟩ := Rep.val_list hu
        clear hu hb
        go_wp2_with fail
        refine (tear_calls VY.out VX.out HWK.out).mono ?_
        rintro e v4 ⟨u, rfl, hu, hb⟩
        obtain ⟨t, ht⟩ : ∃ t, t = tearOf Y X k := ⟨_, rfl⟩
        rw [← ht] at hu
        have HT := Lib.hid ht
        clear ht
        have KX := Lib.hid (KX.out.later hb)
        have KY := Lib.hid (KY.out.later hb)
        have VA := Lib.hid (stepV VA.out hb)
        have VX := Lib.hid (stepV VX.out hb)
        have VS := Lib.hid (stepV VS.out hb)
        have VY := Lib.hid (stepV VY.out hb)
        have BB := Lib.hid (BB.out.trans (hb.mono BB.out.size))
        have VT := Lib.hid (stepV hu (Below.refl _ _))
        obtain ⟨AT, cT, rfl, _, _, _⟩ := Rep.val_list hu
        clear hu hb
        go_wp2_with fail
        refine (superGet_calls VT.out).mono ?_
        rintro e v5 ⟨u, rfl, hu, hb⟩
        obtain ⟨g, hg⟩ : ∃ g, g = superGet t := ⟨_, rfl⟩
        have HG2 := Lib.hid hg
        rw [← hg] at hu
        rw [← hg]
        obtain ⟨z, hz⟩ : ∃ z, z = g.getD superNone := ⟨_, rfl⟩
        rw [← hz] at hu
        clear hg hz
        obtain ⟨AG, cG, rfl, _, _, _, _, _, _, _, _⟩ := rSuper_val hu
        have KX := Lib.hid (KX.out.later hb)
        have KY := Lib.hid (KY.out.later hb)
        have VA := Lib.hid (stepV VA.out hb)
        have VX := Lib.hid (stepV VX.out hb)
        have VS := Lib.hid (stepV VS.out hb)
        have VY := Lib.hid (stepV VY.out hb)
        have VT := Lib.hid (stepV VT.out hb)
        have BB := Lib.hid (BB.out.trans (hb.mono BB.out.size))
        obtain ⟨WG, hWG⟩ : ∃ W, v5.alloc (.cells #[.int .i64 z.epoch, .int .i64 z.gen, .int .i64 z.log, .int .i64 z.pages, .int .i64 z.head, .int .i64 z.seq, .int .i64 z.long, .slice AG z.dir.length cG] 114) = W := ⟨_, rfl⟩
        have hbG : Below v5.heap.size v5 WG := by rw [← hWG]; exact (Below.refl _ _).alloc (Nat.le_refl _) _
        have KX := Lib.hid (KX.out.later hbG)
        have KY := Lib.hid (KY.out.later hbG)
        have VA := Lib.hid (stepV VA.out hbG)
        have VX := Lib.hid (stepV VX.out hbG)
        have VS := Lib.hid (stepV VS.out hbG)
        have VY := Lib.hid (stepV VY.out hbG)
        have VT := Lib.hid (stepV VT.out hbG)
        have BB := Lib.hid (BB.out.trans (hbG.mono BB.out.size))
        clear hu hb hbG
        obtain ⟨f, hf⟩ : ∃ f, f = g.isSome := ⟨_, rfl⟩
        rw [← hf]
        cases g with
        | none =>
          have e2 : f = false := hf
          subst e2
          clear hf
          go_wp2_with fail
          try rw [hWG]
          clear hWG
          try go_wp2_with fail
          refine (live26 _).mono ?_
          rintro e w9 ⟨rfl, hb9⟩
          go_wp2_with fail
          go_ret
          exact ⟨rfl, BB.out.trans (hb9.mono BB.out.size)⟩
        | some z' =>
          have e2 : f = true := hf
          subst e2
          clear hf
          have HTW := Lib.hid (show t = Y ∨ t = X by rw [HT.out, EY.out, EX.out]; exact torn_twin RX.out RY.out YE.out HNG.out (z := z') (by rw [← EY.out, ← EX.out, ← HT.out]; exact HG2.out.symm))
          go_wp2_with fail
          try rw [hWG]
          clear hWG
          try go_wp2_with fail
          refine (sameBytes VT.out VY.out).mono ?_
          rintro e w' ⟨rfl, hw⟩
          have hw2 := hw.symm
          subst hw2
          clear hw
          by_cases ht : t = Y
          case pos =>
            rw [decide_eq_true ht]
            clear ht
            go_wp2_with fail
            refine (live26 _).mono ?_
            rintro e w9 ⟨rfl, hb9⟩
            go_wp2_with fail
            go_ret
            exact ⟨rfl, BB.out.trans (hb9.mono BB.out.size)⟩
          rw [decide_eq_false ht]
          have ht2 : t = X := HTW.out.resolve_left ht
          have HT2 := Lib.hid ht2
          clear ht ht2
          go_wp2_with fail
          refine (sameBytes VT.out VX.out).mono ?_
          rintro e w' ⟨rfl, hw⟩
          have hw2 := hw.symm
          subst hw2
          clear hw
          rw [decide_eq_true HT2.out]
          go_wp2_with fail
          refine (live26 _).mono ?_
          rintro e w9 ⟨rfl, hb9⟩
          go_wp2_with fail
          go_ret
          exact ⟨rfl, BB.out.trans (hb9.mono BB.out.size)⟩
    | some z' =>
      have e2 : f = true := hf
      subst e2
      clear hf
      have HTO := Lib.hid (show s = a ∨ s = X by rw [HS.out, EX.out]; exact torn_over RX.out HA5.out (by rw [← HEA.out]; exact P2.out) (by rw [← HEB.out]; exact P3.out) (z := z') (by rw [← EX.out, ← HS.out]; exact HG1.out.symm))
      go_wp2_with fail
      try rw [hWH]
      clear hWH
      try go_wp2_with fail
      refine (sameBytes VS.out VA.out).mono ?_
      rintro e w' ⟨rfl, hw⟩
      have hw2 := hw.symm
      subst hw2
      clear hw
      by_cases hs : s = a
      case pos =>
        rw [decide_eq_true hs]
        clear hs
        have o0 := cell_row (KX.out.row _ (Below.refl _ _)) 0
        have o1 := cell_row (KX.out.row _ (Below.refl _ _)) 1
        have o2 := cell_row (KX.out.row _ (Below.refl _ _)) 2
        have o3 := cell_row (KX.out.row _ (Below.refl _ _)) 3
        have o4 := cell_row (KX.out.row _ (Below.refl _ _)) 4
        have o5 := cell_row (KX.out.row _ (Below.refl _ _)) 5
        have o6 := cell_row (KX.out.row _ (Below.refl _ _)) 6
        have o7 := cell_row (KX.out.row _ (Below.refl _ _)) 7
        obtain ⟨WC, hWC⟩ : ∃ W, (WH.alloc (.cells #[.int .i64 x.epoch, .int .i64 x.gen, .int .i64 x.log, .int .i64 x.pages, .int .i64 x.head, .int .i64 x.seq, .int .i64 x.long, .slice A x.dir.length c] 114)).setCell ⟨WH.heap.size, 1, none⟩ (.int .i64 gen) = W := ⟨_, rfl⟩
        have hbC : Below WH.heap.size WH WC := by rw [← hWC]; exact below_set ((Below.refl _ _).alloc (Nat.le_refl _) _) (Nat.le_refl _)
        have KY0 : BoxK WC WH.heap.size ⟨x.epoch, gen, x.log, x.pages, x.head, x.seq, x.long, x.dir⟩ A c := by rw [← hWC]; exact BoxK.copy (KX.out.val _ (Below.refl _ _)) HWG.out
        obtain ⟨y, hy⟩ : ∃ y, y = (⟨x.epoch, gen, x.log, x.pages, x.head, x.seq, x.long, x.dir⟩ : DSuper) := ⟨_, rfl⟩
        rw [← hy] at KY0
        have KY := Lib.hid KY0
        have HY := Lib.hid hy
        have YE := Lib.hid (show y.epoch = x.epoch by rw [hy])
        have YG := Lib.hid (show y.gen = gen by rw [hy])
        have YL := Lib.hid (show y.dir.length ≤ 1000000 by rw [hy]; exact HL.out)
        have YS := Lib.hid (show y.dir.length = x.dir.length by rw [hy])
        have KX := Lib.hid (KX.out.later hbC)
        have VA := Lib.hid (stepV VA.out hbC)
        have VX := Lib.hid (stepV VX.out hbC)
        have VS := Lib.hid (stepV VS.out hbC)
        have BB := Lib.hid (BB.out.trans (hbC.mono BB.out.size))
        clear hbC KY0 hy
        have x0 := cell_row (KX.out.row _ (Below.refl _ _)) 0
        have x1 := cell_row (KX.out.row _ (Below.refl _ _)) 1
        have x2 := cell_row (KX.out.row _ (Below.refl _ _)) 2
        have x3 := cell_row (KX.out.row _ (Below.refl _ _)) 3
        have x4 := cell_row (KX.out.row _ (Below.refl _ _)) 4
        have x5 := cell_row (KX.out.row _ (Below.refl _ _)) 5
        have x6 := cell_row (KX.out.row _ (Below.refl _ _)) 6
        have x7 := cell_row (KX.out.row _ (Below.refl _ _)) 7
        have y0 := cell_row (KY.out.row _ (Below.refl _ _)) 0
        have y1 := cell_row (KY.out.row _ (Below.refl _ _)) 1
        have y2 := cell_row (KY.out.row _ (Below.refl _ _)) 2
        have y3 := cell_row (KY.out.row _ (Below.refl _ _)) 3
        have y4 := cell_row (KY.out.row _ (Below.refl _ _)) 4
        have y5 := cell_row (KY.out.row _ (Below.refl _ _)) 5
        have y6 := cell_row (KY.out.row _ (Below.refl _ _)) 6
        have y7 := cell_row (KY.out.row _ (Below.refl _ _)) 7
        go_wp2_with fail
        try rw [hWC]
        clear hWC 
        try go_wp2_with fail
        clear o0 o1 o2 o3 o4 o5 o6 o7
        refine (rsuperRight_calls (KY.out.val _ (Below.refl _ _))).mono ?_
        rintro e v2 ⟨rfl, hb⟩
        clear x0 x1 x2 x3 x4 x5 x6 x7
        clear y0 y1 y2 y3 y4 y5 y6 y7
        have KX := Lib.hid (KX.out.later hb)
        have KY := Lib.hid (KY.out.later hb)
        have VA := Lib.hid (stepV VA.out hb)
        have VX := Lib.hid (stepV VX.out hb)
        have VS := Lib.hid (stepV VS.out hb)
        have BB := Lib.hid (BB.out.trans (hb.mono BB.out.size))
        clear hb
        obtain ⟨ry, hry⟩ : ∃ r, r = superRight y := ⟨_, rfl⟩
        rw [← hry]
        have HRY := Lib.hid hry
        clear hry
        have x0 := cell_row (KX.out.row _ (Below.refl _ _)) 0
        have x1 := cell_row (KX.out.row _ (Below.refl _ _)) 1
        have x2 := cell_row (KX.out.row _ (Below.refl _ _)) 2
        have x3 := cell_row (KX.out.row _ (Below.refl _ _)) 3
        have x4 := cell_row (KX.out.row _ (Below.refl _ _)) 4
        have x5 := cell_row (KX.out.row _ (Below.refl _ _)) 5
        have x6 := cell_row (KX.out.row _ (Below.refl _ _)) 6
        have x7 := cell_row (KX.out.row _ (Below.refl _ _)) 7
        cases ry with
        | false =>
          go_wp2_with fail
          refine (live26 _).mono ?_
          rintro e w9 ⟨rfl, hb9⟩
          go_wp2_with fail
          go_ret
          exact ⟨rfl, BB.out.trans (hb9.mono BB.out.size)⟩
        | true =>
          by_cases hgg : gen = x.gen
          case pos =>
            have hgb : (gen == x.gen) = true := by simpa using hgg
            clear hgg
            go_wp2_with fail
            refine (live26 _).mono ?_
            rintro e w9 ⟨rfl, hb9⟩
            go_wp2_with fail
            go_ret
            exact ⟨rfl, BB.out.trans (hb9.mono BB.out.size)⟩
          have hgb : (gen == x.gen) = false := by simpa using hgg
          have HNG := Lib.hid (show y.gen ≠ x.gen by rw [YG.out]; exact hgg)
          clear hgg
          have RY := Lib.hid (superRight_iff.1 HRY.out.symm)
          obtain ⟨Y, hY⟩ : ∃ Y, Y = superBytes y := ⟨_, rfl⟩
          have EY := Lib.hid hY
          clear hY
          have y0 := cell_row (KY.out.row _ (Below.refl _ _)) 0
          have y1 := cell_row (KY.out.row _ (Below.refl _ _)) 1
          have y2 := cell_row (KY.out.row _ (Below.refl _ _)) 2
          have y3 := cell_row (KY.out.row _ (Below.refl _ _)) 3
          have y4 := cell_row (KY.out.row _ (Below.refl _ _)) 4
          have y5 := cell_row (KY.out.row _ (Below.refl _ _)) 5
          have y6 := cell_row (KY.out.row _ (Below.refl _ _)) 6
          have y7 := cell_row (KY.out.row _ (Below.refl _ _)) 7
          go_wp2_with fail
          refine (rsuperPut_calls (KY.out.val _ (Below.refl _ _)) YL.out).mono ?_
          rintro e v3 ⟨u, rfl, hu, hb⟩
          rw [← EY.out] at hu
          clear x0 x1 x2 x3 x4 x5 x6 x7
          clear y0 y1 y2 y3 y4 y5 y6 y7
          have KX := Lib.hid (KX.out.later hb)
          have KY := Lib.hid (KY.out.later hb)
          have VA := Lib.hid (stepV VA.out hb)
          have VX := Lib.hid (stepV VX.out hb)
          have VS := Lib.hid (stepV VS.out hb)
          have BB := Lib.hid (BB.out.trans (hb.mono BB.out.size))
          have VY := Lib.hid (stepV hu (Below.refl _ _))
          obtain ⟨AY, cY, rfl, _, _, _⟩ := Rep.val_list hu
          clear hu hb
          go_wp2_with fail
          refine (tear_calls VY.out VX.out HWK.out).mono ?_
          rintro e v4 ⟨u, rfl, hu, hb⟩
          obtain ⟨t, ht⟩ : ∃ t, t = tearOf Y X k := ⟨_, rfl⟩
          rw [← ht] at hu
          have HT := Lib.hid ht
          clear ht
          have KX := Lib.hid (KX.out.later hb)
          have KY := Lib.hid (KY.out.later hb)
          have VA := Lib.hid (stepV VA.out hb)
          have VX := Lib.hid (stepV VX.out hb)
          have VS := Lib.hid (stepV VS.out hb)
          have VY := Lib.hid (stepV VY.out hb)
          have BB := Lib.hid (BB.out.trans (hb.mono BB.out.size))
          have VT := Lib.hid (stepV hu (Below.refl _ _))
          obtain ⟨AT, cT, rfl, _, _, _⟩ := Rep.val_list hu
          clear hu hb
          go_wp2_with fail
          refine (superGet_calls VT.out).mono ?_
          rintro e v5 ⟨u, rfl, hu, hb⟩
          obtain ⟨g, hg⟩ : ∃ g, g = superGet t := ⟨_, rfl⟩
          have HG2 := Lib.hid hg
          rw [← hg] at hu
          rw [← hg]
          obtain ⟨z, hz⟩ : ∃ z, z = g.getD superNone := ⟨_, rfl⟩
          rw [← hz] at hu
          clear hg hz
          obtain ⟨AG, cG, rfl, _, _, _, _, _, _, _, _⟩ := rSuper_val hu
          have KX := Lib.hid (KX.out.later hb)
          have KY := Lib.hid (KY.out.later hb)
          have VA := Lib.hid (stepV VA.out hb)
          have VX := Lib.hid (stepV VX.out hb)
          have VS := Lib.hid (stepV VS.out hb)
          have VY := Lib.hid (stepV VY.out hb)
          have VT := Lib.hid (stepV VT.out hb)
          have BB := Lib.hid (BB.out.trans (hb.mono BB.out.size))
          obtain ⟨WG, hWG⟩ : ∃ W, v5.alloc (.cells #[.int .i64 z.epoch, .int .i64 z.gen, .int .i64 z.log, .int .i64 z.pages, .int .i64 z.head, .int .i64 z.seq, .int .i64 z.long, .slice AG z.dir.length cG] 114) = W := ⟨_, rfl⟩
          have hbG : Below v5.heap.size v5 WG := by rw [← hWG]; exact (Below.refl _ _).alloc (Nat.le_refl _) _
          have KX := Lib.hid (KX.out.later hbG)
          have KY := Lib.hid (KY.out.later hbG)
          have VA := Lib.hid (stepV VA.out hbG)
          have VX := Lib.hid (stepV VX.out hbG)
          have VS := Lib.hid (stepV VS.out hbG)
          have VY := Lib.hid (stepV VY.out hbG)
          have VT := Lib.hid (stepV VT.out hbG)
          have BB := Lib.hid (BB.out.trans (hbG.mono BB.out.size))
          clear hu hb hbG
          obtain ⟨f, hf⟩ : ∃ f, f = g.isSome := ⟨_, rfl⟩
          rw [← hf]
          cases g with
          | none =>
            have e2 : f = false := hf
            subst e2
            clear hf
            go_wp2_with fail
            try rw [hWG]
            clear hWG
            try go_wp2_with fail
            refine (live26 _).mono ?_
            rintro e w9 ⟨rfl, hb9⟩
            go_wp2_with fail
            go_ret
            exact ⟨rfl, BB.out.trans (hb9.mono BB.out.size)⟩
          | some z' =>
            have e2 : f = true := hf
            subst e2
            clear hf
            have HTW := Lib.hid (show t = Y ∨ t = X by rw [HT.out, EY.out, EX.out]; exact torn_twin RX.out RY.out YE.out HNG.out (z := z') (by rw [← EY.out, ← EX.out, ← HT.out]; exact HG2.out.symm))
            go_wp2_with fail
            try rw [hWG]
            clear hWG
            try go_wp2_with fail
            refine (sameBytes VT.out VY.out).mono ?_
            rintro e w' ⟨rfl, hw⟩
            have hw2 := hw.symm
            subst hw2
            clear hw
            by_cases ht : t = Y
            case pos =>
              rw [decide_eq_true ht]
              clear ht
              go_wp2_with fail
              refine (live26 _).mono ?_
              rintro e w9 ⟨rfl, hb9⟩
              go_wp2_with fail
              go_ret
              exact ⟨rfl, BB.out.trans (hb9.mono BB.out.size)⟩
            rw [decide_eq_false ht]
            have ht2 : t = X := HTW.out.resolve_left ht
            have HT2 := Lib.hid ht2
            clear ht ht2
            go_wp2_with fail
            refine (sameBytes VT.out VX.out).mono ?_
            rintro e w' ⟨rfl, hw⟩
            have hw2 := hw.symm
            subst hw2
            clear hw
            rw [decide_eq_true HT2.out]
            go_wp2_with fail
            refine (live26 _).mono ?_
            rintro e w9 ⟨rfl, hb9⟩
            go_wp2_with fail
            go_ret
            exact ⟨rfl, BB.out.trans (hb9.mono BB.out.size)⟩
      rw [decide_eq_false hs]
      have hs2 : s = X := HTO.out.resolve_left hs
      have HS2 := Lib.hid hs2
      clear hs hs2
      go_wp2_with fail
      refine (sameBytes VS.out VX.out).mono ?_
      rintro e w' ⟨rfl, hw⟩
      have hw2 := hw.symm
      subst hw2
      clear hw
      rw [decide_eq_true HS2.out]
      have o0 := cell_row (KX.out.row _ (Below.refl _ _)) 0
      have o1 := cell_row (KX.out.row _ (Below.refl _ _)) 1
      have o2 := cell_row (KX.out.row _ (Below.refl _ _)) 2
      have o3 := cell_row (KX.out.row _ (Below.refl _ _)) 3
      have o4 := cell_row (KX.out.row _ (Below.refl _ _)) 4
      have o5 := cell_row (KX.out.row _ (Below.refl _ _)) 5
      have o6 := cell_row (KX.out.row _ (Below.refl _ _)) 6
      have o7 := cell_row (KX.out.row _ (Below.refl _ _)) 7
      obtain ⟨WC, hWC⟩ : ∃ W, (WH.alloc (.cells #[.int .i64 x.epoch, .int .i64 x.gen, .int .i64 x.log, .int .i64 x.pages, .int .i64 x.head, .int .i64 x.seq, .int .i64 x.long, .slice A x.dir.length c] 114)).setCell ⟨WH.heap.size, 1, none⟩ (.int .i64 gen) = W := ⟨_, rfl⟩
      have hbC : Below WH.heap.size WH WC := by rw [← hWC]; exact below_set ((Below.refl _ _).alloc (Nat.le_refl _) _) (Nat.le_refl _)
      have KY0 : BoxK WC WH.heap.size ⟨x.epoch, gen, x.log, x.pages, x.head, x.seq, x.long, x.dir⟩ A c := by rw [← hWC]; exact BoxK.copy (KX.out.val _ (Below.refl _ _)) HWG.out
      obtain ⟨y, hy⟩ : ∃ y, y = (⟨x.epoch, gen, x.log, x.pages, x.head, x.seq, x.long, x.dir⟩ : DSuper) := ⟨_, rfl⟩
      rw [← hy] at KY0
      have KY := Lib.hid KY0
      have HY := Lib.hid hy
      have YE := Lib.hid (show y.epoch = x.epoch by rw [hy])
      have YG := Lib.hid (show y.gen = gen by rw [hy])
      have YL := Lib.hid (show y.dir.length ≤ 1000000 by rw [hy]; exact HL.out)
      have YS := Lib.hid (show y.dir.length = x.dir.length by rw [hy])
      have KX := Lib.hid (KX.out.later hbC)
      have VA := Lib.hid (stepV VA.out hbC)
      have VX := Lib.hid (stepV VX.out hbC)
      have VS := Lib.hid (stepV VS.out hbC)
      have BB := Lib.hid (BB.out.trans (hbC.mono BB.out.size))
      clear hbC KY0 hy
      have x0 := cell_row (KX.out.row _ (Below.refl _ _)) 0
      have x1 := cell_row (KX.out.row _ (Below.refl _ _)) 1
      have x2 := cell_row (KX.out.row _ (Below.refl _ _)) 2
      have x3 := cell_row (KX.out.row _ (Below.refl _ _)) 3
      have x4 := cell_row (KX.out.row _ (Below.refl _ _)) 4
      have x5 := cell_row (KX.out.row _ (Below.refl _ _)) 5
      have x6 := cell_row (KX.out.row _ (Below.refl _ _)) 6
      have x7 := cell_row (KX.out.row _ (Below.refl _ _)) 7
      have y0 := cell_row (KY.out.row _ (Below.refl _ _)) 0
      have y1 := cell_row (KY.out.row _ (Below.refl _ _)) 1
      have y2 := cell_row (KY.out.row _ (Below.refl _ _)) 2
      have y3 := cell_row (KY.out.row _ (Below.refl _ _)) 3
      have y4 := cell_row (KY.out.row _ (Below.refl _ _)) 4
      have y5 := cell_row (KY.out.row _ (Below.refl _ _)) 5
      have y6 := cell_row (KY.out.row _ (Below.refl _ _)) 6
      have y7 := cell_row (KY.out.row _ (Below.refl _ _)) 7
      go_wp2_with fail
      try rw [hWC]
      clear hWC 
      try go_wp2_with fail
      clear o0 o1 o2 o3 o4 o5 o6 o7
      refine (rsuperRight_calls (KY.out.val _ (Below.refl _ _))).mono ?_
      rintro e v2 ⟨rfl, hb⟩
      clear x0 x1 x2 x3 x4 x5 x6 x7
      clear y0 y1 y2 y3 y4 y5 y6 y7
      have KX := Lib.hid (KX.out.later hb)
      have KY := Lib.hid (KY.out.later hb)
      have VA := Lib.hid (stepV VA.out hb)
      have VX := Lib.hid (stepV VX.out hb)
      have VS := Lib.hid (stepV VS.out hb)
      have BB := Lib.hid (BB.out.trans (hb.mono BB.out.size))
      clear hb
      obtain ⟨ry, hry⟩ : ∃ r, r = superRight y := ⟨_, rfl⟩
      rw [← hry]
      have HRY := Lib.hid hry
      clear hry
      have x0 := cell_row (KX.out.row _ (Below.refl _ _)) 0
      have x1 := cell_row (KX.out.row _ (Below.refl _ _)) 1
      have x2 := cell_row (KX.out.row _ (Below.refl _ _)) 2
      have x3 := cell_row (KX.out.row _ (Below.refl _ _)) 3
      have x4 := cell_row (KX.out.row _ (Below.refl _ _)) 4
      have x5 := cell_row (KX.out.row _ (Below.refl _ _)) 5
      have x6 := cell_row (KX.out.row _ (Below.refl _ _)) 6
      have x7 := cell_row (KX.out.row _ (Below.refl _ _)) 7
      cases ry with
      | false =>
        go_wp2_with fail
        refine (live26 _).mono ?_
        rintro e w9 ⟨rfl, hb9⟩
        go_wp2_with fail
        go_ret
        exact ⟨rfl, BB.out.trans (hb9.mono BB.out.size)⟩
      | true =>
        by_cases hgg : gen = x.gen
        case pos =>
          have hgb : (gen == x.gen) = true := by simpa using hgg
          clear hgg
          go_wp2_with fail
          refine (live26 _).mono ?_
          rintro e w9 ⟨rfl, hb9⟩
          go_wp2_with fail
          go_ret
          exact ⟨rfl, BB.out.trans (hb9.mono BB.out.size)⟩
        have hgb : (gen == x.gen) = false := by simpa using hgg
        have HNG := Lib.hid (show y.gen ≠ x.gen by rw [YG.out]; exact hgg)
        clear hgg
        have RY := Lib.hid (superRight_iff.1 HRY.out.symm)
        obtain ⟨Y, hY⟩ : ∃ Y, Y = superBytes y := ⟨_, rfl⟩
        have EY := Lib.hid hY
        clear hY
        have y0 := cell_row (KY.out.row _ (Below.refl _ _)) 0
        have y1 := cell_row (KY.out.row _ (Below.refl _ _)) 1
        have y2 := cell_row (KY.out.row _ (Below.refl _ _)) 2
        have y3 := cell_row (KY.out.row _ (Below.refl _ _)) 3
        have y4 := cell_row (KY.out.row _ (Below.refl _ _)) 4
        have y5 := cell_row (KY.out.row _ (Below.refl _ _)) 5
        have y6 := cell_row (KY.out.row _ (Below.refl _ _)) 6
        have y7 := cell_row (KY.out.row _ (Below.refl _ _)) 7
        go_wp2_with fail
        refine (rsuperPut_calls (KY.out.val _ (Below.refl _ _)) YL.out).mono ?_
        rintro e v3 ⟨u, rfl, hu, hb⟩
        rw [← EY.out] at hu
        clear x0 x1 x2 x3 x4 x5 x6 x7
        clear y0 y1 y2 y3 y4 y5 y6 y7
        have KX := Lib.hid (KX.out.later hb)
        have KY := Lib.hid (KY.out.later hb)
        have VA := Lib.hid (stepV VA.out hb)
        have VX := Lib.hid (stepV VX.out hb)
        have VS := Lib.hid (stepV VS.out hb)
        have BB := Lib.hid (BB.out.trans (hb.mono BB.out.size))
        have VY := Lib.hid (stepV hu (Below.refl _ _))
        obtain ⟨AY, cY, rfl, _, _, _⟩ := Rep.val_list hu
        clear hu hb
        go_wp2_with fail
        refine (tear_calls VY.out VX.out HWK.out).mono ?_
        rintro e v4 ⟨u, rfl, hu, hb⟩
        obtain ⟨t, ht⟩ : ∃ t, t = tearOf Y X k := ⟨_, rfl⟩
        rw [← ht] at hu
        have HT := Lib.hid ht
        clear ht
        have KX := Lib.hid (KX.out.later hb)
        have KY := Lib.hid (KY.out.later hb)
        have VA := Lib.hid (stepV VA.out hb)
        have VX := Lib.hid (stepV VX.out hb)
        have VS := Lib.hid (stepV VS.out hb)
        have VY := Lib.hid (stepV VY.out hb)
        have BB := Lib.hid (BB.out.trans (hb.mono BB.out.size))
        have VT := Lib.hid (stepV hu (Below.refl _ _))
        obtain ⟨AT, cT, rfl, _, _, _⟩ := Rep.val_list hu
        clear hu hb
        go_wp2_with fail
        refine (superGet_calls VT.out).mono ?_
        rintro e v5 ⟨u, rfl, hu, hb⟩
        obtain ⟨g, hg⟩ : ∃ g, g = superGet t := ⟨_, rfl⟩
        have HG2 := Lib.hid hg
        rw [← hg] at hu
        rw [← hg]
        obtain ⟨z, hz⟩ : ∃ z, z = g.getD superNone := ⟨_, rfl⟩
        rw [← hz] at hu
        clear hg hz
        obtain ⟨AG, cG, rfl, _, _, _, _, _, _, _, _⟩ := rSuper_val hu
        have KX := Lib.hid (KX.out.later hb)
        have KY := Lib.hid (KY.out.later hb)
        have VA := Lib.hid (stepV VA.out hb)
        have VX := Lib.hid (stepV VX.out hb)
        have VS := Lib.hid (stepV VS.out hb)
        have VY := Lib.hid (stepV VY.out hb)
        have VT := Lib.hid (stepV VT.out hb)
        have BB := Lib.hid (BB.out.trans (hb.mono BB.out.size))
        obtain ⟨WG, hWG⟩ : ∃ W, v5.alloc (.cells #[.int .i64 z.epoch, .int .i64 z.gen, .int .i64 z.log, .int .i64 z.pages, .int .i64 z.head, .int .i64 z.seq, .int .i64 z.long, .slice AG z.dir.length cG] 114) = W := ⟨_, rfl⟩
        have hbG : Below v5.heap.size v5 WG := by rw [← hWG]; exact (Below.refl _ _).alloc (Nat.le_refl _) _
        have KX := Lib.hid (KX.out.later hbG)
        have KY := Lib.hid (KY.out.later hbG)
        have VA := Lib.hid (stepV VA.out hbG)
        have VX := Lib.hid (stepV VX.out hbG)
        have VS := Lib.hid (stepV VS.out hbG)
        have VY := Lib.hid (stepV VY.out hbG)
        have VT := Lib.hid (stepV VT.out hbG)
        have BB := Lib.hid (BB.out.trans (hbG.mono BB.out.size))
        clear hu hb hbG
        obtain ⟨f, hf⟩ : ∃ f, f = g.isSome := ⟨_, rfl⟩
        rw [← hf]
        cases g with
        | none =>
          have e2 : f = false := hf
          subst e2
          clear hf
          go_wp2_with fail
          try rw [hWG]
          clear hWG
          try go_wp2_with fail
          refine (live26 _).mono ?_
          rintro e w9 ⟨rfl, hb9⟩
          go_wp2_with fail
          go_ret
          exact ⟨rfl, BB.out.trans (hb9.mono BB.out.size)⟩
        | some z' =>
          have e2 : f = true := hf
          subst e2
          clear hf
          have HTW := Lib.hid (show t = Y ∨ t = X by rw [HT.out, EY.out, EX.out]; exact torn_twin RX.out RY.out YE.out HNG.out (z := z') (by rw [← EY.out, ← EX.out, ← HT.out]; exact HG2.out.symm))
          go_wp2_with fail
          try rw [hWG]
          clear hWG
          try go_wp2_with fail
          refine (sameBytes VT.out VY.out).mono ?_
          rintro e w' ⟨rfl, hw⟩
          have hw2 := hw.symm
          subst hw2
          clear hw
          by_cases ht : t = Y
          case pos =>
            rw [decide_eq_true ht]
            clear ht
            go_wp2_with fail
            refine (live26 _).mono ?_
            rintro e w9 ⟨rfl, hb9⟩
            go_wp2_with fail
            go_ret
            exact ⟨rfl, BB.out.trans (hb9.mono BB.out.size)⟩
          rw [decide_eq_false ht]
          have ht2 : t = X := HTW.out.resolve_left ht
          have HT2 := Lib.hid ht2
          clear ht ht2
          go_wp2_with fail
          refine (sameBytes VT.out VX.out).mono ?_
          rintro e w' ⟨rfl, hw⟩
          have hw2 := hw.symm
          subst hw2
          clear hw
          rw [decide_eq_true HT2.out]
          go_wp2_with fail
          refine (live26 _).mono ?_
          rintro e w9 ⟨rfl, hb9⟩
          go_wp2_with fail
          go_ret
          exact ⟨rfl, BB.out.trans (hb9.mono BB.out.size)⟩
end Go.Proofs.Ythjjnlilpklacaa
