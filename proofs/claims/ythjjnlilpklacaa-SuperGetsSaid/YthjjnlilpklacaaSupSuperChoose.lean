/- Walks of the choice between two superblocks, told what Get answers. Printed by gen_superchoose.py. -/
import Derived.Test.YthjjnlilpklacaaSupSuperPut
namespace Go.Proofs.Ythjjnlilpklacaa
open Go.RowKit

/-- What Get answers. -/
def SuperGot (w : World) (l : List UInt8) (e : Ending) (w' : World) : Prop :=
  ∃ u, e = .returned (.tuple #[u, .bool (superGet l).isSome]) ∧ rSuper.val (fun b => w.heap.size ≤ b) w' u ((superGet l).getD superNone) ∧ Below w.heap.size w w'
def pickOf : Bool → Bool → Int → Int → Int × Bool
  | false, false, _, _ => (0, false)
  | false, true, _, _ => (1, true)
  | true, true, g, h => if g < h then (1, true) else (0, true)
  | true, false, _, _ => (0, true)
theorem choose_pick (a b : List UInt8) : chooseOf a b = pickOf (superGet a).isSome (superGet b).isSome ((superGet a).getD superNone).gen ((superGet b).getD superNone).gen := by
  unfold chooseOf
  cases superGet a <;> cases superGet b <;> rfl


set_option maxRecDepth 100000 in
set_option maxHeartbeats 2000000 in
/-- super.Choose -/
theorem superChoose_calls (hget : ∀ (Q : Nat → Prop) (w : World) (v : Value) (l : List UInt8), Rep.byte.list.val Q w v l → Calls Try.prog 71 #[v] w (SuperGot w l))
    {Q Q' : Nat → Prop} {w : World} {v u : Value} {a b : List UInt8} (hx : Rep.byte.list.val Q w v a) (hy : Rep.byte.list.val Q' w u b) :
    Calls Try.prog 77 #[v, u] w fun e w' => e = .returned (.tuple #[.int .i64 (chooseOf a b).1, .bool (chooseOf a b).2]) ∧ Below w.heap.size w w' := by
  have HG := Lib.hid hget
  have HX := Lib.hid hx
  have HY := Lib.hid hy
  obtain ⟨A, c, rfl, _, _, _⟩ := Rep.val_list hx
  obtain ⟨B, d, rfl, _, _, _⟩ := Rep.val_list hy
  clear hget hx hy
  go_enter Try.func77, Try.ntmps77
  go_wp2_with fail
  refine (HG.out _ _ _ _ HX.out).mono ?_
  rintro e w1 ⟨u1, rfl, hu1, hb1⟩
  have HS1 := Lib.hid (show (superGet a).isSome = (superGet a).isSome from rfl)
  obtain ⟨x, hxe⟩ : ∃ x, x = (superGet a).getD superNone := ⟨_, rfl⟩
  rw [← hxe] at hu1
  obtain ⟨A1, c1, rfl, _, _, _, _, _, _, _, _⟩ := rSuper_val hu1
  obtain ⟨f1, hf1⟩ : ∃ f, f = (superGet a).isSome := ⟨_, rfl⟩
  rw [← hf1]
  have B1 := Lib.hid hb1
  have HY1 := Lib.hid (Rep.val_below (B := w.heap.size) HY.out hb1 (fun _ _ h => h.lt))
  have X1 := Lib.hid hxe
  have Y1 := Lib.hid hf1
  clear hu1 hxe hf1 hb1 HS1
  go_wp2_with fail
  obtain ⟨W2, hW2⟩ : ∃ W2, w1.alloc (.cells #[.int .i64 x.epoch, .int .i64 x.gen, .int .i64 x.log, .int .i64 x.pages, .int .i64 x.head, .int .i64 x.seq, .int .i64 x.long, .slice A1 x.dir.length c1] 114) = W2 := ⟨_, rfl⟩
  have hb2 : Below w1.heap.size w1 W2 := by rw [← hW2]; exact (Below.refl _ _).alloc (Nat.le_refl _) _
  have HY2 := Lib.hid (Rep.val_below (B := w1.heap.size) HY1.out hb2 (fun _ _ h => h.lt))
  have B2 := Lib.hid (B1.out.trans (hb2.mono B1.out.size))
  have K2 := Lib.hid (show W2.cell? ⟨w1.heap.size, 1, none⟩ = some (.int .i64 x.gen) ∧ w1.heap.size < W2.heap.size by rw [← hW2]; simp)
  try rw [hW2]
  clear hW2 hb2
  go_wp2_with fail
  refine (HG.out _ _ _ _ HY2.out).mono ?_
  rintro e w3 ⟨u3, rfl, hu3, hb3⟩
  obtain ⟨y, hye⟩ : ∃ y, y = (superGet b).getD superNone := ⟨_, rfl⟩
  rw [← hye] at hu3
  obtain ⟨A3, c3, rfl, _, _, _, _, _, _, _, _⟩ := rSuper_val hu3
  obtain ⟨f3, hf3⟩ : ∃ f, f = (superGet b).isSome := ⟨_, rfl⟩
  rw [← hf3]
  have B3 := Lib.hid (B2.out.trans (hb3.mono B2.out.size))
  have X3 := Lib.hid hye
  have Y3 := Lib.hid hf3
  have e1 : w3.cell? ⟨w1.heap.size, 1, none⟩ = some (.int .i64 x.gen) := (hb3.cell (p := ⟨w1.heap.size, 1, none⟩) K2.out.2).trans K2.out.1
  have S3 := Lib.hid (Nat.lt_of_lt_of_le K2.out.2 hb3.size)
  clear hu3 hye hf3 hb3 K2
  obtain ⟨W4, hW4⟩ : ∃ W4, w3.alloc (.cells #[.int .i64 y.epoch, .int .i64 y.gen, .int .i64 y.log, .int .i64 y.pages, .int .i64 y.head, .int .i64 y.seq, .int .i64 y.long, .slice A3 y.dir.length c3] 114) = W4 := ⟨_, rfl⟩
  have hb4 : Below w3.heap.size w3 W4 := by rw [← hW4]; exact (Below.refl _ _).alloc (Nat.le_refl _) _
  have B4 := Lib.hid (B3.out.trans (hb4.mono B3.out.size))
  have d1 : W4.cell? ⟨w1.heap.size, 1, none⟩ = some (.int .i64 x.gen) := (hb4.cell (p := ⟨w1.heap.size, 1, none⟩) S3.out).trans e1
  have d3 : W4.cell? ⟨w3.heap.size, 1, none⟩ = some (.int .i64 y.gen) := by rw [← hW4]; simp
  have V := Lib.hid (show chooseOf a b = pickOf f1 f3 x.gen y.gen by rw [choose_pick, X1.out, X3.out, Y1.out, Y3.out])
  clear X1 X3 Y1 Y3 e1 hb4
  cases f1 with
  | false =>
    cases f3 with
    | false =>
      go_wp2_with fail
      try rw [hW4]
      try go_wp2_with fail
      go_ret2
      exact ⟨by rw [V.out]; first | done | rfl | simp, B4.out⟩
    | true =>
      go_wp2_with fail
      try rw [hW4]
      try go_wp2_with fail
      go_ret2
      exact ⟨by rw [V.out]; first | done | rfl | simp, B4.out⟩
  | true =>
    cases f3 with
    | false =>
      go_wp2_with fail
      try rw [hW4]
      try go_wp2_with fail
      go_ret2
      exact ⟨by rw [V.out]; first | done | rfl | simp, B4.out⟩
    | true =>
      by_cases hg : x.gen < y.gen
      · have HV := Lib.hid (show chooseOf a b = (1, true) by rw [V.out]; exact if_pos hg)
        go_wp2_with fail
        try rw [hW4]
        try go_wp2_with fail
        go_ret2
        exact ⟨by rw [HV.out]; first | done | rfl | simp, B4.out⟩
      · have HV := Lib.hid (show chooseOf a b = (0, true) by rw [V.out]; exact if_neg hg)
        go_wp2_with fail
        try rw [hW4]
        try go_wp2_with fail
        go_ret2
        exact ⟨by rw [HV.out]; first | done | rfl | simp, B4.out⟩

set_option maxRecDepth 100000 in
set_option maxHeartbeats 2000000 in
/-- r26.Choose -/
theorem rsuperChoose_calls (hget : ∀ (Q : Nat → Prop) (w : World) (v : Value) (l : List UInt8), Rep.byte.list.val Q w v l → Calls Try.prog 74 #[v] w (SuperGot w l))
    {Q Q' : Nat → Prop} {w : World} {v u : Value} {a b : List UInt8} (hx : Rep.byte.list.val Q w v a) (hy : Rep.byte.list.val Q' w u b) :
    Calls Try.prog 78 #[v, u] w fun e w' => e = .returned (.tuple #[.int .i64 (chooseOf a b).1, .bool (chooseOf a b).2]) ∧ Below w.heap.size w w' := by
  have HG := Lib.hid hget
  have HX := Lib.hid hx
  have HY := Lib.hid hy
  obtain ⟨A, c, rfl, _, _, _⟩ := Rep.val_list hx
  obtain ⟨B, d, rfl, _, _, _⟩ := Rep.val_list hy
  clear hget hx hy
  go_enter Try.func78, Try.ntmps78
  go_wp2_with fail
  refine (HG.out _ _ _ _ HX.out).mono ?_
  rintro e w1 ⟨u1, rfl, hu1, hb1⟩
  have HS1 := Lib.hid (show (superGet a).isSome = (superGet a).isSome from rfl)
  obtain ⟨x, hxe⟩ : ∃ x, x = (superGet a).getD superNone := ⟨_, rfl⟩
  rw [← hxe] at hu1
  obtain ⟨A1, c1, rfl, _, _, _, _, _, _, _, _⟩ := rSuper_val hu1
  obtain ⟨f1, hf1⟩ : ∃ f, f = (superGet a).isSome := ⟨_, rfl⟩
  rw [← hf1]
  have B1 := Lib.hid hb1
  have HY1 := Lib.hid (Rep.val_below (B := w.heap.size) HY.out hb1 (fun _ _ h => h.lt))
  have X1 := Lib.hid hxe
  have Y1 := Lib.hid hf1
  clear hu1 hxe hf1 hb1 HS1
  go_wp2_with fail
  obtain ⟨W2, hW2⟩ : ∃ W2, w1.alloc (.cells #[.int .i64 x.epoch, .int .i64 x.gen, .int .i64 x.log, .int .i64 x.pages, .int .i64 x.head, .int .i64 x.seq, .int .i64 x.long, .slice A1 x.dir.length c1] 114) = W2 := ⟨_, rfl⟩
  have hb2 : Below w1.heap.size w1 W2 := by rw [← hW2]; exact (Below.refl _ _).alloc (Nat.le_refl _) _
  have HY2 := Lib.hid (Rep.val_below (B := w1.heap.size) HY1.out hb2 (fun _ _ h => h.lt))
  have B2 := Lib.hid (B1.out.trans (hb2.mono B1.out.size))
  have K2 := Lib.hid (show W2.cell? ⟨w1.heap.size, 1, none⟩ = some (.int .i64 x.gen) ∧ w1.heap.size < W2.heap.size by rw [← hW2]; simp)
  try rw [hW2]
  clear hW2 hb2
  go_wp2_with fail
  refine (HG.out _ _ _ _ HY2.out).mono ?_
  rintro e w3 ⟨u3, rfl, hu3, hb3⟩
  obtain ⟨y, hye⟩ : ∃ y, y = (superGet b).getD superNone := ⟨_, rfl⟩
  rw [← hye] at hu3
  obtain ⟨A3, c3, rfl, _, _, _, _, _, _, _, _⟩ := rSuper_val hu3
  obtain ⟨f3, hf3⟩ : ∃ f, f = (superGet b).isSome := ⟨_, rfl⟩
  rw [← hf3]
  have B3 := Lib.hid (B2.out.trans (hb3.mono B2.out.size))
  have X3 := Lib.hid hye
  have Y3 := Lib.hid hf3
  have e1 : w3.cell? ⟨w1.heap.size, 1, none⟩ = some (.int .i64 x.gen) := (hb3.cell (p := ⟨w1.heap.size, 1, none⟩) K2.out.2).trans K2.out.1
  have S3 := Lib.hid (Nat.lt_of_lt_of_le K2.out.2 hb3.size)
  clear hu3 hye hf3 hb3 K2
  obtain ⟨W4, hW4⟩ : ∃ W4, w3.alloc (.cells #[.int .i64 y.epoch, .int .i64 y.gen, .int .i64 y.log, .int .i64 y.pages, .int .i64 y.head, .int .i64 y.seq, .int .i64 y.long, .slice A3 y.dir.length c3] 114) = W4 := ⟨_, rfl⟩
  have hb4 : Below w3.heap.size w3 W4 := by rw [← hW4]; exact (Below.refl _ _).alloc (Nat.le_refl _) _
  have B4 := Lib.hid (B3.out.trans (hb4.mono B3.out.size))
  have d1 : W4.cell? ⟨w1.heap.size, 1, none⟩ = some (.int .i64 x.gen) := (hb4.cell (p := ⟨w1.heap.size, 1, none⟩) S3.out).trans e1
  have d3 : W4.cell? ⟨w3.heap.size, 1, none⟩ = some (.int .i64 y.gen) := by rw [← hW4]; simp
  have V := Lib.hid (show chooseOf a b = pickOf f1 f3 x.gen y.gen by rw [choose_pick, X1.out, X3.out, Y1.out, Y3.out])
  clear X1 X3 Y1 Y3 e1 hb4
  cases f1 with
  | false =>
    cases f3 with
    | false =>
      go_wp2_with fail
      try rw [hW4]
      try go_wp2_with fail
      go_ret2
      exact ⟨by rw [V.out]; first | done | rfl | simp, B4.out⟩
    | true =>
      go_wp2_with fail
      try rw [hW4]
      try go_wp2_with fail
      go_ret2
      exact ⟨by rw [V.out]; first | done | rfl | simp, B4.out⟩
  | true =>
    cases f3 with
    | false =>
      go_wp2_with fail
      try rw [hW4]
      try go_wp2_with fail
      go_ret2
      exact ⟨by rw [V.out]; first | done | rfl | simp, B4.out⟩
    | true =>
      by_cases hg : x.gen < y.gen
      · have HV := Lib.hid (show chooseOf a b = (1, true) by rw [V.out]; exact if_pos hg)
        go_wp2_with fail
        try rw [hW4]
        try go_wp2_with fail
        go_ret2
        exact ⟨by rw [HV.out]; first | done | rfl | simp, B4.out⟩
      · have HV := Lib.hid (show chooseOf a b = (0, true) by rw [V.out]; exact if_neg hg)
        go_wp2_with fail
        try rw [hW4]
        try go_wp2_with fail
        go_ret2
        exact ⟨by rw [HV.out]; first | done | rfl | simp, B4.out⟩
end Go.Proofs.Ythjjnlilpklacaa
