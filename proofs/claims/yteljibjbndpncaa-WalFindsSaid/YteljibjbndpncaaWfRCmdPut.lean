/- Walk of a command as bytes: ref13. Printed by gen_rcmdput.py. -/
import Derived.Test.YteljibjbndpncaaWfG9
namespace Go.Proofs.Yteljibjbndpncaa
open Go.RowKit

theorem one_is : num 1 1 = [1] := by decide
theorem nil_is : num 1 0 = [0] := by decide
theorem full_is : num 1 255 = [255] := by decide
theorem lit_byte (n : UInt8) {Q : Nat → Prop} {w : World} : Rep.byte.val Q w (.int .u8 (n.toNat : Int)) n := ⟨_, rfl, rfl⟩
theorem lit1 {Q : Nat → Prop} {w : World} : Rep.byte.val Q w (.int .u8 1) 1 := lit_byte 1
theorem lit0 {Q : Nat → Prop} {w : World} : Rep.byte.val Q w (.int .u8 0) 0 := lit_byte 0
theorem lit255 {Q : Nat → Prop} {w : World} : Rep.byte.val Q w (.int .u8 255) 255 := lit_byte 255

theorem lit_res {w W1 : World} {e : TypeId} {l : List UInt8} (hb : Below w.heap.size w W1) (hl : l = [255]) :
    Res Rep.byte.list (fun b => w.heap.size ≤ b) w l (.returned (.slice (some ⟨W1.heap.size, 0, none⟩) 1 1)) (W1.alloc (.cells #[.int .u8 255] e)) := by
  subst hl
  have hn := heap_alloc_new W1 (.cells #[.int .u8 255] e)
  refine ⟨_, rfl, Rep.list_val rfl (Nat.le_refl _) (by simp [maxLen]) ⟨[.int .u8 255], ⟨[.int .u8 255], [], rfl, rfl, rfl⟩, fun _ => ⟨W1.heap.size, 0, rfl, hb.size, ⟨_, _, _, hn⟩, ?_⟩⟩, hb.trans (((Below.refl _ _).alloc (Nat.le_refl _) _).mono hb.size)⟩
  intro j u hj
  have hc : (W1.alloc (.cells #[.int .u8 255] e)).cell? ⟨W1.heap.size, 0 + j, none⟩ = (#[Value.int .u8 255] : Array Value)[0 + j]? := by simp only [World.cell?, hn]; rfl
  rw [hc]
  simpa using hj

set_option maxRecDepth 100000 in
set_option maxHeartbeats 4000000 in
/-- ref13.Bytes -/
theorem rcmdPut_calls {Q' : Nat → Prop} {w : World} {u : Value} {x : DCmd} (hx : rCmd.val Q' w u x) (hd : x.data.length ≤ 1000000) :
    Calls Try.prog 63 #[u] w (Res Rep.byte.list (fun b => w.heap.size ≤ b) w (cmdBytes x)) := by
  obtain ⟨A, c, rfl, f0, f1, f2, f3, hs⟩ := rCmd_val hx
  have hm := CmdBox.made hx 116
  have hbel : Below w.heap.size w (w.alloc (.cells #[.int .i64 x.kind, .bool x.loc, .int .i64 x.id.index, .int .i64 x.id.gen, .int .i64 x.comp, .slice A x.data.length c] 116)) := (Below.refl _ _).alloc (Nat.le_refl _) _
  have hsz : (w.alloc (.cells #[.int .i64 x.kind, .bool x.loc, .int .i64 x.id.index, .int .i64 x.id.gen, .int .i64 x.comp, .slice A x.data.length c] 116)).heap.size = w.heap.size + 1 := by simp
  obtain ⟨W1, hW1⟩ : ∃ W1, w.alloc (.cells #[.int .i64 x.kind, .bool x.loc, .int .i64 x.id.index, .int .i64 x.id.gen, .int .i64 x.comp, .slice A x.data.length c] 116) = W1 := ⟨_, rfl⟩
  rw [hW1] at hm hbel hsz
  have HB := Lib.hid hbel
  have KM := Lib.hid (show ∀ w', Below W1.heap.size W1 w' → CmdBox w' w.heap.size x A c from fun w' h => hm.later (h.mono (Nat.le_of_eq hsz.symm)))
  have HVD := Lib.hid (show ∀ w', Below W1.heap.size W1 w' → Rep.byte.list.val (fun b => b < w.heap.size) w' (.slice A x.data.length c) x.data from fun w' h => by
    obtain ⟨A9, c9, he, _, _, _, _, hs9⟩ := rCmd_val (KM.out w' h).val
    cases he
    exact hs9.val)
  have LD := Lib.hid hd
  have F1 := Lib.hid f1
  have F2 := Lib.hid f2
  have F3 := Lib.hid f3
  have hsm := hs.2.1
  have hsl := hs.1
  unfold maxLen at hsm
  have FD := Lib.hid (wf_i64 (n := (x.data.length : Int)) (by omega) (by omega))
  clear hx hs hbel hsz f0 f1 f2 f3 hm
  cases hkn : knownB x.kind
  case false =>
    have HGT : ¬ x.kind < 0 → 3 < x.kind := by
      intro hneg; unfold knownB at hkn; simp at hkn; omega
    have KS := Lib.hid (show ∀ w', Below W1.heap.size W1 w' → w'.cell? ⟨w.heap.size, 0, none⟩ = some (.int .i64 x.kind) ∧ w'.cell? ⟨w.heap.size, 1, none⟩ = some (.bool x.loc) ∧ w'.cell? ⟨w.heap.size, 2, none⟩ = some (.int .i64 x.id.index) ∧ w'.cell? ⟨w.heap.size, 3, none⟩ = some (.int .i64 x.id.gen) ∧ w'.cell? ⟨w.heap.size, 4, none⟩ = some (.int .i64 x.comp) ∧ w'.cell? ⟨w.heap.size, 5, none⟩ = some (.slice A x.data.length c) from
      fun w' h => have m := KM.out w' h; ⟨m.c0, m.c1, m.c2, m.c3, m.c4, m.c5⟩)
    have T := Lib.hid (show cmdBytes x = [255] by rw [cmdBytes, hkn, if_neg Bool.false_ne_true, full_is])
    obtain ⟨c0, c1, c2, c3, c4, c5⟩ := KS.out _ (Below.refl _ _)
    by_cases hneg : x.kind < 0
    · clear hkn
      go_enter Try.func63, Try.ntmps63
      go_wp2_with fail
      try rw [hW1]
      clear hW1
      go_wp2_with fail
      go_ret
      exact lit_res HB.out T.out
    · clear hkn
      have hgt : 3 < x.kind := HGT hneg
      go_enter Try.func63, Try.ntmps63
      go_wp2_with fail
      try rw [hW1]
      clear hW1
      go_wp2_with fail
      go_ret
      exact lit_res HB.out T.out
  case true =>
    have hk4 : x.kind = 0 ∨ x.kind = 1 ∨ x.kind = 2 ∨ x.kind = 3 := by simp [knownB] at hkn; omega
    clear hkn
    rcases hk4 with hk | hk | hk | hk
    · have KS := Lib.hid (show ∀ w', Below W1.heap.size W1 w' → w'.cell? ⟨w.heap.size, 0, none⟩ = some (.int .i64 0) ∧ w'.cell? ⟨w.heap.size, 1, none⟩ = some (.bool x.loc) ∧ w'.cell? ⟨w.heap.size, 2, none⟩ = some (.int .i64 x.id.index) ∧ w'.cell? ⟨w.heap.size, 3, none⟩ = some (.int .i64 x.id.gen) ∧ w'.cell? ⟨w.heap.size, 4, none⟩ = some (.int .i64 x.comp) ∧ w'.cell? ⟨w.heap.size, 5, none⟩ = some (.slice A x.data.length c) from
        fun w' h => have m := KM.out w' h; ⟨hk ▸ m.c0, m.c1, m.c2, m.c3, m.c4, m.c5⟩)
      obtain ⟨q1, hq1⟩ : ∃ z, z = num 1 0 := ⟨_, rfl⟩
      have hn1 : q1.length ≤ 8 := by have := num_length 1 0; rw [hq1]; omega
      have T := Lib.hid (show cmdBytes x = q1 by rw [hq1, cmdBytes, hk, show knownB 0 = true from rfl]; simp)
      have E1 := Lib.hid hq1
      clear hq1 hn1 hk
      obtain ⟨c0, c1, c2, c3, c4, c5⟩ := KS.out _ (Below.refl _ _)
      go_enter Try.func63, Try.ntmps63
      go_wp2_with fail
      try rw [hW1]
      clear hW1
      go_wp2_with fail
      refine (rnum_calls (width := 1) (n := 0) rfl rfl).mono ?_
      rintro e w1 ⟨u1, rfl, hu1, hb1⟩
      rw [← E1.out] at hu1
      have HU1 := Lib.hid hu1
      have D1 := Lib.hid hb1
      clear hu1 hb1 c0 c1 c2 c3 c4 c5
      obtain ⟨c0, c1, c2, c3, c4, c5⟩ := KS.out _ D1.out
      go_wp2_with fail
      go_ret
      exact ⟨_, rfl, by rw [T.out]; exact Rep.val_mono (fun b hb _ => Nat.le_trans HB.out.size hb) (Rep.acc_fresh HU1.out), HB.out.trans (D1.out.mono HB.out.size)⟩
    · by_cases hloc : x.loc = true
      · have KS := Lib.hid (show ∀ w', Below W1.heap.size W1 w' → w'.cell? ⟨w.heap.size, 0, none⟩ = some (.int .i64 1) ∧ w'.cell? ⟨w.heap.size, 1, none⟩ = some (.bool true) ∧ w'.cell? ⟨w.heap.size, 2, none⟩ = some (.int .i64 x.id.index) ∧ w'.cell? ⟨w.heap.size, 3, none⟩ = some (.int .i64 x.id.gen) ∧ w'.cell? ⟨w.heap.size, 4, none⟩ = some (.int .i64 x.comp) ∧ w'.cell? ⟨w.heap.size, 5, none⟩ = some (.slice A x.data.length c) from
          fun w' h => have m := KM.out w' h; ⟨hk ▸ m.c0, hloc ▸ m.c1, m.c2, m.c3, m.c4, m.c5⟩)
        obtain ⟨q1, hq1⟩ : ∃ z, z = num 1 1 := ⟨_, rfl⟩
        have hn1 : q1.length ≤ 8 := by have := num_length 1 1; rw [hq1]; omega
        have S1 := Lib.hid (show q1.length + 1 ≤ maxLen ∧ (q1.length + 1) * 1 ≤ 140737488355328 by unfold maxLen; omega)
        obtain ⟨q2, hq2⟩ : ∃ z, z = q1 ++ [1] := ⟨_, rfl⟩
        have hn2 : q2.length ≤ 16 := by rw [hq2, List.length_append]; simp; omega
        have S2 := Lib.hid (show q2.length + (num 8 x.id.index).length ≤ maxLen ∧ (q2.length + (num 8 x.id.index).length) * 1 ≤ 140737488355328 by have := num_length 8 x.id.index; unfold maxLen; omega)
        obtain ⟨q3, hq3⟩ : ∃ z, z = q2 ++ num 8 x.id.index := ⟨_, rfl⟩
        have hn3 : q3.length ≤ 24 := by have := num_length 8 x.id.index; rw [hq3, List.length_append]; omega
        have T := Lib.hid (show cmdBytes x = q3 by rw [hq3, hq2, hq1, cmdBytes, hk, show knownB 1 = true from rfl]; simp [targetBytes, hloc, one_is])
        have E1 := Lib.hid hq1
        have E2 := Lib.hid hq2
        have E3 := Lib.hid hq3
        clear hq1 hq2 hq3 hn1 hn2 hn3 hk hloc
        obtain ⟨c0, c1, c2, c3, c4, c5⟩ := KS.out _ (Below.refl _ _)
        go_enter Try.func63, Try.ntmps63
        go_wp2_with fail
        try rw [hW1]
        clear hW1
        go_wp2_with fail
        refine (rnum_calls (width := 1) (n := 1) rfl rfl).mono ?_
        rintro e w1 ⟨u1, rfl, hu1, hb1⟩
        rw [← E1.out] at hu1
        have HU1 := Lib.hid hu1
        have D1 := Lib.hid hb1
        clear hu1 hb1 c0 c1 c2 c3 c4 c5
        obtain ⟨c0, c1, c2, c3, c4, c5⟩ := KS.out _ D1.out
        go_wp2_with (refine wpList_snoc (e := 5) (base := W1.heap.size) (Q := fun _ => False) (r := Rep.byte) rfl rfl _ _ 33 _ rfl rfl rfl (.int .u8 0) 1 1 Try.underlying33 info5 rfl (by decide) rfl _ _ HU1.out (1 : UInt8) _ (by exact rfl) lit1 (by exact rfl) (by exact rfl) S1.out.1 S1.out.2 D1.out.size ?_; intro v2 w2 hacc2 hgr2 hat2; rw [← E2.out] at hacc2; have HU2 := Lib.hid hacc2; have D2 := Lib.hid (Rep.acc_below HU1.out D1.out hgr2 D1.out.size); clear hacc2 hgr2 hat2; obtain ⟨c0, c1, c2, c3, c4, c5⟩ := KS.out _ D2.out)
        refine (rnum_calls (width := 8) (n := x.id.index) rfl F1.out).mono ?_
        rintro e x3 ⟨n3, rfl, hn3, hb3⟩
        have HN3 := Lib.hid hn3
        have G3 := Lib.hid (D2.out.trans (hb3.mono D2.out.size))
        have HA3 := Lib.hid (Rep.acc_later HU2.out hb3)
        clear hn3 hb3
        go_wp2_with (refine wpList_spread_leaf (e := 5) (base := W1.heap.size) (Q := fun _ => False) Rep.leaf_byte rfl _ _ 33 rfl (.int .u8 0) 1 1 Try.underlying33 info5 rfl (by decide) rfl _ _ (by exact rfl) HA3.out _ _ (by exact rfl) (Rep.acc_val HN3.out) S2.out.1 S2.out.2 G3.out.size ?_; intro v3 w3 hacc3 hgr3 hat3; rw [← E3.out] at hacc3; have HU3 := Lib.hid hacc3; have D3 := Lib.hid (Rep.acc_below HA3.out G3.out hgr3 G3.out.size); clear hacc3 hgr3 hat3; obtain ⟨c0, c1, c2, c3, c4, c5⟩ := KS.out _ D3.out)
        go_ret
        exact ⟨_, rfl, by rw [T.out]; exact Rep.val_mono (fun b hb _ => Nat.le_trans HB.out.size hb) (Rep.acc_fresh HU3.out), HB.out.trans (D3.out.mono HB.out.size)⟩
      · replace hloc : x.loc = false := by simpa using hloc
        have KS := Lib.hid (show ∀ w', Below W1.heap.size W1 w' → w'.cell? ⟨w.heap.size, 0, none⟩ = some (.int .i64 1) ∧ w'.cell? ⟨w.heap.size, 1, none⟩ = some (.bool false) ∧ w'.cell? ⟨w.heap.size, 2, none⟩ = some (.int .i64 x.id.index) ∧ w'.cell? ⟨w.heap.size, 3, none⟩ = some (.int .i64 x.id.gen) ∧ w'.cell? ⟨w.heap.size, 4, none⟩ = some (.int .i64 x.comp) ∧ w'.cell? ⟨w.heap.size, 5, none⟩ = some (.slice A x.data.length c) from
          fun w' h => have m := KM.out w' h; ⟨hk ▸ m.c0, hloc ▸ m.c1, m.c2, m.c3, m.c4, m.c5⟩)
        obtain ⟨q1, hq1⟩ : ∃ z, z = num 1 1 := ⟨_, rfl⟩
        have hn1 : q1.length ≤ 8 := by have := num_length 1 1; rw [hq1]; omega
        have S1 := Lib.hid (show q1.length + 1 ≤ maxLen ∧ (q1.length + 1) * 1 ≤ 140737488355328 by unfold maxLen; omega)
        obtain ⟨q2, hq2⟩ : ∃ z, z = q1 ++ [0] := ⟨_, rfl⟩
        have hn2 : q2.length ≤ 16 := by rw [hq2, List.length_append]; simp; omega
        have S2 := Lib.hid (show q2.length + (num 8 x.id.index).length ≤ maxLen ∧ (q2.length + (num 8 x.id.index).length) * 1 ≤ 140737488355328 by have := num_length 8 x.id.index; unfold maxLen; omega)
        obtain ⟨q3, hq3⟩ : ∃ z, z = q2 ++ num 8 x.id.index := ⟨_, rfl⟩
        have hn3 : q3.length ≤ 24 := by have := num_length 8 x.id.index; rw [hq3, List.length_append]; omega
        have S3 := Lib.hid (show q3.length + (num 8 x.id.gen).length ≤ maxLen ∧ (q3.length + (num 8 x.id.gen).length) * 1 ≤ 140737488355328 by have := num_length 8 x.id.gen; unfold maxLen; omega)
        obtain ⟨q4, hq4⟩ : ∃ z, z = q3 ++ num 8 x.id.gen := ⟨_, rfl⟩
        have hn4 : q4.length ≤ 32 := by have := num_length 8 x.id.gen; rw [hq4, List.length_append]; omega
        have T := Lib.hid (show cmdBytes x = q4 by rw [hq4, hq3, hq2, hq1, cmdBytes, hk, show knownB 1 = true from rfl]; simp [targetBytes, hloc, nil_is])
        have E1 := Lib.hid hq1
        have E2 := Lib.hid hq2
        have E3 := Lib.hid hq3
        have E4 := Lib.hid hq4
        clear hq1 hq2 hq3 hq4 hn1 hn2 hn3 hn4 hk hloc
        obtain ⟨c0, c1, c2, c3, c4, c5⟩ := KS.out _ (Below.refl _ _)
        go_enter Try.func63, Try.ntmps63
        go_wp2_with fail
        try rw [hW1]
        clear hW1
        go_wp2_with fail
        refine (rnum_calls (width := 1) (n := 1) rfl rfl).mono ?_
        rintro e w1 ⟨u1, rfl, hu1, hb1⟩
        rw [← E1.out] at hu1
        have HU1 := Lib.hid hu1
        have D1 := Lib.hid hb1
        clear hu1 hb1 c0 c1 c2 c3 c4 c5
        obtain ⟨c0, c1, c2, c3, c4, c5⟩ := KS.out _ D1.out
        go_wp2_with (refine wpList_snoc (e := 5) (base := W1.heap.size) (Q := fun _ => False) (r := Rep.byte) rfl rfl _ _ 33 _ rfl rfl rfl (.int .u8 0) 1 1 Try.underlying33 info5 rfl (by decide) rfl _ _ HU1.out (0 : UInt8) _ (by exact rfl) lit0 (by exact rfl) (by exact rfl) S1.out.1 S1.out.2 D1.out.size ?_; intro v2 w2 hacc2 hgr2 hat2; rw [← E2.out] at hacc2; have HU2 := Lib.hid hacc2; have D2 := Lib.hid (Rep.acc_below HU1.out D1.out hgr2 D1.out.size); clear hacc2 hgr2 hat2; obtain ⟨c0, c1, c2, c3, c4, c5⟩ := KS.out _ D2.out)
        refine (rnum_calls (width := 8) (n := x.id.index) rfl F1.out).mono ?_
        rintro e x3 ⟨n3, rfl, hn3, hb3⟩
        have HN3 := Lib.hid hn3
        have G3 := Lib.hid (D2.out.trans (hb3.mono D2.out.size))
        have HA3 := Lib.hid (Rep.acc_later HU2.out hb3)
        clear hn3 hb3
        go_wp2_with (refine wpList_spread_leaf (e := 5) (base := W1.heap.size) (Q := fun _ => False) Rep.leaf_byte rfl _ _ 33 rfl (.int .u8 0) 1 1 Try.underlying33 info5 rfl (by decide) rfl _ _ (by exact rfl) HA3.out _ _ (by exact rfl) (Rep.acc_val HN3.out) S2.out.1 S2.out.2 G3.out.size ?_; intro v3 w3 hacc3 hgr3 hat3; rw [← E3.out] at hacc3; have HU3 := Lib.hid hacc3; have D3 := Lib.hid (Rep.acc_below HA3.out G3.out hgr3 G3.out.size); clear hacc3 hgr3 hat3; obtain ⟨c0, c1, c2, c3, c4, c5⟩ := KS.out _ D3.out)
        go_wp2_with fail
        refine (rnum_calls (width := 8) (n := x.id.gen) rfl F2.out).mono ?_
        rintro e x4 ⟨n4, rfl, hn4, hb4⟩
        have HN4 := Lib.hid hn4
        have G4 := Lib.hid (D3.out.trans (hb4.mono D3.out.size))
        have HA4 := Lib.hid (Rep.acc_later HU3.out hb4)
        clear hn4 hb4
        go_wp2_with (refine wpList_spread_leaf (e := 5) (base := W1.heap.size) (Q := fun _ => False) Rep.leaf_byte rfl _ _ 33 rfl (.int .u8 0) 1 1 Try.underlying33 info5 rfl (by decide) rfl _ _ (by exact rfl) HA4.out _ _ (by exact rfl) (Rep.acc_val HN4.out) S3.out.1 S3.out.2 G4.out.size ?_; intro v4 w4 hacc4 hgr4 hat4; rw [← E4.out] at hacc4; have HU4 := Lib.hid hacc4; have D4 := Lib.hid (Rep.acc_below HA4.out G4.out hgr4 G4.out.size); clear hacc4 hgr4 hat4; obtain ⟨c0, c1, c2, c3, c4, c5⟩ := KS.out _ D4.out)
        go_ret
        exact ⟨_, rfl, by rw [T.out]; exact Rep.val_mono (fun b hb _ => Nat.le_trans HB.out.size hb) (Rep.acc_fresh HU4.out), HB.out.trans (D4.out.mono HB.out.size)⟩
    · by_cases hloc : x.loc = true
      · have KS := Lib.hid (show ∀ w', Below W1.heap.size W1 w' → w'.cell? ⟨w.heap.size, 0, none⟩ = some (.int .i64 2) ∧ w'.cell? ⟨w.heap.size, 1, none⟩ = some (.bool true) ∧ w'.cell? ⟨w.heap.size, 2, none⟩ = some (.int .i64 x.id.index) ∧ w'.cell? ⟨w.heap.size, 3, none⟩ = some (.int .i64 x.id.gen) ∧ w'.cell? ⟨w.heap.size, 4, none⟩ = some (.int .i64 x.comp) ∧ w'.cell? ⟨w.heap.size, 5, none⟩ = some (.slice A x.data.length c) from
          fun w' h => have m := KM.out w' h; ⟨hk ▸ m.c0, hloc ▸ m.c1, m.c2, m.c3, m.c4, m.c5⟩)
        obtain ⟨q1, hq1⟩ : ∃ z, z = num 1 2 := ⟨_, rfl⟩
        have hn1 : q1.length ≤ 8 := by have := num_length 1 2; rw [hq1]; omega
        have S1 := Lib.hid (show q1.length + 1 ≤ maxLen ∧ (q1.length + 1) * 1 ≤ 140737488355328 by unfold maxLen; omega)
        obtain ⟨q2, hq2⟩ : ∃ z, z = q1 ++ [1] := ⟨_, rfl⟩
        have hn2 : q2.length ≤ 16 := by rw [hq2, List.length_append]; simp; omega
        have S2 := Lib.hid (show q2.length + (num 8 x.id.index).length ≤ maxLen ∧ (q2.length + (num 8 x.id.index).length) * 1 ≤ 140737488355328 by have := num_length 8 x.id.index; unfold maxLen; omega)
        obtain ⟨q3, hq3⟩ : ∃ z, z = q2 ++ num 8 x.id.index := ⟨_, rfl⟩
        have hn3 : q3.length ≤ 24 := by have := num_length 8 x.id.index; rw [hq3, List.length_append]; omega
        have S3 := Lib.hid (show q3.length + (num 8 x.comp).length ≤ maxLen ∧ (q3.length + (num 8 x.comp).length) * 1 ≤ 140737488355328 by have := num_length 8 x.comp; unfold maxLen; omega)
        obtain ⟨q4, hq4⟩ : ∃ z, z = q3 ++ num 8 x.comp := ⟨_, rfl⟩
        have hn4 : q4.length ≤ 32 := by have := num_length 8 x.comp; rw [hq4, List.length_append]; omega
        have S4 := Lib.hid (show q4.length + (num 2 x.data.length).length ≤ maxLen ∧ (q4.length + (num 2 x.data.length).length) * 1 ≤ 140737488355328 by have := num_length 2 x.data.length; unfold maxLen; omega)
        obtain ⟨q5, hq5⟩ : ∃ z, z = q4 ++ num 2 x.data.length := ⟨_, rfl⟩
        have hn5 : q5.length ≤ 40 := by have := num_length 2 x.data.length; rw [hq5, List.length_append]; omega
        have S5 := Lib.hid (show q5.length + x.data.length ≤ maxLen ∧ (q5.length + x.data.length) * 1 ≤ 140737488355328 by unfold maxLen; omega)
        obtain ⟨q6, hq6⟩ : ∃ z, z = q5 ++ x.data := ⟨_, rfl⟩
        have T := Lib.hid (show cmdBytes x = q6 by rw [hq6, hq5, hq4, hq3, hq2, hq1, cmdBytes, hk, show knownB 2 = true from rfl]; simp [targetBytes, hloc, one_is, dataBytes])
        have E1 := Lib.hid hq1
        have E2 := Lib.hid hq2
        have E3 := Lib.hid hq3
        have E4 := Lib.hid hq4
        have E5 := Lib.hid hq5
        have E6 := Lib.hid hq6
        clear hq1 hq2 hq3 hq4 hq5 hq6 hn1 hn2 hn3 hn4 hn5 hk hloc
        obtain ⟨c0, c1, c2, c3, c4, c5⟩ := KS.out _ (Below.refl _ _)
        go_enter Try.func63, Try.ntmps63
        go_wp2_with fail
        try rw [hW1]
        clear hW1
        go_wp2_with fail
        refine (rnum_calls (width := 1) (n := 2) rfl rfl).mono ?_
        rintro e w1 ⟨u1, rfl, hu1, hb1⟩
        rw [← E1.out] at hu1
        have HU1 := Lib.hid hu1
        have D1 := Lib.hid hb1
        clear hu1 hb1 c0 c1 c2 c3 c4 c5
        obtain ⟨c0, c1, c2, c3, c4, c5⟩ := KS.out _ D1.out
        go_wp2_with (refine wpList_snoc (e := 5) (base := W1.heap.size) (Q := fun _ => False) (r := Rep.byte) rfl rfl _ _ 33 _ rfl rfl rfl (.int .u8 0) 1 1 Try.underlying33 info5 rfl (by decide) rfl _ _ HU1.out (1 : UInt8) _ (by exact rfl) lit1 (by exact rfl) (by exact rfl) S1.out.1 S1.out.2 D1.out.size ?_; intro v2 w2 hacc2 hgr2 hat2; rw [← E2.out] at hacc2; have HU2 := Lib.hid hacc2; have D2 := Lib.hid (Rep.acc_below HU1.out D1.out hgr2 D1.out.size); clear hacc2 hgr2 hat2; obtain ⟨c0, c1, c2, c3, c4, c5⟩ := KS.out _ D2.out)
        refine (rnum_calls (width := 8) (n := x.id.index) rfl F1.out).mono ?_
        rintro e x3 ⟨n3, rfl, hn3, hb3⟩
        have HN3 := Lib.hid hn3
        have G3 := Lib.hid (D2.out.trans (hb3.mono D2.out.size))
        have HA3 := Lib.hid (Rep.acc_later HU2.out hb3)
        clear hn3 hb3
        go_wp2_with (refine wpList_spread_leaf (e := 5) (base := W1.heap.size) (Q := fun _ => False) Rep.leaf_byte rfl _ _ 33 rfl (.int .u8 0) 1 1 Try.underlying33 info5 rfl (by decide) rfl _ _ (by exact rfl) HA3.out _ _ (by exact rfl) (Rep.acc_val HN3.out) S2.out.1 S2.out.2 G3.out.size ?_; intro v3 w3 hacc3 hgr3 hat3; rw [← E3.out] at hacc3; have HU3 := Lib.hid hacc3; have D3 := Lib.hid (Rep.acc_below HA3.out G3.out hgr3 G3.out.size); clear hacc3 hgr3 hat3; obtain ⟨c0, c1, c2, c3, c4, c5⟩ := KS.out _ D3.out)
        go_wp2_with fail
        refine (rnum_calls (width := 8) (n := x.comp) rfl F3.out).mono ?_
        rintro e x4 ⟨n4, rfl, hn4, hb4⟩
        have HN4 := Lib.hid hn4
        have G4 := Lib.hid (D3.out.trans (hb4.mono D3.out.size))
        have HA4 := Lib.hid (Rep.acc_later HU3.out hb4)
        clear hn4 hb4
        go_wp2_with (refine wpList_spread_leaf (e := 5) (base := W1.heap.size) (Q := fun _ => False) Rep.leaf_byte rfl _ _ 33 rfl (.int .u8 0) 1 1 Try.underlying33 info5 rfl (by decide) rfl _ _ (by exact rfl) HA4.out _ _ (by exact rfl) (Rep.acc_val HN4.out) S3.out.1 S3.out.2 G4.out.size ?_; intro v4 w4 hacc4 hgr4 hat4; rw [← E4.out] at hacc4; have HU4 := Lib.hid hacc4; have D4 := Lib.hid (Rep.acc_below HA4.out G4.out hgr4 G4.out.size); clear hacc4 hgr4 hat4; obtain ⟨c0, c1, c2, c3, c4, c5⟩ := KS.out _ D4.out)
        go_wp2_with fail
        refine (rnum_calls (width := 2) (n := x.data.length) rfl FD.out).mono ?_
        rintro e x5 ⟨n5, rfl, hn5, hb5⟩
        have HN5 := Lib.hid hn5
        have G5 := Lib.hid (D4.out.trans (hb5.mono D4.out.size))
        have HA5 := Lib.hid (Rep.acc_later HU4.out hb5)
        clear hn5 hb5
        go_wp2_with (first | (refine wpList_spread_leaf (e := 5) (base := W1.heap.size) (Q := fun _ => False) Rep.leaf_byte rfl _ _ 33 rfl (.int .u8 0) 1 1 Try.underlying33 info5 rfl (by decide) rfl _ _ (by exact rfl) HA5.out _ _ (by exact rfl) (Rep.acc_val HN5.out) S4.out.1 S4.out.2 G5.out.size ?_; intro v5 w5 hacc5 hgr5 hat5; rw [← E5.out] at hacc5; have HU5 := Lib.hid hacc5; have D5 := Lib.hid (Rep.acc_below HA5.out G5.out hgr5 G5.out.size); clear hacc5 hgr5 hat5; obtain ⟨c0, c1, c2, c3, c4, c5⟩ := KS.out _ D5.out) | (refine wpList_spread_leaf (e := 5) (base := W1.heap.size) (Q := fun _ => False) Rep.leaf_byte rfl _ _ 33 rfl (.int .u8 0) 1 1 Try.underlying33 info5 rfl (by decide) rfl _ _ (by exact rfl) HU5.out _ _ (by exact rfl) (HVD.out _ D5.out) S5.out.1 S5.out.2 D5.out.size ?_; intro v6 w6 hacc6 hgr6 hat6; rw [← E6.out] at hacc6; have HU6 := Lib.hid hacc6; have D6 := Lib.hid (Rep.acc_below HU5.out D5.out hgr6 D5.out.size); clear hacc6 hgr6 hat6; obtain ⟨c0, c1, c2, c3, c4, c5⟩ := KS.out _ D6.out))
        go_ret
        exact ⟨_, rfl, by rw [T.out]; exact Rep.val_mono (fun b hb _ => Nat.le_trans HB.out.size hb) (Rep.acc_fresh HU6.out), HB.out.trans (D6.out.mono HB.out.size)⟩
      · replace hloc : x.loc = false := by simpa using hloc
        have KS := Lib.hid (show ∀ w', Below W1.heap.size W1 w' → w'.cell? ⟨w.heap.size, 0, none⟩ = some (.int .i64 2) ∧ w'.cell? ⟨w.heap.size, 1, none⟩ = some (.bool false) ∧ w'.cell? ⟨w.heap.size, 2, none⟩ = some (.int .i64 x.id.index) ∧ w'.cell? ⟨w.heap.size, 3, none⟩ = some (.int .i64 x.id.gen) ∧ w'.cell? ⟨w.heap.size, 4, none⟩ = some (.int .i64 x.comp) ∧ w'.cell? ⟨w.heap.size, 5, none⟩ = some (.slice A x.data.length c) from
          fun w' h => have m := KM.out w' h; ⟨hk ▸ m.c0, hloc ▸ m.c1, m.c2, m.c3, m.c4, m.c5⟩)
        obtain ⟨q1, hq1⟩ : ∃ z, z = num 1 2 := ⟨_, rfl⟩
        have hn1 : q1.length ≤ 8 := by have := num_length 1 2; rw [hq1]; omega
        have S1 := Lib.hid (show q1.length + 1 ≤ maxLen ∧ (q1.length + 1) * 1 ≤ 140737488355328 by unfold maxLen; omega)
        obtain ⟨q2, hq2⟩ : ∃ z, z = q1 ++ [0] := ⟨_, rfl⟩
        have hn2 : q2.length ≤ 16 := by rw [hq2, List.length_append]; simp; omega
        have S2 := Lib.hid (show q2.length + (num 8 x.id.index).length ≤ maxLen ∧ (q2.length + (num 8 x.id.index).length) * 1 ≤ 140737488355328 by have := num_length 8 x.id.index; unfold maxLen; omega)
        obtain ⟨q3, hq3⟩ : ∃ z, z = q2 ++ num 8 x.id.index := ⟨_, rfl⟩
        have hn3 : q3.length ≤ 24 := by have := num_length 8 x.id.index; rw [hq3, List.length_append]; omega
        have S3 := Lib.hid (show q3.length + (num 8 x.id.gen).length ≤ maxLen ∧ (q3.length + (num 8 x.id.gen).length) * 1 ≤ 140737488355328 by have := num_length 8 x.id.gen; unfold maxLen; omega)
        obtain ⟨q4, hq4⟩ : ∃ z, z = q3 ++ num 8 x.id.gen := ⟨_, rfl⟩
        have hn4 : q4.length ≤ 32 := by have := num_length 8 x.id.gen; rw [hq4, List.length_append]; omega
        have S4 := Lib.hid (show q4.length + (num 8 x.comp).length ≤ maxLen ∧ (q4.length + (num 8 x.comp).length) * 1 ≤ 140737488355328 by have := num_length 8 x.comp; unfold maxLen; omega)
        obtain ⟨q5, hq5⟩ : ∃ z, z = q4 ++ num 8 x.comp := ⟨_, rfl⟩
        have hn5 : q5.length ≤ 40 := by have := num_length 8 x.comp; rw [hq5, List.length_append]; omega
        have S5 := Lib.hid (show q5.length + (num 2 x.data.length).length ≤ maxLen ∧ (q5.length + (num 2 x.data.length).length) * 1 ≤ 140737488355328 by have := num_length 2 x.data.length; unfold maxLen; omega)
        obtain ⟨q6, hq6⟩ : ∃ z, z = q5 ++ num 2 x.data.length := ⟨_, rfl⟩
        have hn6 : q6.length ≤ 48 := by have := num_length 2 x.data.length; rw [hq6, List.length_append]; omega
        have S6 := Lib.hid (show q6.length + x.data.length ≤ maxLen ∧ (q6.length + x.data.length) * 1 ≤ 140737488355328 by unfold maxLen; omega)
        obtain ⟨q7, hq7⟩ : ∃ z, z = q6 ++ x.data := ⟨_, rfl⟩
        have T := Lib.hid (show cmdBytes x = q7 by rw [hq7, hq6, hq5, hq4, hq3, hq2, hq1, cmdBytes, hk, show knownB 2 = true from rfl]; simp [targetBytes, hloc, nil_is, dataBytes])
        have E1 := Lib.hid hq1
        have E2 := Lib.hid hq2
        have E3 := Lib.hid hq3
        have E4 := Lib.hid hq4
        have E5 := Lib.hid hq5
        have E6 := Lib.hid hq6
        have E7 := Lib.hid hq7
        clear hq1 hq2 hq3 hq4 hq5 hq6 hq7 hn1 hn2 hn3 hn4 hn5 hn6 hk hloc
        obtain ⟨c0, c1, c2, c3, c4, c5⟩ := KS.out _ (Below.refl _ _)
        go_enter Try.func63, Try.ntmps63
        go_wp2_with fail
        try rw [hW1]
        clear hW1
        go_wp2_with fail
        refine (rnum_calls (width := 1) (n := 2) rfl rfl).mono ?_
        rintro e w1 ⟨u1, rfl, hu1, hb1⟩
        rw [← E1.out] at hu1
        have HU1 := Lib.hid hu1
        have D1 := Lib.hid hb1
        clear hu1 hb1 c0 c1 c2 c3 c4 c5
        obtain ⟨c0, c1, c2, c3, c4, c5⟩ := KS.out _ D1.out
        go_wp2_with (refine wpList_snoc (e := 5) (base := W1.heap.size) (Q := fun _ => False) (r := Rep.byte) rfl rfl _ _ 33 _ rfl rfl rfl (.int .u8 0) 1 1 Try.underlying33 info5 rfl (by decide) rfl _ _ HU1.out (0 : UInt8) _ (by exact rfl) lit0 (by exact rfl) (by exact rfl) S1.out.1 S1.out.2 D1.out.size ?_; intro v2 w2 hacc2 hgr2 hat2; rw [← E2.out] at hacc2; have HU2 := Lib.hid hacc2; have D2 := Lib.hid (Rep.acc_below HU1.out D1.out hgr2 D1.out.size); clear hacc2 hgr2 hat2; obtain ⟨c0, c1, c2, c3, c4, c5⟩ := KS.out _ D2.out)
        refine (rnum_calls (width := 8) (n := x.id.index) rfl F1.out).mono ?_
        rintro e x3 ⟨n3, rfl, hn3, hb3⟩
        have HN3 := Lib.hid hn3
        have G3 := Lib.hid (D2.out.trans (hb3.mono D2.out.size))
        have HA3 := Lib.hid (Rep.acc_later HU2.out hb3)
        clear hn3 hb3
        go_wp2_with (refine wpList_spread_leaf (e := 5) (base := W1.heap.size) (Q := fun _ => False) Rep.leaf_byte rfl _ _ 33 rfl (.int .u8 0) 1 1 Try.underlying33 info5 rfl (by decide) rfl _ _ (by exact rfl) HA3.out _ _ (by exact rfl) (Rep.acc_val HN3.out) S2.out.1 S2.out.2 G3.out.size ?_; intro v3 w3 hacc3 hgr3 hat3; rw [← E3.out] at hacc3; have HU3 := Lib.hid hacc3; have D3 := Lib.hid (Rep.acc_below HA3.out G3.out hgr3 G3.out.size); clear hacc3 hgr3 hat3; obtain ⟨c0, c1, c2, c3, c4, c5⟩ := KS.out _ D3.out)
        go_wp2_with fail
        refine (rnum_calls (width := 8) (n := x.id.gen) rfl F2.out).mono ?_
        rintro e x4 ⟨n4, rfl, hn4, hb4⟩
        have HN4 := Lib.hid hn4
        have G4 := Lib.hid (D3.out.trans (hb4.mono D3.out.size))
        have HA4 := Lib.hid (Rep.acc_later HU3.out hb4)
        clear hn4 hb4
        go_wp2_with (refine wpList_spread_leaf (e := 5) (base := W1.heap.size) (Q := fun _ => False) Rep.leaf_byte rfl _ _ 33 rfl (.int .u8 0) 1 1 Try.underlying33 info5 rfl (by decide) rfl _ _ (by exact rfl) HA4.out _ _ (by exact rfl) (Rep.acc_val HN4.out) S3.out.1 S3.out.2 G4.out.size ?_; intro v4 w4 hacc4 hgr4 hat4; rw [← E4.out] at hacc4; have HU4 := Lib.hid hacc4; have D4 := Lib.hid (Rep.acc_below HA4.out G4.out hgr4 G4.out.size); clear hacc4 hgr4 hat4; obtain ⟨c0, c1, c2, c3, c4, c5⟩ := KS.out _ D4.out)
        go_wp2_with fail
        refine (rnum_calls (width := 8) (n := x.comp) rfl F3.out).mono ?_
        rintro e x5 ⟨n5, rfl, hn5, hb5⟩
        have HN5 := Lib.hid hn5
        have G5 := Lib.hid (D4.out.trans (hb5.mono D4.out.size))
        have HA5 := Lib.hid (Rep.acc_later HU4.out hb5)
        clear hn5 hb5
        go_wp2_with (refine wpList_spread_leaf (e := 5) (base := W1.heap.size) (Q := fun _ => False) Rep.leaf_byte rfl _ _ 33 rfl (.int .u8 0) 1 1 Try.underlying33 info5 rfl (by decide) rfl _ _ (by exact rfl) HA5.out _ _ (by exact rfl) (Rep.acc_val HN5.out) S4.out.1 S4.out.2 G5.out.size ?_; intro v5 w5 hacc5 hgr5 hat5; rw [← E5.out] at hacc5; have HU5 := Lib.hid hacc5; have D5 := Lib.hid (Rep.acc_below HA5.out G5.out hgr5 G5.out.size); clear hacc5 hgr5 hat5; obtain ⟨c0, c1, c2, c3, c4, c5⟩ := KS.out _ D5.out)
        go_wp2_with fail
        refine (rnum_calls (width := 2) (n := x.data.length) rfl FD.out).mono ?_
        rintro e x6 ⟨n6, rfl, hn6, hb6⟩
        have HN6 := Lib.hid hn6
        have G6 := Lib.hid (D5.out.trans (hb6.mono D5.out.size))
        have HA6 := Lib.hid (Rep.acc_later HU5.out hb6)
        clear hn6 hb6
        go_wp2_with (first | (refine wpList_spread_leaf (e := 5) (base := W1.heap.size) (Q := fun _ => False) Rep.leaf_byte rfl _ _ 33 rfl (.int .u8 0) 1 1 Try.underlying33 info5 rfl (by decide) rfl _ _ (by exact rfl) HA6.out _ _ (by exact rfl) (Rep.acc_val HN6.out) S5.out.1 S5.out.2 G6.out.size ?_; intro v6 w6 hacc6 hgr6 hat6; rw [← E6.out] at hacc6; have HU6 := Lib.hid hacc6; have D6 := Lib.hid (Rep.acc_below HA6.out G6.out hgr6 G6.out.size); clear hacc6 hgr6 hat6; obtain ⟨c0, c1, c2, c3, c4, c5⟩ := KS.out _ D6.out) | (refine wpList_spread_leaf (e := 5) (base := W1.heap.size) (Q := fun _ => False) Rep.leaf_byte rfl _ _ 33 rfl (.int .u8 0) 1 1 Try.underlying33 info5 rfl (by decide) rfl _ _ (by exact rfl) HU6.out _ _ (by exact rfl) (HVD.out _ D6.out) S6.out.1 S6.out.2 D6.out.size ?_; intro v7 w7 hacc7 hgr7 hat7; rw [← E7.out] at hacc7; have HU7 := Lib.hid hacc7; have D7 := Lib.hid (Rep.acc_below HU6.out D6.out hgr7 D6.out.size); clear hacc7 hgr7 hat7; obtain ⟨c0, c1, c2, c3, c4, c5⟩ := KS.out _ D7.out))
        go_ret
        exact ⟨_, rfl, by rw [T.out]; exact Rep.val_mono (fun b hb _ => Nat.le_trans HB.out.size hb) (Rep.acc_fresh HU7.out), HB.out.trans (D7.out.mono HB.out.size)⟩
    · by_cases hloc : x.loc = true
      · have KS := Lib.hid (show ∀ w', Below W1.heap.size W1 w' → w'.cell? ⟨w.heap.size, 0, none⟩ = some (.int .i64 3) ∧ w'.cell? ⟨w.heap.size, 1, none⟩ = some (.bool true) ∧ w'.cell? ⟨w.heap.size, 2, none⟩ = some (.int .i64 x.id.index) ∧ w'.cell? ⟨w.heap.size, 3, none⟩ = some (.int .i64 x.id.gen) ∧ w'.cell? ⟨w.heap.size, 4, none⟩ = some (.int .i64 x.comp) ∧ w'.cell? ⟨w.heap.size, 5, none⟩ = some (.slice A x.data.length c) from
          fun w' h => have m := KM.out w' h; ⟨hk ▸ m.c0, hloc ▸ m.c1, m.c2, m.c3, m.c4, m.c5⟩)
        obtain ⟨q1, hq1⟩ : ∃ z, z = num 1 3 := ⟨_, rfl⟩
        have hn1 : q1.length ≤ 8 := by have := num_length 1 3; rw [hq1]; omega
        have S1 := Lib.hid (show q1.length + 1 ≤ maxLen ∧ (q1.length + 1) * 1 ≤ 140737488355328 by unfold maxLen; omega)
        obtain ⟨q2, hq2⟩ : ∃ z, z = q1 ++ [1] := ⟨_, rfl⟩
        have hn2 : q2.length ≤ 16 := by rw [hq2, List.length_append]; simp; omega
        have S2 := Lib.hid (show q2.length + (num 8 x.id.index).length ≤ maxLen ∧ (q2.length + (num 8 x.id.index).length) * 1 ≤ 140737488355328 by have := num_length 8 x.id.index; unfold maxLen; omega)
        obtain ⟨q3, hq3⟩ : ∃ z, z = q2 ++ num 8 x.id.index := ⟨_, rfl⟩
        have hn3 : q3.length ≤ 24 := by have := num_length 8 x.id.index; rw [hq3, List.length_append]; omega
        have S3 := Lib.hid (show q3.length + (num 8 x.comp).length ≤ maxLen ∧ (q3.length + (num 8 x.comp).length) * 1 ≤ 140737488355328 by have := num_length 8 x.comp; unfold maxLen; omega)
        obtain ⟨q4, hq4⟩ : ∃ z, z = q3 ++ num 8 x.comp := ⟨_, rfl⟩
        have hn4 : q4.length ≤ 32 := by have := num_length 8 x.comp; rw [hq4, List.length_append]; omega
        have T := Lib.hid (show cmdBytes x = q4 by rw [hq4, hq3, hq2, hq1, cmdBytes, hk, show knownB 3 = true from rfl]; simp [targetBytes, hloc, one_is])
        have E1 := Lib.hid hq1
        have E2 := Lib.hid hq2
        have E3 := Lib.hid hq3
        have E4 := Lib.hid hq4
        clear hq1 hq2 hq3 hq4 hn1 hn2 hn3 hn4 hk hloc
        obtain ⟨c0, c1, c2, c3, c4, c5⟩ := KS.out _ (Below.refl _ _)
        go_enter Try.func63, Try.ntmps63
        go_wp2_with fail
        try rw [hW1]
        clear hW1
        go_wp2_with fail
        refine (rnum_calls (width := 1) (n := 3) rfl rfl).mono ?_
        rintro e w1 ⟨u1, rfl, hu1, hb1⟩
        rw [← E1.out] at hu1
        have HU1 := Lib.hid hu1
        have D1 := Lib.hid hb1
        clear hu1 hb1 c0 c1 c2 c3 c4 c5
        obtain ⟨c0, c1, c2, c3, c4, c5⟩ := KS.out _ D1.out
        go_wp2_with (refine wpList_snoc (e := 5) (base := W1.heap.size) (Q := fun _ => False) (r := Rep.byte) rfl rfl _ _ 33 _ rfl rfl rfl (.int .u8 0) 1 1 Try.underlying33 info5 rfl (by decide) rfl _ _ HU1.out (1 : UInt8) _ (by exact rfl) lit1 (by exact rfl) (by exact rfl) S1.out.1 S1.out.2 D1.out.size ?_; intro v2 w2 hacc2 hgr2 hat2; rw [← E2.out] at hacc2; have HU2 := Lib.hid hacc2; have D2 := Lib.hid (Rep.acc_below HU1.out D1.out hgr2 D1.out.size); clear hacc2 hgr2 hat2; obtain ⟨c0, c1, c2, c3, c4, c5⟩ := KS.out _ D2.out)
        refine (rnum_calls (width := 8) (n := x.id.index) rfl F1.out).mono ?_
        rintro e x3 ⟨n3, rfl, hn3, hb3⟩
        have HN3 := Lib.hid hn3
        have G3 := Lib.hid (D2.out.trans (hb3.mono D2.out.size))
        have HA3 := Lib.hid (Rep.acc_later HU2.out hb3)
        clear hn3 hb3
        go_wp2_with (refine wpList_spread_leaf (e := 5) (base := W1.heap.size) (Q := fun _ => False) Rep.leaf_byte rfl _ _ 33 rfl (.int .u8 0) 1 1 Try.underlying33 info5 rfl (by decide) rfl _ _ (by exact rfl) HA3.out _ _ (by exact rfl) (Rep.acc_val HN3.out) S2.out.1 S2.out.2 G3.out.size ?_; intro v3 w3 hacc3 hgr3 hat3; rw [← E3.out] at hacc3; have HU3 := Lib.hid hacc3; have D3 := Lib.hid (Rep.acc_below HA3.out G3.out hgr3 G3.out.size); clear hacc3 hgr3 hat3; obtain ⟨c0, c1, c2, c3, c4, c5⟩ := KS.out _ D3.out)
        go_wp2_with fail
        refine (rnum_calls (width := 8) (n := x.comp) rfl F3.out).mono ?_
        rintro e x4 ⟨n4, rfl, hn4, hb4⟩
        have HN4 := Lib.hid hn4
        have G4 := Lib.hid (D3.out.trans (hb4.mono D3.out.size))
        have HA4 := Lib.hid (Rep.acc_later HU3.out hb4)
        clear hn4 hb4
        go_wp2_with (refine wpList_spread_leaf (e := 5) (base := W1.heap.size) (Q := fun _ => False) Rep.leaf_byte rfl _ _ 33 rfl (.int .u8 0) 1 1 Try.underlying33 info5 rfl (by decide) rfl _ _ (by exact rfl) HA4.out _ _ (by exact rfl) (Rep.acc_val HN4.out) S3.out.1 S3.out.2 G4.out.size ?_; intro v4 w4 hacc4 hgr4 hat4; rw [← E4.out] at hacc4; have HU4 := Lib.hid hacc4; have D4 := Lib.hid (Rep.acc_below HA4.out G4.out hgr4 G4.out.size); clear hacc4 hgr4 hat4; obtain ⟨c0, c1, c2, c3, c4, c5⟩ := KS.out _ D4.out)
        go_ret
        exact ⟨_, rfl, by rw [T.out]; exact Rep.val_mono (fun b hb _ => Nat.le_trans HB.out.size hb) (Rep.acc_fresh HU4.out), HB.out.trans (D4.out.mono HB.out.size)⟩
      · replace hloc : x.loc = false := by simpa using hloc
        have KS := Lib.hid (show ∀ w', Below W1.heap.size W1 w' → w'.cell? ⟨w.heap.size, 0, none⟩ = some (.int .i64 3) ∧ w'.cell? ⟨w.heap.size, 1, none⟩ = some (.bool false) ∧ w'.cell? ⟨w.heap.size, 2, none⟩ = some (.int .i64 x.id.index) ∧ w'.cell? ⟨w.heap.size, 3, none⟩ = some (.int .i64 x.id.gen) ∧ w'.cell? ⟨w.heap.size, 4, none⟩ = some (.int .i64 x.comp) ∧ w'.cell? ⟨w.heap.size, 5, none⟩ = some (.slice A x.data.length c) from
          fun w' h => have m := KM.out w' h; ⟨hk ▸ m.c0, hloc ▸ m.c1, m.c2, m.c3, m.c4, m.c5⟩)
        obtain ⟨q1, hq1⟩ : ∃ z, z = num 1 3 := ⟨_, rfl⟩
        have hn1 : q1.length ≤ 8 := by have := num_length 1 3; rw [hq1]; omega
        have S1 := Lib.hid (show q1.length + 1 ≤ maxLen ∧ (q1.length + 1) * 1 ≤ 140737488355328 by unfold maxLen; omega)
        obtain ⟨q2, hq2⟩ : ∃ z, z = q1 ++ [0] := ⟨_, rfl⟩
        have hn2 : q2.length ≤ 16 := by rw [hq2, List.length_append]; simp; omega
        have S2 := Lib.hid (show q2.length + (num 8 x.id.index).length ≤ maxLen ∧ (q2.length + (num 8 x.id.index).length) * 1 ≤ 140737488355328 by have := num_length 8 x.id.index; unfold maxLen; omega)
        obtain ⟨q3, hq3⟩ : ∃ z, z = q2 ++ num 8 x.id.index := ⟨_, rfl⟩
        have hn3 : q3.length ≤ 24 := by have := num_length 8 x.id.index; rw [hq3, List.length_append]; omega
        have S3 := Lib.hid (show q3.length + (num 8 x.id.gen).length ≤ maxLen ∧ (q3.length + (num 8 x.id.gen).length) * 1 ≤ 140737488355328 by have := num_length 8 x.id.gen; unfold maxLen; omega)
        obtain ⟨q4, hq4⟩ : ∃ z, z = q3 ++ num 8 x.id.gen := ⟨_, rfl⟩
        have hn4 : q4.length ≤ 32 := by have := num_length 8 x.id.gen; rw [hq4, List.length_append]; omega
        have S4 := Lib.hid (show q4.length + (num 8 x.comp).length ≤ maxLen ∧ (q4.length + (num 8 x.comp).length) * 1 ≤ 140737488355328 by have := num_length 8 x.comp; unfold maxLen; omega)
        obtain ⟨q5, hq5⟩ : ∃ z, z = q4 ++ num 8 x.comp := ⟨_, rfl⟩
        have hn5 : q5.length ≤ 40 := by have := num_length 8 x.comp; rw [hq5, List.length_append]; omega
        have T := Lib.hid (show cmdBytes x = q5 by rw [hq5, hq4, hq3, hq2, hq1, cmdBytes, hk, show knownB 3 = true from rfl]; simp [targetBytes, hloc, nil_is])
        have E1 := Lib.hid hq1
        have E2 := Lib.hid hq2
        have E3 := Lib.hid hq3
        have E4 := Lib.hid hq4
        have E5 := Lib.hid hq5
        clear hq1 hq2 hq3 hq4 hq5 hn1 hn2 hn3 hn4 hn5 hk hloc
        obtain ⟨c0, c1, c2, c3, c4, c5⟩ := KS.out _ (Below.refl _ _)
        go_enter Try.func63, Try.ntmps63
        go_wp2_with fail
        try rw [hW1]
        clear hW1
        go_wp2_with fail
        refine (rnum_calls (width := 1) (n := 3) rfl rfl).mono ?_
        rintro e w1 ⟨u1, rfl, hu1, hb1⟩
        rw [← E1.out] at hu1
        have HU1 := Lib.hid hu1
        have D1 := Lib.hid hb1
        clear hu1 hb1 c0 c1 c2 c3 c4 c5
        obtain ⟨c0, c1, c2, c3, c4, c5⟩ := KS.out _ D1.out
        go_wp2_with (refine wpList_snoc (e := 5) (base := W1.heap.size) (Q := fun _ => False) (r := Rep.byte) rfl rfl _ _ 33 _ rfl rfl rfl (.int .u8 0) 1 1 Try.underlying33 info5 rfl (by decide) rfl _ _ HU1.out (0 : UInt8) _ (by exact rfl) lit0 (by exact rfl) (by exact rfl) S1.out.1 S1.out.2 D1.out.size ?_; intro v2 w2 hacc2 hgr2 hat2; rw [← E2.out] at hacc2; have HU2 := Lib.hid hacc2; have D2 := Lib.hid (Rep.acc_below HU1.out D1.out hgr2 D1.out.size); clear hacc2 hgr2 hat2; obtain ⟨c0, c1, c2, c3, c4, c5⟩ := KS.out _ D2.out)
        refine (rnum_calls (width := 8) (n := x.id.index) rfl F1.out).mono ?_
        rintro e x3 ⟨n3, rfl, hn3, hb3⟩
        have HN3 := Lib.hid hn3
        have G3 := Lib.hid (D2.out.trans (hb3.mono D2.out.size))
        have HA3 := Lib.hid (Rep.acc_later HU2.out hb3)
        clear hn3 hb3
        go_wp2_with (refine wpList_spread_leaf (e := 5) (base := W1.heap.size) (Q := fun _ => False) Rep.leaf_byte rfl _ _ 33 rfl (.int .u8 0) 1 1 Try.underlying33 info5 rfl (by decide) rfl _ _ (by exact rfl) HA3.out _ _ (by exact rfl) (Rep.acc_val HN3.out) S2.out.1 S2.out.2 G3.out.size ?_; intro v3 w3 hacc3 hgr3 hat3; rw [← E3.out] at hacc3; have HU3 := Lib.hid hacc3; have D3 := Lib.hid (Rep.acc_below HA3.out G3.out hgr3 G3.out.size); clear hacc3 hgr3 hat3; obtain ⟨c0, c1, c2, c3, c4, c5⟩ := KS.out _ D3.out)
        go_wp2_with fail
        refine (rnum_calls (width := 8) (n := x.id.gen) rfl F2.out).mono ?_
        rintro e x4 ⟨n4, rfl, hn4, hb4⟩
        have HN4 := Lib.hid hn4
        have G4 := Lib.hid (D3.out.trans (hb4.mono D3.out.size))
        have HA4 := Lib.hid (Rep.acc_later HU3.out hb4)
        clear hn4 hb4
        go_wp2_with (refine wpList_spread_leaf (e := 5) (base := W1.heap.size) (Q := fun _ => False) Rep.leaf_byte rfl _ _ 33 rfl (.int .u8 0) 1 1 Try.underlying33 info5 rfl (by decide) rfl _ _ (by exact rfl) HA4.out _ _ (by exact rfl) (Rep.acc_val HN4.out) S3.out.1 S3.out.2 G4.out.size ?_; intro v4 w4 hacc4 hgr4 hat4; rw [← E4.out] at hacc4; have HU4 := Lib.hid hacc4; have D4 := Lib.hid (Rep.acc_below HA4.out G4.out hgr4 G4.out.size); clear hacc4 hgr4 hat4; obtain ⟨c0, c1, c2, c3, c4, c5⟩ := KS.out _ D4.out)
        go_wp2_with fail
        refine (rnum_calls (width := 8) (n := x.comp) rfl F3.out).mono ?_
        rintro e x5 ⟨n5, rfl, hn5, hb5⟩
        have HN5 := Lib.hid hn5
        have G5 := Lib.hid (D4.out.trans (hb5.mono D4.out.size))
        have HA5 := Lib.hid (Rep.acc_later HU4.out hb5)
        clear hn5 hb5
        go_wp2_with (refine wpList_spread_leaf (e := 5) (base := W1.heap.size) (Q := fun _ => False) Rep.leaf_byte rfl _ _ 33 rfl (.int .u8 0) 1 1 Try.underlying33 info5 rfl (by decide) rfl _ _ (by exact rfl) HA5.out _ _ (by exact rfl) (Rep.acc_val HN5.out) S4.out.1 S4.out.2 G5.out.size ?_; intro v5 w5 hacc5 hgr5 hat5; rw [← E5.out] at hacc5; have HU5 := Lib.hid hacc5; have D5 := Lib.hid (Rep.acc_below HA5.out G5.out hgr5 G5.out.size); clear hacc5 hgr5 hat5; obtain ⟨c0, c1, c2, c3, c4, c5⟩ := KS.out _ D5.out)
        go_ret
        exact ⟨_, rfl, by rw [T.out]; exact Rep.val_mono (fun b hb _ => Nat.le_trans HB.out.size hb) (Rep.acc_fresh HU5.out), HB.out.trans (D5.out.mono HB.out.size)⟩
end Go.Proofs.Yteljibjbndpncaa
