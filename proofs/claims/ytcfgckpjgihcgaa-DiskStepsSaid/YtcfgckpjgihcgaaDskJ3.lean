/- Texts on which the proofs stand, part 3: RCmdPut, Crc, FrameBytes, Sector, Seal, CutTo, RDirBytes, Same, Entries, RDirGet. No condition is laid on any input. -/
import Derived.Test.YtcfgckpjgihcgaaDskJ2
import Derived.Laws.BitsAllLaws
import Derived.Deep.WholeRow
import Derived.Deep.RegionLaw
import Derived.Deep.MidRow
import Derived.OwnWalk
import Derived.Stop.BytesEq
import Derived.BigQuiet
import Derived.Deep.QuietTactic
/- Walk of a command as0 bytes: ref13. Printed by gen_rcmdput.py. -/
namespace Go.Proofs.Ytcfgckpjgihcgaa
open Go.RowKit

theorem one_is : num 1 1 = [1] := by decide
theorem nil_is : num 1 0 = [0] := by decide
theorem full_is : num 1 255 = [255] := by decide
theorem lit_byte (n : UInt8) {Q : Nat → Prop} {w : World} : Rep.byte.val Q w (.int .u8 (n.toNat : Int)) n := ⟨_, rfl, rfl⟩
theorem lit1 {Q : Nat → Prop} {w : World} : Rep.byte.val Q w (.int .u8 1) 1 := lit_byte 1
theorem lit0 {Q : Nat → Prop} {w : World} : Rep.byte.val Q w (.int .u8 0) 0 := lit_byte 0
theorem lit255 {Q : Nat → Prop} {w : World} : Rep.byte.val Q w (.int .u8 255) 255 := lit_byte 255

theorem lit_res {w W1 : World} {e : TypeId} {l : List UInt8} (hb : Below w.heap.size w W1) (hl : l = [255]) :
    Res Rep.byte.list (fun b => w.heap.size ≤ b) w l (.returned (.slice (some ⟨W1.heap.size, 0, none⟩) 1 1)) (W1.alloc (.cells #[.int .u8 255] e)) := by
  subst hl
  have hn := heap_alloc_new W1 (.cells #[.int .u8 255] e)
  refine ⟨_, rfl, Rep.list_val rfl (Nat.le_refl _) (by simp [maxLen]) ⟨[.int .u8 255], ⟨[.int .u8 255], [], rfl, rfl, rfl⟩, fun _ => ⟨W1.heap.size, 0, rfl, hb.size, ⟨_, _, _, hn⟩, ?_⟩⟩, hb.trans (((Below.refl _ _).alloc (Nat.le_refl _) _).mono hb.size)⟩
  intro j u hj
  have hc : (W1.alloc (.cells #[.int .u8 255] e)).cell? ⟨W1.heap.size, 0 + j, none⟩ = (#[Value.int .u8 255] : Array Value)[0 + j]? := by simp only [World.cell?, hn]; rfl
  rw [hc]
  simpa using hj

set_option maxRecDepth 100000 in
set_option maxHeartbeats 4000000 in
/-- ref13.Bytes -/
theorem rcmdPut_calls {Q' : Nat → Prop} {w : World} {u : Value} {x : DCmd} (hx : rCmd.val Q' w u x) (hd : x.data.length ≤ 1000000) :
    Calls Try.prog 157 #[u] w (Res Rep.byte.list (fun b => w.heap.size ≤ b) w (cmdBytes x)) := by
  obtain ⟨A, c, rfl, f0, f1, f2, f3, hs⟩ := rCmd_val hx
  have hm := CmdBox.made hx 220
  have hbel : Below w.heap.size w (w.alloc (.cells #[.int .i64 x.kind, .bool x.loc, .int .i64 x.id.index, .int .i64 x.id.gen, .int .i64 x.comp, .slice A x.data.length c] 220)) := (Below.refl _ _).alloc (Nat.le_refl _) _
  have hsz : (w.alloc (.cells #[.int .i64 x.kind, .bool x.loc, .int .i64 x.id.index, .int .i64 x.id.gen, .int .i64 x.comp, .slice A x.data.length c] 220)).heap.size = w.heap.size + 1 := by simp
  obtain ⟨W1, hW1⟩ : ∃ W1, w.alloc (.cells #[.int .i64 x.kind, .bool x.loc, .int .i64 x.id.index, .int .i64 x.id.gen, .int .i64 x.comp, .slice A x.data.length c] 220) = W1 := ⟨_, rfl⟩
  rw [hW1] at hm hbel hsz
  have HB := Lib.hid hbel
  have KM := Lib.hid (show ∀ w', Below W1.heap.size W1 w' → CmdBox w' w.heap.size x A c from fun w' h => hm.later (h.mono (Nat.le_of_eq hsz.symm)))
  have HVD := Lib.hid (show ∀ w', Below W1.heap.size W1 w' → Rep.byte.list.val (fun b => b < w.heap.size) w' (.slice A x.data.length c) x.data from fun w' h => by
    obtain ⟨A9, c9, he, _, _, _, _, hs9⟩ := rCmd_val (KM.out w' h).val
    cases he
    exact hs9.val)
  have LD := Lib.hid hd
  have F1 := Lib.hid f1
  have F2 := Lib.hid f2
  have F3 := Lib.hid f3
  have hsm := hs.2.1
  have hsl := hs.1
  unfold maxLen at hsm
  have FD := Lib.hid (wf_i64 (n := (x.data.length : Int)) (by omega) (by omega))
  clear hx hs hbel hsz f0 f1 f2 f3 hm
  cases hkn : knownB x.kind
  case false =>
    have HGT : ¬ x.kind < 0 → 3 < x.kind := by
      intro hneg; unfold knownB at hkn; simp at hkn; omega
    have KS := Lib.hid (show ∀ w', Below W1.heap.size W1 w' → w'.cell? ⟨w.heap.size, 0, none⟩ = some (.int .i64 x.kind) ∧ w'.cell? ⟨w.heap.size, 1, none⟩ = some (.bool x.loc) ∧ w'.cell? ⟨w.heap.size, 2, none⟩ = some (.int .i64 x.id.index) ∧ w'.cell? ⟨w.heap.size, 3, none⟩ = some (.int .i64 x.id.gen) ∧ w'.cell? ⟨w.heap.size, 4, none⟩ = some (.int .i64 x.comp) ∧ w'.cell? ⟨w.heap.size, 5, none⟩ = some (.slice A x.data.length c) from
      fun w' h => have m := KM.out w' h; ⟨m.c0, m.c1, m.c2, m.c3, m.c4, m.c5⟩)
    have T := Lib.hid (show cmdBytes x = [255] by rw [cmdBytes, hkn, if_neg Bool.false_ne_true, full_is])
    obtain ⟨c0, c1, c2, c3, c4, c5⟩ := KS.out _ (Below.refl _ _)
    by_cases hneg : x.kind < 0
    · clear hkn
      go_enter Try.func157, Try.ntmps157
      go_wp2_with fail
      try rw [hW1]
      clear hW1
      go_wp2_with fail
      go_ret
      exact lit_res HB.out T.out
    · clear hkn
      have hgt : 3 < x.kind := HGT hneg
      go_enter Try.func157, Try.ntmps157
      go_wp2_with fail
      try rw [hW1]
      clear hW1
      go_wp2_with fail
      go_ret
      exact lit_res HB.out T.out
  case true =>
    have hk4 : x.kind = 0 ∨ x.kind = 1 ∨ x.kind = 2 ∨ x.kind = 3 := by simp [knownB] at hkn; omega
    clear hkn
    rcases hk4 with hk | hk | hk | hk
    · have KS := Lib.hid (show ∀ w', Below W1.heap.size W1 w' → w'.cell? ⟨w.heap.size, 0, none⟩ = some (.int .i64 0) ∧ w'.cell? ⟨w.heap.size, 1, none⟩ = some (.bool x.loc) ∧ w'.cell? ⟨w.heap.size, 2, none⟩ = some (.int .i64 x.id.index) ∧ w'.cell? ⟨w.heap.size, 3, none⟩ = some (.int .i64 x.id.gen) ∧ w'.cell? ⟨w.heap.size, 4, none⟩ = some (.int .i64 x.comp) ∧ w'.cell? ⟨w.heap.size, 5, none⟩ = some (.slice A x.data.length c) from
        fun w' h => have m := KM.out w' h; ⟨hk ▸ m.c0, m.c1, m.c2, m.c3, m.c4, m.c5⟩)
      obtain ⟨q1, hq1⟩ : ∃ z, z = num 1 0 := ⟨_, rfl⟩
      have hn1 : q1.length ≤ 8 := by have := num_length 1 0; rw [hq1]; omega
      have T := Lib.hid (show cmdBytes x = q1 by rw [hq1, cmdBytes, hk, show knownB 0 = true from rfl]; simp)
      have E1 := Lib.hid hq1
      clear hq1 hn1 hk
      obtain ⟨c0, c1, c2, c3, c4, c5⟩ := KS.out _ (Below.refl _ _)
      go_enter Try.func157, Try.ntmps157
      go_wp2_with fail
      try rw [hW1]
      clear hW1
      go_wp2_with fail
      refine (rnum_calls (width := 1) (n := 0) rfl rfl).mono ?_
      rintro e w1 ⟨u1, rfl, hu1, hb1⟩
      rw [← E1.out] at hu1
      have HU1 := Lib.hid hu1
      have D1 := Lib.hid hb1
      clear hu1 hb1 c0 c1 c2 c3 c4 c5
      obtain ⟨c0, c1, c2, c3, c4, c5⟩ := KS.out _ D1.out
      go_wp2_with fail
      go_ret
      exact ⟨_, rfl, by rw [T.out]; exact Rep.val_mono (fun b hb _ => Nat.le_trans HB.out.size hb) (Rep.acc_fresh HU1.out), HB.out.trans (D1.out.mono HB.out.size)⟩
    · by_cases hloc : x.loc = true
      · have KS := Lib.hid (show ∀ w', Below W1.heap.size W1 w' → w'.cell? ⟨w.heap.size, 0, none⟩ = some (.int .i64 1) ∧ w'.cell? ⟨w.heap.size, 1, none⟩ = some (.bool true) ∧ w'.cell? ⟨w.heap.size, 2, none⟩ = some (.int .i64 x.id.index) ∧ w'.cell? ⟨w.heap.size, 3, none⟩ = some (.int .i64 x.id.gen) ∧ w'.cell? ⟨w.heap.size, 4, none⟩ = some (.int .i64 x.comp) ∧ w'.cell? ⟨w.heap.size, 5, none⟩ = some (.slice A x.data.length c) from
          fun w' h => have m := KM.out w' h; ⟨hk ▸ m.c0, hloc ▸ m.c1, m.c2, m.c3, m.c4, m.c5⟩)
        obtain ⟨q1, hq1⟩ : ∃ z, z = num 1 1 := ⟨_, rfl⟩
        have hn1 : q1.length ≤ 8 := by have := num_length 1 1; rw [hq1]; omega
        have S1 := Lib.hid (show q1.length + 1 ≤ maxLen ∧ (q1.length + 1) * 1 ≤ 140737488355328 by unfold maxLen; omega)
        obtain ⟨q2, hq2⟩ : ∃ z, z = q1 ++ [1] := ⟨_, rfl⟩
        have hn2 : q2.length ≤ 16 := by rw [hq2, List.length_append]; simp; omega
        have S2 := Lib.hid (show q2.length + (num 8 x.id.index).length ≤ maxLen ∧ (q2.length + (num 8 x.id.index).length) * 1 ≤ 140737488355328 by have := num_length 8 x.id.index; unfold maxLen; omega)
        obtain ⟨q3, hq3⟩ : ∃ z, z = q2 ++ num 8 x.id.index := ⟨_, rfl⟩
        have hn3 : q3.length ≤ 24 := by have := num_length 8 x.id.index; rw [hq3, List.length_append]; omega
        have T := Lib.hid (show cmdBytes x = q3 by rw [hq3, hq2, hq1, cmdBytes, hk, show knownB 1 = true from rfl]; simp [targetBytes, hloc, one_is])
        have E1 := Lib.hid hq1
        have E2 := Lib.hid hq2
        have E3 := Lib.hid hq3
        clear hq1 hq2 hq3 hn1 hn2 hn3 hk hloc
        obtain ⟨c0, c1, c2, c3, c4, c5⟩ := KS.out _ (Below.refl _ _)
        go_enter Try.func157, Try.ntmps157
        go_wp2_with fail
        try rw [hW1]
        clear hW1
        go_wp2_with fail
        refine (rnum_calls (width := 1) (n := 1) rfl rfl).mono ?_
        rintro e w1 ⟨u1, rfl, hu1, hb1⟩
        rw [← E1.out] at hu1
        have HU1 := Lib.hid hu1
        have D1 := Lib.hid hb1
        clear hu1 hb1 c0 c1 c2 c3 c4 c5
        obtain ⟨c0, c1, c2, c3, c4, c5⟩ := KS.out _ D1.out
        go_wp2_with (refine wpList_snoc (e := 5) (base := W1.heap.size) (Q := fun _ => False) (r := Rep.byte) rfl rfl _ _ 22 _ rfl rfl rfl (.int .u8 0) 1 1 Try.underlying22 info5 rfl (by decide) rfl _ _ HU1.out (1 : UInt8) _ (by exact rfl) lit1 (by exact rfl) (by exact rfl) S1.out.1 S1.out.2 D1.out.size ?_; intro v2 w2 hacc2 hgr2 hat2; rw [← E2.out] at hacc2; have HU2 := Lib.hid hacc2; have D2 := Lib.hid (Rep.acc_below HU1.out D1.out hgr2 D1.out.size); clear hacc2 hgr2 hat2; obtain ⟨c0, c1, c2, c3, c4, c5⟩ := KS.out _ D2.out)
        refine (rnum_calls (width := 8) (n := x.id.index) rfl F1.out).mono ?_
        rintro e x3 ⟨n3, rfl, hn3, hb3⟩
        have HN3 := Lib.hid hn3
        have G3 := Lib.hid (D2.out.trans (hb3.mono D2.out.size))
        have HA3 := Lib.hid (Rep.acc_later HU2.out hb3)
        clear hn3 hb3
        go_wp2_with (refine wpList_spread_leaf (e := 5) (base := W1.heap.size) (Q := fun _ => False) Rep.leaf_byte rfl _ _ 22 rfl (.int .u8 0) 1 1 Try.underlying22 info5 rfl (by decide) rfl _ _ (by exact rfl) HA3.out _ _ (by exact rfl) (Rep.acc_val HN3.out) S2.out.1 S2.out.2 G3.out.size ?_; intro v3 w3 hacc3 hgr3 hat3; rw [← E3.out] at hacc3; have HU3 := Lib.hid hacc3; have D3 := Lib.hid (Rep.acc_below HA3.out G3.out hgr3 G3.out.size); clear hacc3 hgr3 hat3; obtain ⟨c0, c1, c2, c3, c4, c5⟩ := KS.out _ D3.out)
        go_ret
        exact ⟨_, rfl, by rw [T.out]; exact Rep.val_mono (fun b hb _ => Nat.le_trans HB.out.size hb) (Rep.acc_fresh HU3.out), HB.out.trans (D3.out.mono HB.out.size)⟩
      · replace hloc : x.loc = false := by simpa using hloc
        have KS := Lib.hid (show ∀ w', Below W1.heap.size W1 w' → w'.cell? ⟨w.heap.size, 0, none⟩ = some (.int .i64 1) ∧ w'.cell? ⟨w.heap.size, 1, none⟩ = some (.bool false) ∧ w'.cell? ⟨w.heap.size, 2, none⟩ = some (.int .i64 x.id.index) ∧ w'.cell? ⟨w.heap.size, 3, none⟩ = some (.int .i64 x.id.gen) ∧ w'.cell? ⟨w.heap.size, 4, none⟩ = some (.int .i64 x.comp) ∧ w'.cell? ⟨w.heap.size, 5, none⟩ = some (.slice A x.data.length c) from
          fun w' h => have m := KM.out w' h; ⟨hk ▸ m.c0, hloc ▸ m.c1, m.c2, m.c3, m.c4, m.c5⟩)
        obtain ⟨q1, hq1⟩ : ∃ z, z = num 1 1 := ⟨_, rfl⟩
        have hn1 : q1.length ≤ 8 := by have := num_length 1 1; rw [hq1]; omega
        have S1 := Lib.hid (show q1.length + 1 ≤ maxLen ∧ (q1.length + 1) * 1 ≤ 140737488355328 by unfold maxLen; omega)
        obtain ⟨q2, hq2⟩ : ∃ z, z = q1 ++ [0] := ⟨_, rfl⟩
        have hn2 : q2.length ≤ 16 := by rw [hq2, List.length_append]; simp; omega
        have S2 := Lib.hid (show q2.length + (num 8 x.id.index).length ≤ maxLen ∧ (q2.length + (num 8 x.id.index).length) * 1 ≤ 140737488355328 by have := num_length 8 x.id.index; unfold maxLen; omega)
        obtain ⟨q3, hq3⟩ : ∃ z, z = q2 ++ num 8 x.id.index := ⟨_, rfl⟩
        have hn3 : q3.length ≤ 24 := by have := num_length 8 x.id.index; rw [hq3, List.length_append]; omega
        have S3 := Lib.hid (show q3.length + (num 8 x.id.gen).length ≤ maxLen ∧ (q3.length + (num 8 x.id.gen).length) * 1 ≤ 140737488355328 by have := num_length 8 x.id.gen; unfold maxLen; omega)
        obtain ⟨q4, hq4⟩ : ∃ z, z = q3 ++ num 8 x.id.gen := ⟨_, rfl⟩
        have hn4 : q4.length ≤ 32 := by have := num_length 8 x.id.gen; rw [hq4, List.length_append]; omega
        have T := Lib.hid (show cmdBytes x = q4 by rw [hq4, hq3, hq2, hq1, cmdBytes, hk, show knownB 1 = true from rfl]; simp [targetBytes, hloc, nil_is])
        have E1 := Lib.hid hq1
        have E2 := Lib.hid hq2
        have E3 := Lib.hid hq3
        have E4 := Lib.hid hq4
        clear hq1 hq2 hq3 hq4 hn1 hn2 hn3 hn4 hk hloc
        obtain ⟨c0, c1, c2, c3, c4, c5⟩ := KS.out _ (Below.refl _ _)
        go_enter Try.func157, Try.ntmps157
        go_wp2_with fail
        try rw [hW1]
        clear hW1
        go_wp2_with fail
        refine (rnum_calls (width := 1) (n := 1) rfl rfl).mono ?_
        rintro e w1 ⟨u1, rfl, hu1, hb1⟩
        rw [← E1.out] at hu1
        have HU1 := Lib.hid hu1
        have D1 := Lib.hid hb1
        clear hu1 hb1 c0 c1 c2 c3 c4 c5
        obtain ⟨c0, c1, c2, c3, c4, c5⟩ := KS.out _ D1.out
        go_wp2_with (refine wpList_snoc (e := 5) (base := W1.heap.size) (Q := fun _ => False) (r := Rep.byte) rfl rfl _ _ 22 _ rfl rfl rfl (.int .u8 0) 1 1 Try.underlying22 info5 rfl (by decide) rfl _ _ HU1.out (0 : UInt8) _ (by exact rfl) lit0 (by exact rfl) (by exact rfl) S1.out.1 S1.out.2 D1.out.size ?_; intro v2 w2 hacc2 hgr2 hat2; rw [← E2.out] at hacc2; have HU2 := Lib.hid hacc2; have D2 := Lib.hid (Rep.acc_below HU1.out D1.out hgr2 D1.out.size); clear hacc2 hgr2 hat2; obtain ⟨c0, c1, c2, c3, c4, c5⟩ := KS.out _ D2.out)
        refine (rnum_calls (width := 8) (n := x.id.index) rfl F1.out).mono ?_
        rintro e x3 ⟨n3, rfl, hn3, hb3⟩
        have HN3 := Lib.hid hn3
        have G3 := Lib.hid (D2.out.trans (hb3.mono D2.out.size))
        have HA3 := Lib.hid (Rep.acc_later HU2.out hb3)
        clear hn3 hb3
        go_wp2_with (refine wpList_spread_leaf (e := 5) (base := W1.heap.size) (Q := fun _ => False) Rep.leaf_byte rfl _ _ 22 rfl (.int .u8 0) 1 1 Try.underlying22 info5 rfl (by decide) rfl _ _ (by exact rfl) HA3.out _ _ (by exact rfl) (Rep.acc_val HN3.out) S2.out.1 S2.out.2 G3.out.size ?_; intro v3 w3 hacc3 hgr3 hat3; rw [← E3.out] at hacc3; have HU3 := Lib.hid hacc3; have D3 := Lib.hid (Rep.acc_below HA3.out G3.out hgr3 G3.out.size); clear hacc3 hgr3 hat3; obtain ⟨c0, c1, c2, c3, c4, c5⟩ := KS.out _ D3.out)
        go_wp2_with fail
        refine (rnum_calls (width := 8) (n := x.id.gen) rfl F2.out).mono ?_
        rintro e x4 ⟨n4, rfl, hn4, hb4⟩
        have HN4 := Lib.hid hn4
        have G4 := Lib.hid (D3.out.trans (hb4.mono D3.out.size))
        have HA4 := Lib.hid (Rep.acc_later HU3.out hb4)
        clear hn4 hb4
        go_wp2_with (refine wpList_spread_leaf (e := 5) (base := W1.heap.size) (Q := fun _ => False) Rep.leaf_byte rfl _ _ 22 rfl (.int .u8 0) 1 1 Try.underlying22 info5 rfl (by decide) rfl _ _ (by exact rfl) HA4.out _ _ (by exact rfl) (Rep.acc_val HN4.out) S3.out.1 S3.out.2 G4.out.size ?_; intro v4 w4 hacc4 hgr4 hat4; rw [← E4.out] at hacc4; have HU4 := Lib.hid hacc4; have D4 := Lib.hid (Rep.acc_below HA4.out G4.out hgr4 G4.out.size); clear hacc4 hgr4 hat4; obtain ⟨c0, c1, c2, c3, c4, c5⟩ := KS.out _ D4.out)
        go_ret
        exact ⟨_, rfl, by rw [T.out]; exact Rep.val_mono (fun b hb _ => Nat.le_trans HB.out.size hb) (Rep.acc_fresh HU4.out), HB.out.trans (D4.out.mono HB.out.size)⟩
    · by_cases hloc : x.loc = true
      · have KS := Lib.hid (show ∀ w', Below W1.heap.size W1 w' → w'.cell? ⟨w.heap.size, 0, none⟩ = some (.int .i64 2) ∧ w'.cell? ⟨w.heap.size, 1, none⟩ = some (.bool true) ∧ w'.cell? ⟨w.heap.size, 2, none⟩ = some (.int .i64 x.id.index) ∧ w'.cell? ⟨w.heap.size, 3, none⟩ = some (.int .i64 x.id.gen) ∧ w'.cell? ⟨w.heap.size, 4, none⟩ = some (.int .i64 x.comp) ∧ w'.cell? ⟨w.heap.size, 5, none⟩ = some (.slice A x.data.length c) from
          fun w' h => have m := KM.out w' h; ⟨hk ▸ m.c0, hloc ▸ m.c1, m.c2, m.c3, m.c4, m.c5⟩)
        obtain ⟨q1, hq1⟩ : ∃ z, z = num 1 2 := ⟨_, rfl⟩
        have hn1 : q1.length ≤ 8 := by have := num_length 1 2; rw [hq1]; omega
        have S1 := Lib.hid (show q1.length + 1 ≤ maxLen ∧ (q1.length + 1) * 1 ≤ 140737488355328 by unfold maxLen; omega)
        obtain ⟨q2, hq2⟩ : ∃ z, z = q1 ++ [1] := ⟨_, rfl⟩
        have hn2 : q2.length ≤ 16 := by rw [hq2, List.length_append]; simp; omega
        have S2 := Lib.hid (show q2.length + (num 8 x.id.index).length ≤ maxLen ∧ (q2.length + (num 8 x.id.index).length) * 1 ≤ 140737488355328 by have := num_length 8 x.id.index; unfold maxLen; omega)
        obtain ⟨q3, hq3⟩ : ∃ z, z = q2 ++ num 8 x.id.index := ⟨_, rfl⟩
        have hn3 : q3.length ≤ 24 := by have := num_length 8 x.id.index; rw [hq3, List.length_append]; omega
        have S3 := Lib.hid (show q3.length + (num 8 x.comp).length ≤ maxLen ∧ (q3.length + (num 8 x.comp).length) * 1 ≤ 140737488355328 by have := num_length 8 x.comp; unfold maxLen; omega)
        obtain ⟨q4, hq4⟩ : ∃ z, z = q3 ++ num 8 x.comp := ⟨_, rfl⟩
        have hn4 : q4.length ≤ 32 := by have := num_length 8 x.comp; rw [hq4, List.length_append]; omega
        have S4 := Lib.hid (show q4.length + (num 2 x.data.length).length ≤ maxLen ∧ (q4.length + (num 2 x.data.length).length) * 1 ≤ 140737488355328 by have := num_length 2 x.data.length; unfold maxLen; omega)
        obtain ⟨q5, hq5⟩ : ∃ z, z = q4 ++ num 2 x.data.length := ⟨_, rfl⟩
        have hn5 : q5.length ≤ 40 := by have := num_length 2 x.data.length; rw [hq5, List.length_append]; omega
        have S5 := Lib.hid (show q5.length + x.data.length ≤ maxLen ∧ (q5.length + x.data.length) * 1 ≤ 140737488355328 by unfold maxLen; omega)
        obtain ⟨q6, hq6⟩ : ∃ z, z = q5 ++ x.data := ⟨_, rfl⟩
        have T := Lib.hid (show cmdBytes x = q6 by rw [hq6, hq5, hq4, hq3, hq2, hq1, cmdBytes, hk, show knownB 2 = true from rfl]; simp [targetBytes, hloc, one_is, dataBytes])
        have E1 := Lib.hid hq1
        have E2 := Lib.hid hq2
        have E3 := Lib.hid hq3
        have E4 := Lib.hid hq4
        have E5 := Lib.hid hq5
        have E6 := Lib.hid hq6
        clear hq1 hq2 hq3 hq4 hq5 hq6 hn1 hn2 hn3 hn4 hn5 hk hloc
        obtain ⟨c0, c1, c2, c3, c4, c5⟩ := KS.out _ (Below.refl _ _)
        go_enter Try.func157, Try.ntmps157
        go_wp2_with fail
        try rw [hW1]
        clear hW1
        go_wp2_with fail
        refine (rnum_calls (width := 1) (n := 2) rfl rfl).mono ?_
        rintro e w1 ⟨u1, rfl, hu1, hb1⟩
        rw [← E1.out] at hu1
        have HU1 := Lib.hid hu1
        have D1 := Lib.hid hb1
        clear hu1 hb1 c0 c1 c2 c3 c4 c5
        obtain ⟨c0, c1, c2, c3, c4, c5⟩ := KS.out _ D1.out
        go_wp2_with (refine wpList_snoc (e := 5) (base := W1.heap.size) (Q := fun _ => False) (r := Rep.byte) rfl rfl _ _ 22 _ rfl rfl rfl (.int .u8 0) 1 1 Try.underlying22 info5 rfl (by decide) rfl _ _ HU1.out (1 : UInt8) _ (by exact rfl) lit1 (by exact rfl) (by exact rfl) S1.out.1 S1.out.2 D1.out.size ?_; intro v2 w2 hacc2 hgr2 hat2; rw [← E2.out] at hacc2; have HU2 := Lib.hid hacc2; have D2 := Lib.hid (Rep.acc_below HU1.out D1.out hgr2 D1.out.size); clear hacc2 hgr2 hat2; obtain ⟨c0, c1, c2, c3, c4, c5⟩ := KS.out _ D2.out)
        refine (rnum_calls (width := 8) (n := x.id.index) rfl F1.out).mono ?_
        rintro e x3 ⟨n3, rfl, hn3, hb3⟩
        have HN3 := Lib.hid hn3
        have G3 := Lib.hid (D2.out.trans (hb3.mono D2.out.size))
        have HA3 := Lib.hid (Rep.acc_later HU2.out hb3)
        clear hn3 hb3
        go_wp2_with (refine wpList_spread_leaf (e := 5) (base := W1.heap.size) (Q := fun _ => False) Rep.leaf_byte rfl _ _ 22 rfl (.int .u8 0) 1 1 Try.underlying22 info5 rfl (by decide) rfl _ _ (by exact rfl) HA3.out _ _ (by exact rfl) (Rep.acc_val HN3.out) S2.out.1 S2.out.2 G3.out.size ?_; intro v3 w3 hacc3 hgr3 hat3; rw [← E3.out] at hacc3; have HU3 := Lib.hid hacc3; have D3 := Lib.hid (Rep.acc_below HA3.out G3.out hgr3 G3.out.size); clear hacc3 hgr3 hat3; obtain ⟨c0, c1, c2, c3, c4, c5⟩ := KS.out _ D3.out)
        go_wp2_with fail
        refine (rnum_calls (width := 8) (n := x.comp) rfl F3.out).mono ?_
        rintro e x4 ⟨n4, rfl, hn4, hb4⟩
        have HN4 := Lib.hid hn4
        have G4 := Lib.hid (D3.out.trans (hb4.mono D3.out.size))
        have HA4 := Lib.hid (Rep.acc_later HU3.out hb4)
        clear hn4 hb4
        go_wp2_with (refine wpList_spread_leaf (e := 5) (base := W1.heap.size) (Q := fun _ => False) Rep.leaf_byte rfl _ _ 22 rfl (.int .u8 0) 1 1 Try.underlying22 info5 rfl (by decide) rfl _ _ (by exact rfl) HA4.out _ _ (by exact rfl) (Rep.acc_val HN4.out) S3.out.1 S3.out.2 G4.out.size ?_; intro v4 w4 hacc4 hgr4 hat4; rw [← E4.out] at hacc4; have HU4 := Lib.hid hacc4; have D4 := Lib.hid (Rep.acc_below HA4.out G4.out hgr4 G4.out.size); clear hacc4 hgr4 hat4; obtain ⟨c0, c1, c2, c3, c4, c5⟩ := KS.out _ D4.out)
        go_wp2_with fail
        refine (rnum_calls (width := 2) (n := x.data.length) rfl FD.out).mono ?_
        rintro e x5 ⟨n5, rfl, hn5, hb5⟩
        have HN5 := Lib.hid hn5
        have G5 := Lib.hid (D4.out.trans (hb5.mono D4.out.size))
        have HA5 := Lib.hid (Rep.acc_later HU4.out hb5)
        clear hn5 hb5
        go_wp2_with (first | (refine wpList_spread_leaf (e := 5) (base := W1.heap.size) (Q := fun _ => False) Rep.leaf_byte rfl _ _ 22 rfl (.int .u8 0) 1 1 Try.underlying22 info5 rfl (by decide) rfl _ _ (by exact rfl) HA5.out _ _ (by exact rfl) (Rep.acc_val HN5.out) S4.out.1 S4.out.2 G5.out.size ?_; intro v5 w5 hacc5 hgr5 hat5; rw [← E5.out] at hacc5; have HU5 := Lib.hid hacc5; have D5 := Lib.hid (Rep.acc_below HA5.out G5.out hgr5 G5.out.size); clear hacc5 hgr5 hat5; obtain ⟨c0, c1, c2, c3, c4, c5⟩ := KS.out _ D5.out) | (refine wpList_spread_leaf (e := 5) (base := W1.heap.size) (Q := fun _ => False) Rep.leaf_byte rfl _ _ 22 rfl (.int .u8 0) 1 1 Try.underlying22 info5 rfl (by decide) rfl _ _ (by exact rfl) HU5.out _ _ (by exact rfl) (HVD.out _ D5.out) S5.out.1 S5.out.2 D5.out.size ?_; intro v6 w6 hacc6 hgr6 hat6; rw [← E6.out] at hacc6; have HU6 := Lib.hid hacc6; have D6 := Lib.hid (Rep.acc_below HU5.out D5.out hgr6 D5.out.size); clear hacc6 hgr6 hat6; obtain ⟨c0, c1, c2, c3, c4, c5⟩ := KS.out _ D6.out))
        go_ret
        exact ⟨_, rfl, by rw [T.out]; exact Rep.val_mono (fun b hb _ => Nat.le_trans HB.out.size hb) (Rep.acc_fresh HU6.out), HB.out.trans (D6.out.mono HB.out.size)⟩
      · replace hloc : x.loc = false := by simpa using hloc
        have KS := Lib.hid (show ∀ w', Below W1.heap.size W1 w' → w'.cell? ⟨w.heap.size, 0, none⟩ = some (.int .i64 2) ∧ w'.cell? ⟨w.heap.size, 1, none⟩ = some (.bool false) ∧ w'.cell? ⟨w.heap.size, 2, none⟩ = some (.int .i64 x.id.index) ∧ w'.cell? ⟨w.heap.size, 3, none⟩ = some (.int .i64 x.id.gen) ∧ w'.cell? ⟨w.heap.size, 4, none⟩ = some (.int .i64 x.comp) ∧ w'.cell? ⟨w.heap.size, 5, none⟩ = some (.slice A x.data.length c) from
          fun w' h => have m := KM.out w' h; ⟨hk ▸ m.c0, hloc ▸ m.c1, m.c2, m.c3, m.c4, m.c5⟩)
        obtain ⟨q1, hq1⟩ : ∃ z, z = num 1 2 := ⟨_, rfl⟩
        have hn1 : q1.length ≤ 8 := by have := num_length 1 2; rw [hq1]; omega
        have S1 := Lib.hid (show q1.length + 1 ≤ maxLen ∧ (q1.length + 1) * 1 ≤ 140737488355328 by unfold maxLen; omega)
        obtain ⟨q2, hq2⟩ : ∃ z, z = q1 ++ [0] := ⟨_, rfl⟩
        have hn2 : q2.length ≤ 16 := by rw [hq2, List.length_append]; simp; omega
        have S2 := Lib.hid (show q2.length + (num 8 x.id.index).length ≤ maxLen ∧ (q2.length + (num 8 x.id.index).length) * 1 ≤ 140737488355328 by have := num_length 8 x.id.index; unfold maxLen; omega)
        obtain ⟨q3, hq3⟩ : ∃ z, z = q2 ++ num 8 x.id.index := ⟨_, rfl⟩
        have hn3 : q3.length ≤ 24 := by have := num_length 8 x.id.index; rw [hq3, List.length_append]; omega
        have S3 := Lib.hid (show q3.length + (num 8 x.id.gen).length ≤ maxLen ∧ (q3.length + (num 8 x.id.gen).length) * 1 ≤ 140737488355328 by have := num_length 8 x.id.gen; unfold maxLen; omega)
        obtain ⟨q4, hq4⟩ : ∃ z, z = q3 ++ num 8 x.id.gen := ⟨_, rfl⟩
        have hn4 : q4.length ≤ 32 := by have := num_length 8 x.id.gen; rw [hq4, List.length_append]; omega
        have S4 := Lib.hid (show q4.length + (num 8 x.comp).length ≤ maxLen ∧ (q4.length + (num 8 x.comp).length) * 1 ≤ 140737488355328 by have := num_length 8 x.comp; unfold maxLen; omega)
        obtain ⟨q5, hq5⟩ : ∃ z, z = q4 ++ num 8 x.comp := ⟨_, rfl⟩
        have hn5 : q5.length ≤ 40 := by have := num_length 8 x.comp; rw [hq5, List.length_append]; omega
        have S5 := Lib.hid (show q5.length + (num 2 x.data.length).length ≤ maxLen ∧ (q5.length + (num 2 x.data.length).length) * 1 ≤ 140737488355328 by have := num_length 2 x.data.length; unfold maxLen; omega)
        obtain ⟨q6, hq6⟩ : ∃ z, z = q5 ++ num 2 x.data.length := ⟨_, rfl⟩
        have hn6 : q6.length ≤ 48 := by have := num_length 2 x.data.length; rw [hq6, List.length_append]; omega
        have S6 := Lib.hid (show q6.length + x.data.length ≤ maxLen ∧ (q6.length + x.data.length) * 1 ≤ 140737488355328 by unfold maxLen; omega)
        obtain ⟨q7, hq7⟩ : ∃ z, z = q6 ++ x.data := ⟨_, rfl⟩
        have T := Lib.hid (show cmdBytes x = q7 by rw [hq7, hq6, hq5, hq4, hq3, hq2, hq1, cmdBytes, hk, show knownB 2 = true from rfl]; simp [targetBytes, hloc, nil_is, dataBytes])
        have E1 := Lib.hid hq1
        have E2 := Lib.hid hq2
        have E3 := Lib.hid hq3
        have E4 := Lib.hid hq4
        have E5 := Lib.hid hq5
        have E6 := Lib.hid hq6
        have E7 := Lib.hid hq7
        clear hq1 hq2 hq3 hq4 hq5 hq6 hq7 hn1 hn2 hn3 hn4 hn5 hn6 hk hloc
        obtain ⟨c0, c1, c2, c3, c4, c5⟩ := KS.out _ (Below.refl _ _)
        go_enter Try.func157, Try.ntmps157
        go_wp2_with fail
        try rw [hW1]
        clear hW1
        go_wp2_with fail
        refine (rnum_calls (width := 1) (n := 2) rfl rfl).mono ?_
        rintro e w1 ⟨u1, rfl, hu1, hb1⟩
        rw [← E1.out] at hu1
        have HU1 := Lib.hid hu1
        have D1 := Lib.hid hb1
        clear hu1 hb1 c0 c1 c2 c3 c4 c5
        obtain ⟨c0, c1, c2, c3, c4, c5⟩ := KS.out _ D1.out
        go_wp2_with (refine wpList_snoc (e := 5) (base := W1.heap.size) (Q := fun _ => False) (r := Rep.byte) rfl rfl _ _ 22 _ rfl rfl rfl (.int .u8 0) 1 1 Try.underlying22 info5 rfl (by decide) rfl _ _ HU1.out (0 : UInt8) _ (by exact rfl) lit0 (by exact rfl) (by exact rfl) S1.out.1 S1.out.2 D1.out.size ?_; intro v2 w2 hacc2 hgr2 hat2; rw [← E2.out] at hacc2; have HU2 := Lib.hid hacc2; have D2 := Lib.hid (Rep.acc_below HU1.out D1.out hgr2 D1.out.size); clear hacc2 hgr2 hat2; obtain ⟨c0, c1, c2, c3, c4, c5⟩ := KS.out _ D2.out)
        refine (rnum_calls (width := 8) (n := x.id.index) rfl F1.out).mono ?_
        rintro e x3 ⟨n3, rfl, hn3, hb3⟩
        have HN3 := Lib.hid hn3
        have G3 := Lib.hid (D2.out.trans (hb3.mono D2.out.size))
        have HA3 := Lib.hid (Rep.acc_later HU2.out hb3)
        clear hn3 hb3
        go_wp2_with (refine wpList_spread_leaf (e := 5) (base := W1.heap.size) (Q := fun _ => False) Rep.leaf_byte rfl _ _ 22 rfl (.int .u8 0) 1 1 Try.underlying22 info5 rfl (by decide) rfl _ _ (by exact rfl) HA3.out _ _ (by exact rfl) (Rep.acc_val HN3.out) S2.out.1 S2.out.2 G3.out.size ?_; intro v3 w3 hacc3 hgr3 hat3; rw [← E3.out] at hacc3; have HU3 := Lib.hid hacc3; have D3 := Lib.hid (Rep.acc_below HA3.out G3.out hgr3 G3.out.size); clear hacc3 hgr3 hat3; obtain ⟨c0, c1, c2, c3, c4, c5⟩ := KS.out _ D3.out)
        go_wp2_with fail
        refine (rnum_calls (width := 8) (n := x.id.gen) rfl F2.out).mono ?_
        rintro e x4 ⟨n4, rfl, hn4, hb4⟩
        have HN4 := Lib.hid hn4
        have G4 := Lib.hid (D3.out.trans (hb4.mono D3.out.size))
        have HA4 := Lib.hid (Rep.acc_later HU3.out hb4)
        clear hn4 hb4
        go_wp2_with (refine wpList_spread_leaf (e := 5) (base := W1.heap.size) (Q := fun _ => False) Rep.leaf_byte rfl _ _ 22 rfl (.int .u8 0) 1 1 Try.underlying22 info5 rfl (by decide) rfl _ _ (by exact rfl) HA4.out _ _ (by exact rfl) (Rep.acc_val HN4.out) S3.out.1 S3.out.2 G4.out.size ?_; intro v4 w4 hacc4 hgr4 hat4; rw [← E4.out] at hacc4; have HU4 := Lib.hid hacc4; have D4 := Lib.hid (Rep.acc_below HA4.out G4.out hgr4 G4.out.size); clear hacc4 hgr4 hat4; obtain ⟨c0, c1, c2, c3, c4, c5⟩ := KS.out _ D4.out)
        go_wp2_with fail
        refine (rnum_calls (width := 8) (n := x.comp) rfl F3.out).mono ?_
        rintro e x5 ⟨n5, rfl, hn5, hb5⟩
        have HN5 := Lib.hid hn5
        have G5 := Lib.hid (D4.out.trans (hb5.mono D4.out.size))
        have HA5 := Lib.hid (Rep.acc_later HU4.out hb5)
        clear hn5 hb5
        go_wp2_with (refine wpList_spread_leaf (e := 5) (base := W1.heap.size) (Q := fun _ => False) Rep.leaf_byte rfl _ _ 22 rfl (.int .u8 0) 1 1 Try.underlying22 info5 rfl (by decide) rfl _ _ (by exact rfl) HA5.out _ _ (by exact rfl) (Rep.acc_val HN5.out) S4.out.1 S4.out.2 G5.out.size ?_; intro v5 w5 hacc5 hgr5 hat5; rw [← E5.out] at hacc5; have HU5 := Lib.hid hacc5; have D5 := Lib.hid (Rep.acc_below HA5.out G5.out hgr5 G5.out.size); clear hacc5 hgr5 hat5; obtain ⟨c0, c1, c2, c3, c4, c5⟩ := KS.out _ D5.out)
        go_wp2_with fail
        refine (rnum_calls (width := 2) (n := x.data.length) rfl FD.out).mono ?_
        rintro e x6 ⟨n6, rfl, hn6, hb6⟩
        have HN6 := Lib.hid hn6
        have G6 := Lib.hid (D5.out.trans (hb6.mono D5.out.size))
        have HA6 := Lib.hid (Rep.acc_later HU5.out hb6)
        clear hn6 hb6
        go_wp2_with (first | (refine wpList_spread_leaf (e := 5) (base := W1.heap.size) (Q := fun _ => False) Rep.leaf_byte rfl _ _ 22 rfl (.int .u8 0) 1 1 Try.underlying22 info5 rfl (by decide) rfl _ _ (by exact rfl) HA6.out _ _ (by exact rfl) (Rep.acc_val HN6.out) S5.out.1 S5.out.2 G6.out.size ?_; intro v6 w6 hacc6 hgr6 hat6; rw [← E6.out] at hacc6; have HU6 := Lib.hid hacc6; have D6 := Lib.hid (Rep.acc_below HA6.out G6.out hgr6 G6.out.size); clear hacc6 hgr6 hat6; obtain ⟨c0, c1, c2, c3, c4, c5⟩ := KS.out _ D6.out) | (refine wpList_spread_leaf (e := 5) (base := W1.heap.size) (Q := fun _ => False) Rep.leaf_byte rfl _ _ 22 rfl (.int .u8 0) 1 1 Try.underlying22 info5 rfl (by decide) rfl _ _ (by exact rfl) HU6.out _ _ (by exact rfl) (HVD.out _ D6.out) S6.out.1 S6.out.2 D6.out.size ?_; intro v7 w7 hacc7 hgr7 hat7; rw [← E7.out] at hacc7; have HU7 := Lib.hid hacc7; have D7 := Lib.hid (Rep.acc_below HU6.out D6.out hgr7 D6.out.size); clear hacc7 hgr7 hat7; obtain ⟨c0, c1, c2, c3, c4, c5⟩ := KS.out _ D7.out))
        go_ret
        exact ⟨_, rfl, by rw [T.out]; exact Rep.val_mono (fun b hb _ => Nat.le_trans HB.out.size hb) (Rep.acc_fresh HU7.out), HB.out.trans (D7.out.mono HB.out.size)⟩
    · by_cases hloc : x.loc = true
      · have KS := Lib.hid (show ∀ w', Below W1.heap.size W1 w' → w'.cell? ⟨w.heap.size, 0, none⟩ = some (.int .i64 3) ∧ w'.cell? ⟨w.heap.size, 1, none⟩ = some (.bool true) ∧ w'.cell? ⟨w.heap.size, 2, none⟩ = some (.int .i64 x.id.index) ∧ w'.cell? ⟨w.heap.size, 3, none⟩ = some (.int .i64 x.id.gen) ∧ w'.cell? ⟨w.heap.size, 4, none⟩ = some (.int .i64 x.comp) ∧ w'.cell? ⟨w.heap.size, 5, none⟩ = some (.slice A x.data.length c) from
          fun w' h => have m := KM.out w' h; ⟨hk ▸ m.c0, hloc ▸ m.c1, m.c2, m.c3, m.c4, m.c5⟩)
        obtain ⟨q1, hq1⟩ : ∃ z, z = num 1 3 := ⟨_, rfl⟩
        have hn1 : q1.length ≤ 8 := by have := num_length 1 3; rw [hq1]; omega
        have S1 := Lib.hid (show q1.length + 1 ≤ maxLen ∧ (q1.length + 1) * 1 ≤ 140737488355328 by unfold maxLen; omega)
        obtain ⟨q2, hq2⟩ : ∃ z, z = q1 ++ [1] := ⟨_, rfl⟩
        have hn2 : q2.length ≤ 16 := by rw [hq2, List.length_append]; simp; omega
        have S2 := Lib.hid (show q2.length + (num 8 x.id.index).length ≤ maxLen ∧ (q2.length + (num 8 x.id.index).length) * 1 ≤ 140737488355328 by have := num_length 8 x.id.index; unfold maxLen; omega)
        obtain ⟨q3, hq3⟩ : ∃ z, z = q2 ++ num 8 x.id.index := ⟨_, rfl⟩
        have hn3 : q3.length ≤ 24 := by have := num_length 8 x.id.index; rw [hq3, List.length_append]; omega
        have S3 := Lib.hid (show q3.length + (num 8 x.comp).length ≤ maxLen ∧ (q3.length + (num 8 x.comp).length) * 1 ≤ 140737488355328 by have := num_length 8 x.comp; unfold maxLen; omega)
        obtain ⟨q4, hq4⟩ : ∃ z, z = q3 ++ num 8 x.comp := ⟨_, rfl⟩
        have hn4 : q4.length ≤ 32 := by have := num_length 8 x.comp; rw [hq4, List.length_append]; omega
        have T := Lib.hid (show cmdBytes x = q4 by rw [hq4, hq3, hq2, hq1, cmdBytes, hk, show knownB 3 = true from rfl]; simp [targetBytes, hloc, one_is])
        have E1 := Lib.hid hq1
        have E2 := Lib.hid hq2
        have E3 := Lib.hid hq3
        have E4 := Lib.hid hq4
        clear hq1 hq2 hq3 hq4 hn1 hn2 hn3 hn4 hk hloc
        obtain ⟨c0, c1, c2, c3, c4, c5⟩ := KS.out _ (Below.refl _ _)
        go_enter Try.func157, Try.ntmps157
        go_wp2_with fail
        try rw [hW1]
        clear hW1
        go_wp2_with fail
        refine (rnum_calls (width := 1) (n := 3) rfl rfl).mono ?_
        rintro e w1 ⟨u1, rfl, hu1, hb1⟩
        rw [← E1.out] at hu1
        have HU1 := Lib.hid hu1
        have D1 := Lib.hid hb1
        clear hu1 hb1 c0 c1 c2 c3 c4 c5
        obtain ⟨c0, c1, c2, c3, c4, c5⟩ := KS.out _ D1.out
        go_wp2_with (refine wpList_snoc (e := 5) (base := W1.heap.size) (Q := fun _ => False) (r := Rep.byte) rfl rfl _ _ 22 _ rfl rfl rfl (.int .u8 0) 1 1 Try.underlying22 info5 rfl (by decide) rfl _ _ HU1.out (1 : UInt8) _ (by exact rfl) lit1 (by exact rfl) (by exact rfl) S1.out.1 S1.out.2 D1.out.size ?_; intro v2 w2 hacc2 hgr2 hat2; rw [← E2.out] at hacc2; have HU2 := Lib.hid hacc2; have D2 := Lib.hid (Rep.acc_below HU1.out D1.out hgr2 D1.out.size); clear hacc2 hgr2 hat2; obtain ⟨c0, c1, c2, c3, c4, c5⟩ := KS.out _ D2.out)
        refine (rnum_calls (width := 8) (n := x.id.index) rfl F1.out).mono ?_
        rintro e x3 ⟨n3, rfl, hn3, hb3⟩
        have HN3 := Lib.hid hn3
        have G3 := Lib.hid (D2.out.trans (hb3.mono D2.out.size))
        have HA3 := Lib.hid (Rep.acc_later HU2.out hb3)
        clear hn3 hb3
        go_wp2_with (refine wpList_spread_leaf (e := 5) (base := W1.heap.size) (Q := fun _ => False) Rep.leaf_byte rfl _ _ 22 rfl (.int .u8 0) 1 1 Try.underlying22 info5 rfl (by decide) rfl _ _ (by exact rfl) HA3.out _ _ (by exact rfl) (Rep.acc_val HN3.out) S2.out.1 S2.out.2 G3.out.size ?_; intro v3 w3 hacc3 hgr3 hat3; rw [← E3.out] at hacc3; have HU3 := Lib.hid hacc3; have D3 := Lib.hid (Rep.acc_below HA3.out G3.out hgr3 G3.out.size); clear hacc3 hgr3 hat3; obtain ⟨c0, c1, c2, c3, c4, c5⟩ := KS.out _ D3.out)
        go_wp2_with fail
        refine (rnum_calls (width := 8) (n := x.comp) rfl F3.out).mono ?_
        rintro e x4 ⟨n4, rfl, hn4, hb4⟩
        have HN4 := Lib.hid hn4
        have G4 := Lib.hid (D3.out.trans (hb4.mono D3.out.size))
        have HA4 := Lib.hid (Rep.acc_later HU3.out hb4)
        clear hn4 hb4
        go_wp2_with (refine wpList_spread_leaf (e := 5) (base := W1.heap.size) (Q := fun _ => False) Rep.leaf_byte rfl _ _ 22 rfl (.int .u8 0) 1 1 Try.underlying22 info5 rfl (by decide) rfl _ _ (by exact rfl) HA4.out _ _ (by exact rfl) (Rep.acc_val HN4.out) S3.out.1 S3.out.2 G4.out.size ?_; intro v4 w4 hacc4 hgr4 hat4; rw [← E4.out] at hacc4; have HU4 := Lib.hid hacc4; have D4 := Lib.hid (Rep.acc_below HA4.out G4.out hgr4 G4.out.size); clear hacc4 hgr4 hat4; obtain ⟨c0, c1, c2, c3, c4, c5⟩ := KS.out _ D4.out)
        go_ret
        exact ⟨_, rfl, by rw [T.out]; exact Rep.val_mono (fun b hb _ => Nat.le_trans HB.out.size hb) (Rep.acc_fresh HU4.out), HB.out.trans (D4.out.mono HB.out.size)⟩
      · replace hloc : x.loc = false := by simpa using hloc
        have KS := Lib.hid (show ∀ w', Below W1.heap.size W1 w' → w'.cell? ⟨w.heap.size, 0, none⟩ = some (.int .i64 3) ∧ w'.cell? ⟨w.heap.size, 1, none⟩ = some (.bool false) ∧ w'.cell? ⟨w.heap.size, 2, none⟩ = some (.int .i64 x.id.index) ∧ w'.cell? ⟨w.heap.size, 3, none⟩ = some (.int .i64 x.id.gen) ∧ w'.cell? ⟨w.heap.size, 4, none⟩ = some (.int .i64 x.comp) ∧ w'.cell? ⟨w.heap.size, 5, none⟩ = some (.slice A x.data.length c) from
          fun w' h => have m := KM.out w' h; ⟨hk ▸ m.c0, hloc ▸ m.c1, m.c2, m.c3, m.c4, m.c5⟩)
        obtain ⟨q1, hq1⟩ : ∃ z, z = num 1 3 := ⟨_, rfl⟩
        have hn1 : q1.length ≤ 8 := by have := num_length 1 3; rw [hq1]; omega
        have S1 := Lib.hid (show q1.length + 1 ≤ maxLen ∧ (q1.length + 1) * 1 ≤ 140737488355328 by unfold maxLen; omega)
        obtain ⟨q2, hq2⟩ : ∃ z, z = q1 ++ [0] := ⟨_, rfl⟩
        have hn2 : q2.length ≤ 16 := by rw [hq2, List.length_append]; simp; omega
        have S2 := Lib.hid (show q2.length + (num 8 x.id.index).length ≤ maxLen ∧ (q2.length + (num 8 x.id.index).length) * 1 ≤ 140737488355328 by have := num_length 8 x.id.index; unfold maxLen; omega)
        obtain ⟨q3, hq3⟩ : ∃ z, z = q2 ++ num 8 x.id.index := ⟨_, rfl⟩
        have hn3 : q3.length ≤ 24 := by have := num_length 8 x.id.index; rw [hq3, List.length_append]; omega
        have S3 := Lib.hid (show q3.length + (num 8 x.id.gen).length ≤ maxLen ∧ (q3.length + (num 8 x.id.gen).length) * 1 ≤ 140737488355328 by have := num_length 8 x.id.gen; unfold maxLen; omega)
        obtain ⟨q4, hq4⟩ : ∃ z, z = q3 ++ num 8 x.id.gen := ⟨_, rfl⟩
        have hn4 : q4.length ≤ 32 := by have := num_length 8 x.id.gen; rw [hq4, List.length_append]; omega
        have S4 := Lib.hid (show q4.length + (num 8 x.comp).length ≤ maxLen ∧ (q4.length + (num 8 x.comp).length) * 1 ≤ 140737488355328 by have := num_length 8 x.comp; unfold maxLen; omega)
        obtain ⟨q5, hq5⟩ : ∃ z, z = q4 ++ num 8 x.comp := ⟨_, rfl⟩
        have hn5 : q5.length ≤ 40 := by have := num_length 8 x.comp; rw [hq5, List.length_append]; omega
        have T := Lib.hid (show cmdBytes x = q5 by rw [hq5, hq4, hq3, hq2, hq1, cmdBytes, hk, show knownB 3 = true from rfl]; simp [targetBytes, hloc, nil_is])
        have E1 := Lib.hid hq1
        have E2 := Lib.hid hq2
        have E3 := Lib.hid hq3
        have E4 := Lib.hid hq4
        have E5 := Lib.hid hq5
        clear hq1 hq2 hq3 hq4 hq5 hn1 hn2 hn3 hn4 hn5 hk hloc
        obtain ⟨c0, c1, c2, c3, c4, c5⟩ := KS.out _ (Below.refl _ _)
        go_enter Try.func157, Try.ntmps157
        go_wp2_with fail
        try rw [hW1]
        clear hW1
        go_wp2_with fail
        refine (rnum_calls (width := 1) (n := 3) rfl rfl).mono ?_
        rintro e w1 ⟨u1, rfl, hu1, hb1⟩
        rw [← E1.out] at hu1
        have HU1 := Lib.hid hu1
        have D1 := Lib.hid hb1
        clear hu1 hb1 c0 c1 c2 c3 c4 c5
        obtain ⟨c0, c1, c2, c3, c4, c5⟩ := KS.out _ D1.out
        go_wp2_with (refine wpList_snoc (e := 5) (base := W1.heap.size) (Q := fun _ => False) (r := Rep.byte) rfl rfl _ _ 22 _ rfl rfl rfl (.int .u8 0) 1 1 Try.underlying22 info5 rfl (by decide) rfl _ _ HU1.out (0 : UInt8) _ (by exact rfl) lit0 (by exact rfl) (by exact rfl) S1.out.1 S1.out.2 D1.out.size ?_; intro v2 w2 hacc2 hgr2 hat2; rw [← E2.out] at hacc2; have HU2 := Lib.hid hacc2; have D2 := Lib.hid (Rep.acc_below HU1.out D1.out hgr2 D1.out.size); clear hacc2 hgr2 hat2; obtain ⟨c0, c1, c2, c3, c4, c5⟩ := KS.out _ D2.out)
        refine (rnum_calls (width := 8) (n := x.id.index) rfl F1.out).mono ?_
        rintro e x3 ⟨n3, rfl, hn3, hb3⟩
        have HN3 := Lib.hid hn3
        have G3 := Lib.hid (D2.out.trans (hb3.mono D2.out.size))
        have HA3 := Lib.hid (Rep.acc_later HU2.out hb3)
        clear hn3 hb3
        go_wp2_with (refine wpList_spread_leaf (e := 5) (base := W1.heap.size) (Q := fun _ => False) Rep.leaf_byte rfl _ _ 22 rfl (.int .u8 0) 1 1 Try.underlying22 info5 rfl (by decide) rfl _ _ (by exact rfl) HA3.out _ _ (by exact rfl) (Rep.acc_val HN3.out) S2.out.1 S2.out.2 G3.out.size ?_; intro v3 w3 hacc3 hgr3 hat3; rw [← E3.out] at hacc3; have HU3 := Lib.hid hacc3; have D3 := Lib.hid (Rep.acc_below HA3.out G3.out hgr3 G3.out.size); clear hacc3 hgr3 hat3; obtain ⟨c0, c1, c2, c3, c4, c5⟩ := KS.out _ D3.out)
        go_wp2_with fail
        refine (rnum_calls (width := 8) (n := x.id.gen) rfl F2.out).mono ?_
        rintro e x4 ⟨n4, rfl, hn4, hb4⟩
        have HN4 := Lib.hid hn4
        have G4 := Lib.hid (D3.out.trans (hb4.mono D3.out.size))
        have HA4 := Lib.hid (Rep.acc_later HU3.out hb4)
        clear hn4 hb4
        go_wp2_with (refine wpList_spread_leaf (e := 5) (base := W1.heap.size) (Q := fun _ => False) Rep.leaf_byte rfl _ _ 22 rfl (.int .u8 0) 1 1 Try.underlying22 info5 rfl (by decide) rfl _ _ (by exact rfl) HA4.out _ _ (by exact rfl) (Rep.acc_val HN4.out) S3.out.1 S3.out.2 G4.out.size ?_; intro v4 w4 hacc4 hgr4 hat4; rw [← E4.out] at hacc4; have HU4 := Lib.hid hacc4; have D4 := Lib.hid (Rep.acc_below HA4.out G4.out hgr4 G4.out.size); clear hacc4 hgr4 hat4; obtain ⟨c0, c1, c2, c3, c4, c5⟩ := KS.out _ D4.out)
        go_wp2_with fail
        refine (rnum_calls (width := 8) (n := x.comp) rfl F3.out).mono ?_
        rintro e x5 ⟨n5, rfl, hn5, hb5⟩
        have HN5 := Lib.hid hn5
        have G5 := Lib.hid (D4.out.trans (hb5.mono D4.out.size))
        have HA5 := Lib.hid (Rep.acc_later HU4.out hb5)
        clear hn5 hb5
        go_wp2_with (refine wpList_spread_leaf (e := 5) (base := W1.heap.size) (Q := fun _ => False) Rep.leaf_byte rfl _ _ 22 rfl (.int .u8 0) 1 1 Try.underlying22 info5 rfl (by decide) rfl _ _ (by exact rfl) HA5.out _ _ (by exact rfl) (Rep.acc_val HN5.out) S4.out.1 S4.out.2 G5.out.size ?_; intro v5 w5 hacc5 hgr5 hat5; rw [← E5.out] at hacc5; have HU5 := Lib.hid hacc5; have D5 := Lib.hid (Rep.acc_below HA5.out G5.out hgr5 G5.out.size); clear hacc5 hgr5 hat5; obtain ⟨c0, c1, c2, c3, c4, c5⟩ := KS.out _ D5.out)
        go_ret
        exact ⟨_, rfl, by rw [T.out]; exact Rep.val_mono (fun b hb _ => Nat.le_trans HB.out.size hb) (Rep.acc_fresh HU5.out), HB.out.trans (D5.out.mono HB.out.size)⟩
end Go.Proofs.Ytcfgckpjgihcgaa
/- Walks of the check sums, both. -/
namespace Go.Proofs.Ytcfgckpjgihcgaa
open Go.RowKit

set_option maxRecDepth 100000 in
set_option maxHeartbeats 1000000 in
/-- crc.Add -/
theorem crcAdd_calls {Q : Nat → Prop} {w : World} {v : Value} {l : List UInt8} {s : Nat} (hs : s < 4294967296) (hx : Rep.byte.list.val Q w v l) :
    Calls Try.prog 306 #[.int .u32 s, v] w fun e w' => e = .returned (.int .u32 (crcAdd s l)) ∧ w' = w := by
  obtain ⟨A, c, rfl, hc1, hc2, hA⟩ := Rep.val_list hx
  unfold maxLen at hc2
  have HA := Lib.hid hA
  clear hx hA
  go_enter Try.func306, Try.ntmps306
  go_wp2_with fail
  go_loop [0, 10] (fun t i => ∃ (k m : Nat), i = .int .i64 k ∧ t = .int .u32 m ∧ k ≤ l.length ∧ m < 4294967296 ∧ Hid (m = crcAdd s (l.take k))) (fun _ i => l.length - (intOf i).toNat)
  case atStart => exact ⟨0, s, rfl, rfl, by omega, hs, rfl⟩
  case round =>
    obtain ⟨k, m, rfl, rfl, hk, hm, E⟩ := hrel
    by_cases hlt : (k : Int) < l.length
    · have hk' : k < l.length := by omega
      obtain ⟨b, off, rfl, d0⟩ := Rep.At.byte HA.out (List.getElem?_eq_getElem hk')
      have T := Lib.hid (show crcAdd s (l.take (k + 1)) = crcByte m l[k] by rw [List.take_succ_eq_append_getElem hk', crcAdd_snoc, E.out])
      generalize l[k] = x at *
      have hx := byte_lt x
      have e1 : bits .xor .u32 (m : Int) (x.toNat : Int) = ((m ^^^ x.toNat : Nat) : Int) := u32_xor_nat _ _ hm (by omega)
      have hm2 : m ^^^ x.toNat < 4294967296 := Nat.xor_lt_two_pow (n := 32) hm (by omega)
      have HB := Lib.hid (show m ^^^ x.toNat = crcBits 0 (m ^^^ x.toNat) from rfl)
      have T2 := Lib.hid (show crcByte m x = crcBits 8 (m ^^^ x.toNat) from rfl)
      have w0 : IntKind.u32.wrap (x.toNat : Int) = x.toNat := by rw [IntKind.wrap_u32']; omega
      generalize m ^^^ x.toNat = y at *
      go_wp2_with fail
      go_loop [0, 18] (fun t i => ∃ (j n : Nat), i = .int .i64 j ∧ t = .int .u32 n ∧ j ≤ 8 ∧ n < 4294967296 ∧ Hid (n = crcBits j y)) (fun _ i => 8 - (intOf i).toNat)
      case atStart => exact ⟨0, y, rfl, rfl, by omega, hm2, HB.out⟩
      case round =>
        obtain ⟨j, n, rfl, rfl, hj, hn, F⟩ := hrel
        by_cases hlt2 : (j : Int) < 8
        · have G := Lib.hid (show crcBits (j + 1) y = crcBit n by rw [F.out]; rfl)
          have hb := Lib.hid (crcBit_lt hn)
          rcases Nat.mod_two_eq_zero_or_one n with hp | hp
          · have a1 : bits .and .u32 (n : Int) 1 = 0 := by
              have h := u32_and_nat n 1 hn (by decide); rw [Nat.and_one_is_mod, hp] at h; exact h
            have a2 : bits .and .u32 3988292384 0 = 0 := by decide
            have K := Lib.hid (show crcBit n = n / 2 by unfold crcBit; rw [hp]; simp)
            have a3 : bits .xor .u32 ((n : Int) / 2) 0 = ((n / 2 : Nat) : Int) := by
              have h := u32_xor_nat (n / 2) 0 (by omega) (by decide); rw [Nat.xor_zero] at h; exact h
            clear hp
            go_wp2_with fail
            exact ⟨⟨j + 1, n / 2, by go_num, rfl, by omega, by omega, by rw [G.out, K.out]; rfl⟩, by simp [intOf]; omega⟩
          · have a1 : bits .and .u32 (n : Int) 1 = 1 := by
              have h := u32_and_nat n 1 hn (by decide); rw [Nat.and_one_is_mod, hp] at h; exact h
            have a2 : bits .and .u32 3988292384 4294967295 = 3988292384 := by decide
            have K := Lib.hid (show crcBit n = n / 2 ^^^ 3988292384 by unfold crcBit; rw [hp]; simp)
            have a3 : bits .xor .u32 ((n : Int) / 2) 3988292384 = ((n / 2 ^^^ 3988292384 : Nat) : Int) := u32_xor_nat (n / 2) 3988292384 (by omega) (by decide)
            clear hp
            go_wp2_with fail
            exact ⟨⟨j + 1, n / 2 ^^^ 3988292384, by go_num, rfl, by omega, by rw [← K.out]; exact hb.out, by rw [G.out, K.out]; rfl⟩, by simp [intOf]; omega⟩
        · have h8 : j = 8 := by omega
          subst h8
          go_wp2_with fail
          exact ⟨⟨k + 1, n, by go_num, rfl, by omega, hn, by rw [T.out, T2.out, F.out]; rfl⟩, by simp [intOf]; omega⟩
    · have hkl : k = l.length := by omega
      have T := Lib.hid (show m = crcAdd s l by rw [E.out, hkl, List.take_length])
      go_wp2_with fail
      go_ret
      exact ⟨by rw [← T.out]; rfl, rfl⟩

set_option maxRecDepth 100000 in
/-- crc.Start -/
theorem crcStart_calls (w : World) : Calls Try.prog 305 #[] w fun e w' => e = .returned (.int .u32 4294967295) ∧ w' = w := by
  go_enter Try.func305, Try.ntmps305
  go_wp2_with fail
  go_ret
  exact ⟨rfl, rfl⟩
set_option maxRecDepth 100000 in
/-- crc.End -/
theorem crcEnd_calls {s : Nat} (hs : s < 4294967296) (w : World) : Calls Try.prog 307 #[.int .u32 s] w fun e w' => e = .returned (.int .u32 ((4294967295 - s : Nat) : Int)) ∧ w' = w := by
  have e1 : bits .xor .u32 IntKind.u32.max (s : Int) = ((4294967295 - s : Nat) : Int) := by
    have h := u32_xor_nat 4294967295 s (by decide) hs; rw [crc_not hs] at h; exact h
  generalize 4294967295 - s = r at *
  go_enter Try.func307, Try.ntmps307
  go_wp2_with fail
  go_ret
  exact ⟨rfl, rfl⟩

set_option maxRecDepth 100000 in
set_option maxHeartbeats 1000000 in
/-- crc.Of -/
theorem crcOf_calls {Q : Nat → Prop} {w : World} {v : Value} {l : List (List UInt8)} (hx : Rep.byte.list.list.val Q w v l) :
    Calls Try.prog 273 #[v] w fun e w' => e = .returned (.int .u32 (crcOf l.flatten)) ∧ w' = w := by
  obtain ⟨A, c, rfl, hc1, hc2, hA⟩ := Rep.val_list hx
  unfold maxLen at hc2
  have HA := Lib.hid hA
  clear hx hA
  go_enter Try.func273, Try.ntmps273
  go_wp2_with fail
  refine (crcStart_calls _).mono ?_
  rintro e w' ⟨rfl, hw⟩
  have hw' := hw.symm
  subst hw'
  clear hw
  go_wp2_with fail
  go_loop [3, 9] (fun t i => ∃ (k m : Nat), i = .int .i64 k ∧ t = .int .u32 m ∧ k ≤ l.length ∧ m < 4294967296 ∧ Hid (m = crcAdd 4294967295 (l.take k).flatten)) (fun _ i => l.length - (intOf i).toNat)
  case atStart => exact ⟨0, 4294967295, rfl, rfl, by omega, by omega, rfl⟩
  case round =>
    obtain ⟨k, m, rfl, rfl, hk, hm, E⟩ := hrel
    by_cases hlt : (k : Int) < l.length
    · have hk' : k < l.length := by omega
      obtain ⟨b, off, B, cb, rfl, d0, d1, d2, dd⟩ := Rep.At.list HA.out (List.getElem?_eq_getElem hk')
      have T := Lib.hid (show crcAdd 4294967295 (l.take (k + 1)).flatten = crcAdd m l[k] by rw [List.take_succ_eq_append_getElem hk', List.flatten_append, crcAdd_append, E.out]; simp)
      generalize l[k] = x at *
      have HX := Lib.hid (show Rep.byte.list.val Q w (.slice B x.length cb) x from Rep.list_val rfl d1 d2 dd)
      have hb := Lib.hid (crcAdd_lt (l := x) hm)
      clear dd
      go_wp2_with (go_at_call 306; refine (crcAdd_calls (by omega) HX.out).mono ?_; rintro e w' ⟨rfl, rfl⟩)
      exact ⟨⟨k + 1, crcAdd m x, by go_num, rfl, by omega, hb.out, by rw [T.out]; rfl⟩, by simp [intOf]; omega⟩
    · have hkl : k = l.length := by omega
      have T := Lib.hid (show 4294967295 - m = crcOf l.flatten by unfold crcOf; rw [E.out, hkl, List.take_length])
      go_wp2_with (go_at_call 307; refine (crcEnd_calls (by omega) _).mono ?_; rintro e w' ⟨rfl, rfl⟩; rw [T.out])
      go_ret
      exact ⟨rfl, rfl⟩

set_option maxRecDepth 100000 in
set_option maxHeartbeats 1000000 in
/-- ref02.turned -/
theorem turned_calls {n : Nat} (hn : n < 4294967296) (w : World) :
    Calls Try.prog 238 #[.int .u32 n] w fun e w' => e = .returned (.int .u32 (turned n)) ∧ w' = w := by
  go_enter Try.func238, Try.ntmps238
  go_wp2_with fail
  go_loop [0, 3, 4] (fun t u i => ∃ (k m o : Nat), i = .int .i64 k ∧ t = .int .u32 m ∧ u = .int .u32 o ∧ k ≤ 32 ∧ m < 4294967296 ∧ o < 2 ^ k ∧ Hid ((m, o) = turnBits k n 0)) (fun _ _ i => 32 - (intOf i).toNat)
  case atStart => exact ⟨0, n, 0, rfl, rfl, rfl, by omega, hn, by omega, rfl⟩
  case round =>
    obtain ⟨k, m, o, rfl, rfl, rfl, hk, hm, ho, E⟩ := hrel
    by_cases hlt : (k : Int) < 32
    · have ho2 : o < 2147483648 := Nat.lt_of_lt_of_le ho (show 2 ^ k ≤ 2 ^ 31 from Nat.pow_le_pow_right (by omega) (by omega))
      have P := Lib.hid (show o * 2 + m % 2 < 2 ^ (k + 1) by rw [Nat.pow_succ]; omega)
      have T := Lib.hid (show (m / 2, o * 2 + m % 2) = turnBits (k + 1) n 0 by
        show _ = ((turnBits k n 0).1 / 2, (turnBits k n 0).2 * 2 + (turnBits k n 0).1 % 2)
        rw [← E.out])
      have w1 : IntKind.u32.wrap ((o : Int) * 2) = (o : Int) * 2 := by rw [IntKind.wrap_u32']; omega
      have w2 : IntKind.u32.wrap ((o : Int) * 2 + (m : Int) % 2) = (o : Int) * 2 + (m : Int) % 2 := by rw [IntKind.wrap_u32']; omega
      clear ho
      go_wp2_with fail
      exact ⟨⟨k + 1, m / 2, o * 2 + m % 2, by go_num, by go_num, by go_num, by omega, by omega, P.out, T.out⟩, by simp [intOf]; omega⟩
    · have h32 : k = 32 := by omega
      subst h32
      have T := Lib.hid (show turned n = o by unfold turned; rw [← E.out])
      clear ho
      go_wp2_with fail
      go_ret
      exact ⟨by rw [T.out]; rfl, rfl⟩

set_option maxRecDepth 100000 in
set_option maxHeartbeats 1000000 in
/-- ref02.Of -/
theorem rcrc_calls {Q : Nat → Prop} {w : World} {v : Value} {l : List UInt8} (hx : Rep.byte.list.val Q w v l) :
    Calls Try.prog 158 #[v] w fun e w' => e = .returned (.int .u32 (crcOf l)) ∧ w' = w := by
  obtain ⟨A, c, rfl, hc1, hc2, hA⟩ := Rep.val_list hx
  unfold maxLen at hc2
  have HA := Lib.hid hA
  clear hx hA
  go_enter Try.func158, Try.ntmps158
  go_wp2_with fail
  go_loop [3, 4] (fun t i => ∃ (k r : Nat), i = .int .i64 k ∧ t = .int .u32 r ∧ k ≤ l.length ∧ r < 4294967296 ∧ Hid (r = restAdd 4294967295 (l.take k))) (fun _ i => l.length - (intOf i).toNat)
  case atStart => exact ⟨0, 4294967295, rfl, rfl, by omega, by omega, rfl⟩
  case round =>
    obtain ⟨k, r, rfl, rfl, hk, hr, E⟩ := hrel
    by_cases hlt : (k : Int) < l.length
    · have hk' : k < l.length := by omega
      obtain ⟨b, off, rfl, d0⟩ := Rep.At.byte HA.out (List.getElem?_eq_getElem hk')
      have T := Lib.hid (show restAdd 4294967295 (l.take (k + 1)) = restByte r l[k] by rw [List.take_succ_eq_append_getElem hk', restAdd_snoc, E.out])
      generalize l[k] = x at *
      have hx := byte_lt x
      have T2 := Lib.hid (show restByte r x = restBits 8 r x.toNat from rfl)
      have w0 : IntKind.u32.wrap (x.toNat : Int) = x.toNat := by rw [IntKind.wrap_u32']; omega
      generalize x.toNat = y at *
      go_wp2_with fail
      go_loop [3, 5, 6] (fun t u i => ∃ (j n d : Nat), i = .int .i64 j ∧ t = .int .u32 n ∧ u = .int .u32 d ∧ j ≤ 8 ∧ n < 4294967296 ∧ d < 256 ∧ Hid (n = restBits j r y) ∧ Hid (d = y / 2 ^ j)) (fun _ _ i => 8 - (intOf i).toNat)
      case atStart => exact ⟨0, r, y, rfl, rfl, rfl, by omega, hr, hx, rfl, by simp [Hid]⟩
      case round =>
        obtain ⟨j, n, d, rfl, rfl, rfl, hj, hn, hd, F, F2⟩ := hrel
        by_cases hlt2 : (j : Int) < 8
        · have G := Lib.hid (show restBits (j + 1) r y = restBit n d by rw [F.out, F2.out]; rfl)
          have G2 := Lib.hid (show d / 2 = y / 2 ^ (j + 1) by rw [F2.out, Nat.div_div_eq_div_mul, Nat.pow_succ])
          have hb := Lib.hid (restBit_lt n d)
          have w1 : IntKind.u32.wrap ((n : Int) * 2) = (n : Int) * 2 % 4294967296 := by rw [IntKind.wrap_u32']
          by_cases hp : n / 2147483648 = d % 2
          · have K := Lib.hid (show restBit n d = n * 2 % 4294967296 by unfold restBit; rw [if_neg (by omega)]; simp)
            have a1 : ((n : Int) / 2147483648 == (d : Int) % 2) = true := by simp; omega
            have a2 : (n : Int) / 2147483648 = (d : Int) % 2 := by omega
            clear hp
            go_wp2_with fail
            exact ⟨⟨j + 1, n * 2 % 4294967296, d / 2, by go_num, congrArg _ (by omega), congrArg _ (by omega), by omega, by omega, by omega, by rw [G.out, K.out]; rfl, G2.out⟩, by simp [intOf]; omega⟩
          · have K := Lib.hid (show restBit n d = n * 2 % 4294967296 ^^^ 79764919 by unfold restBit; rw [if_pos (by omega)])
            have a1 : ((n : Int) / 2147483648 == (d : Int) % 2) = false := by simp; omega
            have a2 : bits .xor .u32 ((n : Int) * 2 % 4294967296) 79764919 = ((n * 2 % 4294967296 ^^^ 79764919 : Nat) : Int) := u32_xor_nat (n * 2 % 4294967296) 79764919 (by omega) (by decide)
            clear hp
            go_wp2_with fail
            exact ⟨⟨j + 1, n * 2 % 4294967296 ^^^ 79764919, d / 2, by go_num, rfl, congrArg _ (by omega), by omega, by rw [← K.out]; exact hb.out, by omega, by rw [G.out, K.out]; rfl, G2.out⟩, by simp [intOf]; omega⟩
        · have h8 : j = 8 := by omega
          subst h8
          go_wp2_with fail
          exact ⟨⟨k + 1, n, by go_num, rfl, by omega, hn, by rw [T.out, T2.out, F.out]; rfl⟩, by simp [intOf]; omega⟩
    · have hkl : k = l.length := by omega
      have T := Lib.hid (show 4294967295 - turned r = crcOf l by rw [← crc_same, E.out, hkl, List.take_length])
      have ht := turned_lt r
      have HT := Lib.hid (turned_calls (show r < 4294967296 by omega) w)
      generalize turned r = tr at *
      have w1 : IntKind.u32.wrap (4294967295 - (tr : Int)) = 4294967295 - (tr : Int) := by rw [IntKind.wrap_u32']; omega
      go_wp2_with fail
      refine HT.out.mono ?_
      rintro e w' ⟨rfl, rfl⟩
      go_wp2_with fail
      go_ret
      exact ⟨by rw [← T.out]; exact congrArg (fun i => Ending.returned (.int .u32 i)) (by omega), rfl⟩
end Go.Proofs.Ytcfgckpjgihcgaa
/- Walks of frames as0 bytes, both, and of their size. -/
namespace Go.Proofs.Ytcfgckpjgihcgaa
open Go.RowKit

def cmdsBytes (l : List DCmd) : List UInt8 := num 1 l.length ++ (l.map cmdBytes).flatten
def frameBytes (l : List DCmd) : List UInt8 := cmdsBytes l ++ num 4 (crcOf (cmdsBytes l) : Int)

theorem cmdBytes_length (x : DCmd) : (cmdBytes x).length ≤ 64 + x.data.length := by
  have h1 := num_length 1 x.kind
  have h2 := targetBytes_length x
  have h3 := num_length 8 x.comp
  have h4 := num_length 2 x.data.length
  have h5 := num_length 1 255
  unfold cmdBytes dataBytes
  split
  · simp only [List.length_append]
    split <;> split <;> split <;> simp only [List.length_append, List.length_nil] <;> omega
  · omega
theorem checkCmd_data {x : DCmd} (h : checkCmd x = 0) : x.data.length ≤ 64 := by
  unfold checkCmd at h
  split at h
  · split at h
    · exact absurd h (by decide)
    · omega
  · exact absurd h (by decide)
theorem checkFrame_zero {l : List DCmd} (h : checkFrame l = 0) : l.length ≤ 64 ∧ ∀ x ∈ l, checkCmd x = 0 := by
  unfold checkFrame at h
  split at h
  · exact absurd h (by decide)
  · exact ⟨by omega, firstBad_zero h⟩
theorem flatten_bound : ∀ {l : List DCmd}, (∀ x ∈ l, x.data.length ≤ 64) → (l.map cmdBytes).flatten.length ≤ 128 * l.length
  | [], _ => by simp
  | x :: l, h => by
    have h1 := flatten_bound (l := l) fun y hy => h y (by simp [hy])
    have h2 := cmdBytes_length x
    have h3 := h x (by simp)
    simp only [List.map_cons, List.flatten_cons, List.length_append, List.length_cons]
    omega
theorem cmds_part {l : List DCmd} (hn : l.length ≤ 64) (hd : ∀ x ∈ l, x.data.length ≤ 64) (k : Nat) : (num 1 l.length ++ ((l.take k).map cmdBytes).flatten).length ≤ 10000 := by
  have h1 := num_length 1 l.length
  have h2 := flatten_bound (l := l.take k) fun x hx => hd x (List.mem_of_mem_take hx)
  have h3 : (l.take k).length ≤ l.length := by rw [List.length_take]; omega
  rw [List.length_append]; omega
theorem cmdsBytes_length {l : List DCmd} (hn : l.length ≤ 64) (hd : ∀ x ∈ l, x.data.length ≤ 64) : (cmdsBytes l).length ≤ 10000 := by
  have := cmds_part hn hd l.length
  rwa [List.take_length] at this
theorem frameBytes_length {l : List DCmd} (hn : l.length ≤ 64) (hd : ∀ x ∈ l, x.data.length ≤ 64) : (frameBytes l).length ≤ 10008 := by
  have h1 := cmdsBytes_length hn hd
  have h2 := num_length 4 (crcOf (cmdsBytes l) : Int)
  unfold frameBytes
  rw [List.length_append]; omega
theorem crc_i64 (l : List UInt8) : IntKind.i64.wrap ((crcOf l : Nat) : Int) = (crcOf l : Nat) := by
  have := crcOf_lt l
  exact IntWalk.i64_in _ ⟨by omega, by omega⟩

theorem flatten_single {α : Type} (q : List α) : [q].flatten = q := by simp
/-- A slice of one slice. -/
theorem val_single {α : Type} {r : Rep α} {e base : Nat} {Q : Nat → Prop} (w : World) (t : TypeId) {A : Option Addr} {c : Nat} {q : List α} (h : r.acc e base Q w (.slice A q.length c) q) :
    r.list.list.val (fun _ => True) (w.alloc (.cells #[.slice A q.length c] t)) (.slice (some ⟨w.heap.size, 0, none⟩) 1 1) [q] := by
  have hn := heap_alloc_new w (.cells #[.slice A q.length c] t)
  have hv : r.list.val (fun _ => True) (w.alloc (.cells #[.slice A q.length c] t)) (.slice A q.length c) q :=
    Rep.val_keep (w := w) (fun b _ hl => ⟨trivial, Below.heap_alloc _ _ _ hl.lt⟩) (Rep.acc_val h)
  obtain ⟨cs, hw, hr⟩ := hv
  have hcs : cs = [.slice A q.length c] := by
    obtain ⟨A', c', es, rfl, _⟩ := hr
    have : Value.slice A q.length c = .slice A' q.length c' := hw
    rw [this]
  subst hcs
  refine Rep.list_val rfl (Nat.le_refl _) (by simp [maxLen]) ⟨[.slice A q.length c], ⟨[.slice A q.length c], [], rfl, hr, rfl⟩, fun _ => ⟨w.heap.size, 0, rfl, trivial, ⟨_, _, _, hn⟩, ?_⟩⟩
  intro j u hj
  have hc : (w.alloc (.cells #[.slice A q.length c] t)).cell? ⟨w.heap.size, 0 + j, none⟩ = (#[Value.slice A q.length c] : Array Value)[0 + j]? := by simp only [World.cell?, hn]; rfl
  rw [hc]
  simpa using hj

/-- What frame.Put gives. -/
def PutRes (w : World) (l : List DCmd) (e : Ending) (w' : World) : Prop :=
  if checkFrame l = 0 then ∃ u, e = .returned (.tuple #[u, .int .i64 0]) ∧ Rep.byte.acc 5 w.heap.size (fun _ => False) w' u (frameBytes l) ∧ Below w.heap.size w w'
  else e = .returned (.tuple #[.slice none 0 0, .int .i64 (checkFrame l)]) ∧ Below w.heap.size w w'

def frameSize (l : List DCmd) : Int := if checkFrame l = 0 then (frameBytes l).length else 0
set_option maxRecDepth 100000 in
set_option maxHeartbeats 1000000 in
/-- ref14.Bytes -/
theorem rframeBytes_calls {Q : Nat → Prop} {w : World} {v : Value} {l : List DCmd} (hx : rCmd.list.val Q w v l) (hn : l.length ≤ 64) (hd : ∀ x ∈ l, x.data.length ≤ 64) :
    Calls Try.prog 57 #[v] w (ResA Rep.byte 5 w (frameBytes l)) := by
  obtain ⟨A, c, rfl, hc1, hc2, hA⟩ := Rep.val_list hx
  unfold maxLen at hc2
  have HX := Lib.hid hA
  have HD := Lib.hid hd
  have HN := Lib.hid (cmds_part hn hd)
  have HC := Lib.hid (show (crcOf (cmdsBytes l) : Nat) < 4294967296 from crcOf_lt _)
  have HW := wf_i64 (n := (l.length : Int)) (by omega) (by omega)
  clear hx hA hd
  go_enter Try.func57, Try.ntmps57
  go_wp2_with fail
  refine (rnum_calls (width := 1) (n := l.length) rfl HW).mono ?_
  rintro e w2 ⟨u, rfl, hu, hb2⟩
  have HU := Lib.hid hu
  have HB2 := Lib.hid hb2
  clear hu hb2
  go_wp2_with fail
  go_loopw [3, 4] (fun s i wr => ∃ k : Nat, i = .int .i64 k ∧ k ≤ l.length ∧ Rep.byte.acc 5 w.heap.size (fun _ => False) wr s (num 1 l.length ++ ((l.take k).map cmdBytes).flatten) ∧ Below w.heap.size w wr)
    (fun _ i _ => l.length - (intOf i).toNat)
  case atStart => exact ⟨0, rfl, by omega, by simpa using HU.out, HB2.out⟩
  case round =>
    obtain ⟨k, rfl, hk, hv, hb1⟩ := hrel
    have HB3 := Lib.hid hb1
    by_cases hlt : (k : Int) < l.length
    · have hk' : k < l.length := by omega
      obtain ⟨b, off, A6, c6, rfl, _, d0, d1, d2, d3, d4, d5, f0, f1, f2, f3, sp⟩ := rCmd_at (Rep.At.keep (w := w) (Q' := fun _ => True) (fun b _ hb => ⟨trivial, hb1.block b hb.lt⟩) HX.out) (List.getElem?_eq_getElem hk')
      have T := Lib.hid (show num 1 l.length ++ ((l.take (k + 1)).map cmdBytes).flatten = (num 1 l.length ++ ((l.take k).map cmdBytes).flatten) ++ cmdBytes l[k] by
        rw [take_flatten_succ cmdBytes hk']; simp only [List.append_assoc])
      have L := Lib.hid (HN.out k)
      have LD := Lib.hid (HD.out l[k] (List.getElem_mem hk'))
      generalize l[k] = x at *
      generalize num 1 l.length ++ ((l.take k).map cmdBytes).flatten = q at hv T L
      have HV := Lib.hid (rCmd_agg f0 f1 f2 f3 sp)
      have HQ := Lib.hid hv
      have L7 := Lib.hid (show q.length + (cmdBytes x).length ≤ maxLen ∧ (q.length + (cmdBytes x).length) * 1 ≤ 140737488355328 by have h1 := L.out; have h2 := cmdBytes_length x; have h3 := LD.out; unfold maxLen; omega)
      clear sp f0 f1 f2 f3 hb1 hv
      obtain ⟨Aq, cq, rfl, _, _⟩ := Rep.acc_form HQ.out
      go_wp2_with fail
      refine (rcmdPut_calls HV.out (by have := LD.out; omega)).mono ?_
      rintro e w3 ⟨u3, rfl, hu3, hb3⟩
      have HB5 := Lib.hid (HB3.out.trans (hb3.mono HB3.out.size))
      have HA3 := Lib.hid (Rep.acc_later HQ.out hb3)
      have HU3 := Lib.hid hu3
      clear hu3 hb3 d0 d1 d2 d3 d4 d5
      go_wp2_with (refine wpList_spread_leaf (e := 5) (base := w.heap.size) (Q := fun _ => False) Rep.leaf_byte rfl _ _ 22 rfl (.int .u8 0) 1 1 Try.underlying22 info5 rfl (by decide) rfl _ q (by exact rfl) HA3.out _ (cmdBytes x) (by exact rfl) HU3.out L7.out.1 L7.out.2 HB5.out.size ?_; intro v5 w5 hacc5 hgr5 hat5; rw [← T.out] at hacc5; have HU5 := Lib.hid hacc5; have D5 := Lib.hid (Rep.acc_below HA3.out HB5.out hgr5 HB5.out.size); clear hacc5 hgr5 hat5)
      exact ⟨⟨k + 1, by go_num, by omega, HU5.out, D5.out⟩, by simp [intOf]; omega⟩
    · obtain rfl : k = l.length := by omega
      have T := Lib.hid (show num 1 l.length ++ ((l.take l.length).map cmdBytes).flatten = cmdsBytes l by rw [List.take_length]; rfl)
      rw [T.out] at hv
      have HL := Lib.hid (show (cmdsBytes l).length ≤ 10000 by rw [← T.out]; exact HN.out _)
      have HF := Lib.hid (show frameBytes l = cmdsBytes l ++ num 4 (crcOf (cmdsBytes l) : Int) from rfl)
      generalize frameBytes l = F at *
      generalize cmdsBytes l = q at *
      have HV := Lib.hid hv
      obtain ⟨Aq, cq, rfl, _, _⟩ := Rep.acc_form hv
      clear hv hb1
      go_wp2_with fail
      refine (rcrc_calls (l := q) (Rep.acc_val HV.out)).mono ?_
      rintro e w5 ⟨rfl, hw⟩
      have hw2 := hw.symm
      subst hw2
      clear hw
      have hwr := crc_i64 q
      have hm := HC.out
      have hwf := wf_i64 (n := (crcOf q : Int)) (by omega) (by omega)
      generalize crcOf q = m at *
      have L7 := Lib.hid (show q.length + (num 4 (m : Int)).length ≤ maxLen ∧ (q.length + (num 4 (m : Int)).length) * 1 ≤ 140737488355328 by have h1 := HL.out; have h2 := num_length 4 m; unfold maxLen; omega)
      go_wp2_with fail
      refine (rnum_calls (width := 4) (n := m) rfl hwf).mono ?_
      rintro e w6 ⟨u6, rfl, hu6, hb6⟩
      have HB6 := Lib.hid (HB3.out.trans (hb6.mono HB3.out.size))
      have HA6 := Lib.hid (Rep.acc_later HV.out hb6)
      have HU6 := Lib.hid (Rep.acc_fresh hu6)
      clear hu6 hb6
      go_wp2_with (refine wpList_spread_leaf (e := 5) (base := w.heap.size) (Q := fun _ => False) Rep.leaf_byte rfl _ _ 22 rfl (.int .u8 0) 1 1 Try.underlying22 info5 rfl (by decide) rfl _ q (by exact rfl) HA6.out _ (num 4 (m : Int)) (by exact rfl) HU6.out L7.out.1 L7.out.2 HB6.out.size ?_; intro v5 w7 hacc5 hgr5 hat5; rw [← HF.out] at hacc5; have HU5 := Lib.hid hacc5; have D5 := Lib.hid (Rep.acc_below HA6.out HB6.out hgr5 HB6.out.size); clear hacc5 hgr5 hat5)
      go_ret
      exact ⟨_, rfl, HU5.out, D5.out⟩

end Go.Proofs.Ytcfgckpjgihcgaa
/- Walks of a sealed sector's parts: a number laid at a place, the check sum; the nearest number. -/
namespace Go.Proofs.Ytcfgckpjgihcgaa
open Go.RowKit
open Extern.Stop (cell)

theorem cells_of (l : List UInt8) : (l.map fun x => Value.int .u8 (x.toNat : Int)) = l.map cell := rfl
/-- Block S holds the bytes L. -/
structure SecAt (w : World) (S : Nat) (t : TypeId) (L : List UInt8) : Prop where
  blk : w.heap[S]? = some (.cells (L.map cell).toArray t (0, 0))
  len : L.length = 512
theorem SecAt.lt {w : World} {S : Nat} {t : TypeId} {L : List UInt8} (h : SecAt w S t L) : S < w.heap.size := IsC.lt ⟨_, _, _, h.blk⟩
theorem SecAt.keep {w w' : World} {S : Nat} {t : TypeId} {L : List UInt8} (h : SecAt w S t L) (hk : w'.heap[S]? = w.heap[S]?) : SecAt w' S t L := ⟨hk.trans h.blk, h.len⟩
theorem SecAt.below {w w' : World} {S : Nat} {t : TypeId} {L : List UInt8} (h : SecAt w S t L) (hb : Below w.heap.size w w') : SecAt w' S t L := h.keep (hb.block S h.lt)
theorem SecAt.sl {w : World} {S : Nat} {t : TypeId} {L : List UInt8} (h : SecAt w S t L) {a n c : Nat} (hn : a + n ≤ 512) (hc : n ≤ c) (hm : c ≤ maxLen) :
    Rep.byte.list.val (fun b => b = S) w (.slice (some ⟨S, a, none⟩) n c) ((L.drop a).take n) := by
  have hl := h.len
  refine Rep.list_val (by rw [List.length_take, List.length_drop]; omega) hc hm ⟨_, Rep.byte_row _, fun _ => ⟨S, a, rfl, rfl, ⟨_, _, _, h.blk⟩, fun j u hj => ?_⟩⟩
  rw [cell_of_row _ _ _ _ _ _ h.blk, ← hj, cells_of]
  have hj' := (List.getElem?_eq_some_iff.1 hj).1
  rw [List.length_map, List.length_take, List.length_drop] at hj'
  simp only [List.getElem?_toArray, List.getElem?_map, List.getElem?_take, List.getElem?_drop]
  rw [if_pos (by omega)]

set_option maxRecDepth 100000 in
/-- seal.near -/
theorem near_calls {n high : Int} (h0 : 0 ≤ high) (w : World) :
    Calls Try.prog 288 #[.int .i64 n, .int .i64 high] w fun e w' => e = .returned (.int .i64 (near n high)) ∧ w' = w := by
  by_cases h1 : n < 0
  · have HF := Lib.hid (show near n high = 0 by unfold near; rw [if_pos h1])
    have h2 : n ≤ high := by omega
    go_enter Try.func288, Try.ntmps288
    go_wp2_with fail
    all_goals (go_ret; exact ⟨by rw [HF.out]; first | rfl | exact congrArg (fun i => Ending.returned (.int .i64 i)) (by omega), rfl⟩)
  · by_cases h2 : high < n
    · have HF := Lib.hid (show near n high = high by unfold near; rw [if_neg h1, if_pos h2])
      go_enter Try.func288, Try.ntmps288
      go_wp2_with fail
      all_goals (go_ret; exact ⟨by rw [HF.out]; first | rfl | exact congrArg (fun i => Ending.returned (.int .i64 i)) (by omega), rfl⟩)
    · have HF := Lib.hid (show near n high = n by unfold near; rw [if_neg h1, if_neg h2])
      go_enter Try.func288, Try.ntmps288
      go_wp2_with fail
      all_goals (go_ret; exact ⟨by rw [HF.out]; first | rfl | exact congrArg (fun i => Ending.returned (.int .i64 i)) (by omega), rfl⟩)
set_option maxRecDepth 100000 in
/-- ref03.near -/
theorem rnear_calls {n high : Int} (w : World) :
    Calls Try.prog 197 #[.int .i64 n, .int .i64 high] w fun e w' => e = .returned (.int .i64 (near n high)) ∧ w' = w := by
  by_cases h1 : n < 0
  · have HF := Lib.hid (show near n high = 0 by unfold near; rw [if_pos h1])
    go_enter Try.func197, Try.ntmps197
    go_wp2_with fail
    go_ret
    exact ⟨by rw [HF.out]; rfl, rfl⟩
  · by_cases h2 : high < n
    · have HF := Lib.hid (show near n high = high by unfold near; rw [if_neg h1, if_pos h2])
      go_enter Try.func197, Try.ntmps197
      go_wp2_with fail
      go_ret
      exact ⟨by rw [HF.out]; rfl, rfl⟩
    · have HF := Lib.hid (show near n high = n by unfold near; rw [if_neg h1, if_neg h2])
      go_enter Try.func197, Try.ntmps197
      go_wp2_with fail
      go_ret
      exact ⟨by rw [HF.out]; rfl, rfl⟩

theorem size5 : (Try.prog.info? 5).map (·.size) = some 1 := by kernel_rfl
theorem size_sector : (Try.prog.info? 315).map (·.size) = some 512 := by kernel_rfl
theorem zero_sector : (Try.prog.info? 315).map (fun i => (i.zero, i.size)) = some (some (.agg ((zeros 512).map cell).toArray), 512) := by kernel_rfl

theorem copy_from {Q : Nat → Prop} {w : World} {A : Option Addr} {c : Nat} {X : List UInt8} (h : Rep.byte.Sl Q w A c X) (h0 : 0 < (X.map cell).length) : ∃ ad, A = some ad ∧ ∀ j v, (X.map cell)[j]? = some v → w.cell? (ad.add j) = some v := by
  obtain ⟨_, _, es, h1, h2⟩ := h
  obtain ⟨b, off, hA, _, _, hc⟩ := h2 (by simpa using h0)
  refine ⟨_, hA, fun j v hj => ?_⟩
  rw [Addr.add_mid]
  exact hc j v (by rw [Rep.row_byte h1]; exact hj)
theorem copy_len {X : List UInt8} {a : Nat} (h : a + X.length ≤ 512) : (X.map cell).length = Nat.min X.length (512 - a) := by
  rw [List.length_map]; exact (Nat.min_eq_left (by omega)).symm
theorem copy_fit {w : World} {S a : Nat} {t : TypeId} {L X : List UInt8} (h : SecAt w S t L) (hw : a + X.length ≤ 512) : a + (X.map cell).length ≤ (L.map cell).length := by
  rw [List.length_map, List.length_map, h.len]; exact hw
theorem copy_one (X : List UInt8) : ∀ v ∈ X.map cell, v.oneCell' = true := by
  intro v hv
  obtain ⟨x, _, rfl⟩ := List.mem_map.1 hv
  rfl
theorem sec_copied {w w' : World} {S a : Nat} {t : TypeId} {L X : List UInt8} (h : SecAt w S t L) (hw : a + X.length ≤ 512) (hg : w'.heap[S]? = some (.cells (splice (L.map cell) a (X.map cell)).toArray t (0, 0))) : SecAt w' S t (splice L a X) :=
  ⟨by rw [hg, splice_map], by rw [length_splice _ _ _ (by rw [h.len]; exact hw)]; exact h.len⟩

set_option maxRecDepth 100000 in
set_option maxHeartbeats 1000000 in
/-- (*seal.sector).num -/
theorem secnum_calls {w : World} {S a : Nat} {t : TypeId} {L : List UInt8} {width n : Int} (h : SecAt w S t L) (ha : a < 512) (hw : a + (num width n).length ≤ 512) (hwf1 : (Lit.int .i64 width).wf = true) (hwf : (Lit.int .i64 n).wf = true) :
    Calls Try.prog 289 #[.pointer (some ⟨S, 0, none⟩), .int .i64 a, .int .i64 width, .int .i64 n] w fun e w' => e = .returned (.tuple #[]) ∧ SecAt w' S t (splice L a (num width n)) ∧ Below S w w' := by
  have H := Lib.hid h
  obtain ⟨X, hX⟩ : ∃ X, X = num width n := ⟨_, rfl⟩
  rw [← hX] at hw ⊢
  have HX := Lib.hid hX
  have HW := Lib.hid hw
  have HWF := Lib.hid hwf
  have HWF1 := Lib.hid hwf1
  have HZ := Lib.hid (show ∀ w : World, Rep.byte.list.val (fun _ => True) w (.slice none 0 0) ([] : List UInt8) from fun w => Rep.val_nil (by simp [maxLen]))
  clear h hX hw hwf hwf1
  have ha1 : (a : Int) ≤ 512 := by omega
  have ha2 : ¬ 512 = a := by omega
  go_enter Try.func289, Try.ntmps289
  go_wp2_with fail
  go_region_law (first
    | (go_simp; go_at_call 183; refine (put_calls (HZ.out _) (by simp) HWF1.out HWF.out).mono ?_; rintro e w1 ⟨u, rfl, hu, hb1⟩; rw [← HX.out, List.nil_append] at hu; obtain ⟨A5, c5, rfl, hs5⟩ := Rep.val_sl (Rep.acc_fresh hu); have CP := Lib.hid (copy_from hs5); have HB1 := Lib.hid (show Below S w w1 from (Below.refl S w).drew.trans (hb1.mono (Nat.le_of_lt H.out.lt))); have H1 := Lib.hid (show SecAt w1 S t L from H.out.keep (hb1.block _ H.out.lt)); clear hu hb1 hs5)
    | (refine step_copy_splice rfl (.tmp 11) (.tmp 14) 22 22 rfl 5 Try.underlying22 size5 (some ⟨S, a, none⟩) A5 (512 - a) (512 - a) X.length c5 (by exact rfl) (by exact rfl) S a (L.map cell) t H1.out.blk (X.map cell) (copy_len HW.out) (fun h => ⟨rfl, CP.out h⟩) (copy_fit H.out HW.out) (copy_one X) S w HB1.out (Nat.le_refl _) ?_; intro w4 hg4 hb4))
  go_wp2_with fail
  exact ⟨rfl, .tuple #[], by simp [results], rfl, sec_copied H1.out HW.out hg4.out, hb4⟩

/-- A slice of two slices. -/
theorem val_two {w : World} {S : Nat} {t : TypeId} {L : List UInt8} (h : SecAt w S t L) (t2 : TypeId) :
    Rep.byte.list.list.val (fun _ => True) (w.alloc (.cells #[.slice (some ⟨S, 0, none⟩) 16 512, .slice (some ⟨S, 20, none⟩) 492 492] t2)) (.slice (some ⟨w.heap.size, 0, none⟩) 2 2) [L.take 16, L.drop 20] := by
  have hn := heap_alloc_new w (.cells #[.slice (some ⟨S, 0, none⟩) 16 512, .slice (some ⟨S, 20, none⟩) 492 492] t2)
  have hl := h.len
  have h2 : SecAt (w.alloc (.cells #[.slice (some ⟨S, 0, none⟩) 16 512, .slice (some ⟨S, 20, none⟩) 492 492] t2)) S t L := h.keep (heap_alloc_old _ _ h.lt)
  have v1 := h2.sl (a := 0) (n := 16) (c := 512) (by omega) (by omega) (by simp [maxLen])
  have v2 := h2.sl (a := 20) (n := 492) (c := 492) (by omega) (by omega) (by simp [maxLen])
  rw [List.drop_zero] at v1
  rw [List.take_of_length_le (by rw [List.length_drop]; omega)] at v2
  obtain ⟨cs1, e1, r1⟩ := Rep.val_mono (Q' := fun _ => True) (fun _ _ _ => trivial) v1
  obtain ⟨cs2, e2, r2⟩ := Rep.val_mono (Q' := fun _ => True) (fun _ _ _ => trivial) v2
  have g1 : cs1 = [.slice (some ⟨S, 0, none⟩) 16 512] := by
    obtain ⟨A', c', es, rfl, _⟩ := r1
    have : Value.slice (some ⟨S, 0, none⟩) 16 512 = .slice A' _ c' := e1
    rw [this]
  have g2 : cs2 = [.slice (some ⟨S, 20, none⟩) 492 492] := by
    obtain ⟨A', c', es, rfl, _⟩ := r2
    have : Value.slice (some ⟨S, 20, none⟩) 492 492 = .slice A' _ c' := e2
    rw [this]
  subst g1 g2
  refine Rep.list_val rfl (Nat.le_refl _) (by simp [maxLen]) ⟨[.slice (some ⟨S, 0, none⟩) 16 512, .slice (some ⟨S, 20, none⟩) 492 492], ⟨[_], [_], rfl, r1, ⟨[_], [], rfl, r2, rfl⟩⟩, fun _ => ⟨w.heap.size, 0, rfl, trivial, ⟨_, _, _, hn⟩, ?_⟩⟩
  intro j u hj
  rw [cell_of_row _ _ _ _ _ _ hn, Nat.zero_add]
  simpa using hj

set_option maxRecDepth 100000 in
set_option maxHeartbeats 1000000 in
/-- (*seal.sector).sum -/
theorem secsum_calls {w : World} {S : Nat} {t : TypeId} {L : List UInt8} (h : SecAt w S t L) :
    Calls Try.prog 290 #[.pointer (some ⟨S, 0, none⟩)] w fun e w' => e = .returned (.int .i64 ((crcOf (L.take 16 ++ L.drop 20) : Nat) : Int)) ∧ Below w.heap.size w w' := by
  have H := Lib.hid (show SecAt w.drew S t L from h.keep rfl)
  have hwr := crc_i64 (L.take 16 ++ L.drop 20)
  have HE := Lib.hid (show [L.take 16, L.drop 20].flatten = L.take 16 ++ L.drop 20 by simp)
  clear h
  generalize L.take 16 ++ L.drop 20 = M at *
  go_enter Try.func290, Try.ntmps290
  go_wp2_with fail
  go_region_law (go_simp; go_at_call 273; refine (crcOf_calls (l := [L.take 16, L.drop 20]) (val_two H.out 22)).mono ?_; rintro e w1 ⟨rfl, hw⟩; rw [HE.out]; have HB1 := Lib.hid (show Below w.heap.size w w1 by rw [hw]; exact (Below.refl w.heap.size w).drew.alloc (Nat.le_refl _) _); clear hw)
  go_wp2_with fail
  go_ret
  exact ⟨by first | rfl | (rw [hwr]; rfl), HB1.out⟩
end Go.Proofs.Ytcfgckpjgihcgaa
/- Walks of a seal as0 a sector. -/
namespace Go.Proofs.Ytcfgckpjgihcgaa
open Go.RowKit
open Extern.Stop (cell)

/-- What stands while a sector is made: the seal in its box, the result's block. -/
structure SealBox (W : World) (B : Nat) (x : DSeal) (A : Option Addr) (c : Nat) : Prop where
  c0 : W.cell? ⟨B, 0, none⟩ = some (.int .i64 x.epoch)
  c1 : W.cell? ⟨B, 1, none⟩ = some (.int .i64 x.no)
  c2 : W.cell? ⟨B, 2, none⟩ = some (.int .i64 x.kind)
  c3 : W.cell? ⟨B, 3, none⟩ = some (.slice A x.body.length c)
  sl : Rep.byte.Sl (fun b => b < B) W A c x.body
theorem SealBox.later {W W' : World} {B : Nat} {x : DSeal} {A : Option Addr} {c : Nat} (h : SealBox W B x A c) (hb : Below (B + 1) W W') : SealBox W' B x A c :=
  ⟨(hb.cell (p := ⟨B, 0, none⟩) (Nat.lt_succ_self _)).trans h.c0, (hb.cell (p := ⟨B, 1, none⟩) (Nat.lt_succ_self _)).trans h.c1, (hb.cell (p := ⟨B, 2, none⟩) (Nat.lt_succ_self _)).trans h.c2,
   (hb.cell (p := ⟨B, 3, none⟩) (Nat.lt_succ_self _)).trans h.c3, h.sl.keep fun b hq _ => ⟨hq, hb.block b (by omega)⟩⟩
theorem SealBox.made {Q : Nat → Prop} {w : World} {x : DSeal} {A : Option Addr} {c : Nat} (h : Rep.byte.Sl Q w A c x.body) (t : TypeId) :
    SealBox (w.alloc (.cells #[.int .i64 x.epoch, .int .i64 x.no, .int .i64 x.kind, .slice A x.body.length c] t)) w.heap.size x A c :=
  ⟨by simp, by simp, by simp, by simp, h.keep fun _ _ hl => ⟨hl.lt, Below.heap_alloc _ _ _ hl.lt⟩⟩

set_option maxRecDepth 100000 in
set_option maxHeartbeats 2000000 in
/-- seal.made -/
theorem made_calls {Q : Nat → Prop} {w : World} {v : Value} {x : DSeal} (hx : rSeal.val Q w v x) :
    Calls Try.prog 258 #[v] w fun e w' => e = .returned (.agg ((sealBytes x).map cell).toArray) ∧ Below w.heap.size w w' := by
  obtain ⟨A, c, rfl, f0, f1, f2, hs⟩ := rSeal_val hx
  have hz := (zero_of_info zero_sector).1
  obtain ⟨Z, hZ⟩ : ∃ Z, Z = ((zeros 512).map cell).toArray := ⟨_, rfl⟩
  rw [← hZ] at hz
  have hsl := hs.1
  have hsm := hs.2.1
  unfold maxLen at hsm
  obtain ⟨W1, hW1⟩ : ∃ W1, w.alloc (.cells #[.int .i64 x.epoch, .int .i64 x.no, .int .i64 x.kind, .slice A x.body.length c] 258) = W1 := ⟨_, rfl⟩
  have hm : SealBox W1 w.heap.size x A c := by rw [← hW1]; exact SealBox.made hs _
  have hb1 : Below w.heap.size w W1 := by rw [← hW1]; exact (Below.refl _ _).alloc (Nat.le_refl _) _
  have hz1 : W1.heap.size = w.heap.size + 1 := by rw [← hW1]; simp
  obtain ⟨W2, hW2⟩ : ∃ W2, W1.alloc (.cells Z 315) = W2 := ⟨_, rfl⟩
  have hr2 : W2.heap[w.heap.size + 1]? = some (.cells Z 315 (0, 0)) := by rw [← hW2, ← hz1]; exact heap_alloc_new _ _
  have hb2 : Below (w.heap.size + 1) W1 W2 := by rw [← hW2]; exact (Below.refl _ _).alloc (Nat.le_of_eq hz1.symm) _
  have hz2 : W2.heap.size = w.heap.size + 1 + 1 := by rw [← hW2]; simp [hz1]
  obtain ⟨W3, hW3⟩ : ∃ W3, W2.alloc (.cells Z 315) = W3 := ⟨_, rfl⟩
  have hs3 : SecAt W3 (w.heap.size + 1 + 1) 315 (zeros 512) := ⟨by rw [← hW3, ← hZ, ← hz2]; exact heap_alloc_new _ _, zeros_length _⟩
  have hb3 : Below (w.heap.size + 1 + 1) W2 W3 := by rw [← hW3]; exact (Below.refl _ _).alloc (Nat.le_of_eq hz2.symm) _
  have hB3 : Below w.heap.size w W3 := hb1.trans ((hb2.mono (by omega)).trans (hb3.mono (by omega)))
  have KS := Lib.hid (show ∀ W, Below (w.heap.size + 1 + 1) W3 W → SealBox W w.heap.size x A c ∧ W.heap[w.heap.size + 1]? = some (.cells Z 315 (0, 0)) ∧ Below w.heap.size w W from fun W h =>
    ⟨((hm.later hb2).later (hb3.mono (by omega))).later (h.mono (by omega)),
     by rw [h.block _ (by omega), hb3.block _ (by omega)]; exact hr2, hB3.trans (h.mono (by omega))⟩)
  have HS3 := Lib.hid hs3
  have HZ := Lib.hid (show Z.size = 512 by rw [hZ]; simp [zeros_length])
  have k1 := near_le (n := x.epoch) (high := maxEpoch) (by decide)
  have k2 := near_le (n := x.no) (high := maxEpoch) (by decide)
  have k3 := near_le (n := x.kind) (high := 255) (by decide)
  have k4 := near_ge (n := x.epoch) (high := maxEpoch) (by decide)
  have k5 := near_ge (n := x.no) (high := maxEpoch) (by decide)
  have k6 := near_ge (n := x.kind) (high := 255) (by decide)
  have WE := Lib.hid (show (Lit.int .i64 (near x.epoch maxEpoch)).wf = true from wf_i64 (by omega) (by unfold maxEpoch at *; omega))
  have WN := Lib.hid (show (Lit.int .i64 (near x.no maxEpoch)).wf = true from wf_i64 (by omega) (by unfold maxEpoch at *; omega))
  have WK := Lib.hid (show (Lit.int .i64 (near x.kind 255)).wf = true from wf_i64 (by omega) (by omega))
  have WC := Lib.hid (show (Lit.int .i64 ((crcOf ((laid7 x).take 16 ++ (laid7 x).drop 20) : Nat) : Int)).wf = true from wf_i64 (by omega) (by have := crcOf_lt ((laid7 x).take 16 ++ (laid7 x).drop 20); omega))
  obtain ⟨c0, c1, c2, c3, _⟩ := (KS.out _ (Below.refl _ _)).1
  clear hx hs hm hr2 hb1 hb2 hb3 hB3 hs3 hZ k1 k2 k3 k4 k5 k6
  by_cases h472 : (x.body.length : Int) ≤ 472
  · have HY := Lib.hid (show (x.body.take 472).length = x.body.length by rw [List.length_take]; omega)
    have HM := Lib.hid (show x.body.length ≤ 472 by omega)
    have WM := Lib.hid (show (Lit.int .i64 ((x.body.length : Nat) : Int)).wf = true from wf_i64 (by omega) (by omega))
    go_enter Try.func258, Try.ntmps258
    go_wp2_with fail
    try rw [hW1]
    go_wp2_with fail
    try rw [hW2]
    go_wp2_with fail
    try rw [hW3]
    clear hW1 hW2 hW3 hz1 hz2
    go_quiet ((go_at_call 288; exact Calls.quiet_of_same (near_calls (by decide) _)))
    have H0 := Lib.hid (show SecAt (W3.drewN nq) (w.heap.size + 1 + 1) 315 (zeros 512) from HS3.out.keep rfl)
    have D00 := Lib.hid (show Below (w.heap.size + 1 + 1) W3 (W3.drewN nq) from below_drewN (Below.refl _ _) nq)
    have hc0 := KS.out _ D00.out
    clear c0 c1 c2 c3
    have KS4 := Lib.hid (show ∀ W, Below (w.heap.size + 1 + 1) (W3.drewN nq) W → SealBox W w.heap.size x A c ∧ W.heap[w.heap.size + 1]? = some (.cells Z 315 (0, 0)) ∧ Below w.heap.size w W from fun W h => KS.out _ (D00.out.trans h))
    clear KS D00
    generalize W3.drewN nq = W4 at *
    have KS := KS4
    have D0 := Lib.hid (Below.refl (w.heap.size + 1 + 1) W4)
    obtain ⟨c0, c1, c2, c3, _⟩ := hc0.1
    clear hc0 KS4 HS3
    go_wp2_with fail
    refine (secnum_calls (a := 0) (width := 8) (n := near x.epoch maxEpoch) H0.out (by decide) (by rw [num_len8]; decide) rfl WE.out).mono ?_
    rintro e w1 ⟨rfl, hs, hb⟩
    have H1 := Lib.hid (show SecAt w1 (w.heap.size + 1 + 1) 315 (laid1 x) from hs)
    have D1 := Lib.hid (D0.out.trans hb)
    clear hs hb c0 c1 c2 c3
    obtain ⟨c0, c1, c2, c3, _⟩ := (KS.out _ D1.out).1
    go_wp2_with fail
    refine (secnum_calls (a := 8) (width := 8) (n := near x.no maxEpoch) H1.out (by decide) (by rw [num_len8]; decide) rfl WN.out).mono ?_
    rintro e w2 ⟨rfl, hs, hb⟩
    have H2 := Lib.hid (show SecAt w2 (w.heap.size + 1 + 1) 315 (laid2 x) from hs)
    have D2 := Lib.hid (D1.out.trans hb)
    clear hs hb c0 c1 c2 c3
    obtain ⟨c0, c1, c2, c3, _⟩ := (KS.out _ D2.out).1
    go_wp2_with (go_at_call 288; refine (near_calls (by decide) _).mono ?_; rintro e w' ⟨rfl, hw⟩; have hw2 := hw.symm; subst hw2; clear hw)
    refine (secnum_calls (a := 20) (width := 1) (n := near x.kind 255) H2.out (by decide) (by rw [num_len1]; decide) rfl WK.out).mono ?_
    rintro e w3 ⟨rfl, hs, hb⟩
    have H3 := Lib.hid (show SecAt w3 (w.heap.size + 1 + 1) 315 (laid3 x) from hs)
    have D3 := Lib.hid (D2.out.trans hb)
    clear hs hb c0 c1 c2 c3
    obtain ⟨c0, c1, c2, c3, _⟩ := (KS.out _ D3.out).1
    go_wp2_with fail
    refine (secnum_calls (a := 22) (width := 2) (n := x.body.length) H3.out (by decide) (by rw [num_len2]; decide) rfl WM.out).mono ?_
    rintro e w4 ⟨rfl, hs, hb⟩
    have H4 := Lib.hid (show SecAt w4 (w.heap.size + 1 + 1) 315 (laid4 x) by unfold laid4; rw [HY.out]; exact hs)
    have D4 := Lib.hid (D3.out.trans hb)
    have HC := Lib.hid (copy_from (Q := fun b => b < w.heap.size) (X := x.body.take 472) (c := c) (by have := (KS.out _ D4.out).1.sl; exact ⟨by rw [List.length_take]; have := this.1; omega, this.2.1, this.2.2.take 472⟩))
    clear hs hb c0 c1 c2 c3
    go_wp2_with (refine wpList_copy_splice rfl (.tmp 31) (.tmp 32) 22 22 rfl 5 Try.underlying22 size5 (some ⟨w.heap.size + 1 + 1, 24, none⟩) A 488 488 x.body.length c (by exact rfl) (by exact rfl) (w.heap.size + 1 + 1) 24 ((laid4 x).map cell) 315 H4.out.blk ((x.body.take 472).map cell) (by rw [List.length_map, HY.out]; exact (Nat.min_eq_left (by have := HM.out; omega)).symm) (fun h => ⟨rfl, HC.out h⟩) (by have := HM.out; have := HY.out; have := H4.out.len; simp only [List.length_map]; omega) (copy_one _) (w.heap.size + 1 + 1) W4 D4.out (Nat.le_refl _) ?_; intro w5 hg5 hb5; have H5 := Lib.hid (show SecAt w5 (w.heap.size + 1 + 1) 315 (laid5 x) from sec_copied H4.out (by have := HM.out; have := HY.out; omega) hg5.out); have D5 := Lib.hid hb5; clear hg5 hb5)
    refine (secnum_calls (a := 496) (width := 8) (n := near x.no maxEpoch) H5.out (by decide) (by rw [num_len8]; decide) rfl WN.out).mono ?_
    rintro e w6 ⟨rfl, hs, hb⟩
    have H6 := Lib.hid (show SecAt w6 (w.heap.size + 1 + 1) 315 (laid6 x) from hs)
    have D6 := Lib.hid (D5.out.trans hb)
    clear hs hb
    go_wp2_with fail
    refine (secnum_calls (a := 504) (width := 8) (n := near x.epoch maxEpoch) H6.out (by decide) (by rw [num_len8]; decide) rfl WE.out).mono ?_
    rintro e w7 ⟨rfl, hs, hb⟩
    have H7 := Lib.hid (show SecAt w7 (w.heap.size + 1 + 1) 315 (laid7 x) from hs)
    have D7 := Lib.hid (D6.out.trans hb)
    clear hs hb
    go_wp2_with fail
    refine (secsum_calls H7.out).mono ?_
    rintro e w8 ⟨rfl, hb⟩
    have H8 := Lib.hid (H7.out.below hb)
    have D8 := Lib.hid (D7.out.trans (hb.mono (Nat.le_of_lt H7.out.lt)))
    clear hb
    go_wp2_with fail
    refine (secnum_calls (a := 16) (width := 4) (n := (crcOf ((laid7 x).take 16 ++ (laid7 x).drop 20) : Nat)) H8.out (by decide) (by rw [num_len4]; decide) rfl WC.out).mono ?_
    rintro e w9 ⟨rfl, hs, hb⟩
    have H9 := Lib.hid (show SecAt w9 (w.heap.size + 1 + 1) 315 (sealBytes x) by rw [← laid8_is]; exact hs)
    have D9 := Lib.hid (D8.out.trans hb)
    clear hs hb
    obtain ⟨C, hC⟩ : ∃ C, C = ((sealBytes x).map cell).toArray := ⟨_, rfl⟩
    have HC2 := Lib.hid hC
    have HCs := Lib.hid (show C.size = 512 by rw [hC]; simp [sealBytes_length])
    have HC1 := Lib.hid (show C.all (·.oneCell') = true by rw [hC, Array.all_eq_true_iff_forall_mem]; intro v hv; exact copy_one _ v (by simpa using hv))
    have HB9 := Lib.hid (show w9.heap[w.heap.size + 1 + 1]? = some (.cells C 315 (0, 0)) by rw [hC]; exact H9.out.blk)
    have HR9 := Lib.hid (KS.out _ D9.out).2.1
    clear hC
    go_wp2_with (first
      | (refine wpList_load_row rfl 315 (.tmp 3) rfl (w.heap.size + 1 + 1) rfl 315 C (0, 0) (.array 512 5) HB9.out Try.underlying315 rfl (by rw [HCs.out]; exact size_sector) ?_)
      | (refine wpList_store_row rfl 315 (.tmp 2) (.tmp 40) rfl (w.heap.size + 1) C rfl rfl 315 Z HR9.out (by rw [HCs.out]; exact size_sector) (by rw [HZ.out, HCs.out]) HC1.out ?_))
    refine ⟨rfl, .agg C, results_cell_row (p := 2) (ty := 315) rfl _ _ (w.heap.size + 1) 315 C (0, 0) (.array 512 5) rfl (setRow_heap _ _ _ _ _ _ HR9.out) Try.underlying315 rfl (by rw [HCs.out]; exact size_sector), by rw [HC2.out], below_setRow (KS.out _ D9.out).2.2 (Nat.le_succ _) _⟩
  · have HY := Lib.hid (show (x.body.take 472).length = 472 by rw [List.length_take]; omega)
    have HM := Lib.hid (show 472 ≤ 472 by omega)
    have WM := Lib.hid (show (Lit.int .i64 ((472 : Nat) : Int)).wf = true from wf_i64 (by omega) (by omega))
    have g472 : (472 : Int) < x.body.length := by omega
    have g473 : (472 : Int) ≤ c := by omega
    go_enter Try.func258, Try.ntmps258
    go_wp2_with fail
    try rw [hW1]
    go_wp2_with fail
    try rw [hW2]
    go_wp2_with fail
    try rw [hW3]
    clear hW1 hW2 hW3 hz1 hz2
    go_quiet ((go_at_call 288; exact Calls.quiet_of_same (near_calls (by decide) _)))
    have H0 := Lib.hid (show SecAt (W3.drewN nq) (w.heap.size + 1 + 1) 315 (zeros 512) from HS3.out.keep rfl)
    have D00 := Lib.hid (show Below (w.heap.size + 1 + 1) W3 (W3.drewN nq) from below_drewN (Below.refl _ _) nq)
    have hc0 := KS.out _ D00.out
    clear c0 c1 c2 c3
    have KS4 := Lib.hid (show ∀ W, Below (w.heap.size + 1 + 1) (W3.drewN nq) W → SealBox W w.heap.size x A c ∧ W.heap[w.heap.size + 1]? = some (.cells Z 315 (0, 0)) ∧ Below w.heap.size w W from fun W h => KS.out _ (D00.out.trans h))
    clear KS D00
    generalize W3.drewN nq = W4 at *
    have KS := KS4
    have D0 := Lib.hid (Below.refl (w.heap.size + 1 + 1) W4)
    obtain ⟨c0, c1, c2, c3, _⟩ := hc0.1
    clear hc0 KS4 HS3
    go_wp2_with fail
    refine (secnum_calls (a := 0) (width := 8) (n := near x.epoch maxEpoch) H0.out (by decide) (by rw [num_len8]; decide) rfl WE.out).mono ?_
    rintro e w1 ⟨rfl, hs, hb⟩
    have H1 := Lib.hid (show SecAt w1 (w.heap.size + 1 + 1) 315 (laid1 x) from hs)
    have D1 := Lib.hid (D0.out.trans hb)
    clear hs hb c0 c1 c2 c3
    obtain ⟨c0, c1, c2, c3, _⟩ := (KS.out _ D1.out).1
    go_wp2_with fail
    refine (secnum_calls (a := 8) (width := 8) (n := near x.no maxEpoch) H1.out (by decide) (by rw [num_len8]; decide) rfl WN.out).mono ?_
    rintro e w2 ⟨rfl, hs, hb⟩
    have H2 := Lib.hid (show SecAt w2 (w.heap.size + 1 + 1) 315 (laid2 x) from hs)
    have D2 := Lib.hid (D1.out.trans hb)
    clear hs hb c0 c1 c2 c3
    obtain ⟨c0, c1, c2, c3, _⟩ := (KS.out _ D2.out).1
    go_wp2_with (go_at_call 288; refine (near_calls (by decide) _).mono ?_; rintro e w' ⟨rfl, hw⟩; have hw2 := hw.symm; subst hw2; clear hw)
    refine (secnum_calls (a := 20) (width := 1) (n := near x.kind 255) H2.out (by decide) (by rw [num_len1]; decide) rfl WK.out).mono ?_
    rintro e w3 ⟨rfl, hs, hb⟩
    have H3 := Lib.hid (show SecAt w3 (w.heap.size + 1 + 1) 315 (laid3 x) from hs)
    have D3 := Lib.hid (D2.out.trans hb)
    clear hs hb c0 c1 c2 c3
    obtain ⟨c0, c1, c2, c3, _⟩ := (KS.out _ D3.out).1
    go_wp2_with fail
    refine (secnum_calls (a := 22) (width := 2) (n := 472) H3.out (by decide) (by rw [num_len2]; decide) rfl WM.out).mono ?_
    rintro e w4 ⟨rfl, hs, hb⟩
    have H4 := Lib.hid (show SecAt w4 (w.heap.size + 1 + 1) 315 (laid4 x) by unfold laid4; rw [HY.out]; exact hs)
    have D4 := Lib.hid (D3.out.trans hb)
    have HC := Lib.hid (copy_from (Q := fun b => b < w.heap.size) (X := x.body.take 472) (c := c) (by have := (KS.out _ D4.out).1.sl; exact ⟨by rw [List.length_take]; have := this.1; omega, this.2.1, this.2.2.take 472⟩))
    clear hs hb c0 c1 c2 c3
    go_wp2_with (refine wpList_copy_splice rfl (.tmp 31) (.tmp 32) 22 22 rfl 5 Try.underlying22 size5 (some ⟨w.heap.size + 1 + 1, 24, none⟩) A 488 488 472 c (by exact rfl) (by exact rfl) (w.heap.size + 1 + 1) 24 ((laid4 x).map cell) 315 H4.out.blk ((x.body.take 472).map cell) (by rw [List.length_map, HY.out]; exact (Nat.min_eq_left (by have := HM.out; omega)).symm) (fun h => ⟨rfl, HC.out h⟩) (by have := HM.out; have := HY.out; have := H4.out.len; simp only [List.length_map]; omega) (copy_one _) (w.heap.size + 1 + 1) W4 D4.out (Nat.le_refl _) ?_; intro w5 hg5 hb5; have H5 := Lib.hid (show SecAt w5 (w.heap.size + 1 + 1) 315 (laid5 x) from sec_copied H4.out (by have := HM.out; have := HY.out; omega) hg5.out); have D5 := Lib.hid hb5; clear hg5 hb5)
    refine (secnum_calls (a := 496) (width := 8) (n := near x.no maxEpoch) H5.out (by decide) (by rw [num_len8]; decide) rfl WN.out).mono ?_
    rintro e w6 ⟨rfl, hs, hb⟩
    have H6 := Lib.hid (show SecAt w6 (w.heap.size + 1 + 1) 315 (laid6 x) from hs)
    have D6 := Lib.hid (D5.out.trans hb)
    clear hs hb
    go_wp2_with fail
    refine (secnum_calls (a := 504) (width := 8) (n := near x.epoch maxEpoch) H6.out (by decide) (by rw [num_len8]; decide) rfl WE.out).mono ?_
    rintro e w7 ⟨rfl, hs, hb⟩
    have H7 := Lib.hid (show SecAt w7 (w.heap.size + 1 + 1) 315 (laid7 x) from hs)
    have D7 := Lib.hid (D6.out.trans hb)
    clear hs hb
    go_wp2_with fail
    refine (secsum_calls H7.out).mono ?_
    rintro e w8 ⟨rfl, hb⟩
    have H8 := Lib.hid (H7.out.below hb)
    have D8 := Lib.hid (D7.out.trans (hb.mono (Nat.le_of_lt H7.out.lt)))
    clear hb
    go_wp2_with fail
    refine (secnum_calls (a := 16) (width := 4) (n := (crcOf ((laid7 x).take 16 ++ (laid7 x).drop 20) : Nat)) H8.out (by decide) (by rw [num_len4]; decide) rfl WC.out).mono ?_
    rintro e w9 ⟨rfl, hs, hb⟩
    have H9 := Lib.hid (show SecAt w9 (w.heap.size + 1 + 1) 315 (sealBytes x) by rw [← laid8_is]; exact hs)
    have D9 := Lib.hid (D8.out.trans hb)
    clear hs hb
    obtain ⟨C, hC⟩ : ∃ C, C = ((sealBytes x).map cell).toArray := ⟨_, rfl⟩
    have HC2 := Lib.hid hC
    have HCs := Lib.hid (show C.size = 512 by rw [hC]; simp [sealBytes_length])
    have HC1 := Lib.hid (show C.all (·.oneCell') = true by rw [hC, Array.all_eq_true_iff_forall_mem]; intro v hv; exact copy_one _ v (by simpa using hv))
    have HB9 := Lib.hid (show w9.heap[w.heap.size + 1 + 1]? = some (.cells C 315 (0, 0)) by rw [hC]; exact H9.out.blk)
    have HR9 := Lib.hid (KS.out _ D9.out).2.1
    clear hC
    go_wp2_with (first
      | (refine wpList_load_row rfl 315 (.tmp 3) rfl (w.heap.size + 1 + 1) rfl 315 C (0, 0) (.array 512 5) HB9.out Try.underlying315 rfl (by rw [HCs.out]; exact size_sector) ?_)
      | (refine wpList_store_row rfl 315 (.tmp 2) (.tmp 40) rfl (w.heap.size + 1) C rfl rfl 315 Z HR9.out (by rw [HCs.out]; exact size_sector) (by rw [HZ.out, HCs.out]) HC1.out ?_))
    refine ⟨rfl, .agg C, results_cell_row (p := 2) (ty := 315) rfl _ _ (w.heap.size + 1) 315 C (0, 0) (.array 512 5) rfl (setRow_heap _ _ _ _ _ _ HR9.out) Try.underlying315 rfl (by rw [HCs.out]; exact size_sector), by rw [HC2.out], below_setRow (KS.out _ D9.out).2.2 (Nat.le_succ _) _⟩

set_option maxRecDepth 100000 in
set_option maxHeartbeats 2000000 in
/-- seal.Put -/
theorem sealPut_calls {Q : Nat → Prop} {w : World} {v : Value} {x : DSeal} (hx : rSeal.val Q w v x) :
    Calls Try.prog 199 #[v] w (Res Rep.byte.list (fun b => w.heap.size ≤ b) w (sealBytes x)) := by
  obtain ⟨A, c, rfl, f0, f1, f2, hs⟩ := rSeal_val hx
  have hz := (zero_of_info zero_sector).1
  obtain ⟨Z, hZ⟩ : ∃ Z, Z = ((zeros 512).map cell).toArray := ⟨_, rfl⟩
  rw [← hZ] at hz
  obtain ⟨W1, hW1⟩ : ∃ W1, w.alloc (.cells #[.int .i64 x.epoch, .int .i64 x.no, .int .i64 x.kind, .slice A x.body.length c] 258) = W1 := ⟨_, rfl⟩
  have hm : SealBox W1 w.heap.size x A c := by rw [← hW1]; exact SealBox.made hs _
  have hb1 : Below w.heap.size w W1 := by rw [← hW1]; exact (Below.refl _ _).alloc (Nat.le_refl _) _
  obtain ⟨c0, c1, c2, c3, sl⟩ := hm
  have HV := Lib.hid (rSeal_agg f0 f1 f2 sl)
  have HB1 := Lib.hid hb1
  have HZ := Lib.hid (show Z.size = 512 by rw [hZ]; simp [zeros_length])
  obtain ⟨C, hC⟩ : ∃ C, C = ((sealBytes x).map cell).toArray := ⟨_, rfl⟩
  have HC2 := Lib.hid hC
  have HCs := Lib.hid (show C.size = 512 by rw [hC]; simp [sealBytes_length])
  have HC1 := Lib.hid (show C.all (·.oneCell') = true by rw [hC, Array.all_eq_true_iff_forall_mem]; intro v hv; exact copy_one _ v (by simpa using hv))
  clear hx hs hb1 hZ hC
  go_enter Try.func199, Try.ntmps199
  go_wp2_with fail
  try rw [hW1]
  clear hW1
  go_wp2_with fail
  refine (made_calls HV.out).mono ?_
  rintro e w2 ⟨rfl, hb⟩
  rw [← HC2.out]
  have HB2 := Lib.hid (HB1.out.trans (hb.mono HB1.out.size))
  have HN := Lib.hid (heap_alloc_new w2 (.cells Z 315))
  have HB3 := Lib.hid (HB2.out.alloc HB2.out.size (.cells Z 315))
  clear hb c0 c1 c2 c3
  go_wp2_with (refine wpList_store_row rfl 315 (.tmp 3) (.tmp 5) rfl w2.heap.size C rfl rfl 315 Z HN.out (by rw [HCs.out]; exact size_sector) (by rw [HZ.out, HCs.out]) HC1.out ?_)
  go_ret
  have HS : SecAt ((w2.alloc (.cells Z 315)).setRow w2.heap.size C) w2.heap.size 315 (sealBytes x) := ⟨by rw [← HC2.out]; exact setRow_heap _ _ _ _ _ _ HN.out, sealBytes_length x⟩
  have hv := HS.sl (a := 0) (n := 512) (c := 512) (by omega) (by omega) (by simp [maxLen])
  rw [List.drop_zero, List.take_of_length_le (by rw [sealBytes_length]; omega)] at hv
  exact ⟨_, rfl, Rep.val_mono (fun b hb _ => by have : b = w2.heap.size := hb; rw [this]; exact HB2.out.size) hv, below_setRow HB3.out HB2.out.size _⟩
end Go.Proofs.Ytcfgckpjgihcgaa
/- Walks of bytes cut to a length (the reference's) and of a reader's next bytes. -/
namespace Go.Proofs.Ytcfgckpjgihcgaa
open Go.RowKit

theorem cutTo_in {l : List UInt8} {k : Nat} (h : k < l.length) : cutTo l (k + 1) = cutTo l k ++ [l[k]] := by
  unfold cutTo
  rw [List.take_succ_eq_append_getElem h, show k + 1 - l.length = 0 by omega, show k - l.length = 0 by omega]; simp
theorem cutTo_out {l : List UInt8} {k : Nat} (h : l.length ≤ k) : cutTo l (k + 1) = cutTo l k ++ [0] := by
  unfold cutTo
  rw [List.take_of_length_le (by omega), List.take_of_length_le h, show k + 1 - l.length = (k - l.length) + 1 by omega, List.replicate_succ', List.append_assoc]

set_option maxRecDepth 100000 in
set_option maxHeartbeats 1000000 in
/-- ref01.Cut -/
theorem rcutTo_calls {Q : Nat → Prop} {w : World} {v : Value} {l : List UInt8} {n : Nat} (hx : Rep.byte.list.val Q w v l) (hn : n ≤ 65535) :
    Calls Try.prog 165 #[v, .int .i64 n] w (ResA Rep.byte 5 w (cutTo l n)) := by
  obtain ⟨A, c, rfl, hc1, hc2, hA⟩ := Rep.val_list hx
  unfold maxLen at hc2
  have HA := Lib.hid hA
  have h65 : (n : Int) ≤ 65535 := by omega
  clear hx hA
  go_enter Try.func165, Try.ntmps165
  go_wp2_with fail
  go_loopw [5, 6] (fun s i wr => ∃ k : Nat, i = .int .i64 k ∧ k ≤ n ∧ Rep.byte.acc 5 w.heap.size (fun _ => False) wr s (cutTo l k) ∧ Below w.heap.size w wr)
    (fun _ i _ => n - (intOf i).toNat)
  case atStart => exact ⟨0, rfl, by omega, by simpa [cutTo] using Rep.acc_nil, Below.refl _ _⟩
  case round =>
    obtain ⟨k, rfl, hk, hv, hb1⟩ := hrel
    have HB1 := Lib.hid hb1
    have HL := Lib.hid (cutTo_length l k)
    have HL2 := Lib.hid (show (cutTo l k).length + 1 ≤ maxLen ∧ ((cutTo l k).length + 1) * 1 ≤ 140737488355328 by rw [HL.out]; unfold maxLen; omega)
    by_cases hlt : (k : Int) < n
    · by_cases hin : (k : Int) < l.length
      · have hk' : k < l.length := by omega
        obtain ⟨b, off, rfl, d0⟩ := Rep.At.byte (Rep.At.keep (w := w) (Q' := fun _ => True) (fun b _ hb => ⟨trivial, hb1.block b hb.lt⟩) HA.out) (List.getElem?_eq_getElem hk')
        have T := Lib.hid (cutTo_in hk')
        generalize l[k] = x at *
        generalize cutTo l k = q at *
        have HV := Lib.hid hv
        clear hv hb1
        go_wp2_with (refine wpList_snoc (e := 5) (base := w.heap.size) (Q := fun _ => False) (r := Rep.byte) rfl rfl _ _ 22 _ rfl rfl rfl (.int .u8 0) 1 1 Try.underlying22 info5 rfl (by decide) rfl _ _ HV.out x _ (by exact rfl) ⟨_, rfl, rfl⟩ (by exact rfl) (by exact rfl) HL2.out.1 HL2.out.2 HB1.out.size ?_; intro v5 w5 hacc5 hgr5 hat5; rw [← T.out] at hacc5; have HU5 := Lib.hid hacc5; have D5 := Lib.hid (Rep.acc_below HV.out HB1.out hgr5 HB1.out.size); clear hacc5 hgr5 hat5)
        exact ⟨⟨k + 1, by go_num, by omega, HU5.out, D5.out⟩, by simp [intOf]; omega⟩
      · have T := Lib.hid (cutTo_out (l := l) (k := k) (by omega))
        generalize cutTo l k = q at *
        have HV := Lib.hid hv
        clear hv hb1
        go_wp2_with (refine wpList_snoc (e := 5) (base := w.heap.size) (Q := fun _ => False) (r := Rep.byte) rfl rfl _ _ 22 _ rfl rfl rfl (.int .u8 0) 1 1 Try.underlying22 info5 rfl (by decide) rfl _ _ HV.out (0 : UInt8) _ (by exact rfl) lit0 (by exact rfl) (by exact rfl) HL2.out.1 HL2.out.2 HB1.out.size ?_; intro v5 w5 hacc5 hgr5 hat5; rw [← T.out] at hacc5; have HU5 := Lib.hid hacc5; have D5 := Lib.hid (Rep.acc_below HV.out HB1.out hgr5 HB1.out.size); clear hacc5 hgr5 hat5)
        exact ⟨⟨k + 1, by go_num, by omega, HU5.out, D5.out⟩, by simp [intOf]; omega⟩
    · obtain rfl : k = n := by omega
      generalize cutTo l k = q at *
      have HV := Lib.hid hv
      clear hv hb1
      go_wp2_with fail
      go_ret
      exact ⟨_, rfl, HV.out, HB1.out⟩

/-- What the next bytes are, where the reader is then, and whether something was not there. -/
def rdBytes (b : List UInt8) (at_ : Nat) (bad : Bool) (n : Int) : List UInt8 × Nat × Bool :=
  if bad then ([], at_, true) else if n < 0 then ([], at_, false) else if (b.length : Int) - at_ < n then ([], at_, true) else ((b.drop at_).take n.toNat, at_ + n.toNat, false)
def BytesRes (w : World) (p : Nat) (A : Option Addr) (c : Nat) (b : List UInt8) (r : List UInt8 × Nat × Bool) (e : Ending) (w' : World) : Prop :=
  ∃ u, e = .returned u ∧ Rep.byte.list.val (fun x => w.heap.size ≤ x) w' u r.1 ∧ RdrAt w' p A c b r.2.1 r.2.2 ∧ w.grownBy w' (some p)
theorem grownBy_below {w w' : World} (h : Below w.heap.size w w') (row : Option Nat) : w.grownBy w' row := ⟨h.os, h.tape, h.output, h.size, fun k hk _ => h.block k hk⟩

set_option maxRecDepth 100000 in
set_option maxHeartbeats 1000000 in
/-- (*le.Reader).Bytes -/
theorem rdbytes_calls {w : World} {p : Nat} {A : Option Addr} {c : Nat} {b : List UInt8} {at_ : Nat} {bad : Bool} {n : Int} (h : RdrAt w p A c b at_ bad) (hb : b.length ≤ 1000000000) :
    Calls Try.prog 257 #[.pointer (some ⟨p, 0, none⟩), .int .i64 n] w (BytesRes w p A c b (rdBytes b at_ bad n)) := by
  have H := Lib.hid h
  have HBL := Lib.hid hb
  have hle := h.le
  have c0 := h.c0
  have c1 := h.c1
  have c2 := h.c2
  have z1 := h.z 1
  have z2 := h.z 2
  have HZ := Lib.hid (show ∀ w' : World, Rep.byte.list.val (fun x => w.heap.size ≤ x) w' (.slice none 0 0) ([] : List UInt8) from fun w => Rep.val_nil (by simp [maxLen]))
  clear h
  cases bad with
  | true =>
    have R := Lib.hid (show rdBytes b at_ true n = ([], at_, true) from rfl)
    go_enter Try.func257, Try.ntmps257
    go_wp2_with (go_at_call 192; refine (ok_calls H.out).mono ?_; rintro e w' ⟨rfl, rfl⟩)
    go_ret
    rw [R.out]
    exact ⟨_, rfl, HZ.out _, H.out, World.grownBy.refl _ _⟩
  | false =>
    by_cases hn : n < 0
    · have R := Lib.hid (show rdBytes b at_ false n = ([], at_, false) by unfold rdBytes; rw [if_pos hn]; rfl)
      go_enter Try.func257, Try.ntmps257
      go_wp2_with (go_at_call 192; refine (ok_calls H.out).mono ?_; rintro e w' ⟨rfl, rfl⟩)
      go_ret
      rw [R.out]
      exact ⟨_, rfl, HZ.out _, H.out, World.grownBy.refl _ _⟩
    · by_cases hlo : (b.length : Int) - at_ < n
      · have R := Lib.hid (show rdBytes b at_ false n = ([], at_, true) by unfold rdBytes; rw [if_neg hn, if_pos hlo]; rfl)
        go_enter Try.func257, Try.ntmps257
        go_wp2_with (first
          | (go_at_call 192; refine (ok_calls H.out).mono ?_; rintro e w' ⟨rfl, rfl⟩)
          | (go_at_call 193; refine (left_calls H.out HBL.out).mono ?_; rintro e w' ⟨rfl, nq, rfl⟩))
        go_ret
        rw [R.out]
        have hg := grownBy_drewN w' nq (some p)
        have h1 : RdrAt (w'.drewN nq) p A c b at_ false := H.out.drewN nq
        generalize w'.drewN nq = W at *
        exact ⟨_, rfl, HZ.out _, setBad h1, hg.trans (grownBy_setCell _ _ _)⟩
      · obtain ⟨m, rfl⟩ : ∃ m : Nat, n = m := ⟨n.toNat, by omega⟩
        have R := Lib.hid (show rdBytes b at_ false m = ((b.drop at_).take m, at_ + m, false) by unfold rdBytes; rw [if_neg hn, if_neg hlo]; rfl)
        go_enter Try.func257, Try.ntmps257
        go_wp2_with (first
          | (go_at_call 192; refine (ok_calls H.out).mono ?_; rintro e w' ⟨rfl, rfl⟩)
          | (go_at_call 193; refine (left_calls H.out HBL.out).mono ?_; rintro e w' ⟨rfl, nq, rfl⟩))
        have hd1 : RdrAt (w'.drewN nq) p A c b at_ false := H.out.drewN nq
        have hg := Lib.hid (grownBy_drewN w' nq (some p))
        have HSZ := Lib.hid (show (w'.drewN nq).heap.size = w'.heap.size from rfl)
        generalize w'.drewN nq = W at *
        have hm1 : (m : Int) ≤ (b.length : Int) - at_ := by omega
        have hs := hd1.sl
        have hs1 := hs.1
        have hs2 := hs.2.1
        unfold maxLen at hs2
        have hlt := hd1.lt
        have KS := Lib.hid (show ∀ W', Below W.heap.size W W' → RdrAt W' p A c b at_ false from fun W' hb => ⟨(hb.block p hlt).trans hd1.blk, hd1.sl.keep fun x hx _ => ⟨hx, hb.block x (by omega)⟩, hd1.le⟩)
        have hbl := HBL.out
        have g0 : (0 : Int) ≤ at_ + m := by omega
        have g1 : (at_ : Int) + m ≤ c := by omega
        have g2 : (at_ : Int) ≤ at_ + m := by omega
        have g3 : IntKind.i64.wrap ((at_ : Int) + m) = (at_ : Int) + m := IntWalk.i64_in _ ⟨by omega, by omega⟩
        clear hs2
        by_cases h0 : m = 0
        · subst h0
          have g5 : (at_ : Int) ≤ c := by omega
          have g6 : IntKind.i64.wrap (at_ : Int) = (at_ : Int) := IntWalk.i64_in _ ⟨by omega, by omega⟩
          clear g0 g1 g2 g3
          have HE := Lib.hid (show (b.drop at_).take 0 = [] by simp)
          have HVN := Lib.hid (show ∀ W', Rep.byte.list.val (fun _ => True) W' (.slice A 0 0) ([] : List UInt8) from fun W' => Rep.list_val rfl (Nat.le_refl _) (by simp [maxLen]) ⟨[], rfl, fun h => absurd h (by simp)⟩)
          go_region_held3 (fun W => W.cell? ⟨p, 0, none⟩ = some (.slice A b.length c) ∧ W.cell? ⟨p, 1, none⟩ = some (.int .i64 at_))
            (first
              | exact ⟨(KS.out _ (Below.refl _ _).drew).c0, (KS.out _ (Below.refl _ _).drew).c1⟩
              | exact ⟨(KS.out _ D1.out).c0, (KS.out _ D1.out).c1⟩)
            ((go_at_call 173; refine (sliceClone (HVN.out W.drew) (by simp)).mono ?_; rintro e w1 ⟨u1, rfl, hu1, hb1⟩; have D1 := Lib.hid ((Below.refl W.heap.size W).drew.trans hb1); have HU1 := Lib.hid (Rep.acc_fresh hu1); clear hu1 hb1))
          have q0 := (KS.out _ D1.out).c0
          have q1 := (KS.out _ D1.out).c1
          have y1 := (KS.out _ D1.out).z 1
          go_wp2_with fail
          go_ret
          rw [R.out, HE.out]
          have hk := Lib.hid (setAt (at2 := at_ + 0) (KS.out _ D1.out) (by omega))
          exact ⟨_, rfl, Rep.val_keep (fun x hx _ => ⟨by have := HSZ.out; have hx' : W.heap.size ≤ x := hx; omega, Below.heap_setCell _ _ _ _ (by have hx' : W.heap.size ≤ x := hx; show x ≠ p; omega)⟩) HU1.out, hk.out, hg.out.trans ((grownBy_below D1.out (some p)).trans (grownBy_setCell _ _ _))⟩
        · obtain ⟨bb, off, hA⟩ := Rep.At.addr hs.2.2 (by omega)
          subst hA
          have hm0 : ¬ ((at_ : Int) + m).toNat = at_ := by omega
          have g4 : ((at_ : Int) + m).toNat - at_ = m := by omega
          have HVN := Lib.hid (show ∀ W', Below W.heap.size W W' → Rep.byte.list.val (fun x => x < p) W' (.slice (some ⟨bb, off + at_, none⟩) m m) ((b.drop at_).take m) from fun W' hb =>
            Rep.list_val (by rw [List.length_take, List.length_drop]; omega) (Nat.le_refl _) (by unfold maxLen; omega) (Rep.At.take (by have := Rep.At.drop ((KS.out W' hb).sl.2.2) (n := at_) hle; simpa [Rep.byte] using this) m))
          have HLN := Lib.hid (show ((b.drop at_).take m).length ≤ 100000000000000 by rw [List.length_take]; omega)
          generalize (b.drop at_).take m = X at *
          go_region_held3 (fun W => W.cell? ⟨p, 0, none⟩ = some (.slice (some ⟨bb, off, none⟩) b.length c) ∧ W.cell? ⟨p, 1, none⟩ = some (.int .i64 at_))
            (first
              | exact ⟨(KS.out _ (Below.refl _ _).drew).c0, (KS.out _ (Below.refl _ _).drew).c1⟩
              | exact ⟨(KS.out _ D1.out).c0, (KS.out _ D1.out).c1⟩)
            ((go_at_call 173; refine (sliceClone (HVN.out _ (Below.refl _ _).drew) HLN.out).mono ?_; rintro e w1 ⟨u1, rfl, hu1, hb1⟩; have D1 := Lib.hid ((Below.refl W.heap.size W).drew.trans hb1); have HU1 := Lib.hid (Rep.acc_fresh hu1); clear hu1 hb1))
          have q0 := (KS.out _ D1.out).c0
          have q1 := (KS.out _ D1.out).c1
          have y1 := (KS.out _ D1.out).z 1
          go_wp2_with fail
          go_ret
          rw [R.out]
          have hk := Lib.hid (setAt (at2 := at_ + m) (KS.out _ D1.out) (by omega))
          exact ⟨_, rfl, Rep.val_keep (fun x hx _ => ⟨by have := HSZ.out; have hx' : W.heap.size ≤ x := hx; omega, Below.heap_setCell _ _ _ _ (by have hx' : W.heap.size ≤ x := hx; show x ≠ p; omega)⟩) HU1.out, hk.out, hg.out.trans ((grownBy_below D1.out (some p)).trans (grownBy_setCell _ _ _))⟩
end Go.Proofs.Ytcfgckpjgihcgaa
/- Walk of the reference's directory as0 bytes. -/
namespace Go.Proofs.Ytcfgckpjgihcgaa
open Go.RowKit

set_option maxRecDepth 100000 in
set_option maxHeartbeats 1000000 in
/-- ref25.Bytes -/
theorem rdput_calls {Q : Nat → Prop} {w : World} {v : Value} {l : List DEntry} (hx : rEntry.list.val Q w v l) (hb : (dirBytes l).length ≤ 100000000) (hn : l.length ≤ 100000000) :
    Calls Try.prog 95 #[v] w (ResA Rep.byte 5 w (dirBytes l)) := by
  obtain ⟨A, c, rfl, hc1, hc2, hA⟩ := Rep.val_list hx
  unfold maxLen at hc2
  have HX := Lib.hid hA
  have HBL := Lib.hid hb
  have HN := wf_i64 (n := (l.length : Int)) (by omega) (by omega)
  clear hx hA hb
  go_enter Try.func95, Try.ntmps95
  go_wp2_with fail
  refine (rnum_calls (width := 2) (n := l.length) rfl HN).mono ?_
  rintro e w1 ⟨u, rfl, hu, hb1⟩
  have HU := Lib.hid hu
  have B1 := Lib.hid hb1
  clear hu hb1
  go_wp2_with fail
  go_loopw [3, 4] (fun s i wr => ∃ k : Nat, i = .int .i64 k ∧ k ≤ l.length ∧ Rep.byte.acc 5 w.heap.size (fun _ => False) wr s (num 2 l.length ++ ((l.take k).map entBytes).flatten) ∧ Below w.heap.size w wr)
    (fun _ i _ => l.length - (intOf i).toNat)
  case atStart => exact ⟨0, rfl, by omega, by simpa using HU.out, B1.out⟩
  case round =>
    obtain ⟨k, rfl, hk, hv, hb1⟩ := hrel
    have HB1 := Lib.hid hb1
    by_cases hlt : (k : Int) < l.length
    · have hk' : k < l.length := by omega
      have hAw : rEntry.At (fun b => b < w.heap.size) wr A l := Rep.At.keep (w := w) (fun b _ hb => ⟨hb.lt, hb1.block b hb.lt⟩) HX.out
      obtain ⟨b, off, Ap, cp, rfl, hbc, cx0, cx1, cx2, cx3, cx4, g0, g1, g2, g3, hs⟩ := rEntry_at hAw (List.getElem?_eq_getElem hk')
      have hbw : b < w.heap.size := by
        obtain ⟨b', o', es, he, hq, _⟩ := hAw.get (List.getElem?_eq_getElem hk')
        cases he; exact hq
      have T := Lib.hid (show num 2 l.length ++ ((l.take (k + 1)).map entBytes).flatten = (num 2 l.length ++ ((l.take k).map entBytes).flatten) ++ entBytes l[k] by
        rw [take_flatten_succ entBytes hk']; simp only [List.append_assoc])
      have L := Lib.hid (show (num 2 l.length ++ ((l.take k).map entBytes).flatten).length + (entBytes l[k]).length ≤ 100000000 from Nat.le_trans (dirBytes_prefix hk') HBL.out)
      generalize l[k] = x at *
      generalize num 2 l.length ++ ((l.take k).map entBytes).flatten = q at hv T L
      have HS := Lib.hid hs
      have hsl := hs.1
      have hsm := hs.2.1
      unfold maxLen at hsm
      have gl := wf_i64 (n := (x.pages.length : Int)) (by omega) (by omega)
      have gw := wrap64_wf x.key.sig
      have LE := Lib.hid (entBytes_prefix x)
      have KS := Lib.hid (show ∀ w', Below w.heap.size wr w' → w'.cell? ⟨b, off + k * 5, none⟩ = some (.int .i64 x.key.kind) ∧ w'.cell? ⟨b, off + k * 5 + 1, none⟩ = some (.int .u64 x.key.sig) ∧ w'.cell? ⟨b, off + k * 5 + 2, none⟩ = some (.int .i64 x.key.comp) ∧ w'.cell? ⟨b, off + k * 5 + 3, none⟩ = some (.int .i64 x.long) ∧ w'.cell? ⟨b, off + k * 5 + 4, none⟩ = some (.slice Ap x.pages.length cp) from
        fun w' h => ⟨(h.cell (p := ⟨b, off + k * 5, none⟩) hbw).trans cx0, (h.cell (p := ⟨b, off + k * 5 + 1, none⟩) hbw).trans cx1, (h.cell (p := ⟨b, off + k * 5 + 2, none⟩) hbw).trans cx2, (h.cell (p := ⟨b, off + k * 5 + 3, none⟩) hbw).trans cx3, (h.cell (p := ⟨b, off + k * 5 + 4, none⟩) hbw).trans cx4⟩)
      have LQ := Lib.hid (show q.length + (entHead x).length ≤ 100000000 by have := L.out; have := LE.out 0; omega)
      have HV := Lib.hid hv
      clear hv hb1 hAw hs
      obtain ⟨q1, hq1⟩ : ∃ z, z = q ++ num 1 x.key.kind := ⟨_, rfl⟩
      have hl1 : q1.length = q.length + (num 1 x.key.kind).length := by rw [hq1, List.length_append]
      obtain ⟨q2, hq2⟩ : ∃ z, z = q1 ++ num 8 (wrap64 x.key.sig) := ⟨_, rfl⟩
      have hl2 : q2.length = q1.length + (num 8 (wrap64 x.key.sig)).length := by rw [hq2, List.length_append]
      obtain ⟨q3, hq3⟩ : ∃ z, z = q2 ++ num 1 x.key.comp := ⟨_, rfl⟩
      have hl3 : q3.length = q2.length + (num 1 x.key.comp).length := by rw [hq3, List.length_append]
      obtain ⟨q4, hq4⟩ : ∃ z, z = q3 ++ num 4 x.long := ⟨_, rfl⟩
      have hl4 : q4.length = q3.length + (num 4 x.long).length := by rw [hq4, List.length_append]
      obtain ⟨q5, hq5⟩ : ∃ z, z = q4 ++ num 2 x.pages.length := ⟨_, rfl⟩
      have hl5 : q5.length = q4.length + (num 2 x.pages.length).length := by rw [hq5, List.length_append]
      have HLS := Lib.hid (show ((q.length + (num 1 x.key.kind).length ≤ maxLen ∧ (q.length + (num 1 x.key.kind).length) * 1 ≤ 140737488355328) ∧ (q1.length + (num 8 (wrap64 x.key.sig)).length ≤ maxLen ∧ (q1.length + (num 8 (wrap64 x.key.sig)).length) * 1 ≤ 140737488355328) ∧ (q2.length + (num 1 x.key.comp).length ≤ maxLen ∧ (q2.length + (num 1 x.key.comp).length) * 1 ≤ 140737488355328) ∧ (q3.length + (num 4 x.long).length ≤ maxLen ∧ (q3.length + (num 4 x.long).length) * 1 ≤ 140737488355328) ∧ (q4.length + (num 2 x.pages.length).length ≤ maxLen ∧ (q4.length + (num 2 x.pages.length).length) * 1 ≤ 140737488355328)) ∧ q5.length = q.length + (entHead x).length by have := LQ.out; unfold maxLen; simp only [entHead, List.length_append] at *; omega)
      have HQ5 := Lib.hid (show q5 = q ++ entHead x by rw [hq5, hq4, hq3, hq2, hq1]; simp only [entHead, List.append_assoc])
      have E1 := Lib.hid hq1
      have E2 := Lib.hid hq2
      have E3 := Lib.hid hq3
      have E4 := Lib.hid hq4
      have E5 := Lib.hid hq5
      clear hl1 hl2 hl3 hl4 hl5 hq1 hq2 hq3 hq4 hq5
      have D0 := Lib.hid (Below.refl w.heap.size wr)
      go_wp2_with fail
      refine (rnum_calls (width := 1) (n := x.key.kind) rfl g0).mono ?_
      rintro e v1 ⟨u1, rfl, hu1, hb1⟩
      have F1 := Lib.hid (D0.out.trans (hb1.mono (Nat.le_trans HB1.out.size D0.out.size)))
      have U1 := Lib.hid (Rep.acc_fresh hu1)
      have V1 := Lib.hid (Rep.acc_later HV.out hb1)
      have Z1 := Lib.hid (Nat.le_trans HB1.out.size F1.out.size)
      clear hu1 hb1 cx0 cx1 cx2 cx3 cx4
      go_wp2_with (refine wpList_spread_leaf (e := 5) (base := w.heap.size) (Q := fun _ => False) Rep.leaf_byte rfl _ _ 22 rfl (.int .u8 0) 1 1 Try.underlying22 info5 rfl (by decide) rfl _ q (by exact rfl) V1.out _ (num 1 x.key.kind) (by exact rfl) U1.out HLS.out.1.1.1 HLS.out.1.1.2 Z1.out ?_; intro s1 a1 hacc1 hgr1 hat; rw [← E1.out] at hacc1; have D1 := Lib.hid (Rep.acc_below V1.out F1.out hgr1 Z1.out); have HV1 := Lib.hid hacc1; clear hacc1 hgr1 hat; obtain ⟨cx0, cx1, cx2, cx3, cx4⟩ := KS.out _ D1.out)
      go_wp2_with fail
      refine (rnum_calls (width := 8) (n := (wrap64 x.key.sig)) rfl gw).mono ?_
      rintro e v2 ⟨u2, rfl, hu2, hb2⟩
      have F2 := Lib.hid (D1.out.trans (hb2.mono (Nat.le_trans HB1.out.size D1.out.size)))
      have U2 := Lib.hid (Rep.acc_fresh hu2)
      have V2 := Lib.hid (Rep.acc_later HV1.out hb2)
      have Z2 := Lib.hid (Nat.le_trans HB1.out.size F2.out.size)
      clear hu2 hb2 cx0 cx1 cx2 cx3 cx4
      go_wp2_with (refine wpList_spread_leaf (e := 5) (base := w.heap.size) (Q := fun _ => False) Rep.leaf_byte rfl _ _ 22 rfl (.int .u8 0) 1 1 Try.underlying22 info5 rfl (by decide) rfl _ q1 (by exact rfl) V2.out _ (num 8 (wrap64 x.key.sig)) (by exact rfl) U2.out HLS.out.1.2.1.1 HLS.out.1.2.1.2 Z2.out ?_; intro s2 a2 hacc2 hgr2 hat; rw [← E2.out] at hacc2; have D2 := Lib.hid (Rep.acc_below V2.out F2.out hgr2 Z2.out); have HV2 := Lib.hid hacc2; clear hacc2 hgr2 hat; obtain ⟨cx0, cx1, cx2, cx3, cx4⟩ := KS.out _ D2.out)
      go_wp2_with fail
      refine (rnum_calls (width := 1) (n := x.key.comp) rfl g2).mono ?_
      rintro e v3 ⟨u3, rfl, hu3, hb3⟩
      have F3 := Lib.hid (D2.out.trans (hb3.mono (Nat.le_trans HB1.out.size D2.out.size)))
      have U3 := Lib.hid (Rep.acc_fresh hu3)
      have V3 := Lib.hid (Rep.acc_later HV2.out hb3)
      have Z3 := Lib.hid (Nat.le_trans HB1.out.size F3.out.size)
      clear hu3 hb3 cx0 cx1 cx2 cx3 cx4
      go_wp2_with (refine wpList_spread_leaf (e := 5) (base := w.heap.size) (Q := fun _ => False) Rep.leaf_byte rfl _ _ 22 rfl (.int .u8 0) 1 1 Try.underlying22 info5 rfl (by decide) rfl _ q2 (by exact rfl) V3.out _ (num 1 x.key.comp) (by exact rfl) U3.out HLS.out.1.2.2.1.1 HLS.out.1.2.2.1.2 Z3.out ?_; intro s3 a3 hacc3 hgr3 hat; rw [← E3.out] at hacc3; have D3 := Lib.hid (Rep.acc_below V3.out F3.out hgr3 Z3.out); have HV3 := Lib.hid hacc3; clear hacc3 hgr3 hat; obtain ⟨cx0, cx1, cx2, cx3, cx4⟩ := KS.out _ D3.out)
      go_wp2_with fail
      refine (rnum_calls (width := 4) (n := x.long) rfl g3).mono ?_
      rintro e v4 ⟨u4, rfl, hu4, hb4⟩
      have F4 := Lib.hid (D3.out.trans (hb4.mono (Nat.le_trans HB1.out.size D3.out.size)))
      have U4 := Lib.hid (Rep.acc_fresh hu4)
      have V4 := Lib.hid (Rep.acc_later HV3.out hb4)
      have Z4 := Lib.hid (Nat.le_trans HB1.out.size F4.out.size)
      clear hu4 hb4 cx0 cx1 cx2 cx3 cx4
      go_wp2_with (refine wpList_spread_leaf (e := 5) (base := w.heap.size) (Q := fun _ => False) Rep.leaf_byte rfl _ _ 22 rfl (.int .u8 0) 1 1 Try.underlying22 info5 rfl (by decide) rfl _ q3 (by exact rfl) V4.out _ (num 4 x.long) (by exact rfl) U4.out HLS.out.1.2.2.2.1.1 HLS.out.1.2.2.2.1.2 Z4.out ?_; intro s4 a4 hacc4 hgr4 hat; rw [← E4.out] at hacc4; have D4 := Lib.hid (Rep.acc_below V4.out F4.out hgr4 Z4.out); have HV4 := Lib.hid hacc4; clear hacc4 hgr4 hat; obtain ⟨cx0, cx1, cx2, cx3, cx4⟩ := KS.out _ D4.out)
      go_wp2_with fail
      refine (rnum_calls (width := 2) (n := x.pages.length) rfl gl).mono ?_
      rintro e v5 ⟨u5, rfl, hu5, hb5⟩
      have F5 := Lib.hid (D4.out.trans (hb5.mono (Nat.le_trans HB1.out.size D4.out.size)))
      have U5 := Lib.hid (Rep.acc_fresh hu5)
      have V5 := Lib.hid (Rep.acc_later HV4.out hb5)
      have Z5 := Lib.hid (Nat.le_trans HB1.out.size F5.out.size)
      clear hu5 hb5 cx0 cx1 cx2 cx3 cx4
      go_wp2_with (refine wpList_spread_leaf (e := 5) (base := w.heap.size) (Q := fun _ => False) Rep.leaf_byte rfl _ _ 22 rfl (.int .u8 0) 1 1 Try.underlying22 info5 rfl (by decide) rfl _ q4 (by exact rfl) V5.out _ (num 2 x.pages.length) (by exact rfl) U5.out HLS.out.1.2.2.2.2.1 HLS.out.1.2.2.2.2.2 Z5.out ?_; intro s5 a5 hacc5 hgr5 hat; rw [← E5.out] at hacc5; have D5 := Lib.hid (Rep.acc_below V5.out F5.out hgr5 Z5.out); have HV5 := Lib.hid hacc5; clear hacc5 hgr5 hat; obtain ⟨cx0, cx1, cx2, cx3, cx4⟩ := KS.out _ D5.out)
      have B5 := Lib.hid (HB1.out.trans (D5.out))
      have HS5 := Lib.hid (HS.out.below D5.out (fun _ hb _ => hb))
      have HL5 := Lib.hid (show ∀ j, j ≤ x.pages.length → (q5 ++ ((x.pages.take j).map (num 2)).flatten).length ≤ 1000000000 by intro j _; have h1 := LE.out j; have h2 := HLS.out.2; have h3 := L.out; rw [List.length_append]; omega)
      have HT := Lib.hid (show q5 ++ ((x.pages.take x.pages.length).map (num 2)).flatten = q ++ entBytes x by rw [HQ5.out, List.take_length, entBytes, List.append_assoc])
      have KS5 := Lib.hid (show ∀ w', Below w.heap.size a5 w' → w'.cell? ⟨b, off + k * 5 + 4, none⟩ = some (.slice Ap x.pages.length cp) from fun w' h => (h.cell (p := ⟨b, off + k * 5 + 4, none⟩) hbw).trans cx4)
      clear cx0 cx1 cx2 cx3 cx4 KS
      go_loopw [3, 5] (fun s i wr => ∃ j : Nat, i = .int .i64 j ∧ j ≤ x.pages.length ∧ Rep.byte.acc 5 w.heap.size (fun _ => False) wr s (q5 ++ ((x.pages.take j).map (num 2)).flatten) ∧ Below w.heap.size a5 wr)
        (fun _ i _ => x.pages.length - (intOf i).toNat)
      case atStart => exact ⟨0, rfl, by omega, by simpa using HV5.out, Below.refl _ _⟩
      case round =>
        obtain ⟨j, rfl, hj, hv, hb1⟩ := hrel
        have HB6 := Lib.hid hb1
        have cx4 := KS5.out _ hb1
        by_cases hlt2 : (j : Int) < x.pages.length
        · have hj' : j < x.pages.length := by omega
          obtain ⟨bp, op, rfl, cp0, wp0⟩ := Rep.At.int (HS5.out.below hb1 (fun _ hb _ => hb)).2.2 (List.getElem?_eq_getElem hj')
          have T2 := Lib.hid (show q5 ++ ((x.pages.take (j + 1)).map (num 2)).flatten = (q5 ++ ((x.pages.take j).map (num 2)).flatten) ++ num 2 x.pages[j] by rw [take_flatten_succ (num 2) hj', List.append_assoc])
          have L6 := Lib.hid (HL5.out j (by omega))
          generalize x.pages[j] = p at *
          generalize q5 ++ ((x.pages.take j).map (num 2)).flatten = r at hv T2 L6
          have HV6 := Lib.hid hv
          have L7 := Lib.hid (show r.length + (num 2 p).length ≤ maxLen ∧ (r.length + (num 2 p).length) * 1 ≤ 140737488355328 by have h1 := L6.out; have h2 := num_length 2 p; unfold maxLen; omega)
          clear hv hb1
          go_wp2_with fail
          refine (rnum_calls (width := 2) (n := p) rfl wp0).mono ?_
          rintro e w6 ⟨u6, rfl, hu6, hb6⟩
          have F6 := Lib.hid (HB6.out.trans (hb6.mono (Nat.le_trans B5.out.size HB6.out.size)))
          have U6 := Lib.hid (Rep.acc_fresh hu6)
          have V6 := Lib.hid (Rep.acc_later HV6.out hb6)
          have Z6 := Lib.hid (Nat.le_trans B5.out.size F6.out.size)
          clear hu6 hb6 cx4 cp0
          go_wp2_with (refine wpList_spread_leaf (e := 5) (base := w.heap.size) (Q := fun _ => False) Rep.leaf_byte rfl _ _ 22 rfl (.int .u8 0) 1 1 Try.underlying22 info5 rfl (by decide) rfl _ r (by exact rfl) V6.out _ (num 2 p) (by exact rfl) U6.out L7.out.1 L7.out.2 Z6.out ?_; intro s6 a6 hacc6 hgr6 hat; rw [← T2.out] at hacc6; have D6 := Lib.hid (Rep.acc_below V6.out F6.out hgr6 Z6.out); have HV7 := Lib.hid hacc6; clear hacc6 hgr6 hat)
          exact ⟨⟨j + 1, by go_num, by omega, HV7.out, D6.out⟩, by simp [intOf]; omega⟩
        · obtain rfl : j = x.pages.length := by omega
          rw [HT.out, ← T.out] at hv
          have HV6 := Lib.hid hv
          clear hv hb1
          go_wp2_with fail
          exact ⟨⟨k + 1, by go_num, by omega, HV6.out, B5.out.trans HB6.out⟩, by simp [intOf]; omega⟩
    · obtain rfl : k = l.length := by omega
      have T := Lib.hid (show dirBytes l = num 2 l.length ++ ((l.take l.length).map entBytes).flatten by rw [List.take_length]; rfl)
      generalize num 2 l.length ++ ((l.take l.length).map entBytes).flatten = q at hv T
      have HV := Lib.hid hv
      clear hv hb1
      go_wp2_with fail
      go_ret
      exact ⟨_, rfl, by rw [T.out]; exact HV.out, HB1.out⟩
end Go.Proofs.Ytcfgckpjgihcgaa
/- Walks of the references' comparisons of lists and tables. -/
namespace Go.Proofs.Ytcfgckpjgihcgaa
open Go.RowKit

set_option maxHeartbeats 400000 in
theorem sameList {Q Q' : Nat → Prop} {w : World} {v u : Value} {xs ys : List Int} (hx : (Rep.int .i64).list.val Q w v xs) (hy : (Rep.int .i64).list.val Q' w u ys) :
    Calls Try.prog 43 #[v, u] w fun e w' => e = .returned (.bool (decide (xs = ys))) ∧ ∃ n, w' = w.drewN n := by
  obtain ⟨A, c, rfl, hc1, hc2, hA⟩ := Rep.val_list hx
  obtain ⟨B, d, rfl, hd1, hd2, hB⟩ := Rep.val_list hy
  clear hx hy
  unfold maxLen at hc2 hd2
  by_cases hlen : xs.length = ys.length
  · have hne : ((xs.length : Int) != (ys.length : Int)) = false := by simp [hlen]
    have H := Lib.hid hlen
    clear hlen
    go_enter Try.func43, Try.ntmps43
    go_wp2_with fail
    go_loopw [5] (fun i wr => ∃ k : Nat, i = .int .i64 k ∧ k ≤ xs.length ∧ xs.take k = ys.take k ∧ ∃ n, w.drewN n = wr) (fun i _ => xs.length - (intOf i).toNat)
    case atStart => exact ⟨0, rfl, Nat.zero_le _, by simp, 0, rfl⟩
    case round =>
      obtain ⟨k, rfl, hk, htk, n, rfl⟩ := hrel
      by_cases hlt : k < xs.length
      · obtain ⟨b, off, rfl, cx, wx⟩ := hA.int (List.getElem?_eq_getElem hlt)
        have hlt' : k < ys.length := by rw [← H.out]; exact hlt
        obtain ⟨b', off', rfl, cy, wy⟩ := hB.int (List.getElem?_eq_getElem hlt')
        have T := Lib.hid htk
        clear htk
        have i1 : (k : Int) < (xs.length : Int) := by omega
        have i2 : (k : Int) < (ys.length : Int) := by omega
        generalize hX : xs[k] = x at *
        generalize hY : ys[k] = y at *
        have HX := Lib.hid hX
        have HY := Lib.hid hY
        clear hX hY
        by_cases hxy : x = y
        · have g1 : (x != y) = false := by simp [hxy]
          have HXY := Lib.hid hxy
          clear hxy
          go_wp2_with fail
          go_quiet (fail)
          go_wp2_with fail
          go_roundw
          case rel => exact ⟨k + 1, by go_num, by omega, by rw [List.take_succ_eq_append_getElem hlt, List.take_succ_eq_append_getElem hlt', T.out, HX.out, HY.out, HXY.out], _, rfl⟩
          case measure => simp [intOf]; omega
        · have g1 : (x != y) = true := by simp [hxy]
          have HXY := Lib.hid hxy
          clear hxy
          go_wp2_with fail
          go_quiet (fail)
          go_wp2_with fail
          go_ret
          refine ⟨?_, by rw [World.drewN_drewN]; exact ⟨_, rfl⟩⟩
          have : ¬ xs = ys := by rintro rfl; exact HXY.out (HX.out.symm.trans HY.out)
          simp [this]
      · have hk' : k = xs.length := by omega
        have hall : xs = ys := by rw [← List.take_length (l := xs), ← hk', htk, hk', H.out, List.take_length]
        have HA := Lib.hid hall
        have HK := Lib.hid hk'
        clear hall hk' htk
        have i1 : ¬ (k : Int) < (xs.length : Int) := by omega
        go_wp2_with fail
        go_ret
        exact ⟨by simp [HA.out], _, rfl⟩
  · have hne : ((xs.length : Int) != (ys.length : Int)) = true := by simp; omega
    have H := Lib.hid hlen
    clear hlen
    go_enter Try.func43, Try.ntmps43
    go_wp2_with fail
    go_ret
    refine ⟨?_, 0, rfl⟩
    have : ¬ xs = ys := by rintro rfl; exact H.out rfl
    simp [this]
end Go.Proofs.Ytcfgckpjgihcgaa
/- Walk of the entries of flows. -/
namespace Go.Proofs.Ytcfgckpjgihcgaa
open Go.RowKit

theorem info3 : (Try.prog.info? 3).map (fun i => (i.zero, i.size, i.bytes)) = some (some (.int .i64 0), 1, 8) := by kernel_rfl
theorem infoEntry : (Try.prog.info? 142).map (fun i => (i.zero, i.size, i.bytes)) = some (some (.agg #[.int .i64 0, .int .u64 0, .int .i64 0, .int .i64 0, .slice none 0 0]), 5, 56) := by kernel_rfl

/-- slices.Clone of numbers -/
theorem intClone {Q : Nat → Prop} {w : World} {v : Value} {l : List Int} (hx : (Rep.int .i64).list.val Q w v l) (hl : l.length ≤ 1000000000000) :
    Calls Try.prog 261 #[v] w (ResA (Rep.int .i64) 3 w l) := by
  obtain ⟨A, c, rfl, hc1, hc2, hA⟩ := Rep.val_list hx
  unfold maxLen at hc2
  cases A with
  | none =>
    have hnil : l = [] := by
      rcases Nat.eq_zero_or_pos l.length with h | h
      · exact List.eq_nil_of_length_eq_zero h
      · obtain ⟨b, off, h⟩ := hA.addr h; cases h
    subst hnil
    have he := fun w => Lib.run_eql_slice_nil (P := Try.prog) w 30 3 none 0 c 0 0 Try.underlying30
    go_enter Try.func261, Try.ntmps261
    go_wp2_with fail
    go_ret
    exact ⟨_, rfl, Rep.acc_nil, Below.refl _ _⟩
  | some a =>
    have he := fun w => Lib.run_eql_slice_nil (P := Try.prog) w 30 3 (some a) l.length c 0 0 Try.underlying30
    have HX := Lib.hid (show (Rep.int .i64).list.val (fun b => b < w.heap.size) (w.alloc (.cells #[] 3)) (.slice (some a) l.length c) l from Rep.val_keep (w := w) (fun b _ hl => ⟨hl.lt, Below.heap_alloc _ _ _ hl.lt⟩) hx)
    have HA := Lib.hid (show (Rep.int .i64).acc 3 w.heap.size (fun _ => False) (w.alloc (.cells #[] 3)) (.slice (some ⟨w.heap.size, 0, none⟩) 0 0) [] from Rep.acc_made w #[] 0 (Nat.le_refl _) (by simp [maxLen]) (by simp))
    have HB1 := Lib.hid (show ([] : List Int).length + l.length ≤ maxLen from by simp [maxLen]; omega)
    have HB2 := Lib.hid (show (([] : List Int).length + l.length) * 8 ≤ 140737488355328 from by simp; omega)
    have HB3 := Lib.hid (show w.heap.size ≤ (w.alloc (.cells #[] 3)).heap.size from by simp)
    clear hx hA
    go_enter Try.func261, Try.ntmps261
    go_wp2_with (refine wpList_spread_leaf (e := 3) (base := w.heap.size) (Q := fun _ => False) (Rep.leaf_int .i64) rfl _ _ 30 rfl (.int .i64 0) 1 8 Try.underlying30 info3 rfl (by decide) rfl _ [] (by exact rfl) HA.out _ l (by exact rfl) HX.out HB1.out HB2.out HB3.out ?_; intro v' w' hacc' hgr hat)
    go_ret
    exact ⟨_, rfl, by simpa using hacc', Rep.acc_below HA.out ((Below.refl _ w).alloc (Nat.le_refl _) _) hgr HB3.out⟩

/-- 'append(s, x)' as0 a step of a region that draws its order, the element in a block just made. -/
theorem step_snoc {α : Type} {r : Rep α} {e base : Nat} {Q : Nat → Prop} {P : Program} {w : World} {ops : Array Oper} {o : Oper} {a : Act} {K : Act → World → Prop} {R : Exit → Act → World → Prop} {E : Prop} (hg : o.guard = none) (s x : Operand) (t : TypeId)
    (ho : o.op = .call { callee := .builtin .append, args := #[s, x], argTypes := #[t, t] })
    (z : Value) (size bytes : Nat) (ht : P.underlying t = some (.slice e)) (hi : (P.info? e).map (fun i => (i.zero, i.size, i.bytes)) = some (some z, size, bytes)) (hzs : z.cells.size = size) (hsz : 0 < size)
    (hr : r.size = size) (v : Value) (xs : List α) (hs : a.eval s = v) (h : r.acc e base Q w v xs) (y : α) (vy : Value) (hy : r.val (fun b => Q b ∧ v.ownBlock ≠ some b) w vy y) (hx : a.eval x = .slice (some ⟨w.heap.size, 0, none⟩) 1 1)
    (h63 : xs.length + 1 ≤ maxLen) (hbytes : (xs.length + 1) * bytes ≤ 140737488355328) (hbase : base ≤ w.heap.size)
    (H : ∀ v' w', r.acc e base Q w' v' (xs ++ [y]) → w.grownBy w' v.ownBlock → K (a.put o.dst v') w') :
    if Region.wanted o (yielded ops a.tmps) = true then Oper.wp P o a (w.alloc (.cells vy.cells e)) K R else E := by
  have hw : Region.wanted o (yielded ops a.tmps) = true := by simp [Region.wanted, hg]
  rw [if_pos hw]
  obtain ⟨cs, hv, hrd⟩ := hy
  have hcells : vy.cells.toList = cs := by rw [hv]; exact r.back hrd
  have hkeep : ∀ b, b < w.heap.size → (w.alloc (.cells vy.cells e)).heap[b]? = w.heap[b]? := fun b hb => Below.heap_alloc _ _ _ hb
  have hacc' : r.acc e base Q (w.alloc (.cells vy.cells e)) v xs := Rep.acc_keep (fun b _ hl => hkeep b hl.lt) (fun _ hb _ => hb) h
  have hbn : (w.alloc (.cells vy.cells e)).heap[w.heap.size]? = some (.cells vy.cells e) := heap_alloc_new w _
  obtain ⟨v', w', q1, q2, q3, q4⟩ := Rep.acc_more (P := P) (w := w.alloc (.cells vy.cells e)) (ty := o.type) (ys := [y]) (A := some ⟨w.heap.size, 0, none⟩) (m := 1) (c := 1) (es := cs)
    ht hi hzs hsz hr hacc' rfl
    (Rep.row_one_elem (r.keep (fun b hb hl => ⟨hb, hkeep b hl.lt⟩) hrd)) (fun _ => ⟨w.heap.size, 0, rfl, fun j u hj => by
      rw [cell_of_row _ _ _ _ _ _ hbn, Nat.zero_add, ← hj, ← hcells]; simp⟩)
    (by simpa using h63) (by simpa using hbytes) (by simp; omega)
  unfold Oper.wp execOp
  simp only [ho, resolve, invoke, builtin, Sem.run_bind, Sem.run_pure, Result.andThen_ok, List.map_toArray, List.map_cons, List.map_nil, hs, hx, q1]
  exact H v' w' q2 ((World.grownBy_alloc w _ _).trans q3)

def entryOf (f : DFlow) : DEntry := ⟨f.key, f.data.length, f.pages⟩

end Go.Proofs.Ytcfgckpjgihcgaa
/- Walk of the reference's directory out of bytes. -/
namespace Go.Proofs.Ytcfgckpjgihcgaa
open Go.RowKit

/-- A call that returns a value that reads as0 x, and a number. -/
def ResN {α : Type} (r : Rep α) (Q : Nat → Prop) (w : World) (x : α) (n : Int) (e : Ending) (w' : World) : Prop := ∃ u, e = .returned (.tuple #[u, .int .i64 n]) ∧ r.val Q w' u x ∧ Below w.heap.size w w'

theorem u64_i64of (n : Nat) (h : n < 18446744073709551616) : IntKind.u64.wrap (i64of n) = n := by rw [wrap_u64, i64of_emod n h]
theorem natAt8_lt (b : List UInt8) (at_ : Nat) : natAt b at_ 8 < 18446744073709551616 := natAt_lt b at_ 8
theorem natAt_wf (b : List UInt8) (at_ w : Nat) (h : w ≤ 7) : (Lit.int .i64 (natAt b at_ w : Int)).wf = true := by rw [← i64of_natAt b at_ w h]; exact i64of_wf _
theorem u64_wf (n : Nat) (h : n < 18446744073709551616) : (Lit.int .u64 (n : Int)).wf = true := by
  simp [Lit.wf, IntKind.min, IntKind.max, IntKind.signed, IntKind.bits]; omega
theorem entAt_wf (b : List UInt8) (at_ : Nat) : (Lit.int .i64 (entAt b at_).key.kind).wf = true ∧ (Lit.int .u64 (entAt b at_).key.sig).wf = true ∧ (Lit.int .i64 (entAt b at_).key.comp).wf = true ∧ (Lit.int .i64 (entAt b at_).long).wf = true :=
  ⟨natAt_wf _ _ _ (by decide), u64_wf _ (natAt8_lt _ _), natAt_wf _ _ _ (by decide), natAt_wf _ _ _ (by decide)⟩

theorem cell_row {w : World} {b e : Nat} {cs : Array Value} {f : Nat × Nat} (h : w.heap[b]? = some (.cells cs e f)) (i : Nat) : w.cell? ⟨b, i, none⟩ = cs[i]? := by simp [World.cell?, h]
theorem frozen_row {w : World} {b e : Nat} {cs : Array Value} (h : w.heap[b]? = some (.cells cs e (0, 0))) (i : Nat) : w.frozen? ⟨b, i, none⟩ = false := by simp [World.frozen?, h]
theorem dirGet_short {b : List UInt8} (h : b.length < 2) : dirGet b = ([], 12) := by rw [dirGet, if_pos h]
theorem dirGet_none {b : List UInt8} (h : ¬ b.length < 2) (hp : parseDir b (natAt b 0 2) = none) : dirGet b = ([], 12) := by rw [dirGet, if_neg h, hp]
theorem dirGet_form {b : List UInt8} {l : List DEntry} {e : Nat} (h : ¬ b.length < 2) (hp : parseDir b (natAt b 0 2) = some (l, e)) (he : e ≠ b.length) : dirGet b = ([], 11) := by
  rw [dirGet, if_neg h, hp]; simp only [if_neg he]
theorem dirGet_ok {b : List UInt8} {l : List DEntry} {e : Nat} (h : ¬ b.length < 2) (hp : parseDir b (natAt b 0 2) = some (l, e)) (he : e = b.length) : dirGet b = (l, 0) := by
  rw [dirGet, if_neg h, hp]; simp only [if_pos he]
theorem parse_fail {b : List UInt8} {i N at_ : Nat} {l : List DEntry} (hi : i < N) (h : parseDir b i = some (l, at_)) (h2 : parseEnt b at_ = none) : parseDir b N = none := by
  refine parseDir_none (n := i + 1) ?_ N hi
  rw [parseDir, h]; simp only [h2]
theorem parse_step {b : List UInt8} {i at_ : Nat} {l : List DEntry} (h : parseDir b i = some (l, at_)) (h1 : at_ + 16 ≤ b.length) (h2 : at_ + 16 + 2 * countAt b at_ ≤ b.length) : parseDir b (i + 1) = some (l ++ [entAt b at_], at_ + 16 + 2 * countAt b at_) := by
  rw [parseDir, h]; simp only [parseEnt, if_pos (And.intro h1 h2)]
theorem parseEnt_none {b : List UInt8} {at_ : Nat} (h : ¬ (at_ + 16 ≤ b.length ∧ at_ + 16 + 2 * countAt b at_ ≤ b.length)) : parseEnt b at_ = none := by rw [parseEnt, if_neg h]

end Go.Proofs.Ytcfgckpjgihcgaa
