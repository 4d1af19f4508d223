/- Walk of a command at a place in bytes. Printed by gen_cmdget.py. -/
import Derived.Test.YteljibjbndpncaaWfCmdRun
import Derived.Test.YteljibjbndpncaaWfHeldTail
namespace Go.Proofs.Yteljibjbndpncaa
open Go.RowKit

def zeroCmd : DCmd := ⟨0, false, ⟨0, 0⟩, 0, []⟩
/-- What is got at a place: the command, the place behind it, the error. -/
def cmdGet (b : List UInt8) (k : Int) : DCmd × Int × Int :=
  if k < 0 ∨ (b.length : Int) < k then (zeroCmd, 0, 2)
  else if (cmdRun (b.drop k.toNat) ⟨0, false, 0⟩).2.err = 0 then ((cmdRun (b.drop k.toNat) ⟨0, false, 0⟩).1, (b.length : Int) - (((b.drop k.toNat).length : Int) - (cmdRun (b.drop k.toNat) ⟨0, false, 0⟩).2.pos), 0)
  else (zeroCmd, 0, (cmdRun (b.drop k.toNat) ⟨0, false, 0⟩).2.err)
def CGetRes (w : World) (r : DCmd × Int × Int) (e : Ending) (w' : World) : Prop :=
  ∃ u, e = .returned (.tuple #[u, .int .i64 r.2.1, .int .i64 r.2.2]) ∧ rCmd.val (fun k => w.heap.size ≤ k) w' u r.1 ∧ Below w.heap.size w w'
theorem zero_val {Q : Nat → Prop} {w : World} : rCmd.val Q w (.agg #[.int .i64 0, .bool false, .int .i64 0, .int .i64 0, .int .i64 0, .slice none 0 0]) zeroCmd :=
  rCmd_agg (x := zeroCmd) rfl rfl rfl rfl ⟨Nat.le_refl _, by simp [maxLen], ⟨[], rfl, fun h => absurd h (by simp [zeroCmd])⟩⟩
theorem below_set6 {w W : World} {R B : Nat} (h : Below B w W) (hR : B ≤ R) {a0 a1 a2 a3 a4 a5 : Value} : Below B w ((((((W.setCell ⟨R, 0, none⟩ a0).setCell ⟨R, 1, none⟩ a1).setCell ⟨R, 2, none⟩ a2).setCell ⟨R, 3, none⟩ a3).setCell ⟨R, 4, none⟩ a4).setCell ⟨R, 5, none⟩ a5) :=
  (((((h.setCell (p := ⟨R, 0, none⟩) hR _).setCell (p := ⟨R, 1, none⟩) hR _).setCell (p := ⟨R, 2, none⟩) hR _).setCell (p := ⟨R, 3, none⟩) hR _).setCell (p := ⟨R, 4, none⟩) hR _).setCell (p := ⟨R, 5, none⟩) hR _

theorem drop_val {Q : Nat → Prop} {w : World} {A : Option Addr} {c n : Nat} {l : List UInt8} (h : Rep.byte.At Q w A l) (hn : n ≤ l.length) (h1 : l.length ≤ c) (h2 : c ≤ maxLen) : Rep.byte.list.val Q w (.slice (Option.map (fun x => x.add n) A) (l.length - n) (c - n)) (l.drop n) := by
  refine Rep.list_val (by simp) (by omega) (by omega) ?_
  rcases Nat.eq_zero_or_pos l.length with h0 | h0
  · exact ⟨[], by rw [List.drop_eq_nil_of_le (by omega)]; rfl, fun hp => by rw [List.length_drop] at hp; omega⟩
  · obtain ⟨b, off, rfl⟩ := h.addr h0
    have := h.drop (n := n) hn
    by_cases h0 : n = 0
    · subst h0
      simpa [Rep.byte, Addr.add] using this
    · simpa [Rep.byte, Addr.add, h0] using this
theorem drop_val' {Q : Nat → Prop} {w : World} {A : Option Addr} {c n : Nat} {l : List UInt8} (hn : n ≤ l.length) (h1 : l.length ≤ c) (hc : c = n) : Rep.byte.list.val Q w (.slice A (l.length - n) (c - n)) (l.drop n) :=
  Rep.list_val (by simp) (by omega) (by unfold maxLen; omega) ⟨[], by rw [List.drop_eq_nil_of_le (by omega)]; rfl, fun hp => by rw [List.length_drop] at hp; omega⟩
theorem Rep.Sl.both {Q Q' : Nat → Prop} {w : World} {A : Option Addr} {c : Nat} {l : List UInt8} (h : Rep.byte.Sl Q w A c l) (k : Rep.byte.Sl Q' w A c l) : Rep.byte.Sl (fun x => Q x ∧ Q' x) w A c l := by
  obtain ⟨h1, h2, es, h3, h4⟩ := h
  obtain ⟨_, _, es', _, k4⟩ := k
  refine ⟨h1, h2, es, Rep.row_leaf Rep.leaf_byte h3, fun hp => ?_⟩
  obtain ⟨b, off, e, q1, q2, q3⟩ := h4 hp
  obtain ⟨b', off', e', q1', _⟩ := k4 hp
  rw [e] at e'
  cases e'
  exact ⟨b, off, e, ⟨q1, q1'⟩, q2, q3⟩

set_option maxRecDepth 100000 in
set_option maxHeartbeats 4000000 in
/-- cmd.Get -/
theorem cget_calls {Q : Nat → Prop} {w : World} {v : Value} {b : List UInt8} {k : Int} (hx : Rep.byte.list.val Q w v b) (hb : b.length ≤ 1000000000) :
    Calls Try.prog 140 #[v, .int .i64 k] w (CGetRes w (cmdGet b k)) := by
  obtain ⟨A, c, rfl, hc1, hc2, hA⟩ := Rep.val_list hx
  unfold maxLen at hc2
  have HA := Lib.hid hA
  have HBL := Lib.hid hb
  obtain ⟨W1, hW1⟩ : ∃ W1, w.alloc (.cells #[.int .i64 0, .bool false, .int .i64 0, .int .i64 0, .int .i64 0, .slice none 0 0] 116) = W1 := ⟨_, rfl⟩
  have HB1 := Lib.hid (show Below w.heap.size w W1 by rw [← hW1]; exact (Below.refl _ _).alloc (Nat.le_refl _) _)
  have hr1 : W1.heap[w.heap.size]? = some (.cells zeroCmd6 116 (0, 0)) := by rw [← hW1]; exact heap_alloc_new _ _
  have HR1 := Lib.hid hr1
  have HZ1 := Lib.hid (show W1.heap.size = w.heap.size + 1 by rw [← hW1]; simp)
  have y0 := cell_row hr1 0
  have y1 := cell_row hr1 1
  have y2 := cell_row hr1 2
  have y3 := cell_row hr1 3
  have y4 := cell_row hr1 4
  have y5 := cell_row hr1 5
  have z0 := frozen_row hr1 0
  have z1 := frozen_row hr1 1
  have z2 := frozen_row hr1 2
  have z3 := frozen_row hr1 3
  have z4 := frozen_row hr1 4
  have z5 := frozen_row hr1 5
  simp only [zeroCmd6] at y0 y1 y2 y3 y4 y5
  have HW1 := Lib.hid hW1
  have hfr : Try.f140.results = #[.cell 4 116, .tmp 5, .tmp 6] := rfl
  have HFR := Lib.hid hfr
  clear hx hA hW1 hr1 hfr hb
  by_cases hbad : k < 0 ∨ (b.length : Int) < k
  · have HF := Lib.hid (show cmdGet b k = (zeroCmd, 0, 2) by unfold cmdGet; rw [if_pos hbad])
    rcases hbad with hk | hk
    · have hk' : k < 0 := hk
      have hW1 := HW1.out
      go_enter Try.func140, Try.ntmps140
      go_wp2_with fail
      try rw [hW1]
      clear hW1
      try go_wp2_with fail
      refine ⟨rfl, .tuple #[.agg #[.int .i64 0, .bool false, .int .i64 0, .int .i64 0, .int .i64 0, .slice none 0 0], .int .i64 0, .int .i64 2], ?_, ?_⟩
      · simp only [results, HFR.out]
        go_simp
      · rw [HF.out]
        exact ⟨_, rfl, zero_val, below_set6 HB1.out (Nat.le_refl _)⟩
    · have hk0 : ¬ k < 0 := by omega
      have hW1 := HW1.out
      go_enter Try.func140, Try.ntmps140
      go_wp2_with fail
      try rw [hW1]
      clear hW1
      try go_wp2_with fail
      refine ⟨rfl, .tuple #[.agg #[.int .i64 0, .bool false, .int .i64 0, .int .i64 0, .int .i64 0, .slice none 0 0], .int .i64 0, .int .i64 2], ?_, ?_⟩
      · simp only [results, HFR.out]
        go_simp
      · rw [HF.out]
        exact ⟨_, rfl, zero_val, below_set6 HB1.out (Nat.le_refl _)⟩
  · obtain ⟨n, rfl⟩ : ∃ n : Nat, k = n := ⟨k.toNat, by omega⟩
    have hn : (n : Int) ≤ b.length := by omega
    have HF := Lib.hid (show cmdGet b (n : Int) = if (cmdRun (b.drop n) ⟨0, false, 0⟩).2.err = 0 then ((cmdRun (b.drop n) ⟨0, false, 0⟩).1, (b.length : Int) - (((b.drop n).length : Int) - (cmdRun (b.drop n) ⟨0, false, 0⟩).2.pos), 0) else (zeroCmd, 0, (cmdRun (b.drop n) ⟨0, false, 0⟩).2.err) by unfold cmdGet; rw [if_neg hbad]; rfl)
    clear hbad
    have hnc : (n : Int) ≤ c := by omega
    have HDL := Lib.hid (show (b.drop n).length ≤ 1000000000 from Nat.le_trans (by rw [List.length_drop]; omega) HBL.out)
    have HDN := Lib.hid (show (b.drop n).length = b.length - n from List.length_drop)
    have HA1 := Lib.hid (show ∀ W, Below W1.heap.size W1 W → Rep.byte.At (fun x => x < w.heap.size) W A b from fun W h => Rep.At.keep (w := w) (fun x _ hl => ⟨hl.lt, (HB1.out.trans (h.mono HB1.out.size)).block x hl.lt⟩) HA.out)
    have hW1 := HW1.out
    by_cases hcap : (c : Int) = n
    · go_enter Try.func140, Try.ntmps140
      go_wp2_with fail
      refine (read_calls (b := b.drop n) (drop_val' (Q := fun x => x < w.heap.size) (by omega) (by omega) (by omega)) HDL.out).mono ?_
      rintro e w2 ⟨p, A2, c2, rfl, hr, hp, hb, hs⟩
      try rw [hW1]
      have HLO := Lib.hid (show ∀ W, Below w2.heap.size w2 W → Rep.byte.Sl (fun x => (W1.heap.size ≤ x ∧ x ≠ p) ∧ x < p) W A2 c2 (b.drop n) from fun W h => Rep.Sl.keep (fun x hx hl => ⟨hx, h.block x hl.lt⟩) (Rep.Sl.both hs hr.sl))
      obtain ⟨W3, hW3⟩ : ∃ W3, w2.alloc (.cells #[.pointer (some ⟨p, 0, none⟩), .int .i64 0] 238) = W3 := ⟨_, rfl⟩
      have hb3 : Below w2.heap.size w2 W3 := by rw [← hW3]; exact (Below.refl _ _).alloc (Nat.le_refl _) _
      have HC3 := Lib.hid (show CRd W3 w2.heap.size p A2 c2 (b.drop n) ⟨0, false, 0⟩ from ⟨⟨(hb3.block p hr.lt).trans hr.blk, Rep.Sl.keep (fun x hx _ => ⟨hx.2, rfl⟩) (HLO.out W3 hb3), Nat.zero_le _⟩, by rw [← hW3]; exact heap_alloc_new _ _, hr.lt⟩)
      have HP := Lib.hid hp
      have HB2 := Lib.hid hb
      have HB3 := Lib.hid hb3
      have HW3 := Lib.hid hW3
      have HPL := Lib.hid hr.lt
      clear hr hp hb hs hb3 hW3 hW1 y0 y1 y2 y3 y4 y5 z0 z1 z2 z3 z4 z5
      go_wp2_with fail
      rw [HW3.out]
      refine (ccmd_calls HC3.out HDL.out).mono ?_
      rintro e w4 ⟨u4, rfl, hu4, hc4, ho4⟩
      obtain ⟨r, hr⟩ : ∃ r, cmdRun (b.drop n) ⟨0, false, 0⟩ = r := ⟨_, rfl⟩
      rw [hr] at hu4 hc4 HF
      obtain ⟨x, s⟩ := r
      dsimp only at hu4 hc4 HF
      obtain ⟨A5, c5, rfl, f0, f1, f2, f3, f4⟩ := rCmd_val hu4
      have q1 := HZ1.out
      have q2 := HP.out
      have q3 := HPL.out
      have q4 := HB2.out.size
      have q5 := HB3.out.size
      have q6 := ho4.size
      have hz3 : W3.heap.size = w2.heap.size + 1 := by rw [← HW3.out]; simp
      have hr4 : w4.heap[w.heap.size]? = some (.cells zeroCmd6 116 (0, 0)) := (ho4.block _ (by omega) (fun e => by omega)).trans ((HB3.out.block _ (by omega)).trans ((HB2.out.block _ (by omega)).trans HR1.out))
      have y0 := cell_row hr4 0
      have y1 := cell_row hr4 1
      have y2 := cell_row hr4 2
      have y3 := cell_row hr4 3
      have y4 := cell_row hr4 4
      have y5 := cell_row hr4 5
      have z0 := frozen_row hr4 0
      have z1 := frozen_row hr4 1
      have z2 := frozen_row hr4 2
      have z3 := frozen_row hr4 3
      have z4 := frozen_row hr4 4
      have z5 := frozen_row hr4 5
      simp only [zeroCmd6] at y0 y1 y2 y3 y4 y5
      have hne : w.heap.size ≠ w2.heap.size := by omega
      have ce := hc4.c1
      obtain ⟨W5, hW5⟩ : ∃ W5, (((((w4.setCell ⟨w.heap.size, 0, none⟩ (.int .i64 x.kind)).setCell ⟨w.heap.size, 1, none⟩ (.bool x.loc)).setCell ⟨w.heap.size, 2, none⟩ (.int .i64 x.id.index)).setCell ⟨w.heap.size, 3, none⟩ (.int .i64 x.id.gen)).setCell ⟨w.heap.size, 4, none⟩ (.int .i64 x.comp)).setCell ⟨w.heap.size, 5, none⟩ (.slice A5 x.data.length c5) = W5 := ⟨_, rfl⟩
      have hk5 : ∀ j, j ≠ w.heap.size → W5.heap[j]? = w4.heap[j]? := fun j hj => by rw [← hW5]; exact keep_set6 hj
      have HR5 := Lib.hid (show W5.heap[w.heap.size]? = some (.cells #[.int .i64 x.kind, .bool x.loc, .int .i64 x.id.index, .int .i64 x.id.gen, .int .i64 x.comp, .slice A5 x.data.length c5] 116 (0, 0)) by rw [← hW5, heap_setRow (heap_setRow (heap_setRow (heap_setRow (heap_setRow (heap_setRow hr4)))))]; rfl)
      have hq5 : W5.heap[w2.heap.size]? = some (.cells #[.pointer (some ⟨p, 0, none⟩), .int .i64 s.err] 238 (0, 0)) := (hk5 _ (by omega)).trans hc4.blk
      have HRD := Lib.hid (show RdrAt W5 p A2 c2 (b.drop n) s.pos s.bad from ⟨(hk5 _ (by omega)).trans hc4.rd.blk, Rep.Sl.keep (fun y hy hl => ⟨hy.2, by
        have := hl.lt
        exact (hk5 y (by omega)).trans ((ho4.block y (by omega) (fun e => by omega)).trans (HB3.out.block y this))⟩) (HLO.out w2 (Below.refl _ _)), hc4.rd.le⟩)
      have HLD := Lib.hid (fun nq => HRD.out.drewN nq)
      have HB5 := Lib.hid (show Below w.heap.size w W5 by
        rw [← hW5]
        refine below_set6 ?_ (Nat.le_refl _)
        have h3 : Below w.heap.size w W3 := HB1.out.trans ((HB2.out.trans (HB3.out.mono q4)).mono (by omega))
        exact ⟨ho4.os.trans h3.os, ho4.tape.trans h3.tape, ho4.output.trans h3.output, by omega, fun j hj => (ho4.block j (by omega) (fun e => by omega)).trans (h3.block j hj)⟩)
      have HX5 := Lib.hid (show ∀ nq, rCmd.val (fun j => W3.heap.size ≤ j) (W5.drewN nq) (.agg #[.int .i64 x.kind, .bool x.loc, .int .i64 x.id.index, .int .i64 x.id.gen, .int .i64 x.comp, .slice A5 x.data.length c5]) x from fun nq => Rep.val_keep (w := w4) (fun j hj _ => ⟨hj, (hk5 j (by have hj' : W3.heap.size ≤ j := hj; omega)).trans rfl⟩) hu4)
      have KC := Lib.hid (show ∀ nq, ((W5.drewN nq).cell? ⟨w.heap.size, 0, none⟩ = some (.int .i64 x.kind) ∧ (W5.drewN nq).cell? ⟨w.heap.size, 1, none⟩ = some (.bool x.loc) ∧ (W5.drewN nq).cell? ⟨w.heap.size, 2, none⟩ = some (.int .i64 x.id.index) ∧ (W5.drewN nq).cell? ⟨w.heap.size, 3, none⟩ = some (.int .i64 x.id.gen) ∧ (W5.drewN nq).cell? ⟨w.heap.size, 4, none⟩ = some (.int .i64 x.comp) ∧ (W5.drewN nq).cell? ⟨w.heap.size, 5, none⟩ = some (.slice A5 x.data.length c5) ∧
          (W5.drewN nq).cell? ⟨w2.heap.size, 0, none⟩ = some (.pointer (some ⟨p, 0, none⟩)) ∧ (W5.drewN nq).cell? ⟨w2.heap.size, 1, none⟩ = some (.int .i64 s.err)) from fun nq =>
        ⟨cell_row (w := W5.drewN nq) HR5.out 0, cell_row (w := W5.drewN nq) HR5.out 1, cell_row (w := W5.drewN nq) HR5.out 2, cell_row (w := W5.drewN nq) HR5.out 3, cell_row (w := W5.drewN nq) HR5.out 4, cell_row (w := W5.drewN nq) HR5.out 5, cell_row (w := W5.drewN nq) hq5 0, cell_row (w := W5.drewN nq) hq5 1⟩)
      have HFW := Lib.hid (And.intro f0 (And.intro f1 (And.intro f2 f3)))
      have HLE := Lib.hid (show (s.pos : Int) ≤ (b.drop n).length by have := hc4.rd.le; omega)
      have HW5 := Lib.hid hW5
      have HQ6 := Lib.hid (cell_row (w := W5) hq5 0)
      have HQ7 := Lib.hid (cell_row (w := W5) hq5 1)
      have HWZ := Lib.hid (show w.heap.size ≤ W3.heap.size by omega)
      have HZW := Lib.hid (show w.heap.size < W3.heap.size by omega)
      obtain ⟨er, her⟩ : ∃ er, s.err = er := ⟨_, rfl⟩
      rw [her] at ce HF KC HQ7
      clear hr hu4 hc4 ho4 f0 f1 f2 f3 f4 q1 q2 q3 q4 q5 q6 hz3 hr4 hk5 hq5 hW5 her
      by_cases he : er = 0
      · subst he
        rw [if_pos rfl] at HF
        go_wp2_with fail
        rw [HW5.out]
        clear y0 y1 y2 y3 y4 y5 z0 z1 z2 z3 z4 z5 ce
        have i1 : IntKind.i64.wrap ((b.length : Int) - (((b.length - n : Nat) : Int) - s.pos)) = (b.length : Int) - (((b.length - n : Nat) : Int) - s.pos) := IntWalk.i64_in _ ⟨by have := HLE.out; have := HDN.out; have := HBL.out; omega, by have := HLE.out; have := HDN.out; have := HBL.out; omega⟩
        refine wp_region_noPanic ?_
        refine wp_region_held_drew (S := fun W' => W'.cell? ⟨w.heap.size, 0, none⟩ = some (.int .i64 x.kind) ∧ W'.cell? ⟨w.heap.size, 1, none⟩ = some (.bool x.loc) ∧ W'.cell? ⟨w.heap.size, 2, none⟩ = some (.int .i64 x.id.index) ∧ W'.cell? ⟨w.heap.size, 3, none⟩ = some (.int .i64 x.id.gen) ∧ W'.cell? ⟨w.heap.size, 4, none⟩ = some (.int .i64 x.comp) ∧ W'.cell? ⟨w.heap.size, 5, none⟩ = some (.slice A5 x.data.length c5) ∧ W'.cell? ⟨w2.heap.size, 0, none⟩ = some (.pointer (some ⟨p, 0, none⟩)) ∧ W'.cell? ⟨w2.heap.size, 1, none⟩ = some (.int .i64 0)) (by kernel_rfl) (KC.out 1) (fun s0 => ?_)
        refine wpAnyH_take (i := 0) (v := .agg #[.int .i64 x.kind, .bool x.loc, .int .i64 x.id.index, .int .i64 x.id.gen, .int .i64 x.comp, .slice A5 x.data.length c5]) rfl (by kernel_rfl) (by kernel_rfl) (by kernel_rfl) (fun _ _ _ h => h) (Or.inl ⟨by rfl, fun w' h => by obtain ⟨x0, x1, x2, x3, x4, x5, x6, x7⟩ := h; go_simp⟩) s0 ?_
        go_simp
        refine wpAnyH_take (i := 1) (v := .slice A b.length c) rfl (by kernel_rfl) (by kernel_rfl) (by kernel_rfl) (fun _ _ _ h => h) (Or.inl ⟨by rfl, fun w' _ => by go_simp <;> omega⟩) s0 ?_
        go_simp
        refine wpAnyH_take (i := 2) (v := .int .i64 b.length) rfl (by kernel_rfl) (by kernel_rfl) (by kernel_rfl) (fun _ _ _ h => h) (Or.inl ⟨by rfl, fun w' _ => by go_simp <;> omega⟩) s0 ?_
        go_simp
        refine wpAnyH_take (i := 3) (v := .pointer (some ⟨w2.heap.size, 0, none⟩)) rfl (by kernel_rfl) (by kernel_rfl) (by kernel_rfl) (fun _ _ _ h => h) (Or.inl ⟨by rfl, fun w' _ => by go_simp <;> omega⟩) s0 ?_
        go_simp
        refine wpAnyH_take (i := 4) (v := .pointer (some ⟨w2.heap.size, 0, none⟩)) rfl (by kernel_rfl) (by kernel_rfl) (by kernel_rfl) (fun _ _ _ h => h) (Or.inl ⟨by rfl, fun w' _ => by go_simp <;> omega⟩) s0 ?_
        go_simp
        refine wpAnyH_take (i := 5) (v := .pointer (some ⟨w2.heap.size, 0, none⟩)) rfl (by kernel_rfl) (by kernel_rfl) (by kernel_rfl) (fun _ _ _ h => h) (Or.inl ⟨by rfl, fun w' _ => by go_simp <;> omega⟩) s0 ?_
        go_simp
        refine wpAnyH_take (i := 6) (v := .pointer (some ⟨p, 0, none⟩)) rfl (by kernel_rfl) (by kernel_rfl) (by kernel_rfl) (fun _ _ _ h => h) (Or.inl ⟨by rfl, fun w' h => by obtain ⟨x0, x1, x2, x3, x4, x5, x6, x7⟩ := h; go_simp⟩) s0 ?_
        go_simp
        refine wpAnyH_all (rs := [7]) (by kernel_rfl) (by simp) ?_
        intro i hi
        obtain rfl : i = 7 := by simpa using hi
        clear hi
        refine wpOp_step rfl (fun K hK => ?_)
        go_simp
        refine (left_calls (HLD.out 1) HDL.out).mono ?_
        rintro en w7 ⟨rfl, nq2, rfl⟩
        rw [World.drewN_drewN]
        refine hK _ _ ⟨KC.out _, ?_⟩
        clear hK K
        refine wpAnyH_take (i := 8) (v := .int .i64 ((b.length : Int) - ((b.drop n).length - s.pos))) rfl (by kernel_rfl) (by kernel_rfl) (by kernel_rfl) (fun _ _ _ h => h) (Or.inl ⟨by rfl, fun w' _ => by go_simp <;> omega⟩) (KC.out _) ?_
        go_simp
        have hrd := HR5.out
        have y0 := cell_row (w := W5) hrd 0
        have y1 := cell_row (w := W5) hrd 1
        have y2 := cell_row (w := W5) hrd 2
        have y3 := cell_row (w := W5) hrd 3
        have y4 := cell_row (w := W5) hrd 4
        have y5 := cell_row (w := W5) hrd 5
        have z0 := frozen_row (w := W5) hrd 0
        have z1 := frozen_row (w := W5) hrd 1
        have z2 := frozen_row (w := W5) hrd 2
        have z3 := frozen_row (w := W5) hrd 3
        have z4 := frozen_row (w := W5) hrd 4
        have z5 := frozen_row (w := W5) hrd 5
        refine wpAnyH_all (rs := [9]) (by kernel_rfl) (by simp) ?_
        intro i hi
        obtain rfl : i = 9 := by simpa using hi
        clear hi
        refine wpOp_step rfl (fun K hK => ?_)
        go_simp
        refine hK _ _ ⟨by have x6 := HQ6.out; have x7 := HQ7.out; refine ⟨?_, ?_, ?_, ?_, ?_, ?_, ?_, ?_⟩ <;> go_simp, ?_⟩
        clear hK K
        refine wpAnyH_all (rs := [10]) (by kernel_rfl) (by simp) ?_
        intro i hi
        obtain rfl : i = 10 := by simpa using hi
        clear hi
        refine wpOp_step rfl (fun K hK => ?_)
        go_simp
        refine hK _ _ ⟨by have x6 := HQ6.out; have x7 := HQ7.out; refine ⟨?_, ?_, ?_, ?_, ?_, ?_, ?_, ?_⟩ <;> go_simp, ?_⟩
        clear hK K
        refine wpAnyH_all (rs := [11]) (by kernel_rfl) (by simp) ?_
        intro i hi
        obtain rfl : i = 11 := by simpa using hi
        clear hi
        refine wpOp_step rfl (fun K hK => ?_)
        go_simp
        refine hK _ _ ⟨by have x6 := HQ6.out; have x7 := HQ7.out; refine ⟨?_, ?_, ?_, ?_, ?_, ?_, ?_, ?_⟩ <;> go_simp, ?_⟩
        clear hK K
        refine wpAnyH_done (by kernel_rfl) ?_ _
        refine NoPanic.normal ?_
        go_wp2_with fail
        refine ⟨rfl, .tuple #[.agg #[.int .i64 x.kind, .bool x.loc, .int .i64 x.id.index, .int .i64 x.id.gen, .int .i64 x.comp, .slice A5 x.data.length c5], .int .i64 ((b.length : Int) - ((b.drop n).length - s.pos)), .int .i64 0], ?_, ?_⟩
        · simp only [results, HFR.out]
          go_simp
        · rw [HF.out]
          exact ⟨_, rfl, Rep.val_keep (w := W5.drewN (1 + nq2)) (fun j hj _ => ⟨by have hj' : W3.heap.size ≤ j := hj; have := HWZ.out; omega, keep_set6 (by have hj' : W3.heap.size ≤ j := hj; have := HZW.out; omega)⟩) (HX5.out _), below_set6 (below_drewN HB5.out _) (Nat.le_refl _)⟩
      · have he' : (er == 0) = false := beq_eq_false_iff_ne.2 he
        rw [if_neg he] at HF
        clear he
        go_wp2_with fail
        rw [HW5.out]
        clear y0 y1 y2 y3 y4 y5 z0 z1 z2 z3 z4 z5 ce
        have x7 := (KC.out 0).2.2.2.2.2.2.2
        refine wp_region_noPanic ?_
        refine wp_region_held_drew (S := fun W' => W'.cell? ⟨w2.heap.size, 1, none⟩ = some (.int .i64 er)) (by kernel_rfl) (KC.out 1).2.2.2.2.2.2.2 (fun s0 => ?_)
        refine wpAnyH_take (i := 0) (v := .agg #[.int .i64 0, .bool false, .int .i64 0, .int .i64 0, .int .i64 0, .slice none 0 0]) rfl (by kernel_rfl) (by kernel_rfl) (by kernel_rfl) (fun _ _ _ h => h) (Or.inl ⟨by rfl, fun w' _ => by go_simp <;> omega⟩) s0 ?_
        go_simp
        refine wpAnyH_take (i := 1) (v := .pointer (some ⟨w2.heap.size, 0, none⟩)) rfl (by kernel_rfl) (by kernel_rfl) (by kernel_rfl) (fun _ _ _ h => h) (Or.inl ⟨by rfl, fun w' _ => by go_simp <;> omega⟩) s0 ?_
        go_simp
        refine wpAnyH_take (i := 2) (v := .pointer (some ⟨w2.heap.size, 0, none⟩)) rfl (by kernel_rfl) (by kernel_rfl) (by kernel_rfl) (fun _ _ _ h => h) (Or.inl ⟨by rfl, fun w' _ => by go_simp <;> omega⟩) s0 ?_
        go_simp
        refine wpAnyH_take (i := 3) (v := .pointer (some ⟨w2.heap.size, 1, none⟩)) rfl (by kernel_rfl) (by kernel_rfl) (by kernel_rfl) (fun _ _ _ h => h) (Or.inl ⟨by rfl, fun w' _ => by go_simp <;> omega⟩) s0 ?_
        go_simp
        refine wpAnyH_take (i := 4) (v := .int .i64 er) rfl (by kernel_rfl) (by kernel_rfl) (by kernel_rfl) (fun _ _ _ h => h) (Or.inl ⟨by rfl, fun w' h => by have x7 : w'.cell? ⟨w2.heap.size, 1, none⟩ = some (.int .i64 er) := h; go_simp⟩) s0 ?_
        go_simp
        have hrd := HR5.out
        have y0 := cell_row (w := W5) hrd 0
        have y1 := cell_row (w := W5) hrd 1
        have y2 := cell_row (w := W5) hrd 2
        have y3 := cell_row (w := W5) hrd 3
        have y4 := cell_row (w := W5) hrd 4
        have y5 := cell_row (w := W5) hrd 5
        have z0 := frozen_row (w := W5) hrd 0
        have z1 := frozen_row (w := W5) hrd 1
        have z2 := frozen_row (w := W5) hrd 2
        have z3 := frozen_row (w := W5) hrd 3
        have z4 := frozen_row (w := W5) hrd 4
        have z5 := frozen_row (w := W5) hrd 5
        refine wpAnyH_all (rs := [5]) (by kernel_rfl) (by simp) ?_
        intro i hi
        obtain rfl : i = 5 := by simpa using hi
        clear hi
        refine wpOp_step rfl (fun K hK => ?_)
        go_simp
        refine hK _ _ ⟨by (have x7 := HQ7.out; go_simp), ?_⟩
        clear hK K
        refine wpAnyH_all (rs := [6]) (by kernel_rfl) (by simp) ?_
        intro i hi
        obtain rfl : i = 6 := by simpa using hi
        clear hi
        refine wpOp_step rfl (fun K hK => ?_)
        go_simp
        refine hK _ _ ⟨by (have x7 := HQ7.out; go_simp), ?_⟩
        clear hK K
        refine wpAnyH_all (rs := [7]) (by kernel_rfl) (by simp) ?_
        intro i hi
        obtain rfl : i = 7 := by simpa using hi
        clear hi
        refine wpOp_step rfl (fun K hK => ?_)
        go_simp
        refine hK _ _ ⟨by (have x7 := HQ7.out; go_simp), ?_⟩
        clear hK K
        refine wpAnyH_done (by kernel_rfl) ?_ _
        refine NoPanic.normal ?_
        go_wp2_with fail
        refine ⟨rfl, .tuple #[.agg #[.int .i64 0, .bool false, .int .i64 0, .int .i64 0, .int .i64 0, .slice none 0 0], .int .i64 0, .int .i64 er], ?_, ?_⟩
        · simp only [results, HFR.out]
          go_simp
        · rw [HF.out]
          refine ⟨_, rfl, zero_val, ?_⟩
          first
            | with_reducible exact (below_set6 HB5.out (Nat.le_refl _)).drew
            | with_reducible exact below_set6 HB5.out.drew (Nat.le_refl _)
    · go_enter Try.func140, Try.ntmps140
      go_wp2_with fail
      refine (read_calls (drop_val (HA1.out W1 (Below.refl _ _)) (by omega) (by omega) (by unfold maxLen; omega)) HDL.out).mono ?_
      rintro e w2 ⟨p, A2, c2, rfl, hr, hp, hb, hs⟩
      try rw [hW1]
      have HLO := Lib.hid (show ∀ W, Below w2.heap.size w2 W → Rep.byte.Sl (fun x => (W1.heap.size ≤ x ∧ x ≠ p) ∧ x < p) W A2 c2 (b.drop n) from fun W h => Rep.Sl.keep (fun x hx hl => ⟨hx, h.block x hl.lt⟩) (Rep.Sl.both hs hr.sl))
      obtain ⟨W3, hW3⟩ : ∃ W3, w2.alloc (.cells #[.pointer (some ⟨p, 0, none⟩), .int .i64 0] 238) = W3 := ⟨_, rfl⟩
      have hb3 : Below w2.heap.size w2 W3 := by rw [← hW3]; exact (Below.refl _ _).alloc (Nat.le_refl _) _
      have HC3 := Lib.hid (show CRd W3 w2.heap.size p A2 c2 (b.drop n) ⟨0, false, 0⟩ from ⟨⟨(hb3.block p hr.lt).trans hr.blk, Rep.Sl.keep (fun x hx _ => ⟨hx.2, rfl⟩) (HLO.out W3 hb3), Nat.zero_le _⟩, by rw [← hW3]; exact heap_alloc_new _ _, hr.lt⟩)
      have HP := Lib.hid hp
      have HB2 := Lib.hid hb
      have HB3 := Lib.hid hb3
      have HW3 := Lib.hid hW3
      have HPL := Lib.hid hr.lt
      clear hr hp hb hs hb3 hW3 hW1 y0 y1 y2 y3 y4 y5 z0 z1 z2 z3 z4 z5
      go_wp2_with fail
      rw [HW3.out]
      refine (ccmd_calls HC3.out HDL.out).mono ?_
      rintro e w4 ⟨u4, rfl, hu4, hc4, ho4⟩
      obtain ⟨r, hr⟩ : ∃ r, cmdRun (b.drop n) ⟨0, false, 0⟩ = r := ⟨_, rfl⟩
      rw [hr] at hu4 hc4 HF
      obtain ⟨x, s⟩ := r
      dsimp only at hu4 hc4 HF
      obtain ⟨A5, c5, rfl, f0, f1, f2, f3, f4⟩ := rCmd_val hu4
      have q1 := HZ1.out
      have q2 := HP.out
      have q3 := HPL.out
      have q4 := HB2.out.size
      have q5 := HB3.out.size
      have q6 := ho4.size
      have hz3 : W3.heap.size = w2.heap.size + 1 := by rw [← HW3.out]; simp
      have hr4 : w4.heap[w.heap.size]? = some (.cells zeroCmd6 116 (0, 0)) := (ho4.block _ (by omega) (fun e => by omega)).trans ((HB3.out.block _ (by omega)).trans ((HB2.out.block _ (by omega)).trans HR1.out))
      have y0 := cell_row hr4 0
      have y1 := cell_row hr4 1
      have y2 := cell_row hr4 2
      have y3 := cell_row hr4 3
      have y4 := cell_row hr4 4
      have y5 := cell_row hr4 5
      have z0 := frozen_row hr4 0
      have z1 := frozen_row hr4 1
      have z2 := frozen_row hr4 2
      have z3 := frozen_row hr4 3
      have z4 := frozen_row hr4 4
      have z5 := frozen_row hr4 5
      simp only [zeroCmd6] at y0 y1 y2 y3 y4 y5
      have hne : w.heap.size ≠ w2.heap.size := by omega
      have ce := hc4.c1
      obtain ⟨W5, hW5⟩ : ∃ W5, (((((w4.setCell ⟨w.heap.size, 0, none⟩ (.int .i64 x.kind)).setCell ⟨w.heap.size, 1, none⟩ (.bool x.loc)).setCell ⟨w.heap.size, 2, none⟩ (.int .i64 x.id.index)).setCell ⟨w.heap.size, 3, none⟩ (.int .i64 x.id.gen)).setCell ⟨w.heap.size, 4, none⟩ (.int .i64 x.comp)).setCell ⟨w.heap.size, 5, none⟩ (.slice A5 x.data.length c5) = W5 := ⟨_, rfl⟩
      have hk5 : ∀ j, j ≠ w.heap.size → W5.heap[j]? = w4.heap[j]? := fun j hj => by rw [← hW5]; exact keep_set6 hj
      have HR5 := Lib.hid (show W5.heap[w.heap.size]? = some (.cells #[.int .i64 x.kind, .bool x.loc, .int .i64 x.id.index, .int .i64 x.id.gen, .int .i64 x.comp, .slice A5 x.data.length c5] 116 (0, 0)) by rw [← hW5, heap_setRow (heap_setRow (heap_setRow (heap_setRow (heap_setRow (heap_setRow hr4)))))]; rfl)
      have hq5 : W5.heap[w2.heap.size]? = some (.cells #[.pointer (some ⟨p, 0, none⟩), .int .i64 s.err] 238 (0, 0)) := (hk5 _ (by omega)).trans hc4.blk
      have HRD := Lib.hid (show RdrAt W5 p A2 c2 (b.drop n) s.pos s.bad from ⟨(hk5 _ (by omega)).trans hc4.rd.blk, Rep.Sl.keep (fun y hy hl => ⟨hy.2, by
        have := hl.lt
        exact (hk5 y (by omega)).trans ((ho4.block y (by omega) (fun e => by omega)).trans (HB3.out.block y this))⟩) (HLO.out w2 (Below.refl _ _)), hc4.rd.le⟩)
      have HLD := Lib.hid (fun nq => HRD.out.drewN nq)
      have HB5 := Lib.hid (show Below w.heap.size w W5 by
        rw [← hW5]
        refine below_set6 ?_ (Nat.le_refl _)
        have h3 : Below w.heap.size w W3 := HB1.out.trans ((HB2.out.trans (HB3.out.mono q4)).mono (by omega))
        exact ⟨ho4.os.trans h3.os, ho4.tape.trans h3.tape, ho4.output.trans h3.output, by omega, fun j hj => (ho4.block j (by omega) (fun e => by omega)).trans (h3.block j hj)⟩)
      have HX5 := Lib.hid (show ∀ nq, rCmd.val (fun j => W3.heap.size ≤ j) (W5.drewN nq) (.agg #[.int .i64 x.kind, .bool x.loc, .int .i64 x.id.index, .int .i64 x.id.gen, .int .i64 x.comp, .slice A5 x.data.length c5]) x from fun nq => Rep.val_keep (w := w4) (fun j hj _ => ⟨hj, (hk5 j (by have hj' : W3.heap.size ≤ j := hj; omega)).trans rfl⟩) hu4)
      have KC := Lib.hid (show ∀ nq, ((W5.drewN nq).cell? ⟨w.heap.size, 0, none⟩ = some (.int .i64 x.kind) ∧ (W5.drewN nq).cell? ⟨w.heap.size, 1, none⟩ = some (.bool x.loc) ∧ (W5.drewN nq).cell? ⟨w.heap.size, 2, none⟩ = some (.int .i64 x.id.index) ∧ (W5.drewN nq).cell? ⟨w.heap.size, 3, none⟩ = some (.int .i64 x.id.gen) ∧ (W5.drewN nq).cell? ⟨w.heap.size, 4, none⟩ = some (.int .i64 x.comp) ∧ (W5.drewN nq).cell? ⟨w.heap.size, 5, none⟩ = some (.slice A5 x.data.length c5) ∧
          (W5.drewN nq).cell? ⟨w2.heap.size, 0, none⟩ = some (.pointer (some ⟨p, 0, none⟩)) ∧ (W5.drewN nq).cell? ⟨w2.heap.size, 1, none⟩ = some (.int .i64 s.err)) from fun nq =>
        ⟨cell_row (w := W5.drewN nq) HR5.out 0, cell_row (w := W5.drewN nq) HR5.out 1, cell_row (w := W5.drewN nq) HR5.out 2, cell_row (w := W5.drewN nq) HR5.out 3, cell_row (w := W5.drewN nq) HR5.out 4, cell_row (w := W5.drewN nq) HR5.out 5, cell_row (w := W5.drewN nq) hq5 0, cell_row (w := W5.drewN nq) hq5 1⟩)
      have HFW := Lib.hid (And.intro f0 (And.intro f1 (And.intro f2 f3)))
      have HLE := Lib.hid (show (s.pos : Int) ≤ (b.drop n).length by have := hc4.rd.le; omega)
      have HW5 := Lib.hid hW5
      have HQ6 := Lib.hid (cell_row (w := W5) hq5 0)
      have HQ7 := Lib.hid (cell_row (w := W5) hq5 1)
      have HWZ := Lib.hid (show w.heap.size ≤ W3.heap.size by omega)
      have HZW := Lib.hid (show w.heap.size < W3.heap.size by omega)
      obtain ⟨er, her⟩ : ∃ er, s.err = er := ⟨_, rfl⟩
      rw [her] at ce HF KC HQ7
      clear hr hu4 hc4 ho4 f0 f1 f2 f3 f4 q1 q2 q3 q4 q5 q6 hz3 hr4 hk5 hq5 hW5 her
      by_cases he : er = 0
      · subst he
        rw [if_pos rfl] at HF
        go_wp2_with fail
        rw [HW5.out]
        clear y0 y1 y2 y3 y4 y5 z0 z1 z2 z3 z4 z5 ce
        have i1 : IntKind.i64.wrap ((b.length : Int) - (((b.length - n : Nat) : Int) - s.pos)) = (b.length : Int) - (((b.length - n : Nat) : Int) - s.pos) := IntWalk.i64_in _ ⟨by have := HLE.out; have := HDN.out; have := HBL.out; omega, by have := HLE.out; have := HDN.out; have := HBL.out; omega⟩
        refine wp_region_noPanic ?_
        refine wp_region_held_drew (S := fun W' => W'.cell? ⟨w.heap.size, 0, none⟩ = some (.int .i64 x.kind) ∧ W'.cell? ⟨w.heap.size, 1, none⟩ = some (.bool x.loc) ∧ W'.cell? ⟨w.heap.size, 2, none⟩ = some (.int .i64 x.id.index) ∧ W'.cell? ⟨w.heap.size, 3, none⟩ = some (.int .i64 x.id.gen) ∧ W'.cell? ⟨w.heap.size, 4, none⟩ = some (.int .i64 x.comp) ∧ W'.cell? ⟨w.heap.size, 5, none⟩ = some (.slice A5 x.data.length c5) ∧ W'.cell? ⟨w2.heap.size, 0, none⟩ = some (.pointer (some ⟨p, 0, none⟩)) ∧ W'.cell? ⟨w2.heap.size, 1, none⟩ = some (.int .i64 0)) (by kernel_rfl) (KC.out 1) (fun s0 => ?_)
        refine wpAnyH_take (i := 0) (v := .agg #[.int .i64 x.kind, .bool x.loc, .int .i64 x.id.index, .int .i64 x.id.gen, .int .i64 x.comp, .slice A5 x.data.length c5]) rfl (by kernel_rfl) (by kernel_rfl) (by kernel_rfl) (fun _ _ _ h => h) (Or.inl ⟨by rfl, fun w' h => by obtain ⟨x0, x1, x2, x3, x4, x5, x6, x7⟩ := h; go_simp⟩) s0 ?_
        go_simp
        refine wpAnyH_take (i := 1) (v := .slice A b.length c) rfl (by kernel_rfl) (by kernel_rfl) (by kernel_rfl) (fun _ _ _ h => h) (Or.inl ⟨by rfl, fun w' _ => by go_simp <;> omega⟩) s0 ?_
        go_simp
        refine wpAnyH_take (i := 2) (v := .int .i64 b.length) rfl (by kernel_rfl) (by kernel_rfl) (by kernel_rfl) (fun _ _ _ h => h) (Or.inl ⟨by rfl, fun w' _ => by go_simp <;> omega⟩) s0 ?_
        go_simp
        refine wpAnyH_take (i := 3) (v := .pointer (some ⟨w2.heap.size, 0, none⟩)) rfl (by kernel_rfl) (by kernel_rfl) (by kernel_rfl) (fun _ _ _ h => h) (Or.inl ⟨by rfl, fun w' _ => by go_simp <;> omega⟩) s0 ?_
        go_simp
        refine wpAnyH_take (i := 4) (v := .pointer (some ⟨w2.heap.size, 0, none⟩)) rfl (by kernel_rfl) (by kernel_rfl) (by kernel_rfl) (fun _ _ _ h => h) (Or.inl ⟨by rfl, fun w' _ => by go_simp <;> omega⟩) s0 ?_
        go_simp
        refine wpAnyH_take (i := 5) (v := .pointer (some ⟨w2.heap.size, 0, none⟩)) rfl (by kernel_rfl) (by kernel_rfl) (by kernel_rfl) (fun _ _ _ h => h) (Or.inl ⟨by rfl, fun w' _ => by go_simp <;> omega⟩) s0 ?_
        go_simp
        refine wpAnyH_take (i := 6) (v := .pointer (some ⟨p, 0, none⟩)) rfl (by kernel_rfl) (by kernel_rfl) (by kernel_rfl) (fun _ _ _ h => h) (Or.inl ⟨by rfl, fun w' h => by obtain ⟨x0, x1, x2, x3, x4, x5, x6, x7⟩ := h; go_simp⟩) s0 ?_
        go_simp
        refine wpAnyH_all (rs := [7]) (by kernel_rfl) (by simp) ?_
        intro i hi
        obtain rfl : i = 7 := by simpa using hi
        clear hi
        refine wpOp_step rfl (fun K hK => ?_)
        go_simp
        refine (left_calls (HLD.out 1) HDL.out).mono ?_
        rintro en w7 ⟨rfl, nq2, rfl⟩
        rw [World.drewN_drewN]
        refine hK _ _ ⟨KC.out _, ?_⟩
        clear hK K
        refine wpAnyH_take (i := 8) (v := .int .i64 ((b.length : Int) - ((b.drop n).length - s.pos))) rfl (by kernel_rfl) (by kernel_rfl) (by kernel_rfl) (fun _ _ _ h => h) (Or.inl ⟨by rfl, fun w' _ => by go_simp <;> omega⟩) (KC.out _) ?_
        go_simp
        have hrd := HR5.out
        have y0 := cell_row (w := W5) hrd 0
        have y1 := cell_row (w := W5) hrd 1
        have y2 := cell_row (w := W5) hrd 2
        have y3 := cell_row (w := W5) hrd 3
        have y4 := cell_row (w := W5) hrd 4
        have y5 := cell_row (w := W5) hrd 5
        have z0 := frozen_row (w := W5) hrd 0
        have z1 := frozen_row (w := W5) hrd 1
        have z2 := frozen_row (w := W5) hrd 2
        have z3 := frozen_row (w := W5) hrd 3
        have z4 := frozen_row (w := W5) hrd 4
        have z5 := frozen_row (w := W5) hrd 5
        refine wpAnyH_all (rs := [9]) (by kernel_rfl) (by simp) ?_
        intro i hi
        obtain rfl : i = 9 := by simpa using hi
        clear hi
        refine wpOp_step rfl (fun K hK => ?_)
        go_simp
        refine hK _ _ ⟨by have x6 := HQ6.out; have x7 := HQ7.out; refine ⟨?_, ?_, ?_, ?_, ?_, ?_, ?_, ?_⟩ <;> go_simp, ?_⟩
        clear hK K
        refine wpAnyH_all (rs := [10]) (by kernel_rfl) (by simp) ?_
        intro i hi
        obtain rfl : i = 10 := by simpa using hi
        clear hi
        refine wpOp_step rfl (fun K hK => ?_)
        go_simp
        refine hK _ _ ⟨by have x6 := HQ6.out; have x7 := HQ7.out; refine ⟨?_, ?_, ?_, ?_, ?_, ?_, ?_, ?_⟩ <;> go_simp, ?_⟩
        clear hK K
        refine wpAnyH_all (rs := [11]) (by kernel_rfl) (by simp) ?_
        intro i hi
        obtain rfl : i = 11 := by simpa using hi
        clear hi
        refine wpOp_step rfl (fun K hK => ?_)
        go_simp
        refine hK _ _ ⟨by have x6 := HQ6.out; have x7 := HQ7.out; refine ⟨?_, ?_, ?_, ?_, ?_, ?_, ?_, ?_⟩ <;> go_simp, ?_⟩
        clear hK K
        refine wpAnyH_done (by kernel_rfl) ?_ _
        refine NoPanic.normal ?_
        go_wp2_with fail
        refine ⟨rfl, .tuple #[.agg #[.int .i64 x.kind, .bool x.loc, .int .i64 x.id.index, .int .i64 x.id.gen, .int .i64 x.comp, .slice A5 x.data.length c5], .int .i64 ((b.length : Int) - ((b.drop n).length - s.pos)), .int .i64 0], ?_, ?_⟩
        · simp only [results, HFR.out]
          go_simp
        · rw [HF.out]
          exact ⟨_, rfl, Rep.val_keep (w := W5.drewN (1 + nq2)) (fun j hj _ => ⟨by have hj' : W3.heap.size ≤ j := hj; have := HWZ.out; omega, keep_set6 (by have hj' : W3.heap.size ≤ j := hj; have := HZW.out; omega)⟩) (HX5.out _), below_set6 (below_drewN HB5.out _) (Nat.le_refl _)⟩
      · have he' : (er == 0) = false := beq_eq_false_iff_ne.2 he
        rw [if_neg he] at HF
        clear he
        go_wp2_with fail
        rw [HW5.out]
        clear y0 y1 y2 y3 y4 y5 z0 z1 z2 z3 z4 z5 ce
        have x7 := (KC.out 0).2.2.2.2.2.2.2
        refine wp_region_noPanic ?_
        refine wp_region_held_drew (S := fun W' => W'.cell? ⟨w2.heap.size, 1, none⟩ = some (.int .i64 er)) (by kernel_rfl) (KC.out 1).2.2.2.2.2.2.2 (fun s0 => ?_)
        refine wpAnyH_take (i := 0) (v := .agg #[.int .i64 0, .bool false, .int .i64 0, .int .i64 0, .int .i64 0, .slice none 0 0]) rfl (by kernel_rfl) (by kernel_rfl) (by kernel_rfl) (fun _ _ _ h => h) (Or.inl ⟨by rfl, fun w' _ => by go_simp <;> omega⟩) s0 ?_
        go_simp
        refine wpAnyH_take (i := 1) (v := .pointer (some ⟨w2.heap.size, 0, none⟩)) rfl (by kernel_rfl) (by kernel_rfl) (by kernel_rfl) (fun _ _ _ h => h) (Or.inl ⟨by rfl, fun w' _ => by go_simp <;> omega⟩) s0 ?_
        go_simp
        refine wpAnyH_take (i := 2) (v := .pointer (some ⟨w2.heap.size, 0, none⟩)) rfl (by kernel_rfl) (by kernel_rfl) (by kernel_rfl) (fun _ _ _ h => h) (Or.inl ⟨by rfl, fun w' _ => by go_simp <;> omega⟩) s0 ?_
        go_simp
        refine wpAnyH_take (i := 3) (v := .pointer (some ⟨w2.heap.size, 1, none⟩)) rfl (by kernel_rfl) (by kernel_rfl) (by kernel_rfl) (fun _ _ _ h => h) (Or.inl ⟨by rfl, fun w' _ => by go_simp <;> omega⟩) s0 ?_
        go_simp
        refine wpAnyH_take (i := 4) (v := .int .i64 er) rfl (by kernel_rfl) (by kernel_rfl) (by kernel_rfl) (fun _ _ _ h => h) (Or.inl ⟨by rfl, fun w' h => by have x7 : w'.cell? ⟨w2.heap.size, 1, none⟩ = some (.int .i64 er) := h; go_simp⟩) s0 ?_
        go_simp
        have hrd := HR5.out
        have y0 := cell_row (w := W5) hrd 0
        have y1 := cell_row (w := W5) hrd 1
        have y2 := cell_row (w := W5) hrd 2
        have y3 := cell_row (w := W5) hrd 3
        have y4 := cell_row (w := W5) hrd 4
        have y5 := cell_row (w := W5) hrd 5
        have z0 := frozen_row (w := W5) hrd 0
        have z1 := frozen_row (w := W5) hrd 1
        have z2 := frozen_row (w := W5) hrd 2
        have z3 := frozen_row (w := W5) hrd 3
        have z4 := frozen_row (w := W5) hrd 4
        have z5 := frozen_row (w := W5) hrd 5
        refine wpAnyH_all (rs := [5]) (by kernel_rfl) (by simp) ?_
        intro i hi
        obtain rfl : i = 5 := by simpa using hi
        clear hi
        refine wpOp_step rfl (fun K hK => ?_)
        go_simp
        refine hK _ _ ⟨by (have x7 := HQ7.out; go_simp), ?_⟩
        clear hK K
        refine wpAnyH_all (rs := [6]) (by kernel_rfl) (by simp) ?_
        intro i hi
        obtain rfl : i = 6 := by simpa using hi
        clear hi
        refine wpOp_step rfl (fun K hK => ?_)
        go_simp
        refine hK _ _ ⟨by (have x7 := HQ7.out; go_simp), ?_⟩
        clear hK K
        refine wpAnyH_all (rs := [7]) (by kernel_rfl) (by simp) ?_
        intro i hi
        obtain rfl : i = 7 := by simpa using hi
        clear hi
        refine wpOp_step rfl (fun K hK => ?_)
        go_simp
        refine hK _ _ ⟨by (have x7 := HQ7.out; go_simp), ?_⟩
        clear hK K
        refine wpAnyH_done (by kernel_rfl) ?_ _
        refine NoPanic.normal ?_
        go_wp2_with fail
        refine ⟨rfl, .tuple #[.agg #[.int .i64 0, .bool false, .int .i64 0, .int .i64 0, .int .i64 0, .slice none 0 0], .int .i64 0, .int .i64 er], ?_, ?_⟩
        · simp only [results, HFR.out]
          go_simp
        · rw [HF.out]
          refine ⟨_, rfl, zero_val, ?_⟩
          first
            | with_reducible exact (below_set6 HB5.out (Nat.le_refl _)).drew
            | with_reducible exact below_set6 HB5.out.drew (Nat.le_refl _)
end Go.Proofs.Yteljibjbndpncaa
