/- The statement on which entities hold any terms, walked: it answers true at whatever state, terms and entity, and what there was stands. -/
import Derived.Test.YtecdbfbaclgejaaMuchView
import Derived.Test.YtecdbfbaclgejaaRSets
namespace Go.Proofs.Ytecdbfbaclgejaa
open Go.RowKit

/-- A slice literal of values that have cells of their own. -/
theorem lit_cells {α : Type} {r : Rep α} {e : Nat} {w : World} {cs : List Value} {xs : List α} {n : Nat} (hn : n = xs.length) (hm : n ≤ maxLen) {Q : Nat → Prop} (hb : Q w.heap.size) (hr : r.row Q (w.alloc (.cells cs.toArray e)) cs xs) :
    r.list.val Q (w.alloc (.cells cs.toArray e)) (.slice (some ⟨w.heap.size, 0, none⟩) n n) xs :=
  Rep.list_val hn (Nat.le_refl _) hm ⟨cs, hr, fun _ => ⟨w.heap.size, 0, rfl, hb, ⟨_, _, _, heap_alloc_new w _⟩, fun j u hj => by
    rw [cell_of_row _ _ _ _ _ _ (heap_alloc_new w _), Nat.zero_add, ← hj]; simp⟩⟩
theorem cell_new (w : World) (cs : Array Value) (e i : Nat) : (w.alloc (.cells cs e)).cell? ⟨w.heap.size, i, none⟩ = cs[i]? := by
  have h := heap_alloc_new w (.cells cs e)
  simp only [World.cell?, h]; rfl
theorem below_alloc (w : World) (o : Obj) : Below w.heap.size w (w.alloc o) := (Below.refl _ _).alloc (Nat.le_refl _) _
theorem sl_nil {α : Type} (r : Rep α) (Q : Nat → Prop) (w : World) : r.Sl Q w none 0 [] := ⟨Nat.le_refl _, by simp [maxLen], [], rfl, fun h => absurd h (by simp)⟩

def ents0 : List DEnt := [⟨⟨0, 0⟩, [⟨0, []⟩]⟩, ⟨⟨5, 0⟩, []⟩]
def terms0 : List DTerm := [⟨1, 0, []⟩]
theorem ask0 : askOf ents0 terms0 = [⟨5, 0⟩] := by decide +kernel

set_option maxRecDepth 100000 in
set_option maxHeartbeats 400000 in
/-- live of the statements on views -/
theorem live35 (w : World) : Calls Try.prog 24 #[] w fun e w' => e = .returned (.bool true) ∧ Below w.heap.size w w' := by
  obtain ⟨W1, hW1⟩ : ∃ W1, w.alloc (.cells #[.int .i64 0, .slice none 0 0] 143) = W1 := ⟨_, rfl⟩
  have b1 : Below w.heap.size w W1 := by rw [← hW1]; exact below_alloc _ _
  have z1 : W1.heap.size = w.heap.size + 1 := by rw [← hW1]; simp
  have p1 : rPart.list.val (fun _ => True) W1 (.slice (some ⟨w.heap.size, 0, none⟩) 1 1) [⟨0, []⟩] := by
    rw [← hW1]
    exact lit_cells (r := rPart) (xs := [⟨0, []⟩]) (cs := [.int .i64 0, .slice none 0 0]) rfl (by simp [maxLen]) trivial (Rep.row_one_elem (rPart_mk (x := ⟨0, []⟩) rfl (sl_nil _ _ _)))
  obtain ⟨W2, hW2⟩ : ∃ W2, W1.alloc (.cells #[.int .i64 0, .int .i64 0, .slice (some ⟨w.heap.size, 0, none⟩) 1 1, .int .i64 5, .int .i64 0, .slice none 0 0] 39) = W2 := ⟨_, rfl⟩
  have b2 : Below W1.heap.size W1 W2 := by rw [← hW2]; exact below_alloc _ _
  have z2 : W2.heap.size = w.heap.size + 2 := by rw [← hW2]; simp [z1]
  have p2 : rEnt.list.val (fun _ => True) W2 (.slice (some ⟨w.heap.size + 1, 0, none⟩) 2 2) ents0 := by
    obtain ⟨A, c, he, hs⟩ := Rep.val_sl (Rep.val_below p1 b2 fun _ _ h => h.lt)
    cases he
    rw [← hW2] at hs ⊢
    rw [← z1]
    exact lit_cells (r := rEnt) (xs := ents0) (cs := [.int .i64 0, .int .i64 0, .slice (some ⟨w.heap.size, 0, none⟩) 1 1, .int .i64 5, .int .i64 0, .slice none 0 0]) rfl (by simp [maxLen, ents0]) trivial
      (Rep.row_append (Rep.row_one_elem (rEnt_mk (x := ⟨⟨0, 0⟩, [⟨0, []⟩]⟩) rfl rfl hs)) (Rep.row_one_elem (rEnt_mk (x := ⟨⟨5, 0⟩, []⟩) rfl rfl (sl_nil _ _ _))))
  obtain ⟨W3, hW3⟩ : ∃ W3, W2.alloc (.cells #[.slice none 0 0, .slice none 0 0, .slice (some ⟨w.heap.size + 1, 0, none⟩) 2 2] 33) = W3 := ⟨_, rfl⟩
  have b3 : Below W2.heap.size W2 W3 := by rw [← hW3]; exact below_alloc _ _
  have z3 : W3.heap.size = w.heap.size + 3 := by rw [← hW3]; simp [z2]
  obtain ⟨W4, hW4⟩ : ∃ W4, W3.alloc (.cells #[.int .i64 1, .int .i64 0, .slice none 0 0] 41) = W4 := ⟨_, rfl⟩
  have b4 : Below W3.heap.size W3 W4 := by rw [← hW4]; exact below_alloc _ _
  have HT := Lib.hid (show rTerm.list.val (fun _ => True) W4 (.slice (some ⟨w.heap.size + 3, 0, none⟩) 1 1) terms0 by
    rw [← hW4, ← z3]
    exact lit_cells (r := rTerm) (xs := terms0) (cs := [.int .i64 1, .int .i64 0, .slice none 0 0]) rfl (by simp [maxLen, terms0]) trivial (Rep.row_one_elem (rTerm_mk (x := ⟨1, 0, []⟩) rfl rfl (sl_nil _ _ _))))
  have HS := Lib.hid (show rState.val (fun _ => True) W4 (.agg #[.slice none 0 0, .slice none 0 0, .slice (some ⟨w.heap.size + 1, 0, none⟩) 2 2]) ⟨[], [], ents0⟩ by
    obtain ⟨A, c, he, hs⟩ := Rep.val_sl (Rep.val_below (Rep.val_below p2 b3 fun _ _ h => h.lt) b4 fun _ _ h => h.lt)
    cases he
    exact rState_agg (x := ⟨[], [], ents0⟩) (sl_nil _ _ _) (sl_nil _ _ _) hs)
  have HB := Lib.hid (show Below w.heap.size w W4 from ((b1.trans (b2.mono b1.size)).trans (b3.mono (by omega))).trans (b4.mono (by omega)))
  have HA := Lib.hid ask0
  have hE : W4 = (((w.alloc (.cells #[.int .i64 0, .slice none 0 0] 143)).alloc (.cells #[.int .i64 0, .int .i64 0, .slice (some ⟨w.heap.size, 0, none⟩) 1 1, .int .i64 5, .int .i64 0, .slice none 0 0] 39)).alloc (.cells #[.slice none 0 0, .slice none 0 0, .slice (some ⟨w.heap.size + 1, 0, none⟩) 2 2] 33)).alloc (.cells #[.int .i64 1, .int .i64 0, .slice none 0 0] 41) := by
    rw [← hW4, ← hW3, ← hW2, ← hW1]
  have HE := Lib.hid hE
  clear hW1 b1 z1 p1 hW2 b2 z2 p2 hW3 b3 z3 hW4 b4 hE
  go_enter Try.func24, Try.ntmps24
  go_wp2_with fail
  rw [← HE.out]
  refine (ask_calls HS.out HT.out (by decide)).mono ?_
  rintro e w5 ⟨u5, rfl, hu5, hb5⟩
  rw [show askOf (DState.ents ⟨[], [], ents0⟩) terms0 = [⟨5, 0⟩] from HA.out] at hu5
  obtain ⟨A, c, rfl, _, _, hA⟩ := Rep.val_list hu5
  obtain ⟨b, off, rfl, _, c0, c1, _⟩ := rID_at hA (i := 0) rfl
  rw [Nat.zero_mul, Nat.add_zero] at c0
  clear hu5 hA c1
  go_wp2_with fail
  go_ret
  exact ⟨rfl, HB.out.trans (hb5.mono HB.out.size)⟩

set_option maxRecDepth 100000 in
set_option maxHeartbeats 2000000 in
/-- ViewAsks -/
theorem viewAsks_calls {Qa Qb Qc Qd : Nat → Prop} {w : World} {v0 v1 v2 v3 : Value} {s : DState} {l : List DTerm} {x : DEnt} {t : DTerm} (h0 : rState.val Qa w v0 s) (h1 : rTerm.list.val Qb w v1 l) (h2 : rEnt.val Qc w v2 x) (h3 : rTerm.val Qd w v3 t) :
    Calls Try.prog 4 #[v0, v1, v2, v3] w fun e w' => e = .returned (.bool true) ∧ Below w.heap.size w w' := by
  obtain ⟨A1, c1, A2, c2, A3, c3, rfl, sg, sf, se⟩ := rState_val h0
  obtain ⟨B, d, rfl, _, _, _⟩ := Rep.val_list h1
  obtain ⟨A4, c4, rfl, f0, f1, sp⟩ := rEnt_val h2
  obtain ⟨A5, c5, rfl, k0, k1, sd⟩ := rTerm_val h3
  obtain ⟨W3, hW3⟩ : ∃ W3, ((w.alloc (.cells #[.slice A1 s.gens.length c1, .slice A2 s.free.length c2, .slice A3 s.ents.length c3] 33)).alloc (.cells #[.int .i64 x.id.index, .int .i64 x.id.gen, .slice A4 x.parts.length c4] 39)).alloc (.cells #[.int .i64 t.kind, .int .i64 t.comp, .slice A5 t.data.length c5] 41) = W3 := ⟨_, rfl⟩
  have hb : Below w.heap.size w W3 := by rw [← hW3]; exact (((Below.refl _ _).alloc (Nat.le_refl _) _).alloc (by simp) _).alloc (by simp; omega) _
  have hz : W3.heap.size = w.heap.size + 3 := by rw [← hW3]; simp
  have z1 : (w.alloc (.cells #[.slice A1 s.gens.length c1, .slice A2 s.free.length c2, .slice A3 s.ents.length c3] 33)).heap.size = w.heap.size + 1 := by simp
  have z2 : ((w.alloc (.cells #[.slice A1 s.gens.length c1, .slice A2 s.free.length c2, .slice A3 s.ents.length c3] 33)).alloc (.cells #[.int .i64 x.id.index, .int .i64 x.id.gen, .slice A4 x.parts.length c4] 39)).heap.size = w.heap.size + 1 + 1 := by simp
  have r0 := cell_new w #[.slice A1 s.gens.length c1, .slice A2 s.free.length c2, .slice A3 s.ents.length c3] 33
  have r1 := cell_new (w.alloc (.cells #[.slice A1 s.gens.length c1, .slice A2 s.free.length c2, .slice A3 s.ents.length c3] 33)) #[.int .i64 x.id.index, .int .i64 x.id.gen, .slice A4 x.parts.length c4] 39
  have r2 := cell_new ((w.alloc (.cells #[.slice A1 s.gens.length c1, .slice A2 s.free.length c2, .slice A3 s.ents.length c3] 33)).alloc (.cells #[.int .i64 x.id.index, .int .i64 x.id.gen, .slice A4 x.parts.length c4] 39)) #[.int .i64 t.kind, .int .i64 t.comp, .slice A5 t.data.length c5] 41
  rw [z1] at r1
  rw [z2, hW3] at r2
  have y1 := below_alloc (w.alloc (.cells #[.slice A1 s.gens.length c1, .slice A2 s.free.length c2, .slice A3 s.ents.length c3] 33)) (.cells #[.int .i64 x.id.index, .int .i64 x.id.gen, .slice A4 x.parts.length c4] 39)
  have y2 := below_alloc ((w.alloc (.cells #[.slice A1 s.gens.length c1, .slice A2 s.free.length c2, .slice A3 s.ents.length c3] 33)).alloc (.cells #[.int .i64 x.id.index, .int .i64 x.id.gen, .slice A4 x.parts.length c4] 39)) (.cells #[.int .i64 t.kind, .int .i64 t.comp, .slice A5 t.data.length c5] 41)
  rw [z1] at y1
  rw [z2, hW3] at y2
  have q0 : W3.cell? ⟨w.heap.size, 0, none⟩ = some (.slice A1 s.gens.length c1) := (y2.cell (p := ⟨w.heap.size, 0, none⟩) (show w.heap.size < w.heap.size + 1 + 1 by omega)).trans ((y1.cell (p := ⟨w.heap.size, 0, none⟩) (Nat.lt_succ_self _)).trans ((r0 0).trans rfl))
  have q1 : W3.cell? ⟨w.heap.size, 1, none⟩ = some (.slice A2 s.free.length c2) := (y2.cell (p := ⟨w.heap.size, 1, none⟩) (show w.heap.size < w.heap.size + 1 + 1 by omega)).trans ((y1.cell (p := ⟨w.heap.size, 1, none⟩) (Nat.lt_succ_self _)).trans ((r0 1).trans rfl))
  have q2 : W3.cell? ⟨w.heap.size, 2, none⟩ = some (.slice A3 s.ents.length c3) := (y2.cell (p := ⟨w.heap.size, 2, none⟩) (show w.heap.size < w.heap.size + 1 + 1 by omega)).trans ((y1.cell (p := ⟨w.heap.size, 2, none⟩) (Nat.lt_succ_self _)).trans ((r0 2).trans rfl))
  have q3 : W3.cell? ⟨w.heap.size + 1, 0, none⟩ = some (.int .i64 x.id.index) := (y2.cell (p := ⟨w.heap.size + 1, 0, none⟩) (Nat.lt_succ_self _)).trans ((r1 0).trans rfl)
  have q4 : W3.cell? ⟨w.heap.size + 1, 1, none⟩ = some (.int .i64 x.id.gen) := (y2.cell (p := ⟨w.heap.size + 1, 1, none⟩) (Nat.lt_succ_self _)).trans ((r1 1).trans rfl)
  have q5 : W3.cell? ⟨w.heap.size + 1, 2, none⟩ = some (.slice A4 x.parts.length c4) := (y2.cell (p := ⟨w.heap.size + 1, 2, none⟩) (Nat.lt_succ_self _)).trans ((r1 2).trans rfl)
  have q6 : W3.cell? ⟨w.heap.size + 1 + 1, 0, none⟩ = some (.int .i64 t.kind) := (r2 0).trans rfl
  have q7 : W3.cell? ⟨w.heap.size + 1 + 1, 1, none⟩ = some (.int .i64 t.comp) := (r2 1).trans rfl
  have q8 : W3.cell? ⟨w.heap.size + 1 + 1, 2, none⟩ = some (.slice A5 t.data.length c5) := (r2 2).trans rfl
  clear z1 z2 r0 r1 r2 y1 y2
  have KS := Lib.hid (show ∀ W, Below W3.heap.size W3 W → W.cell? ⟨w.heap.size, 0, none⟩ = some (.slice A1 s.gens.length c1) ∧ W.cell? ⟨w.heap.size, 1, none⟩ = some (.slice A2 s.free.length c2) ∧ W.cell? ⟨w.heap.size, 2, none⟩ = some (.slice A3 s.ents.length c3) ∧ W.cell? ⟨w.heap.size + 1, 0, none⟩ = some (.int .i64 x.id.index) ∧ W.cell? ⟨w.heap.size + 1, 1, none⟩ = some (.int .i64 x.id.gen) ∧ W.cell? ⟨w.heap.size + 1, 2, none⟩ = some (.slice A4 x.parts.length c4) ∧ W.cell? ⟨w.heap.size + 1 + 1, 0, none⟩ = some (.int .i64 t.kind) ∧ W.cell? ⟨w.heap.size + 1 + 1, 1, none⟩ = some (.int .i64 t.comp) ∧ W.cell? ⟨w.heap.size + 1 + 1, 2, none⟩ = some (.slice A5 t.data.length c5) from fun W h => ⟨(h.cell (p := ⟨w.heap.size, 0, none⟩) (show w.heap.size < W3.heap.size by omega)).trans q0, (h.cell (p := ⟨w.heap.size, 1, none⟩) (show w.heap.size < W3.heap.size by omega)).trans q1, (h.cell (p := ⟨w.heap.size, 2, none⟩) (show w.heap.size < W3.heap.size by omega)).trans q2, (h.cell (p := ⟨w.heap.size + 1, 0, none⟩) (show w.heap.size + 1 < W3.heap.size by omega)).trans q3, (h.cell (p := ⟨w.heap.size + 1, 1, none⟩) (show w.heap.size + 1 < W3.heap.size by omega)).trans q4, (h.cell (p := ⟨w.heap.size + 1, 2, none⟩) (show w.heap.size + 1 < W3.heap.size by omega)).trans q5, (h.cell (p := ⟨w.heap.size + 1 + 1, 0, none⟩) (show w.heap.size + 1 + 1 < W3.heap.size by omega)).trans q6, (h.cell (p := ⟨w.heap.size + 1 + 1, 1, none⟩) (show w.heap.size + 1 + 1 < W3.heap.size by omega)).trans q7, (h.cell (p := ⟨w.heap.size + 1 + 1, 2, none⟩) (show w.heap.size + 1 + 1 < W3.heap.size by omega)).trans q8⟩)
  have HB := Lib.hid hb
  have VS := Lib.hid (show ∀ W, Below W3.heap.size W3 W → rState.val Qa W (.agg #[.slice A1 s.gens.length c1, .slice A2 s.free.length c2, .slice A3 s.ents.length c3]) s from fun W h => Rep.val_below h0 (hb.trans (h.mono hb.size)) fun _ _ h => h.lt)
  have VL := Lib.hid (show ∀ W, Below W3.heap.size W3 W → rTerm.list.val Qb W (.slice B l.length d) l from fun W h => Rep.val_below h1 (hb.trans (h.mono hb.size)) fun _ _ h => h.lt)
  have VE := Lib.hid (show ∀ W, Below W3.heap.size W3 W → rEnt.val Qc W (.agg #[.int .i64 x.id.index, .int .i64 x.id.gen, .slice A4 x.parts.length c4]) x from fun W h => Rep.val_below h2 (hb.trans (h.mono hb.size)) fun _ _ h => h.lt)
  have VT := Lib.hid (show ∀ W, Below W3.heap.size W3 W → rTerm.val Qd W (.agg #[.int .i64 t.kind, .int .i64 t.comp, .slice A5 t.data.length c5]) t from fun W h => Rep.val_below h3 (hb.trans (h.mono hb.size)) fun _ _ h => h.lt)
  clear h0 h1 h2 h3 sg sf se f0 f1 sp k0 k1 sd hb hz
  go_enter Try.func4, Try.ntmps4
  go_wp2_with fail
  try rw [hW3]
  clear hW3
  go_wp2_with fail
  refine (muchState_calls (VS.out _ (Below.refl _ _))).mono ?_
  rintro e w4 ⟨r1, rfl, hr1, hb4⟩
  have D4 := Lib.hid hb4
  clear q0 q1 q2 q3 q4 q5 q6 q7 q8
  obtain ⟨q0, q1, q2, q3, q4, q5, q6, q7, q8⟩ := KS.out _ hb4
  clear hb4
  cases r1 with
  | true =>
    go_wp2_with (go_at_call 24; refine (live35 _).mono ?_; rintro e w9 ⟨rfl, hb9⟩)
    go_ret
    have hB := HB.out.trans (D4.out.mono HB.out.size)
    exact ⟨rfl, hB.trans (hb9.mono hB.size)⟩
  | false =>
    have HN := Lib.hid (hr1 rfl)
    clear hr1
    go_wp2_with fail
    refine (muchTerms_calls (VL.out _ D4.out)).mono ?_
    rintro e w5 ⟨r2, rfl, hr2, rfl⟩
    cases r2 with
    | true =>
      go_wp2_with (go_at_call 24; refine (live35 _).mono ?_; rintro e w9 ⟨rfl, hb9⟩)
      go_ret
      have hB := HB.out.trans (D4.out.mono HB.out.size)
      exact ⟨rfl, hB.trans (hb9.mono hB.size)⟩
    | false =>
      have HL := Lib.hid (hr2 rfl)
      clear hr2
      go_wp2_with fail
      obtain ⟨W5, hW5⟩ : ∃ W5, w5.alloc (.cells #[.int .i64 x.id.index, .int .i64 x.id.gen, .slice A4 x.parts.length c4] 39) = W5 := ⟨_, rfl⟩
      have hb5 : Below w5.heap.size w5 W5 := by rw [← hW5]; exact below_alloc _ _
      have D5 := Lib.hid (D4.out.trans (hb5.mono D4.out.size))
      have V5 := Lib.hid (show rState.val (fun _ => True) W5 (.agg #[.slice none 0 0, .slice none 0 0, .slice (some ⟨w5.heap.size, 0, none⟩) 1 1]) ⟨[], [], [x]⟩ by
        obtain ⟨A, c, he, hf0, hf1, hs⟩ := rEnt_val (VE.out _ D5.out)
        cases he
        rw [← hW5] at hs ⊢
        obtain ⟨A, c, he, hs2⟩ := Rep.val_sl (lit_cells (r := rEnt) (e := 39) (w := w5) (xs := [x]) (n := 1) (cs := [.int .i64 x.id.index, .int .i64 x.id.gen, .slice A4 x.parts.length c4]) (Q := fun _ => True) rfl (by simp [maxLen]) trivial (Rep.row_one_elem (rEnt_mk hf0 hf1 (hs.keep fun b _ hl => ⟨trivial, rfl⟩))))
        cases he
        exact rState_agg (x := ⟨[], [], [x]⟩) (sl_nil _ _ _) (sl_nil _ _ _) hs2)
      rw [hW5]
      clear hW5 hb5
      refine (muchState_calls V5.out).mono ?_
      rintro e w6 ⟨r3, rfl, _, hb6⟩
      have D6 := Lib.hid (D5.out.trans (hb6.mono D5.out.size))
      clear q0 q1 q2 q3 q4 q5 q6 q7 q8
      obtain ⟨q0, q1, q2, q3, q4, q5, q6, q7, q8⟩ := KS.out _ D6.out
      clear hb6
      cases r3 with
      | true =>
        go_wp2_with (go_at_call 24; refine (live35 _).mono ?_; rintro e w9 ⟨rfl, hb9⟩)
        go_ret
        have hB := HB.out.trans (D6.out.mono HB.out.size)
        exact ⟨rfl, hB.trans (hb9.mono hB.size)⟩
      | false =>
        go_wp2_with fail
        obtain ⟨W7, hW7⟩ : ∃ W7, w6.alloc (.cells #[.int .i64 t.kind, .int .i64 t.comp, .slice A5 t.data.length c5] 41) = W7 := ⟨_, rfl⟩
        have hb7 : Below w6.heap.size w6 W7 := by rw [← hW7]; exact below_alloc _ _
        have D7 := Lib.hid (D6.out.trans (hb7.mono D6.out.size))
        have V7 := Lib.hid (show rTerm.list.val (fun _ => True) W7 (.slice (some ⟨w6.heap.size, 0, none⟩) 1 1) [t] by
          obtain ⟨A, c, he, hf0, hf1, hs⟩ := rTerm_val (VT.out _ D7.out)
          cases he
          rw [← hW7] at hs ⊢
          exact lit_cells (r := rTerm) (e := 41) (w := w6) (xs := [t]) (n := 1) (cs := [.int .i64 t.kind, .int .i64 t.comp, .slice A5 t.data.length c5]) (Q := fun _ => True) rfl (by simp [maxLen]) trivial (Rep.row_one_elem (rTerm_mk hf0 hf1 (hs.keep fun b _ hl => ⟨trivial, rfl⟩))))
        rw [hW7]
        clear hW7 hb7
        refine (muchTerms_calls V7.out).mono ?_
        rintro e w7 ⟨r4, rfl, _, rfl⟩
        cases r4 with
        | true =>
          go_wp2_with (go_at_call 24; refine (live35 _).mono ?_; rintro e w9 ⟨rfl, hb9⟩)
          go_ret
          have hB := HB.out.trans (D7.out.mono HB.out.size)
          exact ⟨rfl, hB.trans (hb9.mono hB.size)⟩
        | false =>
          clear q0 q1 q2 q3 q4 q5 q6 q7 q8
          go_wp2_with fail
          refine (sets_calls (VL.out _ D7.out)).mono ?_
          rintro e w8 ⟨rfl, hb8⟩
          have D8 := Lib.hid (D7.out.trans (hb8.mono D7.out.size))
          generalize hm1 : maskOf (withL l) = m1 at *
          generalize hm2 : maskOf (lackL l) = m2 at *
          have M1 := Lib.hid hm1
          have M2 := Lib.hid hm2
          clear hb8 hm1 hm2
          go_wp2_with fail
          refine (rsets_calls (VL.out _ D8.out) (by have := HL.out; omega)).mono ?_
          rintro e w9 ⟨rfl, hb9⟩
          rw [M1.out, M2.out]
          have D9 := Lib.hid (D8.out.trans (hb9.mono D8.out.size))
          clear hb9
          go_wp2_with fail
          obtain ⟨hb, hhb⟩ : ∃ hb, hb = holdsE x t := ⟨_, rfl⟩
          have HH := Lib.hid hhb
          clear hhb
          go_region_held3 (fun W => W.cell? ⟨w.heap.size, 0, none⟩ = some (.slice A1 s.gens.length c1) ∧ W.cell? ⟨w.heap.size, 1, none⟩ = some (.slice A2 s.free.length c2) ∧ W.cell? ⟨w.heap.size, 2, none⟩ = some (.slice A3 s.ents.length c3) ∧ W.cell? ⟨w.heap.size + 1, 0, none⟩ = some (.int .i64 x.id.index) ∧ W.cell? ⟨w.heap.size + 1, 1, none⟩ = some (.int .i64 x.id.gen) ∧ W.cell? ⟨w.heap.size + 1, 2, none⟩ = some (.slice A4 x.parts.length c4) ∧ W.cell? ⟨w.heap.size + 1 + 1, 0, none⟩ = some (.int .i64 t.kind) ∧ W.cell? ⟨w.heap.size + 1 + 1, 1, none⟩ = some (.int .i64 t.comp) ∧ W.cell? ⟨w.heap.size + 1 + 1, 2, none⟩ = some (.slice A5 t.data.length c5))
            (first
              | exact KS.out _ D9.out.drew
              | exact KS.out _ DA.out
              | exact KS.out _ DB.out
              | exact KS.out _ DC.out
              | exact KS.out _ DD.out
              | exact KS.out _ DE.out
              | exact KS.out _ DF.out)
            (first
              | (go_at_call 28; refine (ask_calls (VS.out _ D9.out.drew) (VL.out _ D9.out.drew) (by have := HN.out; omega)).mono ?_; rintro e w11 ⟨u1, rfl, hu1, hb11⟩; have DA := Lib.hid (D9.out.drew.trans (hb11.mono D9.out.size)); have HU1 := Lib.hid hu1; obtain ⟨Au, cu, rfl, _, _, _⟩ := Rep.val_list hu1; clear hu1 hb11)
              | (go_at_call 29; refine (rask_calls (VS.out _ DA.out) (VL.out _ DA.out) (by have := HN.out; omega)).mono ?_; rintro e w12 ⟨u2, rfl, hu2, hb12⟩; have DB := Lib.hid (DA.out.trans (hb12.mono DA.out.size)); have HU2 := Lib.hid hu2; have HU12 := Lib.hid (Rep.val_below HU1.out hb12 fun _ _ h => h.lt); obtain ⟨Av, cv, rfl, _, _, _⟩ := Rep.val_list hu2; clear hu2 hb12)
              | (go_at_call 27; refine (sameIDs HU12.out HU2.out).mono ?_; rintro e w13 ⟨rfl, nq, rfl⟩; simp only [decide_true]; have DC := Lib.hid (below_drewN DB.out nq))
              | (go_at_call 30; refine (vholds_calls (VE.out _ DC.out) (VT.out _ DC.out)).mono ?_; rintro e w14 ⟨rfl, hb14⟩; rw [← HH.out]; have DD := Lib.hid (DC.out.trans (hb14.mono DC.out.size)); clear hb14)
              | (go_at_call 31; refine (rholds_calls (VE.out _ DD.out) (VT.out _ DD.out)).mono ?_; rintro e w15 ⟨rfl, hb15⟩; rw [← HH.out]; have DE := Lib.hid (DD.out.trans (hb15.mono DD.out.size)); clear hb15)
              | (go_at_call 24; refine (live35 _).mono ?_; rintro e w16 ⟨rfl, hb16⟩; have DF := Lib.hid (DE.out.trans (hb16.mono DE.out.size)); clear hb16))
          go_wp2_with fail
          go_ret
          exact ⟨rfl, HB.out.trans (DF.out.mono HB.out.size)⟩
end Go.Proofs.Ytecdbfbaclgejaa
