/- Texts on which the proofs stand: CAct. No condition is laid on any input. -/
import Derived.Test.YtejibngkeaamkaaGreatDoorCoG2
namespace Go.Proofs.YtejibngkeaamkaaGreatDoor
open Go.RowKit

def actRow (x : DAct) (D F U : Value) : Array Value := #[.int .i64 x.kind, .int .i64 x.cmd.kind, .bool x.cmd.loc, .int .i64 x.cmd.id.index, .int .i64 x.cmd.id.gen, .int .i64 x.cmd.comp, D, .int .i64 x.policy.room, .int .i64 x.policy.frames, .int .i64 x.n, F, U]
def ActIs (W : World) (X : Nat) (x : DAct) (D F U : Value) : Prop := W.heap[X]? = some (.cells (actRow x D F U) 35 (0, 0))
def actAgg (x : DAct) (D F U : Value) : Value := .agg #[.int .i64 x.kind, .int .i64 x.cmd.kind, .bool x.cmd.loc, .int .i64 x.cmd.id.index, .int .i64 x.cmd.id.gen, .int .i64 x.cmd.comp, D, .int .i64 x.policy.room, .int .i64 x.policy.frames, .int .i64 x.n, F, U]
theorem wf0 : (Lit.int .i64 0).wf = true := by decide
theorem in0 : In64 0 := ⟨by decide, by decide⟩
theorem act_bare {Q : Nat → Prop} {W : World} {x : DAct} (h0 : (Lit.int .i64 x.kind).wf = true) (h1 : x.cmd = zeroC) (h2 : In64 x.policy.room) (h3 : In64 x.policy.frames) (h4 : In64 x.n) (h5 : x.fates = []) (h6 : x.fuses = []) :
    rAct.val Q W (actAgg x (.slice none 0 0) (.slice none 0 0) (.slice none 0 0)) x := by
  obtain ⟨k, cm, ⟨pr, pf⟩, n, fa, fu⟩ := x
  simp only at h0 h1 h2 h3 h4 h5 h6
  subst h1 h5 h6
  exact rAct_agg (x := ⟨k, zeroC, ⟨pr, pf⟩, n, [], []⟩) (A_cmd_data := none) (c_cmd_data := 0) (A_fates := none) (c_fates := 0) (A_fuses := none) (c_fuses := 0) h0 wf0 wf0 wf0 wf0 ⟨by simp [zeroC], by simp [maxLen], [], rfl, fun h => absurd h (by simp [zeroC])⟩ (wf_in h2) (wf_in h3) (wf_in h4) ⟨by simp, by simp [maxLen], [], rfl, fun h => absurd h (by simp)⟩ ⟨by simp, by simp [maxLen], [], rfl, fun h => absurd h (by simp)⟩
theorem stopNil {P : Program} {ops : Array Oper} {rest : List Oper} {o : Oper} {a : Act} {w : World} {R : Exit → Act → World → Prop} (k : Tmp) (_ : o.op = .nilCheck (.tmp k)) (h : Hid (wpList P ops R (o :: rest) a w)) : wpList P ops R (o :: rest) a w := h.out
theorem heap_setList {w : World} {b i e : Nat} {l : List Value} {v : Value} {f : Nat × Nat} (h : w.heap[b]? = some (.cells l.toArray e f)) : (w.setCell ⟨b, i, none⟩ v).heap[b]? = some (.cells (l.set i v).toArray e f) := by
  rw [heap_setRow h]; simp
theorem row12 {W : World} {b e : Nat} {f : Nat × Nat} {v0 v1 v2 v3 v4 v5 v6 v7 v8 v9 v10 v11 a0 a1 a2 a3 a4 a5 a6 a7 a8 a9 a10 a11 : Value} (h : W.heap[b]? = some (.cells #[a0, a1, a2, a3, a4, a5, a6, a7, a8, a9, a10, a11] e f)) : ((((((((((((W.setCell ⟨b, 0, none⟩ v0).setCell ⟨b, 1, none⟩ v1).setCell ⟨b, 2, none⟩ v2).setCell ⟨b, 3, none⟩ v3).setCell ⟨b, 4, none⟩ v4).setCell ⟨b, 5, none⟩ v5).setCell ⟨b, 6, none⟩ v6).setCell ⟨b, 7, none⟩ v7).setCell ⟨b, 8, none⟩ v8).setCell ⟨b, 9, none⟩ v9).setCell ⟨b, 10, none⟩ v10).setCell ⟨b, 11, none⟩ v11).heap[b]? = some (.cells #[v0, v1, v2, v3, v4, v5, v6, v7, v8, v9, v10, v11] e f) := (heap_setList (heap_setList (heap_setList (heap_setList (heap_setList (heap_setList (heap_setList (heap_setList (heap_setList (heap_setList (heap_setList (heap_setList h))))))))))))
/-- What act answers. -/
def ActAns (Q : Nat → Prop) (B : Nat) (w : World) (c : DConf) (x : DAct) (r : Wds) (e : Ending) (W : World) : Prop := ∃ v, e = .returned v ∧ rAct.val (fun b => w.heap.size ≤ b) W v x ∧ Rdr Q B W c r ∧ Only (fun b => b = B) w W

set_option maxRecDepth 100000 in
set_option maxHeartbeats 8000000 in
/-- reader.act -/
theorem cact_calls {Q : Nat → Prop} {B : Nat} {w : World} {c : DConf} {r : Wds} (h : Rdr Q B w c r) (ht : Tabs w) (hB8 : 8 ≤ B) (hQ : ∀ b, Q b → b < w.heap.size) (hl : r.l.length ≤ 1000000) :
    Calls Tryz.prog 30 #[.pointer (some ⟨B, 0, none⟩)] w (ActAns Q B w c (r.act c.comps).1 (r.act c.comps).2) := by
  have hfr : Tryz.f30.results = #[.cell 2 35] := rfl
  have hlt := h.lt
  have htg : r.act0 c.comps = r.act0 c.comps := rfl
  conv at htg => rhs; unfold Wds.act0
  have hact : r.act c.comps = ((r.act0 c.comps).1, ⟨(r.act0 c.comps).2.l, (r.act0 c.comps).2.bad || decide (0 < (r.act0 c.comps).2.l.length)⟩) := rfl
  rw [hact, htg]
  clear hact htg
  obtain ⟨W0, hW0⟩ : ∃ W0, (w.alloc (.cells (actRow zeroA (.slice none 0 0) (.slice none 0 0) (.slice none 0 0)) 35)).alloc (.cells (actRow zeroA (.slice none 0 0) (.slice none 0 0) (.slice none 0 0)) 35) = W0 := ⟨_, rfl⟩
  have hz : W0.heap.size = w.heap.size + 2 := by rw [← hW0]; simp
  have hb : Below w.heap.size w W0 := by rw [← hW0]; exact ((Below.refl _ _).alloc (Nat.le_refl _) _).alloc (by simp) _
  have Y0 := Lib.hid (show ActIs W0 w.heap.size zeroA (.slice none 0 0) (.slice none 0 0) (.slice none 0 0) by rw [← hW0]; exact alloc_old (alloc_at rfl))
  have X0 := Lib.hid (show ActIs W0 (w.heap.size + 1) zeroA (.slice none 0 0) (.slice none 0 0) (.slice none 0 0) by rw [← hW0]; exact alloc_at (by simp))
  have HR0 := Lib.hid (h.later hb)
  have T0 := Lib.hid (ht.call hb)
  have O0 := Lib.hid (Only.of_below hb : Only (fun b => b = B) w W0)
  have HQ := Lib.hid hQ
  have g8 := T0.out.big
  have hw8 := ht.big
  have hwl : r.word.2.l.length ≤ 1000000 := by
    unfold Wds.word
    split
    · simp
    · rename_i x l hxl; rw [hxl] at hl; simp at hl; simp; omega
  have HWS := Lib.hid h.word_le
  have HWD := word_calls HR0.out
  generalize r.word.1 = s at *
  generalize r.word.2 = r1 at *
  have HWL := Lib.hid hwl
  have HWDC := Lib.hid HWD
  clear h ht hb hQ hl hwl HWD
  unfold actRow zeroA zeroC at hW0
  dsimp only at hW0
  by_cases hs0 : s = wEnd
  · rw [if_pos hs0]
    subst hs0
    unfold wEnd at HWDC
    have x0 : World.cell? _ ⟨w.heap.size + 1, 0, none⟩ = some (.int .i64 (zeroA).kind) := cell_row X0.out 0
    have xf0 := frozen_row X0.out 0
    have x1 : World.cell? _ ⟨w.heap.size + 1, 1, none⟩ = some (.int .i64 (zeroA).cmd.kind) := cell_row X0.out 1
    have xf1 := frozen_row X0.out 1
    have x2 : World.cell? _ ⟨w.heap.size + 1, 2, none⟩ = some (.bool (zeroA).cmd.loc) := cell_row X0.out 2
    have xf2 := frozen_row X0.out 2
    have x3 : World.cell? _ ⟨w.heap.size + 1, 3, none⟩ = some (.int .i64 (zeroA).cmd.id.index) := cell_row X0.out 3
    have xf3 := frozen_row X0.out 3
    have x4 : World.cell? _ ⟨w.heap.size + 1, 4, none⟩ = some (.int .i64 (zeroA).cmd.id.gen) := cell_row X0.out 4
    have xf4 := frozen_row X0.out 4
    have x5 : World.cell? _ ⟨w.heap.size + 1, 5, none⟩ = some (.int .i64 (zeroA).cmd.comp) := cell_row X0.out 5
    have xf5 := frozen_row X0.out 5
    have x6 : World.cell? _ ⟨w.heap.size + 1, 6, none⟩ = some (.slice none 0 0) := cell_row X0.out 6
    have xf6 := frozen_row X0.out 6
    have x7 : World.cell? _ ⟨w.heap.size + 1, 7, none⟩ = some (.int .i64 (zeroA).policy.room) := cell_row X0.out 7
    have xf7 := frozen_row X0.out 7
    have x8 : World.cell? _ ⟨w.heap.size + 1, 8, none⟩ = some (.int .i64 (zeroA).policy.frames) := cell_row X0.out 8
    have xf8 := frozen_row X0.out 8
    have x9 : World.cell? _ ⟨w.heap.size + 1, 9, none⟩ = some (.int .i64 (zeroA).n) := cell_row X0.out 9
    have xf9 := frozen_row X0.out 9
    have x10 : World.cell? _ ⟨w.heap.size + 1, 10, none⟩ = some (.slice none 0 0) := cell_row X0.out 10
    have xf10 := frozen_row X0.out 10
    have x11 : World.cell? _ ⟨w.heap.size + 1, 11, none⟩ = some (.slice none 0 0) := cell_row X0.out 11
    have xf11 := frozen_row X0.out 11
    go_enter Tryz.func30, Tryz.ntmps30
    go_wp2_with fail
    try rw [hW0]
    clear hW0
    clear x0 xf0 x1 xf1 x2 xf2 x3 xf3 x4 xf4 x5 xf5 x6 xf6 x7 xf7 x8 xf8 x9 xf9 x10 xf10 x11 xf11
    refine (HWDC.out).mono ?_
    rintro e w1 ⟨rfl, h1, o1⟩
    have R1 := Lib.hid h1
    have O1 := Lib.hid (O0.out.trans o1)
    have T1 := Lib.hid (T0.out.only o1 (by rintro b rfl; omega))
    have X1 := Lib.hid (show ActIs w1 (w.heap.size + 1) zeroA (.slice none 0 0) (.slice none 0 0) (.slice none 0 0) from row_only o1 X0.out (by omega))
    have Y1 := Lib.hid (show ActIs w1 w.heap.size zeroA (.slice none 0 0) (.slice none 0 0) (.slice none 0 0) from row_only o1 Y0.out (by omega))
    have hz1 := O1.out.size
    have hz1x : w.heap.size + 2 ≤ w1.heap.size := by have := o1.size; omega
    clear h1 o1
    have x0 : World.cell? _ ⟨w.heap.size + 1, 0, none⟩ = some (.int .i64 (zeroA).kind) := cell_row X1.out 0
    have xf0 := frozen_row X1.out 0
    have x1 : World.cell? _ ⟨w.heap.size + 1, 1, none⟩ = some (.int .i64 (zeroA).cmd.kind) := cell_row X1.out 1
    have xf1 := frozen_row X1.out 1
    have x2 : World.cell? _ ⟨w.heap.size + 1, 2, none⟩ = some (.bool (zeroA).cmd.loc) := cell_row X1.out 2
    have xf2 := frozen_row X1.out 2
    have x3 : World.cell? _ ⟨w.heap.size + 1, 3, none⟩ = some (.int .i64 (zeroA).cmd.id.index) := cell_row X1.out 3
    have xf3 := frozen_row X1.out 3
    have x4 : World.cell? _ ⟨w.heap.size + 1, 4, none⟩ = some (.int .i64 (zeroA).cmd.id.gen) := cell_row X1.out 4
    have xf4 := frozen_row X1.out 4
    have x5 : World.cell? _ ⟨w.heap.size + 1, 5, none⟩ = some (.int .i64 (zeroA).cmd.comp) := cell_row X1.out 5
    have xf5 := frozen_row X1.out 5
    have x6 : World.cell? _ ⟨w.heap.size + 1, 6, none⟩ = some (.slice none 0 0) := cell_row X1.out 6
    have xf6 := frozen_row X1.out 6
    have x7 : World.cell? _ ⟨w.heap.size + 1, 7, none⟩ = some (.int .i64 (zeroA).policy.room) := cell_row X1.out 7
    have xf7 := frozen_row X1.out 7
    have x8 : World.cell? _ ⟨w.heap.size + 1, 8, none⟩ = some (.int .i64 (zeroA).policy.frames) := cell_row X1.out 8
    have xf8 := frozen_row X1.out 8
    have x9 : World.cell? _ ⟨w.heap.size + 1, 9, none⟩ = some (.int .i64 (zeroA).n) := cell_row X1.out 9
    have xf9 := frozen_row X1.out 9
    have x10 : World.cell? _ ⟨w.heap.size + 1, 10, none⟩ = some (.slice none 0 0) := cell_row X1.out 10
    have xf10 := frozen_row X1.out 10
    have x11 : World.cell? _ ⟨w.heap.size + 1, 11, none⟩ = some (.slice none 0 0) := cell_row X1.out 11
    have xf11 := frozen_row X1.out 11
    go_wp2_with (with_reducible refine stopNil 50 rfl ?_)
    refine Lib.hid ?_
    clear x0 xf0 x1 xf1 x2 xf2 x3 xf3 x4 xf4 x5 xf5 x6 xf6 x7 xf7 x8 xf8 x9 xf9 x10 xf10 x11 xf11
    refine nm_list (fun V2 hnm => ?_)
    have XV2 := Lib.hid (show ActIs V2 (w.heap.size + 1) ({ zeroA with kind := 1 }) (.slice none 0 0) (.slice none 0 0) (.slice none 0 0) by rw [hnm]; exact heap_setRow X1.out)
    have YV2 := Lib.hid (show ActIs V2 w.heap.size zeroA (.slice none 0 0) (.slice none 0 0) (.slice none 0 0) by rw [hnm]; exact row_other Y1.out (by omega))
    have OV2 := Lib.hid (show Only (fun b => b = B) w V2 by rw [hnm]; exact O1.out.late (by omega))
    have RV2 := Lib.hid (show Rdr Q B V2 c r1 from R1.out.keep (by rw [hnm]; exact Below.heap_setCell _ _ _ _ (by dsimp only; omega)) (fun b hq _ => ⟨hq, by rw [hnm]; exact Below.heap_setCell _ _ _ _ (by have := HQ.out b hq; dsimp only; omega)⟩) R1.out.1)
    have TV2 := Lib.hid (show Tabs V2 from T1.out.only (show Only (fun b => b = w.heap.size + 1) _ V2 by rw [hnm]; exact (Only.refl _ _).put rfl) (by rintro b rfl; omega))
    clear hnm
    have RZ := RV2
    have XZ := XV2
    have YZ := YV2
    have OZ := OV2
    have AZ := Lib.hid (show rAct.val (fun b => w.heap.size + 2 ≤ b) V2 (actAgg ({ zeroA with kind := 1 }) (.slice none 0 0) (.slice none 0 0) (.slice none 0 0)) ({ zeroA with kind := 1 }) from act_bare (x := { zeroA with kind := 1 }) (by show (Lit.int .i64 1).wf = true; decide) rfl in0 in0 in0 rfl rfl)
    obtain ⟨A5, c5, q5, hq5, hq5m, hq5w⟩ := RZ.out.c5
    clear hq5 hq5m hq5w
    have q6 := RZ.out.c6
    have z6 := RZ.out.f6
    have HLZ := Lib.hid RZ.out
    cases hbad : (r1).bad with
    | true =>
      rw [hbad] at q6
      go_wp2_with (with_reducible refine stopLoad 35 3 rfl ?_)
      refine Lib.hid ?_
      clear q5 q6 z6
      refine nm_list (fun V6 hnm => ?_)
      have X6 := Lib.hid (show ActIs V6 (w.heap.size + 1) ({ zeroA with kind := 1 }) (.slice none 0 0) (.slice none 0 0) (.slice none 0 0) by rw [hnm]; exact row_other XZ.out (by omega))
      have Y6 := Lib.hid (show ActIs V6 w.heap.size zeroA (.slice none 0 0) (.slice none 0 0) (.slice none 0 0) by rw [hnm]; exact row_other YZ.out (by omega))
      have R6 := Lib.hid (show Rdr Q B V6 c ⟨(r1).l, true⟩ by rw [hnm]; exact RZ.out.put6 true)
      have O6 := Lib.hid (show Only (fun b => b = B) w V6 by rw [hnm]; exact OZ.out.put rfl)
      have A6 := Lib.hid (show rAct.val (fun b => w.heap.size + 2 ≤ b) V6 (actAgg ({ zeroA with kind := 1 }) (.slice none 0 0) (.slice none 0 0) (.slice none 0 0)) ({ zeroA with kind := 1 }) from Rep.val_keep (fun b hb _ => ⟨hb, by rw [hnm]; exact Below.heap_setCell _ _ _ _ (by dsimp only; omega)⟩) AZ.out)
      clear hnm
      have x0 : World.cell? _ ⟨w.heap.size + 1, 0, none⟩ = some (.int .i64 ({ zeroA with kind := 1 }).kind) := cell_row X6.out 0
      have xf0 := frozen_row X6.out 0
      have x1 : World.cell? _ ⟨w.heap.size + 1, 1, none⟩ = some (.int .i64 ({ zeroA with kind := 1 }).cmd.kind) := cell_row X6.out 1
      have xf1 := frozen_row X6.out 1
      have x2 : World.cell? _ ⟨w.heap.size + 1, 2, none⟩ = some (.bool ({ zeroA with kind := 1 }).cmd.loc) := cell_row X6.out 2
      have xf2 := frozen_row X6.out 2
      have x3 : World.cell? _ ⟨w.heap.size + 1, 3, none⟩ = some (.int .i64 ({ zeroA with kind := 1 }).cmd.id.index) := cell_row X6.out 3
      have xf3 := frozen_row X6.out 3
      have x4 : World.cell? _ ⟨w.heap.size + 1, 4, none⟩ = some (.int .i64 ({ zeroA with kind := 1 }).cmd.id.gen) := cell_row X6.out 4
      have xf4 := frozen_row X6.out 4
      have x5 : World.cell? _ ⟨w.heap.size + 1, 5, none⟩ = some (.int .i64 ({ zeroA with kind := 1 }).cmd.comp) := cell_row X6.out 5
      have xf5 := frozen_row X6.out 5
      have x6 : World.cell? _ ⟨w.heap.size + 1, 6, none⟩ = some (.slice none 0 0) := cell_row X6.out 6
      have xf6 := frozen_row X6.out 6
      have x7 : World.cell? _ ⟨w.heap.size + 1, 7, none⟩ = some (.int .i64 ({ zeroA with kind := 1 }).policy.room) := cell_row X6.out 7
      have xf7 := frozen_row X6.out 7
      have x8 : World.cell? _ ⟨w.heap.size + 1, 8, none⟩ = some (.int .i64 ({ zeroA with kind := 1 }).policy.frames) := cell_row X6.out 8
      have xf8 := frozen_row X6.out 8
      have x9 : World.cell? _ ⟨w.heap.size + 1, 9, none⟩ = some (.int .i64 ({ zeroA with kind := 1 }).n) := cell_row X6.out 9
      have xf9 := frozen_row X6.out 9
      have x10 : World.cell? _ ⟨w.heap.size + 1, 10, none⟩ = some (.slice none 0 0) := cell_row X6.out 10
      have xf10 := frozen_row X6.out 10
      have x11 : World.cell? _ ⟨w.heap.size + 1, 11, none⟩ = some (.slice none 0 0) := cell_row X6.out 11
      have xf11 := frozen_row X6.out 11
      have y0 : World.cell? _ ⟨w.heap.size, 0, none⟩ = some (.int .i64 (zeroA).kind) := cell_row Y6.out 0
      have yf0 := frozen_row Y6.out 0
      have y1 : World.cell? _ ⟨w.heap.size, 1, none⟩ = some (.int .i64 (zeroA).cmd.kind) := cell_row Y6.out 1
      have yf1 := frozen_row Y6.out 1
      have y2 : World.cell? _ ⟨w.heap.size, 2, none⟩ = some (.bool (zeroA).cmd.loc) := cell_row Y6.out 2
      have yf2 := frozen_row Y6.out 2
      have y3 : World.cell? _ ⟨w.heap.size, 3, none⟩ = some (.int .i64 (zeroA).cmd.id.index) := cell_row Y6.out 3
      have yf3 := frozen_row Y6.out 3
      have y4 : World.cell? _ ⟨w.heap.size, 4, none⟩ = some (.int .i64 (zeroA).cmd.id.gen) := cell_row Y6.out 4
      have yf4 := frozen_row Y6.out 4
      have y5 : World.cell? _ ⟨w.heap.size, 5, none⟩ = some (.int .i64 (zeroA).cmd.comp) := cell_row Y6.out 5
      have yf5 := frozen_row Y6.out 5
      have y6 : World.cell? _ ⟨w.heap.size, 6, none⟩ = some (.slice none 0 0) := cell_row Y6.out 6
      have yf6 := frozen_row Y6.out 6
      have y7 : World.cell? _ ⟨w.heap.size, 7, none⟩ = some (.int .i64 (zeroA).policy.room) := cell_row Y6.out 7
      have yf7 := frozen_row Y6.out 7
      have y8 : World.cell? _ ⟨w.heap.size, 8, none⟩ = some (.int .i64 (zeroA).policy.frames) := cell_row Y6.out 8
      have yf8 := frozen_row Y6.out 8
      have y9 : World.cell? _ ⟨w.heap.size, 9, none⟩ = some (.int .i64 (zeroA).n) := cell_row Y6.out 9
      have yf9 := frozen_row Y6.out 9
      have y10 : World.cell? _ ⟨w.heap.size, 10, none⟩ = some (.slice none 0 0) := cell_row Y6.out 10
      have yf10 := frozen_row Y6.out 10
      have y11 : World.cell? _ ⟨w.heap.size, 11, none⟩ = some (.slice none 0 0) := cell_row Y6.out 11
      have yf11 := frozen_row Y6.out 11
      go_wp2_with fail
      refine nm_post (fun W hnm => ?_)
      have RY := Lib.hid (show W.heap[w.heap.size]? = some (.cells (actRow ({ zeroA with kind := 1 }) (.slice none 0 0) (.slice none 0 0) (.slice none 0 0)) 35 (0, 0)) by rw [hnm]; exact row12 Y6.out)
      have KY := Lib.hid (show ∀ b, b ≠ w.heap.size → W.heap[b]? = V6.heap[b]? from fun b hb => by rw [hnm]; exact (Below.heap_setCell _ _ _ _ hb).trans ((Below.heap_setCell _ _ _ _ hb).trans ((Below.heap_setCell _ _ _ _ hb).trans ((Below.heap_setCell _ _ _ _ hb).trans ((Below.heap_setCell _ _ _ _ hb).trans ((Below.heap_setCell _ _ _ _ hb).trans ((Below.heap_setCell _ _ _ _ hb).trans ((Below.heap_setCell _ _ _ _ hb).trans ((Below.heap_setCell _ _ _ _ hb).trans ((Below.heap_setCell _ _ _ _ hb).trans ((Below.heap_setCell _ _ _ _ hb).trans (Below.heap_setCell _ _ _ _ hb))))))))))))
      have OO := Lib.hid (show Only (fun b => b = B) w W by rw [hnm]; exact ((((((((((((O6.out).late (Nat.le_refl _)).late (Nat.le_refl _)).late (Nat.le_refl _)).late (Nat.le_refl _)).late (Nat.le_refl _)).late (Nat.le_refl _)).late (Nat.le_refl _)).late (Nat.le_refl _)).late (Nat.le_refl _)).late (Nat.le_refl _)).late (Nat.le_refl _)).late (Nat.le_refl _))
      clear hnm x0 xf0 x1 xf1 x2 xf2 x3 xf3 x4 xf4 x5 xf5 x6 xf6 x7 xf7 x8 xf8 x9 xf9 x10 xf10 x11 xf11 y0 yf0 y1 yf1 y2 yf2 y3 yf3 y4 yf4 y5 yf5 y6 yf6 y7 yf7 y8 yf8 y9 yf9 y10 yf10 y11 yf11
      have RR := Lib.hid (R6.out.keep (KY.out B (by omega)) (fun b hq _ => ⟨hq, KY.out b (by have := HQ.out b hq; omega)⟩) R6.out.1)
      have AA := Lib.hid (show rAct.val (fun b => w.heap.size ≤ b) W (actAgg ({ zeroA with kind := 1 }) (.slice none 0 0) (.slice none 0 0) (.slice none 0 0)) ({ zeroA with kind := 1 }) from Rep.val_keep (fun b hb _ => ⟨by omega, KY.out b (by omega)⟩) A6.out)
      have y0 : World.cell? _ ⟨w.heap.size, 0, none⟩ = some (.int .i64 ({ zeroA with kind := 1 }).kind) := cell_row RY.out 0
      have y1 : World.cell? _ ⟨w.heap.size, 1, none⟩ = some (.int .i64 ({ zeroA with kind := 1 }).cmd.kind) := cell_row RY.out 1
      have y2 : World.cell? _ ⟨w.heap.size, 2, none⟩ = some (.bool ({ zeroA with kind := 1 }).cmd.loc) := cell_row RY.out 2
      have y3 : World.cell? _ ⟨w.heap.size, 3, none⟩ = some (.int .i64 ({ zeroA with kind := 1 }).cmd.id.index) := cell_row RY.out 3
      have y4 : World.cell? _ ⟨w.heap.size, 4, none⟩ = some (.int .i64 ({ zeroA with kind := 1 }).cmd.id.gen) := cell_row RY.out 4
      have y5 : World.cell? _ ⟨w.heap.size, 5, none⟩ = some (.int .i64 ({ zeroA with kind := 1 }).cmd.comp) := cell_row RY.out 5
      have y6 : World.cell? _ ⟨w.heap.size, 6, none⟩ = some (.slice none 0 0) := cell_row RY.out 6
      have y7 : World.cell? _ ⟨w.heap.size, 7, none⟩ = some (.int .i64 ({ zeroA with kind := 1 }).policy.room) := cell_row RY.out 7
      have y8 : World.cell? _ ⟨w.heap.size, 8, none⟩ = some (.int .i64 ({ zeroA with kind := 1 }).policy.frames) := cell_row RY.out 8
      have y9 : World.cell? _ ⟨w.heap.size, 9, none⟩ = some (.int .i64 ({ zeroA with kind := 1 }).n) := cell_row RY.out 9
      have y10 : World.cell? _ ⟨w.heap.size, 10, none⟩ = some (.slice none 0 0) := cell_row RY.out 10
      have y11 : World.cell? _ ⟨w.heap.size, 11, none⟩ = some (.slice none 0 0) := cell_row RY.out 11
      refine ⟨rfl, actAgg ({ zeroA with kind := 1 }) (.slice none 0 0) (.slice none 0 0) (.slice none 0 0), by simp only [results, hfr]; go_simp; rfl, ?_⟩
      clear y0 y1 y2 y3 y4 y5 y6 y7 y8 y9 y10 y11
      exact ⟨_, rfl, AA.out, by first | (simpa [hbad] using RR.out) | (rw [hbad]; exact RR.out), OO.out⟩
    | false =>
      rw [hbad] at q6
      cases hll : (r1).l with
      | nil =>
        rw [hll] at q5
        simp only [List.length_nil] at q5
        go_wp2_with (with_reducible refine stopLoad 35 3 rfl ?_)
        refine Lib.hid ?_
        clear q5 q6 z6
        refine nm_list (fun V6 hnm => ?_)
        have X6 := Lib.hid (show ActIs V6 (w.heap.size + 1) ({ zeroA with kind := 1 }) (.slice none 0 0) (.slice none 0 0) (.slice none 0 0) by rw [hnm]; exact row_other XZ.out (by omega))
        have Y6 := Lib.hid (show ActIs V6 w.heap.size zeroA (.slice none 0 0) (.slice none 0 0) (.slice none 0 0) by rw [hnm]; exact row_other YZ.out (by omega))
        have R6 := Lib.hid (show Rdr Q B V6 c ⟨(r1).l, false⟩ by rw [hnm]; exact RZ.out.put6 false)
        have O6 := Lib.hid (show Only (fun b => b = B) w V6 by rw [hnm]; exact OZ.out.put rfl)
        have A6 := Lib.hid (show rAct.val (fun b => w.heap.size + 2 ≤ b) V6 (actAgg ({ zeroA with kind := 1 }) (.slice none 0 0) (.slice none 0 0) (.slice none 0 0)) ({ zeroA with kind := 1 }) from Rep.val_keep (fun b hb _ => ⟨hb, by rw [hnm]; exact Below.heap_setCell _ _ _ _ (by dsimp only; omega)⟩) AZ.out)
        clear hnm
        have x0 : World.cell? _ ⟨w.heap.size + 1, 0, none⟩ = some (.int .i64 ({ zeroA with kind := 1 }).kind) := cell_row X6.out 0
        have xf0 := frozen_row X6.out 0
        have x1 : World.cell? _ ⟨w.heap.size + 1, 1, none⟩ = some (.int .i64 ({ zeroA with kind := 1 }).cmd.kind) := cell_row X6.out 1
        have xf1 := frozen_row X6.out 1
        have x2 : World.cell? _ ⟨w.heap.size + 1, 2, none⟩ = some (.bool ({ zeroA with kind := 1 }).cmd.loc) := cell_row X6.out 2
        have xf2 := frozen_row X6.out 2
        have x3 : World.cell? _ ⟨w.heap.size + 1, 3, none⟩ = some (.int .i64 ({ zeroA with kind := 1 }).cmd.id.index) := cell_row X6.out 3
        have xf3 := frozen_row X6.out 3
        have x4 : World.cell? _ ⟨w.heap.size + 1, 4, none⟩ = some (.int .i64 ({ zeroA with kind := 1 }).cmd.id.gen) := cell_row X6.out 4
        have xf4 := frozen_row X6.out 4
        have x5 : World.cell? _ ⟨w.heap.size + 1, 5, none⟩ = some (.int .i64 ({ zeroA with kind := 1 }).cmd.comp) := cell_row X6.out 5
        have xf5 := frozen_row X6.out 5
        have x6 : World.cell? _ ⟨w.heap.size + 1, 6, none⟩ = some (.slice none 0 0) := cell_row X6.out 6
        have xf6 := frozen_row X6.out 6
        have x7 : World.cell? _ ⟨w.heap.size + 1, 7, none⟩ = some (.int .i64 ({ zeroA with kind := 1 }).policy.room) := cell_row X6.out 7
        have xf7 := frozen_row X6.out 7
        have x8 : World.cell? _ ⟨w.heap.size + 1, 8, none⟩ = some (.int .i64 ({ zeroA with kind := 1 }).policy.frames) := cell_row X6.out 8
        have xf8 := frozen_row X6.out 8
        have x9 : World.cell? _ ⟨w.heap.size + 1, 9, none⟩ = some (.int .i64 ({ zeroA with kind := 1 }).n) := cell_row X6.out 9
        have xf9 := frozen_row X6.out 9
        have x10 : World.cell? _ ⟨w.heap.size + 1, 10, none⟩ = some (.slice none 0 0) := cell_row X6.out 10
        have xf10 := frozen_row X6.out 10
        have x11 : World.cell? _ ⟨w.heap.size + 1, 11, none⟩ = some (.slice none 0 0) := cell_row X6.out 11
        have xf11 := frozen_row X6.out 11
        have y0 : World.cell? _ ⟨w.heap.size, 0, none⟩ = some (.int .i64 (zeroA).kind) := cell_row Y6.out 0
        have yf0 := frozen_row Y6.out 0
        have y1 : World.cell? _ ⟨w.heap.size, 1, none⟩ = some (.int .i64 (zeroA).cmd.kind) := cell_row Y6.out 1
        have yf1 := frozen_row Y6.out 1
        have y2 : World.cell? _ ⟨w.heap.size, 2, none⟩ = some (.bool (zeroA).cmd.loc) := cell_row Y6.out 2
        have yf2 := frozen_row Y6.out 2
        have y3 : World.cell? _ ⟨w.heap.size, 3, none⟩ = some (.int .i64 (zeroA).cmd.id.index) := cell_row Y6.out 3
        have yf3 := frozen_row Y6.out 3
        have y4 : World.cell? _ ⟨w.heap.size, 4, none⟩ = some (.int .i64 (zeroA).cmd.id.gen) := cell_row Y6.out 4
        have yf4 := frozen_row Y6.out 4
        have y5 : World.cell? _ ⟨w.heap.size, 5, none⟩ = some (.int .i64 (zeroA).cmd.comp) := cell_row Y6.out 5
        have yf5 := frozen_row Y6.out 5
        have y6 : World.cell? _ ⟨w.heap.size, 6, none⟩ = some (.slice none 0 0) := cell_row Y6.out 6
        have yf6 := frozen_row Y6.out 6
        have y7 : World.cell? _ ⟨w.heap.size, 7, none⟩ = some (.int .i64 (zeroA).policy.room) := cell_row Y6.out 7
        have yf7 := frozen_row Y6.out 7
        have y8 : World.cell? _ ⟨w.heap.size, 8, none⟩ = some (.int .i64 (zeroA).policy.frames) := cell_row Y6.out 8
        have yf8 := frozen_row Y6.out 8
        have y9 : World.cell? _ ⟨w.heap.size, 9, none⟩ = some (.int .i64 (zeroA).n) := cell_row Y6.out 9
        have yf9 := frozen_row Y6.out 9
        have y10 : World.cell? _ ⟨w.heap.size, 10, none⟩ = some (.slice none 0 0) := cell_row Y6.out 10
        have yf10 := frozen_row Y6.out 10
        have y11 : World.cell? _ ⟨w.heap.size, 11, none⟩ = some (.slice none 0 0) := cell_row Y6.out 11
        have yf11 := frozen_row Y6.out 11
        go_wp2_with fail
        refine nm_post (fun W hnm => ?_)
        have RY := Lib.hid (show W.heap[w.heap.size]? = some (.cells (actRow ({ zeroA with kind := 1 }) (.slice none 0 0) (.slice none 0 0) (.slice none 0 0)) 35 (0, 0)) by rw [hnm]; exact row12 Y6.out)
        have KY := Lib.hid (show ∀ b, b ≠ w.heap.size → W.heap[b]? = V6.heap[b]? from fun b hb => by rw [hnm]; exact (Below.heap_setCell _ _ _ _ hb).trans ((Below.heap_setCell _ _ _ _ hb).trans ((Below.heap_setCell _ _ _ _ hb).trans ((Below.heap_setCell _ _ _ _ hb).trans ((Below.heap_setCell _ _ _ _ hb).trans ((Below.heap_setCell _ _ _ _ hb).trans ((Below.heap_setCell _ _ _ _ hb).trans ((Below.heap_setCell _ _ _ _ hb).trans ((Below.heap_setCell _ _ _ _ hb).trans ((Below.heap_setCell _ _ _ _ hb).trans ((Below.heap_setCell _ _ _ _ hb).trans (Below.heap_setCell _ _ _ _ hb))))))))))))
        have OO := Lib.hid (show Only (fun b => b = B) w W by rw [hnm]; exact ((((((((((((O6.out).late (Nat.le_refl _)).late (Nat.le_refl _)).late (Nat.le_refl _)).late (Nat.le_refl _)).late (Nat.le_refl _)).late (Nat.le_refl _)).late (Nat.le_refl _)).late (Nat.le_refl _)).late (Nat.le_refl _)).late (Nat.le_refl _)).late (Nat.le_refl _)).late (Nat.le_refl _))
        clear hnm x0 xf0 x1 xf1 x2 xf2 x3 xf3 x4 xf4 x5 xf5 x6 xf6 x7 xf7 x8 xf8 x9 xf9 x10 xf10 x11 xf11 y0 yf0 y1 yf1 y2 yf2 y3 yf3 y4 yf4 y5 yf5 y6 yf6 y7 yf7 y8 yf8 y9 yf9 y10 yf10 y11 yf11
        have RR := Lib.hid (R6.out.keep (KY.out B (by omega)) (fun b hq _ => ⟨hq, KY.out b (by have := HQ.out b hq; omega)⟩) R6.out.1)
        have AA := Lib.hid (show rAct.val (fun b => w.heap.size ≤ b) W (actAgg ({ zeroA with kind := 1 }) (.slice none 0 0) (.slice none 0 0) (.slice none 0 0)) ({ zeroA with kind := 1 }) from Rep.val_keep (fun b hb _ => ⟨by omega, KY.out b (by omega)⟩) A6.out)
        have y0 : World.cell? _ ⟨w.heap.size, 0, none⟩ = some (.int .i64 ({ zeroA with kind := 1 }).kind) := cell_row RY.out 0
        have y1 : World.cell? _ ⟨w.heap.size, 1, none⟩ = some (.int .i64 ({ zeroA with kind := 1 }).cmd.kind) := cell_row RY.out 1
        have y2 : World.cell? _ ⟨w.heap.size, 2, none⟩ = some (.bool ({ zeroA with kind := 1 }).cmd.loc) := cell_row RY.out 2
        have y3 : World.cell? _ ⟨w.heap.size, 3, none⟩ = some (.int .i64 ({ zeroA with kind := 1 }).cmd.id.index) := cell_row RY.out 3
        have y4 : World.cell? _ ⟨w.heap.size, 4, none⟩ = some (.int .i64 ({ zeroA with kind := 1 }).cmd.id.gen) := cell_row RY.out 4
        have y5 : World.cell? _ ⟨w.heap.size, 5, none⟩ = some (.int .i64 ({ zeroA with kind := 1 }).cmd.comp) := cell_row RY.out 5
        have y6 : World.cell? _ ⟨w.heap.size, 6, none⟩ = some (.slice none 0 0) := cell_row RY.out 6
        have y7 : World.cell? _ ⟨w.heap.size, 7, none⟩ = some (.int .i64 ({ zeroA with kind := 1 }).policy.room) := cell_row RY.out 7
        have y8 : World.cell? _ ⟨w.heap.size, 8, none⟩ = some (.int .i64 ({ zeroA with kind := 1 }).policy.frames) := cell_row RY.out 8
        have y9 : World.cell? _ ⟨w.heap.size, 9, none⟩ = some (.int .i64 ({ zeroA with kind := 1 }).n) := cell_row RY.out 9
        have y10 : World.cell? _ ⟨w.heap.size, 10, none⟩ = some (.slice none 0 0) := cell_row RY.out 10
        have y11 : World.cell? _ ⟨w.heap.size, 11, none⟩ = some (.slice none 0 0) := cell_row RY.out 11
        refine ⟨rfl, actAgg ({ zeroA with kind := 1 }) (.slice none 0 0) (.slice none 0 0) (.slice none 0 0), by simp only [results, hfr]; go_simp; rfl, ?_⟩
        clear y0 y1 y2 y3 y4 y5 y6 y7 y8 y9 y10 y11
        exact ⟨_, rfl, AA.out, by first | (simpa [hbad, hll] using RR.out) | (rw [hbad, hll]; rw [hll] at RR; exact RR.out), OO.out⟩
      | cons y m =>
        rw [hll] at q5
        simp only [List.length_cons] at q5
        have hpp : (0 : Int) < ((m.length + 1 : Nat) : Int) := by omega
        have hpq : (0 : Int) < (m.length : Int) + 1 := by omega
        generalize m.length = ml at *
        go_wp2_with (with_reducible refine stopLoad 35 3 rfl ?_)
        refine Lib.hid ?_
        clear q5 q6 z6
        refine nm_list (fun V6 hnm => ?_)
        have X6 := Lib.hid (show ActIs V6 (w.heap.size + 1) ({ zeroA with kind := 1 }) (.slice none 0 0) (.slice none 0 0) (.slice none 0 0) by rw [hnm]; exact row_other XZ.out (by omega))
        have Y6 := Lib.hid (show ActIs V6 w.heap.size zeroA (.slice none 0 0) (.slice none 0 0) (.slice none 0 0) by rw [hnm]; exact row_other YZ.out (by omega))
        have R6 := Lib.hid (show Rdr Q B V6 c ⟨(r1).l, true⟩ by rw [hnm]; exact RZ.out.put6 true)
        have O6 := Lib.hid (show Only (fun b => b = B) w V6 by rw [hnm]; exact OZ.out.put rfl)
        have A6 := Lib.hid (show rAct.val (fun b => w.heap.size + 2 ≤ b) V6 (actAgg ({ zeroA with kind := 1 }) (.slice none 0 0) (.slice none 0 0) (.slice none 0 0)) ({ zeroA with kind := 1 }) from Rep.val_keep (fun b hb _ => ⟨hb, by rw [hnm]; exact Below.heap_setCell _ _ _ _ (by dsimp only; omega)⟩) AZ.out)
        clear hnm
        have x0 : World.cell? _ ⟨w.heap.size + 1, 0, none⟩ = some (.int .i64 ({ zeroA with kind := 1 }).kind) := cell_row X6.out 0
        have xf0 := frozen_row X6.out 0
        have x1 : World.cell? _ ⟨w.heap.size + 1, 1, none⟩ = some (.int .i64 ({ zeroA with kind := 1 }).cmd.kind) := cell_row X6.out 1
        have xf1 := frozen_row X6.out 1
        have x2 : World.cell? _ ⟨w.heap.size + 1, 2, none⟩ = some (.bool ({ zeroA with kind := 1 }).cmd.loc) := cell_row X6.out 2
        have xf2 := frozen_row X6.out 2
        have x3 : World.cell? _ ⟨w.heap.size + 1, 3, none⟩ = some (.int .i64 ({ zeroA with kind := 1 }).cmd.id.index) := cell_row X6.out 3
        have xf3 := frozen_row X6.out 3
        have x4 : World.cell? _ ⟨w.heap.size + 1, 4, none⟩ = some (.int .i64 ({ zeroA with kind := 1 }).cmd.id.gen) := cell_row X6.out 4
        have xf4 := frozen_row X6.out 4
        have x5 : World.cell? _ ⟨w.heap.size + 1, 5, none⟩ = some (.int .i64 ({ zeroA with kind := 1 }).cmd.comp) := cell_row X6.out 5
        have xf5 := frozen_row X6.out 5
        have x6 : World.cell? _ ⟨w.heap.size + 1, 6, none⟩ = some (.slice none 0 0) := cell_row X6.out 6
        have xf6 := frozen_row X6.out 6
        have x7 : World.cell? _ ⟨w.heap.size + 1, 7, none⟩ = some (.int .i64 ({ zeroA with kind := 1 }).policy.room) := cell_row X6.out 7
        have xf7 := frozen_row X6.out 7
        have x8 : World.cell? _ ⟨w.heap.size + 1, 8, none⟩ = some (.int .i64 ({ zeroA with kind := 1 }).policy.frames) := cell_row X6.out 8
        have xf8 := frozen_row X6.out 8
        have x9 : World.cell? _ ⟨w.heap.size + 1, 9, none⟩ = some (.int .i64 ({ zeroA with kind := 1 }).n) := cell_row X6.out 9
        have xf9 := frozen_row X6.out 9
        have x10 : World.cell? _ ⟨w.heap.size + 1, 10, none⟩ = some (.slice none 0 0) := cell_row X6.out 10
        have xf10 := frozen_row X6.out 10
        have x11 : World.cell? _ ⟨w.heap.size + 1, 11, none⟩ = some (.slice none 0 0) := cell_row X6.out 11
        have xf11 := frozen_row X6.out 11
        have y0 : World.cell? _ ⟨w.heap.size, 0, none⟩ = some (.int .i64 (zeroA).kind) := cell_row Y6.out 0
        have yf0 := frozen_row Y6.out 0
        have y1 : World.cell? _ ⟨w.heap.size, 1, none⟩ = some (.int .i64 (zeroA).cmd.kind) := cell_row Y6.out 1
        have yf1 := frozen_row Y6.out 1
        have y2 : World.cell? _ ⟨w.heap.size, 2, none⟩ = some (.bool (zeroA).cmd.loc) := cell_row Y6.out 2
        have yf2 := frozen_row Y6.out 2
        have y3 : World.cell? _ ⟨w.heap.size, 3, none⟩ = some (.int .i64 (zeroA).cmd.id.index) := cell_row Y6.out 3
        have yf3 := frozen_row Y6.out 3
        have y4 : World.cell? _ ⟨w.heap.size, 4, none⟩ = some (.int .i64 (zeroA).cmd.id.gen) := cell_row Y6.out 4
        have yf4 := frozen_row Y6.out 4
        have y5 : World.cell? _ ⟨w.heap.size, 5, none⟩ = some (.int .i64 (zeroA).cmd.comp) := cell_row Y6.out 5
        have yf5 := frozen_row Y6.out 5
        have y6 : World.cell? _ ⟨w.heap.size, 6, none⟩ = some (.slice none 0 0) := cell_row Y6.out 6
        have yf6 := frozen_row Y6.out 6
        have y7 : World.cell? _ ⟨w.heap.size, 7, none⟩ = some (.int .i64 (zeroA).policy.room) := cell_row Y6.out 7
        have yf7 := frozen_row Y6.out 7
        have y8 : World.cell? _ ⟨w.heap.size, 8, none⟩ = some (.int .i64 (zeroA).policy.frames) := cell_row Y6.out 8
        have yf8 := frozen_row Y6.out 8
        have y9 : World.cell? _ ⟨w.heap.size, 9, none⟩ = some (.int .i64 (zeroA).n) := cell_row Y6.out 9
        have yf9 := frozen_row Y6.out 9
        have y10 : World.cell? _ ⟨w.heap.size, 10, none⟩ = some (.slice none 0 0) := cell_row Y6.out 10
        have yf10 := frozen_row Y6.out 10
        have y11 : World.cell? _ ⟨w.heap.size, 11, none⟩ = some (.slice none 0 0) := cell_row Y6.out 11
        have yf11 := frozen_row Y6.out 11
        go_wp2_with fail
        refine nm_post (fun W hnm => ?_)
        have RY := Lib.hid (show W.heap[w.heap.size]? = some (.cells (actRow ({ zeroA with kind := 1 }) (.slice none 0 0) (.slice none 0 0) (.slice none 0 0)) 35 (0, 0)) by rw [hnm]; exact row12 Y6.out)
        have KY := Lib.hid (show ∀ b, b ≠ w.heap.size → W.heap[b]? = V6.heap[b]? from fun b hb => by rw [hnm]; exact (Below.heap_setCell _ _ _ _ hb).trans ((Below.heap_setCell _ _ _ _ hb).trans ((Below.heap_setCell _ _ _ _ hb).trans ((Below.heap_setCell _ _ _ _ hb).trans ((Below.heap_setCell _ _ _ _ hb).trans ((Below.heap_setCell _ _ _ _ hb).trans ((Below.heap_setCell _ _ _ _ hb).trans ((Below.heap_setCell _ _ _ _ hb).trans ((Below.heap_setCell _ _ _ _ hb).trans ((Below.heap_setCell _ _ _ _ hb).trans ((Below.heap_setCell _ _ _ _ hb).trans (Below.heap_setCell _ _ _ _ hb))))))))))))
        have OO := Lib.hid (show Only (fun b => b = B) w W by rw [hnm]; exact ((((((((((((O6.out).late (Nat.le_refl _)).late (Nat.le_refl _)).late (Nat.le_refl _)).late (Nat.le_refl _)).late (Nat.le_refl _)).late (Nat.le_refl _)).late (Nat.le_refl _)).late (Nat.le_refl _)).late (Nat.le_refl _)).late (Nat.le_refl _)).late (Nat.le_refl _)).late (Nat.le_refl _))
        clear hnm x0 xf0 x1 xf1 x2 xf2 x3 xf3 x4 xf4 x5 xf5 x6 xf6 x7 xf7 x8 xf8 x9 xf9 x10 xf10 x11 xf11 y0 yf0 y1 yf1 y2 yf2 y3 yf3 y4 yf4 y5 yf5 y6 yf6 y7 yf7 y8 yf8 y9 yf9 y10 yf10 y11 yf11
        have RR := Lib.hid (R6.out.keep (KY.out B (by omega)) (fun b hq _ => ⟨hq, KY.out b (by have := HQ.out b hq; omega)⟩) R6.out.1)
        have AA := Lib.hid (show rAct.val (fun b => w.heap.size ≤ b) W (actAgg ({ zeroA with kind := 1 }) (.slice none 0 0) (.slice none 0 0) (.slice none 0 0)) ({ zeroA with kind := 1 }) from Rep.val_keep (fun b hb _ => ⟨by omega, KY.out b (by omega)⟩) A6.out)
        have y0 : World.cell? _ ⟨w.heap.size, 0, none⟩ = some (.int .i64 ({ zeroA with kind := 1 }).kind) := cell_row RY.out 0
        have y1 : World.cell? _ ⟨w.heap.size, 1, none⟩ = some (.int .i64 ({ zeroA with kind := 1 }).cmd.kind) := cell_row RY.out 1
        have y2 : World.cell? _ ⟨w.heap.size, 2, none⟩ = some (.bool ({ zeroA with kind := 1 }).cmd.loc) := cell_row RY.out 2
        have y3 : World.cell? _ ⟨w.heap.size, 3, none⟩ = some (.int .i64 ({ zeroA with kind := 1 }).cmd.id.index) := cell_row RY.out 3
        have y4 : World.cell? _ ⟨w.heap.size, 4, none⟩ = some (.int .i64 ({ zeroA with kind := 1 }).cmd.id.gen) := cell_row RY.out 4
        have y5 : World.cell? _ ⟨w.heap.size, 5, none⟩ = some (.int .i64 ({ zeroA with kind := 1 }).cmd.comp) := cell_row RY.out 5
        have y6 : World.cell? _ ⟨w.heap.size, 6, none⟩ = some (.slice none 0 0) := cell_row RY.out 6
        have y7 : World.cell? _ ⟨w.heap.size, 7, none⟩ = some (.int .i64 ({ zeroA with kind := 1 }).policy.room) := cell_row RY.out 7
        have y8 : World.cell? _ ⟨w.heap.size, 8, none⟩ = some (.int .i64 ({ zeroA with kind := 1 }).policy.frames) := cell_row RY.out 8
        have y9 : World.cell? _ ⟨w.heap.size, 9, none⟩ = some (.int .i64 ({ zeroA with kind := 1 }).n) := cell_row RY.out 9
        have y10 : World.cell? _ ⟨w.heap.size, 10, none⟩ = some (.slice none 0 0) := cell_row RY.out 10
        have y11 : World.cell? _ ⟨w.heap.size, 11, none⟩ = some (.slice none 0 0) := cell_row RY.out 11
        refine ⟨rfl, actAgg ({ zeroA with kind := 1 }) (.slice none 0 0) (.slice none 0 0) (.slice none 0 0), by simp only [results, hfr]; go_simp; rfl, ?_⟩
        clear y0 y1 y2 y3 y4 y5 y6 y7 y8 y9 y10 y11
        exact ⟨_, rfl, AA.out, by first | (simpa [hbad, hll] using RR.out) | (rw [hbad, hll]; rw [hll] at RR; exact RR.out), OO.out⟩
  · rw [if_neg hs0]
    have b0 : (s == [101, 110, 100]) = false := by simpa [wEnd] using hs0
    by_cases hs1 : s = wSync
    · rw [if_pos hs1]
      subst hs1
      unfold wSync at HWDC
      have x0 : World.cell? _ ⟨w.heap.size + 1, 0, none⟩ = some (.int .i64 (zeroA).kind) := cell_row X0.out 0
      have xf0 := frozen_row X0.out 0
      have x1 : World.cell? _ ⟨w.heap.size + 1, 1, none⟩ = some (.int .i64 (zeroA).cmd.kind) := cell_row X0.out 1
      have xf1 := frozen_row X0.out 1
      have x2 : World.cell? _ ⟨w.heap.size + 1, 2, none⟩ = some (.bool (zeroA).cmd.loc) := cell_row X0.out 2
      have xf2 := frozen_row X0.out 2
      have x3 : World.cell? _ ⟨w.heap.size + 1, 3, none⟩ = some (.int .i64 (zeroA).cmd.id.index) := cell_row X0.out 3
      have xf3 := frozen_row X0.out 3
      have x4 : World.cell? _ ⟨w.heap.size + 1, 4, none⟩ = some (.int .i64 (zeroA).cmd.id.gen) := cell_row X0.out 4
      have xf4 := frozen_row X0.out 4
      have x5 : World.cell? _ ⟨w.heap.size + 1, 5, none⟩ = some (.int .i64 (zeroA).cmd.comp) := cell_row X0.out 5
      have xf5 := frozen_row X0.out 5
      have x6 : World.cell? _ ⟨w.heap.size + 1, 6, none⟩ = some (.slice none 0 0) := cell_row X0.out 6
      have xf6 := frozen_row X0.out 6
      have x7 : World.cell? _ ⟨w.heap.size + 1, 7, none⟩ = some (.int .i64 (zeroA).policy.room) := cell_row X0.out 7
      have xf7 := frozen_row X0.out 7
      have x8 : World.cell? _ ⟨w.heap.size + 1, 8, none⟩ = some (.int .i64 (zeroA).policy.frames) := cell_row X0.out 8
      have xf8 := frozen_row X0.out 8
      have x9 : World.cell? _ ⟨w.heap.size + 1, 9, none⟩ = some (.int .i64 (zeroA).n) := cell_row X0.out 9
      have xf9 := frozen_row X0.out 9
      have x10 : World.cell? _ ⟨w.heap.size + 1, 10, none⟩ = some (.slice none 0 0) := cell_row X0.out 10
      have xf10 := frozen_row X0.out 10
      have x11 : World.cell? _ ⟨w.heap.size + 1, 11, none⟩ = some (.slice none 0 0) := cell_row X0.out 11
      have xf11 := frozen_row X0.out 11
      go_enter Tryz.func30, Tryz.ntmps30
      go_wp2_with fail
      try rw [hW0]
      clear hW0
      clear x0 xf0 x1 xf1 x2 xf2 x3 xf3 x4 xf4 x5 xf5 x6 xf6 x7 xf7 x8 xf8 x9 xf9 x10 xf10 x11 xf11
      refine (HWDC.out).mono ?_
      rintro e w1 ⟨rfl, h1, o1⟩
      have R1 := Lib.hid h1
      have O1 := Lib.hid (O0.out.trans o1)
      have T1 := Lib.hid (T0.out.only o1 (by rintro b rfl; omega))
      have X1 := Lib.hid (show ActIs w1 (w.heap.size + 1) zeroA (.slice none 0 0) (.slice none 0 0) (.slice none 0 0) from row_only o1 X0.out (by omega))
      have Y1 := Lib.hid (show ActIs w1 w.heap.size zeroA (.slice none 0 0) (.slice none 0 0) (.slice none 0 0) from row_only o1 Y0.out (by omega))
      have hz1 := O1.out.size
      have hz1x : w.heap.size + 2 ≤ w1.heap.size := by have := o1.size; omega
      clear h1 o1
      have x0 : World.cell? _ ⟨w.heap.size + 1, 0, none⟩ = some (.int .i64 (zeroA).kind) := cell_row X1.out 0
      have xf0 := frozen_row X1.out 0
      have x1 : World.cell? _ ⟨w.heap.size + 1, 1, none⟩ = some (.int .i64 (zeroA).cmd.kind) := cell_row X1.out 1
      have xf1 := frozen_row X1.out 1
      have x2 : World.cell? _ ⟨w.heap.size + 1, 2, none⟩ = some (.bool (zeroA).cmd.loc) := cell_row X1.out 2
      have xf2 := frozen_row X1.out 2
      have x3 : World.cell? _ ⟨w.heap.size + 1, 3, none⟩ = some (.int .i64 (zeroA).cmd.id.index) := cell_row X1.out 3
      have xf3 := frozen_row X1.out 3
      have x4 : World.cell? _ ⟨w.heap.size + 1, 4, none⟩ = some (.int .i64 (zeroA).cmd.id.gen) := cell_row X1.out 4
      have xf4 := frozen_row X1.out 4
      have x5 : World.cell? _ ⟨w.heap.size + 1, 5, none⟩ = some (.int .i64 (zeroA).cmd.comp) := cell_row X1.out 5
      have xf5 := frozen_row X1.out 5
      have x6 : World.cell? _ ⟨w.heap.size + 1, 6, none⟩ = some (.slice none 0 0) := cell_row X1.out 6
      have xf6 := frozen_row X1.out 6
      have x7 : World.cell? _ ⟨w.heap.size + 1, 7, none⟩ = some (.int .i64 (zeroA).policy.room) := cell_row X1.out 7
      have xf7 := frozen_row X1.out 7
      have x8 : World.cell? _ ⟨w.heap.size + 1, 8, none⟩ = some (.int .i64 (zeroA).policy.frames) := cell_row X1.out 8
      have xf8 := frozen_row X1.out 8
      have x9 : World.cell? _ ⟨w.heap.size + 1, 9, none⟩ = some (.int .i64 (zeroA).n) := cell_row X1.out 9
      have xf9 := frozen_row X1.out 9
      have x10 : World.cell? _ ⟨w.heap.size + 1, 10, none⟩ = some (.slice none 0 0) := cell_row X1.out 10
      have xf10 := frozen_row X1.out 10
      have x11 : World.cell? _ ⟨w.heap.size + 1, 11, none⟩ = some (.slice none 0 0) := cell_row X1.out 11
      have xf11 := frozen_row X1.out 11
      go_wp2_with (with_reducible refine stopNil 50 rfl ?_)
      refine Lib.hid ?_
      clear x0 xf0 x1 xf1 x2 xf2 x3 xf3 x4 xf4 x5 xf5 x6 xf6 x7 xf7 x8 xf8 x9 xf9 x10 xf10 x11 xf11
      refine nm_list (fun V2 hnm => ?_)
      have XV2 := Lib.hid (show ActIs V2 (w.heap.size + 1) ({ zeroA with kind := 2 }) (.slice none 0 0) (.slice none 0 0) (.slice none 0 0) by rw [hnm]; exact heap_setRow X1.out)
      have YV2 := Lib.hid (show ActIs V2 w.heap.size zeroA (.slice none 0 0) (.slice none 0 0) (.slice none 0 0) by rw [hnm]; exact row_other Y1.out (by omega))
      have OV2 := Lib.hid (show Only (fun b => b = B) w V2 by rw [hnm]; exact O1.out.late (by omega))
      have RV2 := Lib.hid (show Rdr Q B V2 c r1 from R1.out.keep (by rw [hnm]; exact Below.heap_setCell _ _ _ _ (by dsimp only; omega)) (fun b hq _ => ⟨hq, by rw [hnm]; exact Below.heap_setCell _ _ _ _ (by have := HQ.out b hq; dsimp only; omega)⟩) R1.out.1)
      have TV2 := Lib.hid (show Tabs V2 from T1.out.only (show Only (fun b => b = w.heap.size + 1) _ V2 by rw [hnm]; exact (Only.refl _ _).put rfl) (by rintro b rfl; omega))
      clear hnm
      have RZ := RV2
      have XZ := XV2
      have YZ := YV2
      have OZ := OV2
      have AZ := Lib.hid (show rAct.val (fun b => w.heap.size + 2 ≤ b) V2 (actAgg ({ zeroA with kind := 2 }) (.slice none 0 0) (.slice none 0 0) (.slice none 0 0)) ({ zeroA with kind := 2 }) from act_bare (x := { zeroA with kind := 2 }) (by show (Lit.int .i64 2).wf = true; decide) rfl in0 in0 in0 rfl rfl)
      obtain ⟨A5, c5, q5, hq5, hq5m, hq5w⟩ := RZ.out.c5
      clear hq5 hq5m hq5w
      have q6 := RZ.out.c6
      have z6 := RZ.out.f6
      have HLZ := Lib.hid RZ.out
      cases hbad : (r1).bad with
      | true =>
        rw [hbad] at q6
        go_wp2_with (with_reducible refine stopLoad 35 3 rfl ?_)
        refine Lib.hid ?_
        clear q5 q6 z6
        refine nm_list (fun V6 hnm => ?_)
        have X6 := Lib.hid (show ActIs V6 (w.heap.size + 1) ({ zeroA with kind := 2 }) (.slice none 0 0) (.slice none 0 0) (.slice none 0 0) by rw [hnm]; exact row_other XZ.out (by omega))
        have Y6 := Lib.hid (show ActIs V6 w.heap.size zeroA (.slice none 0 0) (.slice none 0 0) (.slice none 0 0) by rw [hnm]; exact row_other YZ.out (by omega))
        have R6 := Lib.hid (show Rdr Q B V6 c ⟨(r1).l, true⟩ by rw [hnm]; exact RZ.out.put6 true)
        have O6 := Lib.hid (show Only (fun b => b = B) w V6 by rw [hnm]; exact OZ.out.put rfl)
        have A6 := Lib.hid (show rAct.val (fun b => w.heap.size + 2 ≤ b) V6 (actAgg ({ zeroA with kind := 2 }) (.slice none 0 0) (.slice none 0 0) (.slice none 0 0)) ({ zeroA with kind := 2 }) from Rep.val_keep (fun b hb _ => ⟨hb, by rw [hnm]; exact Below.heap_setCell _ _ _ _ (by dsimp only; omega)⟩) AZ.out)
        clear hnm
        have x0 : World.cell? _ ⟨w.heap.size + 1, 0, none⟩ = some (.int .i64 ({ zeroA with kind := 2 }).kind) := cell_row X6.out 0
        have xf0 := frozen_row X6.out 0
        have x1 : World.cell? _ ⟨w.heap.size + 1, 1, none⟩ = some (.int .i64 ({ zeroA with kind := 2 }).cmd.kind) := cell_row X6.out 1
        have xf1 := frozen_row X6.out 1
        have x2 : World.cell? _ ⟨w.heap.size + 1, 2, none⟩ = some (.bool ({ zeroA with kind := 2 }).cmd.loc) := cell_row X6.out 2
        have xf2 := frozen_row X6.out 2
        have x3 : World.cell? _ ⟨w.heap.size + 1, 3, none⟩ = some (.int .i64 ({ zeroA with kind := 2 }).cmd.id.index) := cell_row X6.out 3
        have xf3 := frozen_row X6.out 3
        have x4 : World.cell? _ ⟨w.heap.size + 1, 4, none⟩ = some (.int .i64 ({ zeroA with kind := 2 }).cmd.id.gen) := cell_row X6.out 4
        have xf4 := frozen_row X6.out 4
        have x5 : World.cell? _ ⟨w.heap.size + 1, 5, none⟩ = some (.int .i64 ({ zeroA with kind := 2 }).cmd.comp) := cell_row X6.out 5
        have xf5 := frozen_row X6.out 5
        have x6 : World.cell? _ ⟨w.heap.size + 1, 6, none⟩ = some (.slice none 0 0) := cell_row X6.out 6
        have xf6 := frozen_row X6.out 6
        have x7 : World.cell? _ ⟨w.heap.size + 1, 7, none⟩ = some (.int .i64 ({ zeroA with kind := 2 }).policy.room) := cell_row X6.out 7
        have xf7 := frozen_row X6.out 7
        have x8 : World.cell? _ ⟨w.heap.size + 1, 8, none⟩ = some (.int .i64 ({ zeroA with kind := 2 }).policy.frames) := cell_row X6.out 8
        have xf8 := frozen_row X6.out 8
        have x9 : World.cell? _ ⟨w.heap.size + 1, 9, none⟩ = some (.int .i64 ({ zeroA with kind := 2 }).n) := cell_row X6.out 9
        have xf9 := frozen_row X6.out 9
        have x10 : World.cell? _ ⟨w.heap.size + 1, 10, none⟩ = some (.slice none 0 0) := cell_row X6.out 10
        have xf10 := frozen_row X6.out 10
        have x11 : World.cell? _ ⟨w.heap.size + 1, 11, none⟩ = some (.slice none 0 0) := cell_row X6.out 11
        have xf11 := frozen_row X6.out 11
        have y0 : World.cell? _ ⟨w.heap.size, 0, none⟩ = some (.int .i64 (zeroA).kind) := cell_row Y6.out 0
        have yf0 := frozen_row Y6.out 0
        have y1 : World.cell? _ ⟨w.heap.size, 1, none⟩ = some (.int .i64 (zeroA).cmd.kind) := cell_row Y6.out 1
        have yf1 := frozen_row Y6.out 1
        have y2 : World.cell? _ ⟨w.heap.size, 2, none⟩ = some (.bool (zeroA).cmd.loc) := cell_row Y6.out 2
        have yf2 := frozen_row Y6.out 2
        have y3 : World.cell? _ ⟨w.heap.size, 3, none⟩ = some (.int .i64 (zeroA).cmd.id.index) := cell_row Y6.out 3
        have yf3 := frozen_row Y6.out 3
        have y4 : World.cell? _ ⟨w.heap.size, 4, none⟩ = some (.int .i64 (zeroA).cmd.id.gen) := cell_row Y6.out 4
        have yf4 := frozen_row Y6.out 4
        have y5 : World.cell? _ ⟨w.heap.size, 5, none⟩ = some (.int .i64 (zeroA).cmd.comp) := cell_row Y6.out 5
        have yf5 := frozen_row Y6.out 5
        have y6 : World.cell? _ ⟨w.heap.size, 6, none⟩ = some (.slice none 0 0) := cell_row Y6.out 6
        have yf6 := frozen_row Y6.out 6
        have y7 : World.cell? _ ⟨w.heap.size, 7, none⟩ = some (.int .i64 (zeroA).policy.room) := cell_row Y6.out 7
        have yf7 := frozen_row Y6.out 7
        have y8 : World.cell? _ ⟨w.heap.size, 8, none⟩ = some (.int .i64 (zeroA).policy.frames) := cell_row Y6.out 8
        have yf8 := frozen_row Y6.out 8
        have y9 : World.cell? _ ⟨w.heap.size, 9, none⟩ = some (.int .i64 (zeroA).n) := cell_row Y6.out 9
        have yf9 := frozen_row Y6.out 9
        have y10 : World.cell? _ ⟨w.heap.size, 10, none⟩ = some (.slice none 0 0) := cell_row Y6.out 10
        have yf10 := frozen_row Y6.out 10
        have y11 : World.cell? _ ⟨w.heap.size, 11, none⟩ = some (.slice none 0 0) := cell_row Y6.out 11
        have yf11 := frozen_row Y6.out 11
        go_wp2_with fail
        refine nm_post (fun W hnm => ?_)
        have RY := Lib.hid (show W.heap[w.heap.size]? = some (.cells (actRow ({ zeroA with kind := 2 }) (.slice none 0 0) (.slice none 0 0) (.slice none 0 0)) 35 (0, 0)) by rw [hnm]; exact row12 Y6.out)
        have KY := Lib.hid (show ∀ b, b ≠ w.heap.size → W.heap[b]? = V6.heap[b]? from fun b hb => by rw [hnm]; exact (Below.heap_setCell _ _ _ _ hb).trans ((Below.heap_setCell _ _ _ _ hb).trans ((Below.heap_setCell _ _ _ _ hb).trans ((Below.heap_setCell _ _ _ _ hb).trans ((Below.heap_setCell _ _ _ _ hb).trans ((Below.heap_setCell _ _ _ _ hb).trans ((Below.heap_setCell _ _ _ _ hb).trans ((Below.heap_setCell _ _ _ _ hb).trans ((Below.heap_setCell _ _ _ _ hb).trans ((Below.heap_setCell _ _ _ _ hb).trans ((Below.heap_setCell _ _ _ _ hb).trans (Below.heap_setCell _ _ _ _ hb))))))))))))
        have OO := Lib.hid (show Only (fun b => b = B) w W by rw [hnm]; exact ((((((((((((O6.out).late (Nat.le_refl _)).late (Nat.le_refl _)).late (Nat.le_refl _)).late (Nat.le_refl _)).late (Nat.le_refl _)).late (Nat.le_refl _)).late (Nat.le_refl _)).late (Nat.le_refl _)).late (Nat.le_refl _)).late (Nat.le_refl _)).late (Nat.le_refl _)).late (Nat.le_refl _))
        clear hnm x0 xf0 x1 xf1 x2 xf2 x3 xf3 x4 xf4 x5 xf5 x6 xf6 x7 xf7 x8 xf8 x9 xf9 x10 xf10 x11 xf11 y0 yf0 y1 yf1 y2 yf2 y3 yf3 y4 yf4 y5 yf5 y6 yf6 y7 yf7 y8 yf8 y9 yf9 y10 yf10 y11 yf11
        have RR := Lib.hid (R6.out.keep (KY.out B (by omega)) (fun b hq _ => ⟨hq, KY.out b (by have := HQ.out b hq; omega)⟩) R6.out.1)
        have AA := Lib.hid (show rAct.val (fun b => w.heap.size ≤ b) W (actAgg ({ zeroA with kind := 2 }) (.slice none 0 0) (.slice none 0 0) (.slice none 0 0)) ({ zeroA with kind := 2 }) from Rep.val_keep (fun b hb _ => ⟨by omega, KY.out b (by omega)⟩) A6.out)
        have y0 : World.cell? _ ⟨w.heap.size, 0, none⟩ = some (.int .i64 ({ zeroA with kind := 2 }).kind) := cell_row RY.out 0
        have y1 : World.cell? _ ⟨w.heap.size, 1, none⟩ = some (.int .i64 ({ zeroA with kind := 2 }).cmd.kind) := cell_row RY.out 1
        have y2 : World.cell? _ ⟨w.heap.size, 2, none⟩ = some (.bool ({ zeroA with kind := 2 }).cmd.loc) := cell_row RY.out 2
        have y3 : World.cell? _ ⟨w.heap.size, 3, none⟩ = some (.int .i64 ({ zeroA with kind := 2 }).cmd.id.index) := cell_row RY.out 3
        have y4 : World.cell? _ ⟨w.heap.size, 4, none⟩ = some (.int .i64 ({ zeroA with kind := 2 }).cmd.id.gen) := cell_row RY.out 4
        have y5 : World.cell? _ ⟨w.heap.size, 5, none⟩ = some (.int .i64 ({ zeroA with kind := 2 }).cmd.comp) := cell_row RY.out 5
        have y6 : World.cell? _ ⟨w.heap.size, 6, none⟩ = some (.slice none 0 0) := cell_row RY.out 6
        have y7 : World.cell? _ ⟨w.heap.size, 7, none⟩ = some (.int .i64 ({ zeroA with kind := 2 }).policy.room) := cell_row RY.out 7
        have y8 : World.cell? _ ⟨w.heap.size, 8, none⟩ = some (.int .i64 ({ zeroA with kind := 2 }).policy.frames) := cell_row RY.out 8
        have y9 : World.cell? _ ⟨w.heap.size, 9, none⟩ = some (.int .i64 ({ zeroA with kind := 2 }).n) := cell_row RY.out 9
        have y10 : World.cell? _ ⟨w.heap.size, 10, none⟩ = some (.slice none 0 0) := cell_row RY.out 10
        have y11 : World.cell? _ ⟨w.heap.size, 11, none⟩ = some (.slice none 0 0) := cell_row RY.out 11
        refine ⟨rfl, actAgg ({ zeroA with kind := 2 }) (.slice none 0 0) (.slice none 0 0) (.slice none 0 0), by simp only [results, hfr]; go_simp; rfl, ?_⟩
        clear y0 y1 y2 y3 y4 y5 y6 y7 y8 y9 y10 y11
        exact ⟨_, rfl, AA.out, by first | (simpa [hbad] using RR.out) | (rw [hbad]; exact RR.out), OO.out⟩
      | false =>
        rw [hbad] at q6
        cases hll : (r1).l with
        | nil =>
          rw [hll] at q5
          simp only [List.length_nil] at q5
          go_wp2_with (with_reducible refine stopLoad 35 3 rfl ?_)
          refine Lib.hid ?_
          clear q5 q6 z6
          refine nm_list (fun V6 hnm => ?_)
          have X6 := Lib.hid (show ActIs V6 (w.heap.size + 1) ({ zeroA with kind := 2 }) (.slice none 0 0) (.slice none 0 0) (.slice none 0 0) by rw [hnm]; exact row_other XZ.out (by omega))
          have Y6 := Lib.hid (show ActIs V6 w.heap.size zeroA (.slice none 0 0) (.slice none 0 0) (.slice none 0 0) by rw [hnm]; exact row_other YZ.out (by omega))
          have R6 := Lib.hid (show Rdr Q B V6 c ⟨(r1).l, false⟩ by rw [hnm]; exact RZ.out.put6 false)
          have O6 := Lib.hid (show Only (fun b => b = B) w V6 by rw [hnm]; exact OZ.out.put rfl)
          have A6 := Lib.hid (show rAct.val (fun b => w.heap.size + 2 ≤ b) V6 (actAgg ({ zeroA with kind := 2 }) (.slice none 0 0) (.slice none 0 0) (.slice none 0 0)) ({ zeroA with kind := 2 }) from Rep.val_keep (fun b hb _ => ⟨hb, by rw [hnm]; exact Below.heap_setCell _ _ _ _ (by dsimp only; omega)⟩) AZ.out)
          clear hnm
          have x0 : World.cell? _ ⟨w.heap.size + 1, 0, none⟩ = some (.int .i64 ({ zeroA with kind := 2 }).kind) := cell_row X6.out 0
          have xf0 := frozen_row X6.out 0
          have x1 : World.cell? _ ⟨w.heap.size + 1, 1, none⟩ = some (.int .i64 ({ zeroA with kind := 2 }).cmd.kind) := cell_row X6.out 1
          have xf1 := frozen_row X6.out 1
          have x2 : World.cell? _ ⟨w.heap.size + 1, 2, none⟩ = some (.bool ({ zeroA with kind := 2 }).cmd.loc) := cell_row X6.out 2
          have xf2 := frozen_row X6.out 2
          have x3 : World.cell? _ ⟨w.heap.size + 1, 3, none⟩ = some (.int .i64 ({ zeroA with kind := 2 }).cmd.id.index) := cell_row X6.out 3
          have xf3 := frozen_row X6.out 3
          have x4 : World.cell? _ ⟨w.heap.size + 1, 4, none⟩ = some (.int .i64 ({ zeroA with kind := 2 }).cmd.id.gen) := cell_row X6.out 4
          have xf4 := frozen_row X6.out 4
          have x5 : World.cell? _ ⟨w.heap.size + 1, 5, none⟩ = some (.int .i64 ({ zeroA with kind := 2 }).cmd.comp) := cell_row X6.out 5
          have xf5 := frozen_row X6.out 5
          have x6 : World.cell? _ ⟨w.heap.size + 1, 6, none⟩ = some (.slice none 0 0) := cell_row X6.out 6
          have xf6 := frozen_row X6.out 6
          have x7 : World.cell? _ ⟨w.heap.size + 1, 7, none⟩ = some (.int .i64 ({ zeroA with kind := 2 }).policy.room) := cell_row X6.out 7
          have xf7 := frozen_row X6.out 7
          have x8 : World.cell? _ ⟨w.heap.size + 1, 8, none⟩ = some (.int .i64 ({ zeroA with kind := 2 }).policy.frames) := cell_row X6.out 8
          have xf8 := frozen_row X6.out 8
          have x9 : World.cell? _ ⟨w.heap.size + 1, 9, none⟩ = some (.int .i64 ({ zeroA with kind := 2 }).n) := cell_row X6.out 9
          have xf9 := frozen_row X6.out 9
          have x10 : World.cell? _ ⟨w.heap.size + 1, 10, none⟩ = some (.slice none 0 0) := cell_row X6.out 10
          have xf10 := frozen_row X6.out 10
          have x11 : World.cell? _ ⟨w.heap.size + 1, 11, none⟩ = some (.slice none 0 0) := cell_row X6.out 11
          have xf11 := frozen_row X6.out 11
          have y0 : World.cell? _ ⟨w.heap.size, 0, none⟩ = some (.int .i64 (zeroA).kind) := cell_row Y6.out 0
          have yf0 := frozen_row Y6.out 0
          have y1 : World.cell? _ ⟨w.heap.size, 1, none⟩ = some (.int .i64 (zeroA).cmd.kind) := cell_row Y6.out 1
          have yf1 := frozen_row Y6.out 1
          have y2 : World.cell? _ ⟨w.heap.size, 2, none⟩ = some (.bool (zeroA).cmd.loc) := cell_row Y6.out 2
          have yf2 := frozen_row Y6.out 2
          have y3 : World.cell? _ ⟨w.heap.size, 3, none⟩ = some (.int .i64 (zeroA).cmd.id.index) := cell_row Y6.out 3
          have yf3 := frozen_row Y6.out 3
          have y4 : World.cell? _ ⟨w.heap.size, 4, none⟩ = some (.int .i64 (zeroA).cmd.id.gen) := cell_row Y6.out 4
          have yf4 := frozen_row Y6.out 4
          have y5 : World.cell? _ ⟨w.heap.size, 5, none⟩ = some (.int .i64 (zeroA).cmd.comp) := cell_row Y6.out 5
          have yf5 := frozen_row Y6.out 5
          have y6 : World.cell? _ ⟨w.heap.size, 6, none⟩ = some (.slice none 0 0) := cell_row Y6.out 6
          have yf6 := frozen_row Y6.out 6
          have y7 : World.cell? _ ⟨w.heap.size, 7, none⟩ = some (.int .i64 (zeroA).policy.room) := cell_row Y6.out 7
          have yf7 := frozen_row Y6.out 7
          have y8 : World.cell? _ ⟨w.heap.size, 8, none⟩ = some (.int .i64 (zeroA).policy.frames) := cell_row Y6.out 8
          have yf8 := frozen_row Y6.out 8
          have y9 : World.cell? _ ⟨w.heap.size, 9, none⟩ = some (.int .i64 (zeroA).n) := cell_row Y6.out 9
          have yf9 := frozen_row Y6.out 9
          have y10 : World.cell? _ ⟨w.heap.size, 10, none⟩ = some (.slice none 0 0) := cell_row Y6.out 10
          have yf10 := frozen_row Y6.out 10
          have y11 : World.cell? _ ⟨w.heap.size, 11, none⟩ = some (.slice none 0 0) := cell_row Y6.out 11
          have yf11 := frozen_row Y6.out 11
          go_wp2_with fail
          refine nm_post (fun W hnm => ?_)
          have RY := Lib.hid (show W.heap[w.heap.size]? = some (.cells (actRow ({ zeroA with kind := 2 }) (.slice none 0 0) (.slice none 0 0) (.slice none 0 0)) 35 (0, 0)) by rw [hnm]; exact row12 Y6.out)
          have KY := Lib.hid (show ∀ b, b ≠ w.heap.size → W.heap[b]? = V6.heap[b]? from fun b hb => by rw [hnm]; exact (Below.heap_setCell _ _ _ _ hb).trans ((Below.heap_setCell _ _ _ _ hb).trans ((Below.heap_setCell _ _ _ _ hb).trans ((Below.heap_setCell _ _ _ _ hb).trans ((Below.heap_setCell _ _ _ _ hb).trans ((Below.heap_setCell _ _ _ _ hb).trans ((Below.heap_setCell _ _ _ _ hb).trans ((Below.heap_setCell _ _ _ _ hb).trans ((Below.heap_setCell _ _ _ _ hb).trans ((Below.heap_setCell _ _ _ _ hb).trans ((Below.heap_setCell _ _ _ _ hb).trans (Below.heap_setCell _ _ _ _ hb))))))))))))
          have OO := Lib.hid (show Only (fun b => b = B) w W by rw [hnm]; exact ((((((((((((O6.out).late (Nat.le_refl _)).late (Nat.le_refl _)).late (Nat.le_refl _)).late (Nat.le_refl _)).late (Nat.le_refl _)).late (Nat.le_refl _)).late (Nat.le_refl _)).late (Nat.le_refl _)).late (Nat.le_refl _)).late (Nat.le_refl _)).late (Nat.le_refl _)).late (Nat.le_refl _))
          clear hnm x0 xf0 x1 xf1 x2 xf2 x3 xf3 x4 xf4 x5 xf5 x6 xf6 x7 xf7 x8 xf8 x9 xf9 x10 xf10 x11 xf11 y0 yf0 y1 yf1 y2 yf2 y3 yf3 y4 yf4 y5 yf5 y6 yf6 y7 yf7 y8 yf8 y9 yf9 y10 yf10 y11 yf11
          have RR := Lib.hid (R6.out.keep (KY.out B (by omega)) (fun b hq _ => ⟨hq, KY.out b (by have := HQ.out b hq; omega)⟩) R6.out.1)
          have AA := Lib.hid (show rAct.val (fun b => w.heap.size ≤ b) W (actAgg ({ zeroA with kind := 2 }) (.slice none 0 0) (.slice none 0 0) (.slice none 0 0)) ({ zeroA with kind := 2 }) from Rep.val_keep (fun b hb _ => ⟨by omega, KY.out b (by omega)⟩) A6.out)
          have y0 : World.cell? _ ⟨w.heap.size, 0, none⟩ = some (.int .i64 ({ zeroA with kind := 2 }).kind) := cell_row RY.out 0
          have y1 : World.cell? _ ⟨w.heap.size, 1, none⟩ = some (.int .i64 ({ zeroA with kind := 2 }).cmd.kind) := cell_row RY.out 1
          have y2 : World.cell? _ ⟨w.heap.size, 2, none⟩ = some (.bool ({ zeroA with kind := 2 }).cmd.loc) := cell_row RY.out 2
          have y3 : World.cell? _ ⟨w.heap.size, 3, none⟩ = some (.int .i64 ({ zeroA with kind := 2 }).cmd.id.index) := cell_row RY.out 3
          have y4 : World.cell? _ ⟨w.heap.size, 4, none⟩ = some (.int .i64 ({ zeroA with kind := 2 }).cmd.id.gen) := cell_row RY.out 4
          have y5 : World.cell? _ ⟨w.heap.size, 5, none⟩ = some (.int .i64 ({ zeroA with kind := 2 }).cmd.comp) := cell_row RY.out 5
          have y6 : World.cell? _ ⟨w.heap.size, 6, none⟩ = some (.slice none 0 0) := cell_row RY.out 6
          have y7 : World.cell? _ ⟨w.heap.size, 7, none⟩ = some (.int .i64 ({ zeroA with kind := 2 }).policy.room) := cell_row RY.out 7
          have y8 : World.cell? _ ⟨w.heap.size, 8, none⟩ = some (.int .i64 ({ zeroA with kind := 2 }).policy.frames) := cell_row RY.out 8
          have y9 : World.cell? _ ⟨w.heap.size, 9, none⟩ = some (.int .i64 ({ zeroA with kind := 2 }).n) := cell_row RY.out 9
          have y10 : World.cell? _ ⟨w.heap.size, 10, none⟩ = some (.slice none 0 0) := cell_row RY.out 10
          have y11 : World.cell? _ ⟨w.heap.size, 11, none⟩ = some (.slice none 0 0) := cell_row RY.out 11
          refine ⟨rfl, actAgg ({ zeroA with kind := 2 }) (.slice none 0 0) (.slice none 0 0) (.slice none 0 0), by simp only [results, hfr]; go_simp; rfl, ?_⟩
          clear y0 y1 y2 y3 y4 y5 y6 y7 y8 y9 y10 y11
          exact ⟨_, rfl, AA.out, by first | (simpa [hbad, hll] using RR.out) | (rw [hbad, hll]; rw [hll] at RR; exact RR.out), OO.out⟩
        | cons y m =>
          rw [hll] at q5
          simp only [List.length_cons] at q5
          have hpp : (0 : Int) < ((m.length + 1 : Nat) : Int) := by omega
          have hpq : (0 : Int) < (m.length : Int) + 1 := by omega
          generalize m.length = ml at *
          go_wp2_with (with_reducible refine stopLoad 35 3 rfl ?_)
          refine Lib.hid ?_
          clear q5 q6 z6
          refine nm_list (fun V6 hnm => ?_)
          have X6 := Lib.hid (show ActIs V6 (w.heap.size + 1) ({ zeroA with kind := 2 }) (.slice none 0 0) (.slice none 0 0) (.slice none 0 0) by rw [hnm]; exact row_other XZ.out (by omega))
          have Y6 := Lib.hid (show ActIs V6 w.heap.size zeroA (.slice none 0 0) (.slice none 0 0) (.slice none 0 0) by rw [hnm]; exact row_other YZ.out (by omega))
          have R6 := Lib.hid (show Rdr Q B V6 c ⟨(r1).l, true⟩ by rw [hnm]; exact RZ.out.put6 true)
          have O6 := Lib.hid (show Only (fun b => b = B) w V6 by rw [hnm]; exact OZ.out.put rfl)
          have A6 := Lib.hid (show rAct.val (fun b => w.heap.size + 2 ≤ b) V6 (actAgg ({ zeroA with kind := 2 }) (.slice none 0 0) (.slice none 0 0) (.slice none 0 0)) ({ zeroA with kind := 2 }) from Rep.val_keep (fun b hb _ => ⟨hb, by rw [hnm]; exact Below.heap_setCell _ _ _ _ (by dsimp only; omega)⟩) AZ.out)
          clear hnm
          have x0 : World.cell? _ ⟨w.heap.size + 1, 0, none⟩ = some (.int .i64 ({ zeroA with kind := 2 }).kind) := cell_row X6.out 0
          have xf0 := frozen_row X6.out 0
          have x1 : World.cell? _ ⟨w.heap.size + 1, 1, none⟩ = some (.int .i64 ({ zeroA with kind := 2 }).cmd.kind) := cell_row X6.out 1
          have xf1 := frozen_row X6.out 1
          have x2 : World.cell? _ ⟨w.heap.size + 1, 2, none⟩ = some (.bool ({ zeroA with kind := 2 }).cmd.loc) := cell_row X6.out 2
          have xf2 := frozen_row X6.out 2
          have x3 : World.cell? _ ⟨w.heap.size + 1, 3, none⟩ = some (.int .i64 ({ zeroA with kind := 2 }).cmd.id.index) := cell_row X6.out 3
          have xf3 := frozen_row X6.out 3
          have x4 : World.cell? _ ⟨w.heap.size + 1, 4, none⟩ = some (.int .i64 ({ zeroA with kind := 2 }).cmd.id.gen) := cell_row X6.out 4
          have xf4 := frozen_row X6.out 4
          have x5 : World.cell? _ ⟨w.heap.size + 1, 5, none⟩ = some (.int .i64 ({ zeroA with kind := 2 }).cmd.comp) := cell_row X6.out 5
          have xf5 := frozen_row X6.out 5
          have x6 : World.cell? _ ⟨w.heap.size + 1, 6, none⟩ = some (.slice none 0 0) := cell_row X6.out 6
          have xf6 := frozen_row X6.out 6
          have x7 : World.cell? _ ⟨w.heap.size + 1, 7, none⟩ = some (.int .i64 ({ zeroA with kind := 2 }).policy.room) := cell_row X6.out 7
          have xf7 := frozen_row X6.out 7
          have x8 : World.cell? _ ⟨w.heap.size + 1, 8, none⟩ = some (.int .i64 ({ zeroA with kind := 2 }).policy.frames) := cell_row X6.out 8
          have xf8 := frozen_row X6.out 8
          have x9 : World.cell? _ ⟨w.heap.size + 1, 9, none⟩ = some (.int .i64 ({ zeroA with kind := 2 }).n) := cell_row X6.out 9
          have xf9 := frozen_row X6.out 9
          have x10 : World.cell? _ ⟨w.heap.size + 1, 10, none⟩ = some (.slice none 0 0) := cell_row X6.out 10
          have xf10 := frozen_row X6.out 10
          have x11 : World.cell? _ ⟨w.heap.size + 1, 11, none⟩ = some (.slice none 0 0) := cell_row X6.out 11
          have xf11 := frozen_row X6.out 11
          have y0 : World.cell? _ ⟨w.heap.size, 0, none⟩ = some (.int .i64 (zeroA).kind) := cell_row Y6.out 0
          have yf0 := frozen_row Y6.out 0
          have y1 : World.cell? _ ⟨w.heap.size, 1, none⟩ = some (.int .i64 (zeroA).cmd.kind) := cell_row Y6.out 1
          have yf1 := frozen_row Y6.out 1
          have y2 : World.cell? _ ⟨w.heap.size, 2, none⟩ = some (.bool (zeroA).cmd.loc) := cell_row Y6.out 2
          have yf2 := frozen_row Y6.out 2
          have y3 : World.cell? _ ⟨w.heap.size, 3, none⟩ = some (.int .i64 (zeroA).cmd.id.index) := cell_row Y6.out 3
          have yf3 := frozen_row Y6.out 3
          have y4 : World.cell? _ ⟨w.heap.size, 4, none⟩ = some (.int .i64 (zeroA).cmd.id.gen) := cell_row Y6.out 4
          have yf4 := frozen_row Y6.out 4
          have y5 : World.cell? _ ⟨w.heap.size, 5, none⟩ = some (.int .i64 (zeroA).cmd.comp) := cell_row Y6.out 5
          have yf5 := frozen_row Y6.out 5
          have y6 : World.cell? _ ⟨w.heap.size, 6, none⟩ = some (.slice none 0 0) := cell_row Y6.out 6
          have yf6 := frozen_row Y6.out 6
          have y7 : World.cell? _ ⟨w.heap.size, 7, none⟩ = some (.int .i64 (zeroA).policy.room) := cell_row Y6.out 7
          have yf7 := frozen_row Y6.out 7
          have y8 : World.cell? _ ⟨w.heap.size, 8, none⟩ = some (.int .i64 (zeroA).policy.frames) := cell_row Y6.out 8
          have yf8 := frozen_row Y6.out 8
          have y9 : World.cell? _ ⟨w.heap.size, 9, none⟩ = some (.int .i64 (zeroA).n) := cell_row Y6.out 9
          have yf9 := frozen_row Y6.out 9
          have y10 : World.cell? _ ⟨w.heap.size, 10, none⟩ = some (.slice none 0 0) := cell_row Y6.out 10
          have yf10 := frozen_row Y6.out 10
          have y11 : World.cell? _ ⟨w.heap.size, 11, none⟩ = some (.slice none 0 0) := cell_row Y6.out 11
          have yf11 := frozen_row Y6.out 11
          go_wp2_with fail
          refine nm_post (fun W hnm => ?_)
          have RY := Lib.hid (show W.heap[w.heap.size]? = some (.cells (actRow ({ zeroA with kind := 2 }) (.slice none 0 0) (.slice none 0 0) (.slice none 0 0)) 35 (0, 0)) by rw [hnm]; exact row12 Y6.out)
          have KY := Lib.hid (show ∀ b, b ≠ w.heap.size → W.heap[b]? = V6.heap[b]? from fun b hb => by rw [hnm]; exact (Below.heap_setCell _ _ _ _ hb).trans ((Below.heap_setCell _ _ _ _ hb).trans ((Below.heap_setCell _ _ _ _ hb).trans ((Below.heap_setCell _ _ _ _ hb).trans ((Below.heap_setCell _ _ _ _ hb).trans ((Below.heap_setCell _ _ _ _ hb).trans ((Below.heap_setCell _ _ _ _ hb).trans ((Below.heap_setCell _ _ _ _ hb).trans ((Below.heap_setCell _ _ _ _ hb).trans ((Below.heap_setCell _ _ _ _ hb).trans ((Below.heap_setCell _ _ _ _ hb).trans (Below.heap_setCell _ _ _ _ hb))))))))))))
          have OO := Lib.hid (show Only (fun b => b = B) w W by rw [hnm]; exact ((((((((((((O6.out).late (Nat.le_refl _)).late (Nat.le_refl _)).late (Nat.le_refl _)).late (Nat.le_refl _)).late (Nat.le_refl _)).late (Nat.le_refl _)).late (Nat.le_refl _)).late (Nat.le_refl _)).late (Nat.le_refl _)).late (Nat.le_refl _)).late (Nat.le_refl _)).late (Nat.le_refl _))
          clear hnm x0 xf0 x1 xf1 x2 xf2 x3 xf3 x4 xf4 x5 xf5 x6 xf6 x7 xf7 x8 xf8 x9 xf9 x10 xf10 x11 xf11 y0 yf0 y1 yf1 y2 yf2 y3 yf3 y4 yf4 y5 yf5 y6 yf6 y7 yf7 y8 yf8 y9 yf9 y10 yf10 y11 yf11
          have RR := Lib.hid (R6.out.keep (KY.out B (by omega)) (fun b hq _ => ⟨hq, KY.out b (by have := HQ.out b hq; omega)⟩) R6.out.1)
          have AA := Lib.hid (show rAct.val (fun b => w.heap.size ≤ b) W (actAgg ({ zeroA with kind := 2 }) (.slice none 0 0) (.slice none 0 0) (.slice none 0 0)) ({ zeroA with kind := 2 }) from Rep.val_keep (fun b hb _ => ⟨by omega, KY.out b (by omega)⟩) A6.out)
          have y0 : World.cell? _ ⟨w.heap.size, 0, none⟩ = some (.int .i64 ({ zeroA with kind := 2 }).kind) := cell_row RY.out 0
          have y1 : World.cell? _ ⟨w.heap.size, 1, none⟩ = some (.int .i64 ({ zeroA with kind := 2 }).cmd.kind) := cell_row RY.out 1
          have y2 : World.cell? _ ⟨w.heap.size, 2, none⟩ = some (.bool ({ zeroA with kind := 2 }).cmd.loc) := cell_row RY.out 2
          have y3 : World.cell? _ ⟨w.heap.size, 3, none⟩ = some (.int .i64 ({ zeroA with kind := 2 }).cmd.id.index) := cell_row RY.out 3
          have y4 : World.cell? _ ⟨w.heap.size, 4, none⟩ = some (.int .i64 ({ zeroA with kind := 2 }).cmd.id.gen) := cell_row RY.out 4
          have y5 : World.cell? _ ⟨w.heap.size, 5, none⟩ = some (.int .i64 ({ zeroA with kind := 2 }).cmd.comp) := cell_row RY.out 5
          have y6 : World.cell? _ ⟨w.heap.size, 6, none⟩ = some (.slice none 0 0) := cell_row RY.out 6
          have y7 : World.cell? _ ⟨w.heap.size, 7, none⟩ = some (.int .i64 ({ zeroA with kind := 2 }).policy.room) := cell_row RY.out 7
          have y8 : World.cell? _ ⟨w.heap.size, 8, none⟩ = some (.int .i64 ({ zeroA with kind := 2 }).policy.frames) := cell_row RY.out 8
          have y9 : World.cell? _ ⟨w.heap.size, 9, none⟩ = some (.int .i64 ({ zeroA with kind := 2 }).n) := cell_row RY.out 9
          have y10 : World.cell? _ ⟨w.heap.size, 10, none⟩ = some (.slice none 0 0) := cell_row RY.out 10
          have y11 : World.cell? _ ⟨w.heap.size, 11, none⟩ = some (.slice none 0 0) := cell_row RY.out 11
          refine ⟨rfl, actAgg ({ zeroA with kind := 2 }) (.slice none 0 0) (.slice none 0 0) (.slice none 0 0), by simp only [results, hfr]; go_simp; rfl, ?_⟩
          clear y0 y1 y2 y3 y4 y5 y6 y7 y8 y9 y10 y11
          exact ⟨_, rfl, AA.out, by first | (simpa [hbad, hll] using RR.out) | (rw [hbad, hll]; rw [hll] at RR; exact RR.out), OO.out⟩
    · rw [if_neg hs1]
      have b1 : (s == [115, 121, 110, 99]) = false := by simpa [wSync] using hs1
      by_cases hs2 : s = wCheck
      · rw [if_pos hs2]
        subst hs2
        unfold wCheck at HWDC
        have x0 : World.cell? _ ⟨w.heap.size + 1, 0, none⟩ = some (.int .i64 (zeroA).kind) := cell_row X0.out 0
        have xf0 := frozen_row X0.out 0
        have x1 : World.cell? _ ⟨w.heap.size + 1, 1, none⟩ = some (.int .i64 (zeroA).cmd.kind) := cell_row X0.out 1
        have xf1 := frozen_row X0.out 1
        have x2 : World.cell? _ ⟨w.heap.size + 1, 2, none⟩ = some (.bool (zeroA).cmd.loc) := cell_row X0.out 2
        have xf2 := frozen_row X0.out 2
        have x3 : World.cell? _ ⟨w.heap.size + 1, 3, none⟩ = some (.int .i64 (zeroA).cmd.id.index) := cell_row X0.out 3
        have xf3 := frozen_row X0.out 3
        have x4 : World.cell? _ ⟨w.heap.size + 1, 4, none⟩ = some (.int .i64 (zeroA).cmd.id.gen) := cell_row X0.out 4
        have xf4 := frozen_row X0.out 4
        have x5 : World.cell? _ ⟨w.heap.size + 1, 5, none⟩ = some (.int .i64 (zeroA).cmd.comp) := cell_row X0.out 5
        have xf5 := frozen_row X0.out 5
        have x6 : World.cell? _ ⟨w.heap.size + 1, 6, none⟩ = some (.slice none 0 0) := cell_row X0.out 6
        have xf6 := frozen_row X0.out 6
        have x7 : World.cell? _ ⟨w.heap.size + 1, 7, none⟩ = some (.int .i64 (zeroA).policy.room) := cell_row X0.out 7
        have xf7 := frozen_row X0.out 7
        have x8 : World.cell? _ ⟨w.heap.size + 1, 8, none⟩ = some (.int .i64 (zeroA).policy.frames) := cell_row X0.out 8
        have xf8 := frozen_row X0.out 8
        have x9 : World.cell? _ ⟨w.heap.size + 1, 9, none⟩ = some (.int .i64 (zeroA).n) := cell_row X0.out 9
        have xf9 := frozen_row X0.out 9
        have x10 : World.cell? _ ⟨w.heap.size + 1, 10, none⟩ = some (.slice none 0 0) := cell_row X0.out 10
        have xf10 := frozen_row X0.out 10
        have x11 : World.cell? _ ⟨w.heap.size + 1, 11, none⟩ = some (.slice none 0 0) := cell_row X0.out 11
        have xf11 := frozen_row X0.out 11
        go_enter Tryz.func30, Tryz.ntmps30
        go_wp2_with fail
        try rw [hW0]
        clear hW0
        clear x0 xf0 x1 xf1 x2 xf2 x3 xf3 x4 xf4 x5 xf5 x6 xf6 x7 xf7 x8 xf8 x9 xf9 x10 xf10 x11 xf11
        refine (HWDC.out).mono ?_
        rintro e w1 ⟨rfl, h1, o1⟩
        have R1 := Lib.hid h1
        have O1 := Lib.hid (O0.out.trans o1)
        have T1 := Lib.hid (T0.out.only o1 (by rintro b rfl; omega))
        have X1 := Lib.hid (show ActIs w1 (w.heap.size + 1) zeroA (.slice none 0 0) (.slice none 0 0) (.slice none 0 0) from row_only o1 X0.out (by omega))
        have Y1 := Lib.hid (show ActIs w1 w.heap.size zeroA (.slice none 0 0) (.slice none 0 0) (.slice none 0 0) from row_only o1 Y0.out (by omega))
        have hz1 := O1.out.size
        have hz1x : w.heap.size + 2 ≤ w1.heap.size := by have := o1.size; omega
        clear h1 o1
        have x0 : World.cell? _ ⟨w.heap.size + 1, 0, none⟩ = some (.int .i64 (zeroA).kind) := cell_row X1.out 0
        have xf0 := frozen_row X1.out 0
        have x1 : World.cell? _ ⟨w.heap.size + 1, 1, none⟩ = some (.int .i64 (zeroA).cmd.kind) := cell_row X1.out 1
        have xf1 := frozen_row X1.out 1
        have x2 : World.cell? _ ⟨w.heap.size + 1, 2, none⟩ = some (.bool (zeroA).cmd.loc) := cell_row X1.out 2
        have xf2 := frozen_row X1.out 2
        have x3 : World.cell? _ ⟨w.heap.size + 1, 3, none⟩ = some (.int .i64 (zeroA).cmd.id.index) := cell_row X1.out 3
        have xf3 := frozen_row X1.out 3
        have x4 : World.cell? _ ⟨w.heap.size + 1, 4, none⟩ = some (.int .i64 (zeroA).cmd.id.gen) := cell_row X1.out 4
        have xf4 := frozen_row X1.out 4
        have x5 : World.cell? _ ⟨w.heap.size + 1, 5, none⟩ = some (.int .i64 (zeroA).cmd.comp) := cell_row X1.out 5
        have xf5 := frozen_row X1.out 5
        have x6 : World.cell? _ ⟨w.heap.size + 1, 6, none⟩ = some (.slice none 0 0) := cell_row X1.out 6
        have xf6 := frozen_row X1.out 6
        have x7 : World.cell? _ ⟨w.heap.size + 1, 7, none⟩ = some (.int .i64 (zeroA).policy.room) := cell_row X1.out 7
        have xf7 := frozen_row X1.out 7
        have x8 : World.cell? _ ⟨w.heap.size + 1, 8, none⟩ = some (.int .i64 (zeroA).policy.frames) := cell_row X1.out 8
        have xf8 := frozen_row X1.out 8
        have x9 : World.cell? _ ⟨w.heap.size + 1, 9, none⟩ = some (.int .i64 (zeroA).n) := cell_row X1.out 9
        have xf9 := frozen_row X1.out 9
        have x10 : World.cell? _ ⟨w.heap.size + 1, 10, none⟩ = some (.slice none 0 0) := cell_row X1.out 10
        have xf10 := frozen_row X1.out 10
        have x11 : World.cell? _ ⟨w.heap.size + 1, 11, none⟩ = some (.slice none 0 0) := cell_row X1.out 11
        have xf11 := frozen_row X1.out 11
        go_wp2_with (with_reducible refine stopNil 50 rfl ?_)
        refine Lib.hid ?_
        clear x0 xf0 x1 xf1 x2 xf2 x3 xf3 x4 xf4 x5 xf5 x6 xf6 x7 xf7 x8 xf8 x9 xf9 x10 xf10 x11 xf11
        refine nm_list (fun V2 hnm => ?_)
        have XV2 := Lib.hid (show ActIs V2 (w.heap.size + 1) ({ zeroA with kind := 3 }) (.slice none 0 0) (.slice none 0 0) (.slice none 0 0) by rw [hnm]; exact heap_setRow X1.out)
        have YV2 := Lib.hid (show ActIs V2 w.heap.size zeroA (.slice none 0 0) (.slice none 0 0) (.slice none 0 0) by rw [hnm]; exact row_other Y1.out (by omega))
        have OV2 := Lib.hid (show Only (fun b => b = B) w V2 by rw [hnm]; exact O1.out.late (by omega))
        have RV2 := Lib.hid (show Rdr Q B V2 c r1 from R1.out.keep (by rw [hnm]; exact Below.heap_setCell _ _ _ _ (by dsimp only; omega)) (fun b hq _ => ⟨hq, by rw [hnm]; exact Below.heap_setCell _ _ _ _ (by have := HQ.out b hq; dsimp only; omega)⟩) R1.out.1)
        have TV2 := Lib.hid (show Tabs V2 from T1.out.only (show Only (fun b => b = w.heap.size + 1) _ V2 by rw [hnm]; exact (Only.refl _ _).put rfl) (by rintro b rfl; omega))
        clear hnm
        have RZ := RV2
        have XZ := XV2
        have YZ := YV2
        have OZ := OV2
        have AZ := Lib.hid (show rAct.val (fun b => w.heap.size + 2 ≤ b) V2 (actAgg ({ zeroA with kind := 3 }) (.slice none 0 0) (.slice none 0 0) (.slice none 0 0)) ({ zeroA with kind := 3 }) from act_bare (x := { zeroA with kind := 3 }) (by show (Lit.int .i64 3).wf = true; decide) rfl in0 in0 in0 rfl rfl)
        obtain ⟨A5, c5, q5, hq5, hq5m, hq5w⟩ := RZ.out.c5
        clear hq5 hq5m hq5w
        have q6 := RZ.out.c6
        have z6 := RZ.out.f6
        have HLZ := Lib.hid RZ.out
        cases hbad : (r1).bad with
        | true =>
          rw [hbad] at q6
          go_wp2_with (with_reducible refine stopLoad 35 3 rfl ?_)
          refine Lib.hid ?_
          clear q5 q6 z6
          refine nm_list (fun V6 hnm => ?_)
          have X6 := Lib.hid (show ActIs V6 (w.heap.size + 1) ({ zeroA with kind := 3 }) (.slice none 0 0) (.slice none 0 0) (.slice none 0 0) by rw [hnm]; exact row_other XZ.out (by omega))
          have Y6 := Lib.hid (show ActIs V6 w.heap.size zeroA (.slice none 0 0) (.slice none 0 0) (.slice none 0 0) by rw [hnm]; exact row_other YZ.out (by omega))
          have R6 := Lib.hid (show Rdr Q B V6 c ⟨(r1).l, true⟩ by rw [hnm]; exact RZ.out.put6 true)
          have O6 := Lib.hid (show Only (fun b => b = B) w V6 by rw [hnm]; exact OZ.out.put rfl)
          have A6 := Lib.hid (show rAct.val (fun b => w.heap.size + 2 ≤ b) V6 (actAgg ({ zeroA with kind := 3 }) (.slice none 0 0) (.slice none 0 0) (.slice none 0 0)) ({ zeroA with kind := 3 }) from Rep.val_keep (fun b hb _ => ⟨hb, by rw [hnm]; exact Below.heap_setCell _ _ _ _ (by dsimp only; omega)⟩) AZ.out)
          clear hnm
          have x0 : World.cell? _ ⟨w.heap.size + 1, 0, none⟩ = some (.int .i64 ({ zeroA with kind := 3 }).kind) := cell_row X6.out 0
          have xf0 := frozen_row X6.out 0
          have x1 : World.cell? _ ⟨w.heap.size + 1, 1, none⟩ = some (.int .i64 ({ zeroA with kind := 3 }).cmd.kind) := cell_row X6.out 1
          have xf1 := frozen_row X6.out 1
          have x2 : World.cell? _ ⟨w.heap.size + 1, 2, none⟩ = some (.bool ({ zeroA with kind := 3 }).cmd.loc) := cell_row X6.out 2
          have xf2 := frozen_row X6.out 2
          have x3 : World.cell? _ ⟨w.heap.size + 1, 3, none⟩ = some (.int .i64 ({ zeroA with kind := 3 }).cmd.id.index) := cell_row X6.out 3
          have xf3 := frozen_row X6.out 3
          have x4 : World.cell? _ ⟨w.heap.size + 1, 4, none⟩ = some (.int .i64 ({ zeroA with kind := 3 }).cmd.id.gen) := cell_row X6.out 4
          have xf4 := frozen_row X6.out 4
          have x5 : World.cell? _ ⟨w.heap.size + 1, 5, none⟩ = some (.int .i64 ({ zeroA with kind := 3 }).cmd.comp) := cell_row X6.out 5
          have xf5 := frozen_row X6.out 5
          have x6 : World.cell? _ ⟨w.heap.size + 1, 6, none⟩ = some (.slice none 0 0) := cell_row X6.out 6
          have xf6 := frozen_row X6.out 6
          have x7 : World.cell? _ ⟨w.heap.size + 1, 7, none⟩ = some (.int .i64 ({ zeroA with kind := 3 }).policy.room) := cell_row X6.out 7
          have xf7 := frozen_row X6.out 7
          have x8 : World.cell? _ ⟨w.heap.size + 1, 8, none⟩ = some (.int .i64 ({ zeroA with kind := 3 }).policy.frames) := cell_row X6.out 8
          have xf8 := frozen_row X6.out 8
          have x9 : World.cell? _ ⟨w.heap.size + 1, 9, none⟩ = some (.int .i64 ({ zeroA with kind := 3 }).n) := cell_row X6.out 9
          have xf9 := frozen_row X6.out 9
          have x10 : World.cell? _ ⟨w.heap.size + 1, 10, none⟩ = some (.slice none 0 0) := cell_row X6.out 10
          have xf10 := frozen_row X6.out 10
          have x11 : World.cell? _ ⟨w.heap.size + 1, 11, none⟩ = some (.slice none 0 0) := cell_row X6.out 11
          have xf11 := frozen_row X6.out 11
          have y0 : World.cell? _ ⟨w.heap.size, 0, none⟩ = some (.int .i64 (zeroA).kind) := cell_row Y6.out 0
          have yf0 := frozen_row Y6.out 0
          have y1 : World.cell? _ ⟨w.heap.size, 1, none⟩ = some (.int .i64 (zeroA).cmd.kind) := cell_row Y6.out 1
          have yf1 := frozen_row Y6.out 1
          have y2 : World.cell? _ ⟨w.heap.size, 2, none⟩ = some (.bool (zeroA).cmd.loc) := cell_row Y6.out 2
          have yf2 := frozen_row Y6.out 2
          have y3 : World.cell? _ ⟨w.heap.size, 3, none⟩ = some (.int .i64 (zeroA).cmd.id.index) := cell_row Y6.out 3
          have yf3 := frozen_row Y6.out 3
          have y4 : World.cell? _ ⟨w.heap.size, 4, none⟩ = some (.int .i64 (zeroA).cmd.id.gen) := cell_row Y6.out 4
          have yf4 := frozen_row Y6.out 4
          have y5 : World.cell? _ ⟨w.heap.size, 5, none⟩ = some (.int .i64 (zeroA).cmd.comp) := cell_row Y6.out 5
          have yf5 := frozen_row Y6.out 5
          have y6 : World.cell? _ ⟨w.heap.size, 6, none⟩ = some (.slice none 0 0) := cell_row Y6.out 6
          have yf6 := frozen_row Y6.out 6
          have y7 : World.cell? _ ⟨w.heap.size, 7, none⟩ = some (.int .i64 (zeroA).policy.room) := cell_row Y6.out 7
          have yf7 := frozen_row Y6.out 7
          have y8 : World.cell? _ ⟨w.heap.size, 8, none⟩ = some (.int .i64 (zeroA).policy.frames) := cell_row Y6.out 8
          have yf8 := frozen_row Y6.out 8
          have y9 : World.cell? _ ⟨w.heap.size, 9, none⟩ = some (.int .i64 (zeroA).n) := cell_row Y6.out 9
          have yf9 := frozen_row Y6.out 9
          have y10 : World.cell? _ ⟨w.heap.size, 10, none⟩ = some (.slice none 0 0) := cell_row Y6.out 10
          have yf10 := frozen_row Y6.out 10
          have y11 : World.cell? _ ⟨w.heap.size, 11, none⟩ = some (.slice none 0 0) := cell_row Y6.out 11
          have yf11 := frozen_row Y6.out 11
          go_wp2_with fail
          refine nm_post (fun W hnm => ?_)
          have RY := Lib.hid (show W.heap[w.heap.size]? = some (.cells (actRow ({ zeroA with kind := 3 }) (.slice none 0 0) (.slice none 0 0) (.slice none 0 0)) 35 (0, 0)) by rw [hnm]; exact row12 Y6.out)
          have KY := Lib.hid (show ∀ b, b ≠ w.heap.size → W.heap[b]? = V6.heap[b]? from fun b hb => by rw [hnm]; exact (Below.heap_setCell _ _ _ _ hb).trans ((Below.heap_setCell _ _ _ _ hb).trans ((Below.heap_setCell _ _ _ _ hb).trans ((Below.heap_setCell _ _ _ _ hb).trans ((Below.heap_setCell _ _ _ _ hb).trans ((Below.heap_setCell _ _ _ _ hb).trans ((Below.heap_setCell _ _ _ _ hb).trans ((Below.heap_setCell _ _ _ _ hb).trans ((Below.heap_setCell _ _ _ _ hb).trans ((Below.heap_setCell _ _ _ _ hb).trans ((Below.heap_setCell _ _ _ _ hb).trans (Below.heap_setCell _ _ _ _ hb))))))))))))
          have OO := Lib.hid (show Only (fun b => b = B) w W by rw [hnm]; exact ((((((((((((O6.out).late (Nat.le_refl _)).late (Nat.le_refl _)).late (Nat.le_refl _)).late (Nat.le_refl _)).late (Nat.le_refl _)).late (Nat.le_refl _)).late (Nat.le_refl _)).late (Nat.le_refl _)).late (Nat.le_refl _)).late (Nat.le_refl _)).late (Nat.le_refl _)).late (Nat.le_refl _))
          clear hnm x0 xf0 x1 xf1 x2 xf2 x3 xf3 x4 xf4 x5 xf5 x6 xf6 x7 xf7 x8 xf8 x9 xf9 x10 xf10 x11 xf11 y0 yf0 y1 yf1 y2 yf2 y3 yf3 y4 yf4 y5 yf5 y6 yf6 y7 yf7 y8 yf8 y9 yf9 y10 yf10 y11 yf11
          have RR := Lib.hid (R6.out.keep (KY.out B (by omega)) (fun b hq _ => ⟨hq, KY.out b (by have := HQ.out b hq; omega)⟩) R6.out.1)
          have AA := Lib.hid (show rAct.val (fun b => w.heap.size ≤ b) W (actAgg ({ zeroA with kind := 3 }) (.slice none 0 0) (.slice none 0 0) (.slice none 0 0)) ({ zeroA with kind := 3 }) from Rep.val_keep (fun b hb _ => ⟨by omega, KY.out b (by omega)⟩) A6.out)
          have y0 : World.cell? _ ⟨w.heap.size, 0, none⟩ = some (.int .i64 ({ zeroA with kind := 3 }).kind) := cell_row RY.out 0
          have y1 : World.cell? _ ⟨w.heap.size, 1, none⟩ = some (.int .i64 ({ zeroA with kind := 3 }).cmd.kind) := cell_row RY.out 1
          have y2 : World.cell? _ ⟨w.heap.size, 2, none⟩ = some (.bool ({ zeroA with kind := 3 }).cmd.loc) := cell_row RY.out 2
          have y3 : World.cell? _ ⟨w.heap.size, 3, none⟩ = some (.int .i64 ({ zeroA with kind := 3 }).cmd.id.index) := cell_row RY.out 3
          have y4 : World.cell? _ ⟨w.heap.size, 4, none⟩ = some (.int .i64 ({ zeroA with kind := 3 }).cmd.id.gen) := cell_row RY.out 4
          have y5 : World.cell? _ ⟨w.heap.size, 5, none⟩ = some (.int .i64 ({ zeroA with kind := 3 }).cmd.comp) := cell_row RY.out 5
          have y6 : World.cell? _ ⟨w.heap.size, 6, none⟩ = some (.slice none 0 0) := cell_row RY.out 6
          have y7 : World.cell? _ ⟨w.heap.size, 7, none⟩ = some (.int .i64 ({ zeroA with kind := 3 }).policy.room) := cell_row RY.out 7
          have y8 : World.cell? _ ⟨w.heap.size, 8, none⟩ = some (.int .i64 ({ zeroA with kind := 3 }).policy.frames) := cell_row RY.out 8
          have y9 : World.cell? _ ⟨w.heap.size, 9, none⟩ = some (.int .i64 ({ zeroA with kind := 3 }).n) := cell_row RY.out 9
          have y10 : World.cell? _ ⟨w.heap.size, 10, none⟩ = some (.slice none 0 0) := cell_row RY.out 10
          have y11 : World.cell? _ ⟨w.heap.size, 11, none⟩ = some (.slice none 0 0) := cell_row RY.out 11
          refine ⟨rfl, actAgg ({ zeroA with kind := 3 }) (.slice none 0 0) (.slice none 0 0) (.slice none 0 0), by simp only [results, hfr]; go_simp; rfl, ?_⟩
          clear y0 y1 y2 y3 y4 y5 y6 y7 y8 y9 y10 y11
          exact ⟨_, rfl, AA.out, by first | (simpa [hbad] using RR.out) | (rw [hbad]; exact RR.out), OO.out⟩
        | false =>
          rw [hbad] at q6
          cases hll : (r1).l with
          | nil =>
            rw [hll] at q5
            simp only [List.length_nil] at q5
            go_wp2_with (with_reducible refine stopLoad 35 3 rfl ?_)
            refine Lib.hid ?_
            clear q5 q6 z6
            refine nm_list (fun V6 hnm => ?_)
            have X6 := Lib.hid (show ActIs V6 (w.heap.size + 1) ({ zeroA with kind := 3 }) (.slice none 0 0) (.slice none 0 0) (.slice none 0 0) by rw [hnm]; exact row_other XZ.out (by omega))
            have Y6 := Lib.hid (show ActIs V6 w.heap.size zeroA (.slice none 0 0) (.slice none 0 0) (.slice none 0 0) by rw [hnm]; exact row_other YZ.out (by omega))
            have R6 := Lib.hid (show Rdr Q B V6 c ⟨(r1).l, false⟩ by rw [hnm]; exact RZ.out.put6 false)
            have O6 := Lib.hid (show Only (fun b => b = B) w V6 by rw [hnm]; exact OZ.out.put rfl)
            have A6 := Lib.hid (show rAct.val (fun b => w.heap.size + 2 ≤ b) V6 (actAgg ({ zeroA with kind := 3 }) (.slice none 0 0) (.slice none 0 0) (.slice none 0 0)) ({ zeroA with kind := 3 }) from Rep.val_keep (fun b hb _ => ⟨hb, by rw [hnm]; exact Below.heap_setCell _ _ _ _ (by dsimp only; omega)⟩) AZ.out)
            clear hnm
            have x0 : World.cell? _ ⟨w.heap.size + 1, 0, none⟩ = some (.int .i64 ({ zeroA with kind := 3 }).kind) := cell_row X6.out 0
            have xf0 := frozen_row X6.out 0
            have x1 : World.cell? _ ⟨w.heap.size + 1, 1, none⟩ = some (.int .i64 ({ zeroA with kind := 3 }).cmd.kind) := cell_row X6.out 1
            have xf1 := frozen_row X6.out 1
            have x2 : World.cell? _ ⟨w.heap.size + 1, 2, none⟩ = some (.bool ({ zeroA with kind := 3 }).cmd.loc) := cell_row X6.out 2
            have xf2 := frozen_row X6.out 2
            have x3 : World.cell? _ ⟨w.heap.size + 1, 3, none⟩ = some (.int .i64 ({ zeroA with kind := 3 }).cmd.id.index) := cell_row X6.out 3
            have xf3 := frozen_row X6.out 3
            have x4 : World.cell? _ ⟨w.heap.size + 1, 4, none⟩ = some (.int .i64 ({ zeroA with kind := 3 }).cmd.id.gen) := cell_row X6.out 4
            have xf4 := frozen_row X6.out 4
            have x5 : World.cell? _ ⟨w.heap.size + 1, 5, none⟩ = some (.int .i64 ({ zeroA with kind := 3 }).cmd.comp) := cell_row X6.out 5
            have xf5 := frozen_row X6.out 5
            have x6 : World.cell? _ ⟨w.heap.size + 1, 6, none⟩ = some (.slice none 0 0) := cell_row X6.out 6
            have xf6 := frozen_row X6.out 6
            have x7 : World.cell? _ ⟨w.heap.size + 1, 7, none⟩ = some (.int .i64 ({ zeroA with kind := 3 }).policy.room) := cell_row X6.out 7
            have xf7 := frozen_row X6.out 7
            have x8 : World.cell? _ ⟨w.heap.size + 1, 8, none⟩ = some (.int .i64 ({ zeroA with kind := 3 }).policy.frames) := cell_row X6.out 8
            have xf8 := frozen_row X6.out 8
            have x9 : World.cell? _ ⟨w.heap.size + 1, 9, none⟩ = some (.int .i64 ({ zeroA with kind := 3 }).n) := cell_row X6.out 9
            have xf9 := frozen_row X6.out 9
            have x10 : World.cell? _ ⟨w.heap.size + 1, 10, none⟩ = some (.slice none 0 0) := cell_row X6.out 10
            have xf10 := frozen_row X6.out 10
            have x11 : World.cell? _ ⟨w.heap.size + 1, 11, none⟩ = some (.slice none 0 0) := cell_row X6.out 11
            have xf11 := frozen_row X6.out 11
            have y0 : World.cell? _ ⟨w.heap.size, 0, none⟩ = some (.int .i64 (zeroA).kind) := cell_row Y6.out 0
            have yf0 := frozen_row Y6.out 0
            have y1 : World.cell? _ ⟨w.heap.size, 1, none⟩ = some (.int .i64 (zeroA).cmd.kind) := cell_row Y6.out 1
            have yf1 := frozen_row Y6.out 1
            have y2 : World.cell? _ ⟨w.heap.size, 2, none⟩ = some (.bool (zeroA).cmd.loc) := cell_row Y6.out 2
            have yf2 := frozen_row Y6.out 2
            have y3 : World.cell? _ ⟨w.heap.size, 3, none⟩ = some (.int .i64 (zeroA).cmd.id.index) := cell_row Y6.out 3
            have yf3 := frozen_row Y6.out 3
            have y4 : World.cell? _ ⟨w.heap.size, 4, none⟩ = some (.int .i64 (zeroA).cmd.id.gen) := cell_row Y6.out 4
            have yf4 := frozen_row Y6.out 4
            have y5 : World.cell? _ ⟨w.heap.size, 5, none⟩ = some (.int .i64 (zeroA).cmd.comp) := cell_row Y6.out 5
            have yf5 := frozen_row Y6.out 5
            have y6 : World.cell? _ ⟨w.heap.size, 6, none⟩ = some (.slice none 0 0) := cell_row Y6.out 6
            have yf6 := frozen_row Y6.out 6
            have y7 : World.cell? _ ⟨w.heap.size, 7, none⟩ = some (.int .i64 (zeroA).policy.room) := cell_row Y6.out 7
            have yf7 := frozen_row Y6.out 7
            have y8 : World.cell? _ ⟨w.heap.size, 8, none⟩ = some (.int .i64 (zeroA).policy.frames) := cell_row Y6.out 8
            have yf8 := frozen_row Y6.out 8
            have y9 : World.cell? _ ⟨w.heap.size, 9, none⟩ = some (.int .i64 (zeroA).n) := cell_row Y6.out 9
            have yf9 := frozen_row Y6.out 9
            have y10 : World.cell? _ ⟨w.heap.size, 10, none⟩ = some (.slice none 0 0) := cell_row Y6.out 10
            have yf10 := frozen_row Y6.out 10
            have y11 : World.cell? _ ⟨w.heap.size, 11, none⟩ = some (.slice none 0 0) := cell_row Y6.out 11
            have yf11 := frozen_row Y6.out 11
            go_wp2_with fail
            refine nm_post (fun W hnm => ?_)
            have RY := Lib.hid (show W.heap[w.heap.size]? = some (.cells (actRow ({ zeroA with kind := 3 }) (.slice none 0 0) (.slice none 0 0) (.slice none 0 0)) 35 (0, 0)) by rw [hnm]; exact row12 Y6.out)
            have KY := Lib.hid (show ∀ b, b ≠ w.heap.size → W.heap[b]? = V6.heap[b]? from fun b hb => by rw [hnm]; exact (Below.heap_setCell _ _ _ _ hb).trans ((Below.heap_setCell _ _ _ _ hb).trans ((Below.heap_setCell _ _ _ _ hb).trans ((Below.heap_setCell _ _ _ _ hb).trans ((Below.heap_setCell _ _ _ _ hb).trans ((Below.heap_setCell _ _ _ _ hb).trans ((Below.heap_setCell _ _ _ _ hb).trans ((Below.heap_setCell _ _ _ _ hb).trans ((Below.heap_setCell _ _ _ _ hb).trans ((Below.heap_setCell _ _ _ _ hb).trans ((Below.heap_setCell _ _ _ _ hb).trans (Below.heap_setCell _ _ _ _ hb))))))))))))
            have OO := Lib.hid (show Only (fun b => b = B) w W by rw [hnm]; exact ((((((((((((O6.out).late (Nat.le_refl _)).late (Nat.le_refl _)).late (Nat.le_refl _)).late (Nat.le_refl _)).late (Nat.le_refl _)).late (Nat.le_refl _)).late (Nat.le_refl _)).late (Nat.le_refl _)).late (Nat.le_refl _)).late (Nat.le_refl _)).late (Nat.le_refl _)).late (Nat.le_refl _))
            clear hnm x0 xf0 x1 xf1 x2 xf2 x3 xf3 x4 xf4 x5 xf5 x6 xf6 x7 xf7 x8 xf8 x9 xf9 x10 xf10 x11 xf11 y0 yf0 y1 yf1 y2 yf2 y3 yf3 y4 yf4 y5 yf5 y6 yf6 y7 yf7 y8 yf8 y9 yf9 y10 yf10 y11 yf11
            have RR := Lib.hid (R6.out.keep (KY.out B (by omega)) (fun b hq _ => ⟨hq, KY.out b (by have := HQ.out b hq; omega)⟩) R6.out.1)
            have AA := Lib.hid (show rAct.val (fun b => w.heap.size ≤ b) W (actAgg ({ zeroA with kind := 3 }) (.slice none 0 0) (.slice none 0 0) (.slice none 0 0)) ({ zeroA with kind := 3 }) from Rep.val_keep (fun b hb _ => ⟨by omega, KY.out b (by omega)⟩) A6.out)
            have y0 : World.cell? _ ⟨w.heap.size, 0, none⟩ = some (.int .i64 ({ zeroA with kind := 3 }).kind) := cell_row RY.out 0
            have y1 : World.cell? _ ⟨w.heap.size, 1, none⟩ = some (.int .i64 ({ zeroA with kind := 3 }).cmd.kind) := cell_row RY.out 1
            have y2 : World.cell? _ ⟨w.heap.size, 2, none⟩ = some (.bool ({ zeroA with kind := 3 }).cmd.loc) := cell_row RY.out 2
            have y3 : World.cell? _ ⟨w.heap.size, 3, none⟩ = some (.int .i64 ({ zeroA with kind := 3 }).cmd.id.index) := cell_row RY.out 3
            have y4 : World.cell? _ ⟨w.heap.size, 4, none⟩ = some (.int .i64 ({ zeroA with kind := 3 }).cmd.id.gen) := cell_row RY.out 4
            have y5 : World.cell? _ ⟨w.heap.size, 5, none⟩ = some (.int .i64 ({ zeroA with kind := 3 }).cmd.comp) := cell_row RY.out 5
            have y6 : World.cell? _ ⟨w.heap.size, 6, none⟩ = some (.slice none 0 0) := cell_row RY.out 6
            have y7 : World.cell? _ ⟨w.heap.size, 7, none⟩ = some (.int .i64 ({ zeroA with kind := 3 }).policy.room) := cell_row RY.out 7
            have y8 : World.cell? _ ⟨w.heap.size, 8, none⟩ = some (.int .i64 ({ zeroA with kind := 3 }).policy.frames) := cell_row RY.out 8
            have y9 : World.cell? _ ⟨w.heap.size, 9, none⟩ = some (.int .i64 ({ zeroA with kind := 3 }).n) := cell_row RY.out 9
            have y10 : World.cell? _ ⟨w.heap.size, 10, none⟩ = some (.slice none 0 0) := cell_row RY.out 10
            have y11 : World.cell? _ ⟨w.heap.size, 11, none⟩ = some (.slice none 0 0) := cell_row RY.out 11
            refine ⟨rfl, actAgg ({ zeroA with kind := 3 }) (.slice none 0 0) (.slice none 0 0) (.slice none 0 0), by simp only [results, hfr]; go_simp; rfl, ?_⟩
            clear y0 y1 y2 y3 y4 y5 y6 y7 y8 y9 y10 y11
            exact ⟨_, rfl, AA.out, by first | (simpa [hbad, hll] using RR.out) | (rw [hbad, hll]; rw [hll] at RR; exact RR.out), OO.out⟩
          | cons y m =>
            rw [hll] at q5
            simp only [List.length_cons] at q5
            have hpp : (0 : Int) < ((m.length + 1 : Nat) : Int) := by omega
            have hpq : (0 : Int) < (m.length : Int) + 1 := by omega
            generalize m.length = ml at *
            go_wp2_with (with_reducible refine stopLoad 35 3 rfl ?_)
            refine Lib.hid ?_
            clear q5 q6 z6
            refine nm_list (fun V6 hnm => ?_)
            have X6 := Lib.hid (show ActIs V6 (w.heap.size + 1) ({ zeroA with kind := 3 }) (.slice none 0 0) (.slice none 0 0) (.slice none 0 0) by rw [hnm]; exact row_other XZ.out (by omega))
            have Y6 := Lib.hid (show ActIs V6 w.heap.size zeroA (.slice none 0 0) (.slice none 0 0) (.slice none 0 0) by rw [hnm]; exact row_other YZ.out (by omega))
            have R6 := Lib.hid (show Rdr Q B V6 c ⟨(r1).l, true⟩ by rw [hnm]; exact RZ.out.put6 true)
            have O6 := Lib.hid (show Only (fun b => b = B) w V6 by rw [hnm]; exact OZ.out.put rfl)
            have A6 := Lib.hid (show rAct.val (fun b => w.heap.size + 2 ≤ b) V6 (actAgg ({ zeroA with kind := 3 }) (.slice none 0 0) (.slice none 0 0) (.slice none 0 0)) ({ zeroA with kind := 3 }) from Rep.val_keep (fun b hb _ => ⟨hb, by rw [hnm]; exact Below.heap_setCell _ _ _ _ (by dsimp only; omega)⟩) AZ.out)
            clear hnm
            have x0 : World.cell? _ ⟨w.heap.size + 1, 0, none⟩ = some (.int .i64 ({ zeroA with kind := 3 }).kind) := cell_row X6.out 0
            have xf0 := frozen_row X6.out 0
            have x1 : World.cell? _ ⟨w.heap.size + 1, 1, none⟩ = some (.int .i64 ({ zeroA with kind := 3 }).cmd.kind) := cell_row X6.out 1
            have xf1 := frozen_row X6.out 1
            have x2 : World.cell? _ ⟨w.heap.size + 1, 2, none⟩ = some (.bool ({ zeroA with kind := 3 }).cmd.loc) := cell_row X6.out 2
            have xf2 := frozen_row X6.out 2
            have x3 : World.cell? _ ⟨w.heap.size + 1, 3, none⟩ = some (.int .i64 ({ zeroA with kind := 3 }).cmd.id.index) := cell_row X6.out 3
            have xf3 := frozen_row X6.out 3
            have x4 : World.cell? _ ⟨w.heap.size + 1, 4, none⟩ = some (.int .i64 ({ zeroA with kind := 3 }).cmd.id.gen) := cell_row X6.out 4
            have xf4 := frozen_row X6.out 4
            have x5 : World.cell? _ ⟨w.heap.size + 1, 5, none⟩ = some (.int .i64 ({ zeroA with kind := 3 }).cmd.comp) := cell_row X6.out 5
            have xf5 := frozen_row X6.out 5
            have x6 : World.cell? _ ⟨w.heap.size + 1, 6, none⟩ = some (.slice none 0 0) := cell_row X6.out 6
            have xf6 := frozen_row X6.out 6
            have x7 : World.cell? _ ⟨w.heap.size + 1, 7, none⟩ = some (.int .i64 ({ zeroA with kind := 3 }).policy.room) := cell_row X6.out 7
            have xf7 := frozen_row X6.out 7
            have x8 : World.cell? _ ⟨w.heap.size + 1, 8, none⟩ = some (.int .i64 ({ zeroA with kind := 3 }).policy.frames) := cell_row X6.out 8
            have xf8 := frozen_row X6.out 8
            have x9 : World.cell? _ ⟨w.heap.size + 1, 9, none⟩ = some (.int .i64 ({ zeroA with kind := 3 }).n) := cell_row X6.out 9
            have xf9 := frozen_row X6.out 9
            have x10 : World.cell? _ ⟨w.heap.size + 1, 10, none⟩ = some (.slice none 0 0) := cell_row X6.out 10
            have xf10 := frozen_row X6.out 10
            have x11 : World.cell? _ ⟨w.heap.size + 1, 11, none⟩ = some (.slice none 0 0) := cell_row X6.out 11
            have xf11 := frozen_row X6.out 11
            have y0 : World.cell? _ ⟨w.heap.size, 0, none⟩ = some (.int .i64 (zeroA).kind) := cell_row Y6.out 0
            have yf0 := frozen_row Y6.out 0
            have y1 : World.cell? _ ⟨w.heap.size, 1, none⟩ = some (.int .i64 (zeroA).cmd.kind) := cell_row Y6.out 1
            have yf1 := frozen_row Y6.out 1
            have y2 : World.cell? _ ⟨w.heap.size, 2, none⟩ = some (.bool (zeroA).cmd.loc) := cell_row Y6.out 2
            have yf2 := frozen_row Y6.out 2
            have y3 : World.cell? _ ⟨w.heap.size, 3, none⟩ = some (.int .i64 (zeroA).cmd.id.index) := cell_row Y6.out 3
            have yf3 := frozen_row Y6.out 3
            have y4 : World.cell? _ ⟨w.heap.size, 4, none⟩ = some (.int .i64 (zeroA).cmd.id.gen) := cell_row Y6.out 4
            have yf4 := frozen_row Y6.out 4
            have y5 : World.cell? _ ⟨w.heap.size, 5, none⟩ = some (.int .i64 (zeroA).cmd.comp) := cell_row Y6.out 5
            have yf5 := frozen_row Y6.out 5
            have y6 : World.cell? _ ⟨w.heap.size, 6, none⟩ = some (.slice none 0 0) := cell_row Y6.out 6
            have yf6 := frozen_row Y6.out 6
            have y7 : World.cell? _ ⟨w.heap.size, 7, none⟩ = some (.int .i64 (zeroA).policy.room) := cell_row Y6.out 7
            have yf7 := frozen_row Y6.out 7
            have y8 : World.cell? _ ⟨w.heap.size, 8, none⟩ = some (.int .i64 (zeroA).policy.frames) := cell_row Y6.out 8
            have yf8 := frozen_row Y6.out 8
            have y9 : World.cell? _ ⟨w.heap.size, 9, none⟩ = some (.int .i64 (zeroA).n) := cell_row Y6.out 9
            have yf9 := frozen_row Y6.out 9
            have y10 : World.cell? _ ⟨w.heap.size, 10, none⟩ = some (.slice none 0 0) := cell_row Y6.out 10
            have yf10 := frozen_row Y6.out 10
            have y11 : World.cell? _ ⟨w.heap.size, 11, none⟩ = some (.slice none 0 0) := cell_row Y6.out 11
            have yf11 := frozen_row Y6.out 11
            go_wp2_with fail
            refine nm_post (fun W hnm => ?_)
            have RY := Lib.hid (show W.heap[w.heap.size]? = some (.cells (actRow ({ zeroA with kind := 3 }) (.slice none 0 0) (.slice none 0 0) (.slice none 0 0)) 35 (0, 0)) by rw [hnm]; exact row12 Y6.out)
            have KY := Lib.hid (show ∀ b, b ≠ w.heap.size → W.heap[b]? = V6.heap[b]? from fun b hb => by rw [hnm]; exact (Below.heap_setCell _ _ _ _ hb).trans ((Below.heap_setCell _ _ _ _ hb).trans ((Below.heap_setCell _ _ _ _ hb).trans ((Below.heap_setCell _ _ _ _ hb).trans ((Below.heap_setCell _ _ _ _ hb).trans ((Below.heap_setCell _ _ _ _ hb).trans ((Below.heap_setCell _ _ _ _ hb).trans ((Below.heap_setCell _ _ _ _ hb).trans ((Below.heap_setCell _ _ _ _ hb).trans ((Below.heap_setCell _ _ _ _ hb).trans ((Below.heap_setCell _ _ _ _ hb).trans (Below.heap_setCell _ _ _ _ hb))))))))))))
            have OO := Lib.hid (show Only (fun b => b = B) w W by rw [hnm]; exact ((((((((((((O6.out).late (Nat.le_refl _)).late (Nat.le_refl _)).late (Nat.le_refl _)).late (Nat.le_refl _)).late (Nat.le_refl _)).late (Nat.le_refl _)).late (Nat.le_refl _)).late (Nat.le_refl _)).late (Nat.le_refl _)).late (Nat.le_refl _)).late (Nat.le_refl _)).late (Nat.le_refl _))
            clear hnm x0 xf0 x1 xf1 x2 xf2 x3 xf3 x4 xf4 x5 xf5 x6 xf6 x7 xf7 x8 xf8 x9 xf9 x10 xf10 x11 xf11 y0 yf0 y1 yf1 y2 yf2 y3 yf3 y4 yf4 y5 yf5 y6 yf6 y7 yf7 y8 yf8 y9 yf9 y10 yf10 y11 yf11
            have RR := Lib.hid (R6.out.keep (KY.out B (by omega)) (fun b hq _ => ⟨hq, KY.out b (by have := HQ.out b hq; omega)⟩) R6.out.1)
            have AA := Lib.hid (show rAct.val (fun b => w.heap.size ≤ b) W (actAgg ({ zeroA with kind := 3 }) (.slice none 0 0) (.slice none 0 0) (.slice none 0 0)) ({ zeroA with kind := 3 }) from Rep.val_keep (fun b hb _ => ⟨by omega, KY.out b (by omega)⟩) A6.out)
            have y0 : World.cell? _ ⟨w.heap.size, 0, none⟩ = some (.int .i64 ({ zeroA with kind := 3 }).kind) := cell_row RY.out 0
            have y1 : World.cell? _ ⟨w.heap.size, 1, none⟩ = some (.int .i64 ({ zeroA with kind := 3 }).cmd.kind) := cell_row RY.out 1
            have y2 : World.cell? _ ⟨w.heap.size, 2, none⟩ = some (.bool ({ zeroA with kind := 3 }).cmd.loc) := cell_row RY.out 2
            have y3 : World.cell? _ ⟨w.heap.size, 3, none⟩ = some (.int .i64 ({ zeroA with kind := 3 }).cmd.id.index) := cell_row RY.out 3
            have y4 : World.cell? _ ⟨w.heap.size, 4, none⟩ = some (.int .i64 ({ zeroA with kind := 3 }).cmd.id.gen) := cell_row RY.out 4
            have y5 : World.cell? _ ⟨w.heap.size, 5, none⟩ = some (.int .i64 ({ zeroA with kind := 3 }).cmd.comp) := cell_row RY.out 5
            have y6 : World.cell? _ ⟨w.heap.size, 6, none⟩ = some (.slice none 0 0) := cell_row RY.out 6
            have y7 : World.cell? _ ⟨w.heap.size, 7, none⟩ = some (.int .i64 ({ zeroA with kind := 3 }).policy.room) := cell_row RY.out 7
            have y8 : World.cell? _ ⟨w.heap.size, 8, none⟩ = some (.int .i64 ({ zeroA with kind := 3 }).policy.frames) := cell_row RY.out 8
            have y9 : World.cell? _ ⟨w.heap.size, 9, none⟩ = some (.int .i64 ({ zeroA with kind := 3 }).n) := cell_row RY.out 9
            have y10 : World.cell? _ ⟨w.heap.size, 10, none⟩ = some (.slice none 0 0) := cell_row RY.out 10
            have y11 : World.cell? _ ⟨w.heap.size, 11, none⟩ = some (.slice none 0 0) := cell_row RY.out 11
            refine ⟨rfl, actAgg ({ zeroA with kind := 3 }) (.slice none 0 0) (.slice none 0 0) (.slice none 0 0), by simp only [results, hfr]; go_simp; rfl, ?_⟩
            clear y0 y1 y2 y3 y4 y5 y6 y7 y8 y9 y10 y11
            exact ⟨_, rfl, AA.out, by first | (simpa [hbad, hll] using RR.out) | (rw [hbad, hll]; rw [hll] at RR; exact RR.out), OO.out⟩
      · rw [if_neg hs2]
        have b2 : (s == [99, 104, 101, 99, 107]) = false := by simpa [wCheck] using hs2
        by_cases hs3 : s = wUpkeep
        · rw [if_pos hs3]
          subst hs3
          unfold wUpkeep at HWDC
          dsimp only
          have HW1 := Lib.hid (fun V (hv : Rdr Q B V c r1) => And.intro (word_calls hv) hv.word_le)
          obtain ⟨s1, hg1⟩ : ∃ x, r1.word.1 = x := ⟨_, rfl⟩
          obtain ⟨r2, hg2⟩ : ∃ x, r1.word.2 = x := ⟨_, rfl⟩
          simp only [hg1, hg2] at HW1 ⊢
          clear hg1 hg2
          have HN1 := Lib.hid (fun V (hv : Rdr Q B V c r2) (hs : s1.length ≤ 1000000) (ht : Tabs V) => cnumr_calls hv s1 (by omega) ht)
          have HI1 := Lib.hid (numr_in r2 s1)
          obtain ⟨n1, hg1⟩ : ∃ x, (r2.num s1).1 = x := ⟨_, rfl⟩
          obtain ⟨r3, hg2⟩ : ∃ x, (r2.num s1).2 = x := ⟨_, rfl⟩
          simp only [hg1, hg2] at HN1 ⊢
          simp only [hg1] at HI1
          clear hg1 hg2
          have HW2 := Lib.hid (fun V (hv : Rdr Q B V c r3) => And.intro (word_calls hv) hv.word_le)
          obtain ⟨s2, hg1⟩ : ∃ x, r3.word.1 = x := ⟨_, rfl⟩
          obtain ⟨r4, hg2⟩ : ∃ x, r3.word.2 = x := ⟨_, rfl⟩
          simp only [hg1, hg2] at HW2 ⊢
          clear hg1 hg2
          have HN2 := Lib.hid (fun V (hv : Rdr Q B V c r4) (hs : s2.length ≤ 1000000) (ht : Tabs V) => cnumr_calls hv s2 (by omega) ht)
          have HI2 := Lib.hid (numr_in r4 s2)
          obtain ⟨n2, hg1⟩ : ∃ x, (r4.num s2).1 = x := ⟨_, rfl⟩
          obtain ⟨r5, hg2⟩ : ∃ x, (r4.num s2).2 = x := ⟨_, rfl⟩
          simp only [hg1, hg2] at HN2 ⊢
          simp only [hg1] at HI2
          clear hg1 hg2
          have x0 : World.cell? _ ⟨w.heap.size + 1, 0, none⟩ = some (.int .i64 (zeroA).kind) := cell_row X0.out 0
          have xf0 := frozen_row X0.out 0
          have x1 : World.cell? _ ⟨w.heap.size + 1, 1, none⟩ = some (.int .i64 (zeroA).cmd.kind) := cell_row X0.out 1
          have xf1 := frozen_row X0.out 1
          have x2 : World.cell? _ ⟨w.heap.size + 1, 2, none⟩ = some (.bool (zeroA).cmd.loc) := cell_row X0.out 2
          have xf2 := frozen_row X0.out 2
          have x3 : World.cell? _ ⟨w.heap.size + 1, 3, none⟩ = some (.int .i64 (zeroA).cmd.id.index) := cell_row X0.out 3
          have xf3 := frozen_row X0.out 3
          have x4 : World.cell? _ ⟨w.heap.size + 1, 4, none⟩ = some (.int .i64 (zeroA).cmd.id.gen) := cell_row X0.out 4
          have xf4 := frozen_row X0.out 4
          have x5 : World.cell? _ ⟨w.heap.size + 1, 5, none⟩ = some (.int .i64 (zeroA).cmd.comp) := cell_row X0.out 5
          have xf5 := frozen_row X0.out 5
          have x6 : World.cell? _ ⟨w.heap.size + 1, 6, none⟩ = some (.slice none 0 0) := cell_row X0.out 6
          have xf6 := frozen_row X0.out 6
          have x7 : World.cell? _ ⟨w.heap.size + 1, 7, none⟩ = some (.int .i64 (zeroA).policy.room) := cell_row X0.out 7
          have xf7 := frozen_row X0.out 7
          have x8 : World.cell? _ ⟨w.heap.size + 1, 8, none⟩ = some (.int .i64 (zeroA).policy.frames) := cell_row X0.out 8
          have xf8 := frozen_row X0.out 8
          have x9 : World.cell? _ ⟨w.heap.size + 1, 9, none⟩ = some (.int .i64 (zeroA).n) := cell_row X0.out 9
          have xf9 := frozen_row X0.out 9
          have x10 : World.cell? _ ⟨w.heap.size + 1, 10, none⟩ = some (.slice none 0 0) := cell_row X0.out 10
          have xf10 := frozen_row X0.out 10
          have x11 : World.cell? _ ⟨w.heap.size + 1, 11, none⟩ = some (.slice none 0 0) := cell_row X0.out 11
          have xf11 := frozen_row X0.out 11
          go_enter Tryz.func30, Tryz.ntmps30
          go_wp2_with fail
          try rw [hW0]
          clear hW0
          clear x0 xf0 x1 xf1 x2 xf2 x3 xf3 x4 xf4 x5 xf5 x6 xf6 x7 xf7 x8 xf8 x9 xf9 x10 xf10 x11 xf11
          refine (HWDC.out).mono ?_
          rintro e w1 ⟨rfl, h1, o1⟩
          have R1 := Lib.hid h1
          have O1 := Lib.hid (O0.out.trans o1)
          have T1 := Lib.hid (T0.out.only o1 (by rintro b rfl; omega))
          have X1 := Lib.hid (show ActIs w1 (w.heap.size + 1) zeroA (.slice none 0 0) (.slice none 0 0) (.slice none 0 0) from row_only o1 X0.out (by omega))
          have Y1 := Lib.hid (show ActIs w1 w.heap.size zeroA (.slice none 0 0) (.slice none 0 0) (.slice none 0 0) from row_only o1 Y0.out (by omega))
          have hz1 := O1.out.size
          have hz1x : w.heap.size + 2 ≤ w1.heap.size := by have := o1.size; omega
          clear h1 o1
          have x0 : World.cell? _ ⟨w.heap.size + 1, 0, none⟩ = some (.int .i64 (zeroA).kind) := cell_row X1.out 0
          have xf0 := frozen_row X1.out 0
          have x1 : World.cell? _ ⟨w.heap.size + 1, 1, none⟩ = some (.int .i64 (zeroA).cmd.kind) := cell_row X1.out 1
          have xf1 := frozen_row X1.out 1
          have x2 : World.cell? _ ⟨w.heap.size + 1, 2, none⟩ = some (.bool (zeroA).cmd.loc) := cell_row X1.out 2
          have xf2 := frozen_row X1.out 2
          have x3 : World.cell? _ ⟨w.heap.size + 1, 3, none⟩ = some (.int .i64 (zeroA).cmd.id.index) := cell_row X1.out 3
          have xf3 := frozen_row X1.out 3
          have x4 : World.cell? _ ⟨w.heap.size + 1, 4, none⟩ = some (.int .i64 (zeroA).cmd.id.gen) := cell_row X1.out 4
          have xf4 := frozen_row X1.out 4
          have x5 : World.cell? _ ⟨w.heap.size + 1, 5, none⟩ = some (.int .i64 (zeroA).cmd.comp) := cell_row X1.out 5
          have xf5 := frozen_row X1.out 5
          have x6 : World.cell? _ ⟨w.heap.size + 1, 6, none⟩ = some (.slice none 0 0) := cell_row X1.out 6
          have xf6 := frozen_row X1.out 6
          have x7 : World.cell? _ ⟨w.heap.size + 1, 7, none⟩ = some (.int .i64 (zeroA).policy.room) := cell_row X1.out 7
          have xf7 := frozen_row X1.out 7
          have x8 : World.cell? _ ⟨w.heap.size + 1, 8, none⟩ = some (.int .i64 (zeroA).policy.frames) := cell_row X1.out 8
          have xf8 := frozen_row X1.out 8
          have x9 : World.cell? _ ⟨w.heap.size + 1, 9, none⟩ = some (.int .i64 (zeroA).n) := cell_row X1.out 9
          have xf9 := frozen_row X1.out 9
          have x10 : World.cell? _ ⟨w.heap.size + 1, 10, none⟩ = some (.slice none 0 0) := cell_row X1.out 10
          have xf10 := frozen_row X1.out 10
          have x11 : World.cell? _ ⟨w.heap.size + 1, 11, none⟩ = some (.slice none 0 0) := cell_row X1.out 11
          have xf11 := frozen_row X1.out 11
          go_wp2_with fail
          clear x0 xf0 x1 xf1 x2 xf2 x3 xf3 x4 xf4 x5 xf5 x6 xf6 x7 xf7 x8 xf8 x9 xf9 x10 xf10 x11 xf11
          refine nm_calls (fun V2 hnm => ?_)
          have XV2 := Lib.hid (show ActIs V2 (w.heap.size + 1) ({ zeroA with kind := 4 }) (.slice none 0 0) (.slice none 0 0) (.slice none 0 0) by rw [hnm]; exact heap_setRow X1.out)
          have YV2 := Lib.hid (show ActIs V2 w.heap.size zeroA (.slice none 0 0) (.slice none 0 0) (.slice none 0 0) by rw [hnm]; exact row_other Y1.out (by omega))
          have OV2 := Lib.hid (show Only (fun b => b = B) w V2 by rw [hnm]; exact O1.out.late (by omega))
          have RV2 := Lib.hid (show Rdr Q B V2 c r1 from R1.out.keep (by rw [hnm]; exact Below.heap_setCell _ _ _ _ (by dsimp only; omega)) (fun b hq _ => ⟨hq, by rw [hnm]; exact Below.heap_setCell _ _ _ _ (by have := HQ.out b hq; dsimp only; omega)⟩) R1.out.1)
          have TV2 := Lib.hid (show Tabs V2 from T1.out.only (show Only (fun b => b = w.heap.size + 1) _ V2 by rw [hnm]; exact (Only.refl _ _).put rfl) (by rintro b rfl; omega))
          clear hnm
          have HLV3 := Lib.hid (HW1.out _ RV2.out).2
          refine ((HW1.out _ RV2.out).1).mono ?_
          rintro e V3 ⟨rfl, h2, o2⟩
          have RV3 := Lib.hid h2
          have XV3 := Lib.hid (show ActIs V3 (w.heap.size + 1) ({ zeroA with kind := 4 }) (.slice none 0 0) (.slice none 0 0) (.slice none 0 0) from row_only o2 XV2.out (by omega))
          have YV3 := Lib.hid (show ActIs V3 w.heap.size zeroA (.slice none 0 0) (.slice none 0 0) (.slice none 0 0) from row_only o2 YV2.out (by omega))
          have OV3 := Lib.hid (OV2.out.trans o2)
          have TV3 := Lib.hid (TV2.out.only o2 (by rintro b rfl; omega))
          clear h2 o2
          go_wp2_with fail
          refine (HN1.out _ RV3.out HLV3.out TV3.out).mono ?_
          rintro e V4 ⟨rfl, h2, o2⟩
          have RV4 := Lib.hid h2
          have XV4 := Lib.hid (show ActIs V4 (w.heap.size + 1) ({ zeroA with kind := 4 }) (.slice none 0 0) (.slice none 0 0) (.slice none 0 0) from row_only o2 XV3.out (by omega))
          have YV4 := Lib.hid (show ActIs V4 w.heap.size zeroA (.slice none 0 0) (.slice none 0 0) (.slice none 0 0) from row_only o2 YV3.out (by omega))
          have OV4 := Lib.hid (OV3.out.trans o2)
          have TV4 := Lib.hid (TV3.out.only o2 (by rintro b rfl; omega))
          clear h2 o2
          have x0 : World.cell? _ ⟨w.heap.size + 1, 0, none⟩ = some (.int .i64 ({ zeroA with kind := 4 }).kind) := cell_row XV4.out 0
          have xf0 := frozen_row XV4.out 0
          have x1 : World.cell? _ ⟨w.heap.size + 1, 1, none⟩ = some (.int .i64 ({ zeroA with kind := 4 }).cmd.kind) := cell_row XV4.out 1
          have xf1 := frozen_row XV4.out 1
          have x2 : World.cell? _ ⟨w.heap.size + 1, 2, none⟩ = some (.bool ({ zeroA with kind := 4 }).cmd.loc) := cell_row XV4.out 2
          have xf2 := frozen_row XV4.out 2
          have x3 : World.cell? _ ⟨w.heap.size + 1, 3, none⟩ = some (.int .i64 ({ zeroA with kind := 4 }).cmd.id.index) := cell_row XV4.out 3
          have xf3 := frozen_row XV4.out 3
          have x4 : World.cell? _ ⟨w.heap.size + 1, 4, none⟩ = some (.int .i64 ({ zeroA with kind := 4 }).cmd.id.gen) := cell_row XV4.out 4
          have xf4 := frozen_row XV4.out 4
          have x5 : World.cell? _ ⟨w.heap.size + 1, 5, none⟩ = some (.int .i64 ({ zeroA with kind := 4 }).cmd.comp) := cell_row XV4.out 5
          have xf5 := frozen_row XV4.out 5
          have x6 : World.cell? _ ⟨w.heap.size + 1, 6, none⟩ = some (.slice none 0 0) := cell_row XV4.out 6
          have xf6 := frozen_row XV4.out 6
          have x7 : World.cell? _ ⟨w.heap.size + 1, 7, none⟩ = some (.int .i64 ({ zeroA with kind := 4 }).policy.room) := cell_row XV4.out 7
          have xf7 := frozen_row XV4.out 7
          have x8 : World.cell? _ ⟨w.heap.size + 1, 8, none⟩ = some (.int .i64 ({ zeroA with kind := 4 }).policy.frames) := cell_row XV4.out 8
          have xf8 := frozen_row XV4.out 8
          have x9 : World.cell? _ ⟨w.heap.size + 1, 9, none⟩ = some (.int .i64 ({ zeroA with kind := 4 }).n) := cell_row XV4.out 9
          have xf9 := frozen_row XV4.out 9
          have x10 : World.cell? _ ⟨w.heap.size + 1, 10, none⟩ = some (.slice none 0 0) := cell_row XV4.out 10
          have xf10 := frozen_row XV4.out 10
          have x11 : World.cell? _ ⟨w.heap.size + 1, 11, none⟩ = some (.slice none 0 0) := cell_row XV4.out 11
          have xf11 := frozen_row XV4.out 11
          go_wp2_with fail
          clear x0 xf0 x1 xf1 x2 xf2 x3 xf3 x4 xf4 x5 xf5 x6 xf6 x7 xf7 x8 xf8 x9 xf9 x10 xf10 x11 xf11
          refine nm_calls (fun V5 hnm => ?_)
          have XV5 := Lib.hid (show ActIs V5 (w.heap.size + 1) ({ zeroA with kind := 4, policy := ⟨n1, 0⟩ }) (.slice none 0 0) (.slice none 0 0) (.slice none 0 0) by rw [hnm]; exact heap_setRow XV4.out)
          have YV5 := Lib.hid (show ActIs V5 w.heap.size zeroA (.slice none 0 0) (.slice none 0 0) (.slice none 0 0) by rw [hnm]; exact row_other YV4.out (by omega))
          have OV5 := Lib.hid (show Only (fun b => b = B) w V5 by rw [hnm]; exact OV4.out.late (by omega))
          have RV5 := Lib.hid (show Rdr Q B V5 c r3 from RV4.out.keep (by rw [hnm]; exact Below.heap_setCell _ _ _ _ (by dsimp only; omega)) (fun b hq _ => ⟨hq, by rw [hnm]; exact Below.heap_setCell _ _ _ _ (by have := HQ.out b hq; dsimp only; omega)⟩) RV4.out.1)
          have TV5 := Lib.hid (show Tabs V5 from TV4.out.only (show Only (fun b => b = w.heap.size + 1) _ V5 by rw [hnm]; exact (Only.refl _ _).put rfl) (by rintro b rfl; omega))
          clear hnm
          have HLV6w := Lib.hid (HW2.out _ RV5.out).2
          refine ((HW2.out _ RV5.out).1).mono ?_
          rintro e V6w ⟨rfl, h2, o2⟩
          have RV6w := Lib.hid h2
          have XV6w := Lib.hid (show ActIs V6w (w.heap.size + 1) ({ zeroA with kind := 4, policy := ⟨n1, 0⟩ }) (.slice none 0 0) (.slice none 0 0) (.slice none 0 0) from row_only o2 XV5.out (by omega))
          have YV6w := Lib.hid (show ActIs V6w w.heap.size zeroA (.slice none 0 0) (.slice none 0 0) (.slice none 0 0) from row_only o2 YV5.out (by omega))
          have OV6w := Lib.hid (OV5.out.trans o2)
          have TV6w := Lib.hid (TV5.out.only o2 (by rintro b rfl; omega))
          clear h2 o2
          go_wp2_with fail
          refine (HN2.out _ RV6w.out HLV6w.out TV6w.out).mono ?_
          rintro e V7 ⟨rfl, h2, o2⟩
          have RV7 := Lib.hid h2
          have XV7 := Lib.hid (show ActIs V7 (w.heap.size + 1) ({ zeroA with kind := 4, policy := ⟨n1, 0⟩ }) (.slice none 0 0) (.slice none 0 0) (.slice none 0 0) from row_only o2 XV6w.out (by omega))
          have YV7 := Lib.hid (show ActIs V7 w.heap.size zeroA (.slice none 0 0) (.slice none 0 0) (.slice none 0 0) from row_only o2 YV6w.out (by omega))
          have OV7 := Lib.hid (OV6w.out.trans o2)
          have TV7 := Lib.hid (TV6w.out.only o2 (by rintro b rfl; omega))
          clear h2 o2
          have x0 : World.cell? _ ⟨w.heap.size + 1, 0, none⟩ = some (.int .i64 ({ zeroA with kind := 4, policy := ⟨n1, 0⟩ }).kind) := cell_row XV7.out 0
          have xf0 := frozen_row XV7.out 0
          have x1 : World.cell? _ ⟨w.heap.size + 1, 1, none⟩ = some (.int .i64 ({ zeroA with kind := 4, policy := ⟨n1, 0⟩ }).cmd.kind) := cell_row XV7.out 1
          have xf1 := frozen_row XV7.out 1
          have x2 : World.cell? _ ⟨w.heap.size + 1, 2, none⟩ = some (.bool ({ zeroA with kind := 4, policy := ⟨n1, 0⟩ }).cmd.loc) := cell_row XV7.out 2
          have xf2 := frozen_row XV7.out 2
          have x3 : World.cell? _ ⟨w.heap.size + 1, 3, none⟩ = some (.int .i64 ({ zeroA with kind := 4, policy := ⟨n1, 0⟩ }).cmd.id.index) := cell_row XV7.out 3
          have xf3 := frozen_row XV7.out 3
          have x4 : World.cell? _ ⟨w.heap.size + 1, 4, none⟩ = some (.int .i64 ({ zeroA with kind := 4, policy := ⟨n1, 0⟩ }).cmd.id.gen) := cell_row XV7.out 4
          have xf4 := frozen_row XV7.out 4
          have x5 : World.cell? _ ⟨w.heap.size + 1, 5, none⟩ = some (.int .i64 ({ zeroA with kind := 4, policy := ⟨n1, 0⟩ }).cmd.comp) := cell_row XV7.out 5
          have xf5 := frozen_row XV7.out 5
          have x6 : World.cell? _ ⟨w.heap.size + 1, 6, none⟩ = some (.slice none 0 0) := cell_row XV7.out 6
          have xf6 := frozen_row XV7.out 6
          have x7 : World.cell? _ ⟨w.heap.size + 1, 7, none⟩ = some (.int .i64 ({ zeroA with kind := 4, policy := ⟨n1, 0⟩ }).policy.room) := cell_row XV7.out 7
          have xf7 := frozen_row XV7.out 7
          have x8 : World.cell? _ ⟨w.heap.size + 1, 8, none⟩ = some (.int .i64 ({ zeroA with kind := 4, policy := ⟨n1, 0⟩ }).policy.frames) := cell_row XV7.out 8
          have xf8 := frozen_row XV7.out 8
          have x9 : World.cell? _ ⟨w.heap.size + 1, 9, none⟩ = some (.int .i64 ({ zeroA with kind := 4, policy := ⟨n1, 0⟩ }).n) := cell_row XV7.out 9
          have xf9 := frozen_row XV7.out 9
          have x10 : World.cell? _ ⟨w.heap.size + 1, 10, none⟩ = some (.slice none 0 0) := cell_row XV7.out 10
          have xf10 := frozen_row XV7.out 10
          have x11 : World.cell? _ ⟨w.heap.size + 1, 11, none⟩ = some (.slice none 0 0) := cell_row XV7.out 11
          have xf11 := frozen_row XV7.out 11
          go_wp2_with (with_reducible refine stopNil 50 rfl ?_)
          refine Lib.hid ?_
          clear x0 xf0 x1 xf1 x2 xf2 x3 xf3 x4 xf4 x5 xf5 x6 xf6 x7 xf7 x8 xf8 x9 xf9 x10 xf10 x11 xf11
          refine nm_list (fun V8 hnm => ?_)
          have XV8 := Lib.hid (show ActIs V8 (w.heap.size + 1) ({ zeroA with kind := 4, policy := ⟨n1, n2⟩ }) (.slice none 0 0) (.slice none 0 0) (.slice none 0 0) by rw [hnm]; exact heap_setRow XV7.out)
          have YV8 := Lib.hid (show ActIs V8 w.heap.size zeroA (.slice none 0 0) (.slice none 0 0) (.slice none 0 0) by rw [hnm]; exact row_other YV7.out (by omega))
          have OV8 := Lib.hid (show Only (fun b => b = B) w V8 by rw [hnm]; exact OV7.out.late (by omega))
          have RV8 := Lib.hid (show Rdr Q B V8 c r5 from RV7.out.keep (by rw [hnm]; exact Below.heap_setCell _ _ _ _ (by dsimp only; omega)) (fun b hq _ => ⟨hq, by rw [hnm]; exact Below.heap_setCell _ _ _ _ (by have := HQ.out b hq; dsimp only; omega)⟩) RV7.out.1)
          have TV8 := Lib.hid (show Tabs V8 from TV7.out.only (show Only (fun b => b = w.heap.size + 1) _ V8 by rw [hnm]; exact (Only.refl _ _).put rfl) (by rintro b rfl; omega))
          clear hnm
          have RZ := RV8
          have XZ := XV8
          have YZ := YV8
          have OZ := OV8
          have AZ := Lib.hid (show rAct.val (fun b => w.heap.size + 2 ≤ b) V8 (actAgg ({ zeroA with kind := 4, policy := ⟨n1, n2⟩ }) (.slice none 0 0) (.slice none 0 0) (.slice none 0 0)) ({ zeroA with kind := 4, policy := ⟨n1, n2⟩ }) from act_bare (x := { zeroA with kind := 4, policy := ⟨n1, n2⟩ }) (by show (Lit.int .i64 4).wf = true; decide) rfl HI1.out HI2.out in0 rfl rfl)
          obtain ⟨A5, c5, q5, hq5, hq5m, hq5w⟩ := RZ.out.c5
          clear hq5 hq5m hq5w
          have q6 := RZ.out.c6
          have z6 := RZ.out.f6
          have HLZ := Lib.hid RZ.out
          cases hbad : (r5).bad with
          | true =>
            rw [hbad] at q6
            go_wp2_with (with_reducible refine stopLoad 35 3 rfl ?_)
            refine Lib.hid ?_
            clear q5 q6 z6
            refine nm_list (fun V6 hnm => ?_)
            have X6 := Lib.hid (show ActIs V6 (w.heap.size + 1) ({ zeroA with kind := 4, policy := ⟨n1, n2⟩ }) (.slice none 0 0) (.slice none 0 0) (.slice none 0 0) by rw [hnm]; exact row_other XZ.out (by omega))
            have Y6 := Lib.hid (show ActIs V6 w.heap.size zeroA (.slice none 0 0) (.slice none 0 0) (.slice none 0 0) by rw [hnm]; exact row_other YZ.out (by omega))
            have R6 := Lib.hid (show Rdr Q B V6 c ⟨(r5).l, true⟩ by rw [hnm]; exact RZ.out.put6 true)
            have O6 := Lib.hid (show Only (fun b => b = B) w V6 by rw [hnm]; exact OZ.out.put rfl)
            have A6 := Lib.hid (show rAct.val (fun b => w.heap.size + 2 ≤ b) V6 (actAgg ({ zeroA with kind := 4, policy := ⟨n1, n2⟩ }) (.slice none 0 0) (.slice none 0 0) (.slice none 0 0)) ({ zeroA with kind := 4, policy := ⟨n1, n2⟩ }) from Rep.val_keep (fun b hb _ => ⟨hb, by rw [hnm]; exact Below.heap_setCell _ _ _ _ (by dsimp only; omega)⟩) AZ.out)
            clear hnm
            have x0 : World.cell? _ ⟨w.heap.size + 1, 0, none⟩ = some (.int .i64 ({ zeroA with kind := 4, policy := ⟨n1, n2⟩ }).kind) := cell_row X6.out 0
            have xf0 := frozen_row X6.out 0
            have x1 : World.cell? _ ⟨w.heap.size + 1, 1, none⟩ = some (.int .i64 ({ zeroA with kind := 4, policy := ⟨n1, n2⟩ }).cmd.kind) := cell_row X6.out 1
            have xf1 := frozen_row X6.out 1
            have x2 : World.cell? _ ⟨w.heap.size + 1, 2, none⟩ = some (.bool ({ zeroA with kind := 4, policy := ⟨n1, n2⟩ }).cmd.loc) := cell_row X6.out 2
            have xf2 := frozen_row X6.out 2
            have x3 : World.cell? _ ⟨w.heap.size + 1, 3, none⟩ = some (.int .i64 ({ zeroA with kind := 4, policy := ⟨n1, n2⟩ }).cmd.id.index) := cell_row X6.out 3
            have xf3 := frozen_row X6.out 3
            have x4 : World.cell? _ ⟨w.heap.size + 1, 4, none⟩ = some (.int .i64 ({ zeroA with kind := 4, policy := ⟨n1, n2⟩ }).cmd.id.gen) := cell_row X6.out 4
            have xf4 := frozen_row X6.out 4
            have x5 : World.cell? _ ⟨w.heap.size + 1, 5, none⟩ = some (.int .i64 ({ zeroA with kind := 4, policy := ⟨n1, n2⟩ }).cmd.comp) := cell_row X6.out 5
            have xf5 := frozen_row X6.out 5
            have x6 : World.cell? _ ⟨w.heap.size + 1, 6, none⟩ = some (.slice none 0 0) := cell_row X6.out 6
            have xf6 := frozen_row X6.out 6
            have x7 : World.cell? _ ⟨w.heap.size + 1, 7, none⟩ = some (.int .i64 ({ zeroA with kind := 4, policy := ⟨n1, n2⟩ }).policy.room) := cell_row X6.out 7
            have xf7 := frozen_row X6.out 7
            have x8 : World.cell? _ ⟨w.heap.size + 1, 8, none⟩ = some (.int .i64 ({ zeroA with kind := 4, policy := ⟨n1, n2⟩ }).policy.frames) := cell_row X6.out 8
            have xf8 := frozen_row X6.out 8
            have x9 : World.cell? _ ⟨w.heap.size + 1, 9, none⟩ = some (.int .i64 ({ zeroA with kind := 4, policy := ⟨n1, n2⟩ }).n) := cell_row X6.out 9
            have xf9 := frozen_row X6.out 9
            have x10 : World.cell? _ ⟨w.heap.size + 1, 10, none⟩ = some (.slice none 0 0) := cell_row X6.out 10
            have xf10 := frozen_row X6.out 10
            have x11 : World.cell? _ ⟨w.heap.size + 1, 11, none⟩ = some (.slice none 0 0) := cell_row X6.out 11
            have xf11 := frozen_row X6.out 11
            have y0 : World.cell? _ ⟨w.heap.size, 0, none⟩ = some (.int .i64 (zeroA).kind) := cell_row Y6.out 0
            have yf0 := frozen_row Y6.out 0
            have y1 : World.cell? _ ⟨w.heap.size, 1, none⟩ = some (.int .i64 (zeroA).cmd.kind) := cell_row Y6.out 1
            have yf1 := frozen_row Y6.out 1
            have y2 : World.cell? _ ⟨w.heap.size, 2, none⟩ = some (.bool (zeroA).cmd.loc) := cell_row Y6.out 2
            have yf2 := frozen_row Y6.out 2
            have y3 : World.cell? _ ⟨w.heap.size, 3, none⟩ = some (.int .i64 (zeroA).cmd.id.index) := cell_row Y6.out 3
            have yf3 := frozen_row Y6.out 3
            have y4 : World.cell? _ ⟨w.heap.size, 4, none⟩ = some (.int .i64 (zeroA).cmd.id.gen) := cell_row Y6.out 4
            have yf4 := frozen_row Y6.out 4
            have y5 : World.cell? _ ⟨w.heap.size, 5, none⟩ = some (.int .i64 (zeroA).cmd.comp) := cell_row Y6.out 5
            have yf5 := frozen_row Y6.out 5
            have y6 : World.cell? _ ⟨w.heap.size, 6, none⟩ = some (.slice none 0 0) := cell_row Y6.out 6
            have yf6 := frozen_row Y6.out 6
            have y7 : World.cell? _ ⟨w.heap.size, 7, none⟩ = some (.int .i64 (zeroA).policy.room) := cell_row Y6.out 7
            have yf7 := frozen_row Y6.out 7
            have y8 : World.cell? _ ⟨w.heap.size, 8, none⟩ = some (.int .i64 (zeroA).policy.frames) := cell_row Y6.out 8
            have yf8 := frozen_row Y6.out 8
            have y9 : World.cell? _ ⟨w.heap.size, 9, none⟩ = some (.int .i64 (zeroA).n) := cell_row Y6.out 9
            have yf9 := frozen_row Y6.out 9
            have y10 : World.cell? _ ⟨w.heap.size, 10, none⟩ = some (.slice none 0 0) := cell_row Y6.out 10
            have yf10 := frozen_row Y6.out 10
            have y11 : World.cell? _ ⟨w.heap.size, 11, none⟩ = some (.slice none 0 0) := cell_row Y6.out 11
            have yf11 := frozen_row Y6.out 11
            go_wp2_with fail
            refine nm_post (fun W hnm => ?_)
            have RY := Lib.hid (show W.heap[w.heap.size]? = some (.cells (actRow ({ zeroA with kind := 4, policy := ⟨n1, n2⟩ }) (.slice none 0 0) (.slice none 0 0) (.slice none 0 0)) 35 (0, 0)) by rw [hnm]; exact row12 Y6.out)
            have KY := Lib.hid (show ∀ b, b ≠ w.heap.size → W.heap[b]? = V6.heap[b]? from fun b hb => by rw [hnm]; exact (Below.heap_setCell _ _ _ _ hb).trans ((Below.heap_setCell _ _ _ _ hb).trans ((Below.heap_setCell _ _ _ _ hb).trans ((Below.heap_setCell _ _ _ _ hb).trans ((Below.heap_setCell _ _ _ _ hb).trans ((Below.heap_setCell _ _ _ _ hb).trans ((Below.heap_setCell _ _ _ _ hb).trans ((Below.heap_setCell _ _ _ _ hb).trans ((Below.heap_setCell _ _ _ _ hb).trans ((Below.heap_setCell _ _ _ _ hb).trans ((Below.heap_setCell _ _ _ _ hb).trans (Below.heap_setCell _ _ _ _ hb))))))))))))
            have OO := Lib.hid (show Only (fun b => b = B) w W by rw [hnm]; exact ((((((((((((O6.out).late (Nat.le_refl _)).late (Nat.le_refl _)).late (Nat.le_refl _)).late (Nat.le_refl _)).late (Nat.le_refl _)).late (Nat.le_refl _)).late (Nat.le_refl _)).late (Nat.le_refl _)).late (Nat.le_refl _)).late (Nat.le_refl _)).late (Nat.le_refl _)).late (Nat.le_refl _))
            clear hnm x0 xf0 x1 xf1 x2 xf2 x3 xf3 x4 xf4 x5 xf5 x6 xf6 x7 xf7 x8 xf8 x9 xf9 x10 xf10 x11 xf11 y0 yf0 y1 yf1 y2 yf2 y3 yf3 y4 yf4 y5 yf5 y6 yf6 y7 yf7 y8 yf8 y9 yf9 y10 yf10 y11 yf11
            have RR := Lib.hid (R6.out.keep (KY.out B (by omega)) (fun b hq _ => ⟨hq, KY.out b (by have := HQ.out b hq; omega)⟩) R6.out.1)
            have AA := Lib.hid (show rAct.val (fun b => w.heap.size ≤ b) W (actAgg ({ zeroA with kind := 4, policy := ⟨n1, n2⟩ }) (.slice none 0 0) (.slice none 0 0) (.slice none 0 0)) ({ zeroA with kind := 4, policy := ⟨n1, n2⟩ }) from Rep.val_keep (fun b hb _ => ⟨by omega, KY.out b (by omega)⟩) A6.out)
            have y0 : World.cell? _ ⟨w.heap.size, 0, none⟩ = some (.int .i64 ({ zeroA with kind := 4, policy := ⟨n1, n2⟩ }).kind) := cell_row RY.out 0
            have y1 : World.cell? _ ⟨w.heap.size, 1, none⟩ = some (.int .i64 ({ zeroA with kind := 4, policy := ⟨n1, n2⟩ }).cmd.kind) := cell_row RY.out 1
            have y2 : World.cell? _ ⟨w.heap.size, 2, none⟩ = some (.bool ({ zeroA with kind := 4, policy := ⟨n1, n2⟩ }).cmd.loc) := cell_row RY.out 2
            have y3 : World.cell? _ ⟨w.heap.size, 3, none⟩ = some (.int .i64 ({ zeroA with kind := 4, policy := ⟨n1, n2⟩ }).cmd.id.index) := cell_row RY.out 3
            have y4 : World.cell? _ ⟨w.heap.size, 4, none⟩ = some (.int .i64 ({ zeroA with kind := 4, policy := ⟨n1, n2⟩ }).cmd.id.gen) := cell_row RY.out 4
            have y5 : World.cell? _ ⟨w.heap.size, 5, none⟩ = some (.int .i64 ({ zeroA with kind := 4, policy := ⟨n1, n2⟩ }).cmd.comp) := cell_row RY.out 5
            have y6 : World.cell? _ ⟨w.heap.size, 6, none⟩ = some (.slice none 0 0) := cell_row RY.out 6
            have y7 : World.cell? _ ⟨w.heap.size, 7, none⟩ = some (.int .i64 ({ zeroA with kind := 4, policy := ⟨n1, n2⟩ }).policy.room) := cell_row RY.out 7
            have y8 : World.cell? _ ⟨w.heap.size, 8, none⟩ = some (.int .i64 ({ zeroA with kind := 4, policy := ⟨n1, n2⟩ }).policy.frames) := cell_row RY.out 8
            have y9 : World.cell? _ ⟨w.heap.size, 9, none⟩ = some (.int .i64 ({ zeroA with kind := 4, policy := ⟨n1, n2⟩ }).n) := cell_row RY.out 9
            have y10 : World.cell? _ ⟨w.heap.size, 10, none⟩ = some (.slice none 0 0) := cell_row RY.out 10
            have y11 : World.cell? _ ⟨w.heap.size, 11, none⟩ = some (.slice none 0 0) := cell_row RY.out 11
            refine ⟨rfl, actAgg ({ zeroA with kind := 4, policy := ⟨n1, n2⟩ }) (.slice none 0 0) (.slice none 0 0) (.slice none 0 0), by simp only [results, hfr]; go_simp; rfl, ?_⟩
            clear y0 y1 y2 y3 y4 y5 y6 y7 y8 y9 y10 y11
            exact ⟨_, rfl, AA.out, by first | (simpa [hbad] using RR.out) | (rw [hbad]; exact RR.out), OO.out⟩
          | false =>
            rw [hbad] at q6
            cases hll : (r5).l with
            | nil =>
              rw [hll] at q5
              simp only [List.length_nil] at q5
              go_wp2_with (with_reducible refine stopLoad 35 3 rfl ?_)
              refine Lib.hid ?_
              clear q5 q6 z6
              refine nm_list (fun V6 hnm => ?_)
              have X6 := Lib.hid (show ActIs V6 (w.heap.size + 1) ({ zeroA with kind := 4, policy := ⟨n1, n2⟩ }) (.slice none 0 0) (.slice none 0 0) (.slice none 0 0) by rw [hnm]; exact row_other XZ.out (by omega))
              have Y6 := Lib.hid (show ActIs V6 w.heap.size zeroA (.slice none 0 0) (.slice none 0 0) (.slice none 0 0) by rw [hnm]; exact row_other YZ.out (by omega))
              have R6 := Lib.hid (show Rdr Q B V6 c ⟨(r5).l, false⟩ by rw [hnm]; exact RZ.out.put6 false)
              have O6 := Lib.hid (show Only (fun b => b = B) w V6 by rw [hnm]; exact OZ.out.put rfl)
              have A6 := Lib.hid (show rAct.val (fun b => w.heap.size + 2 ≤ b) V6 (actAgg ({ zeroA with kind := 4, policy := ⟨n1, n2⟩ }) (.slice none 0 0) (.slice none 0 0) (.slice none 0 0)) ({ zeroA with kind := 4, policy := ⟨n1, n2⟩ }) from Rep.val_keep (fun b hb _ => ⟨hb, by rw [hnm]; exact Below.heap_setCell _ _ _ _ (by dsimp only; omega)⟩) AZ.out)
              clear hnm
              have x0 : World.cell? _ ⟨w.heap.size + 1, 0, none⟩ = some (.int .i64 ({ zeroA with kind := 4, policy := ⟨n1, n2⟩ }).kind) := cell_row X6.out 0
              have xf0 := frozen_row X6.out 0
              have x1 : World.cell? _ ⟨w.heap.size + 1, 1, none⟩ = some (.int .i64 ({ zeroA with kind := 4, policy := ⟨n1, n2⟩ }).cmd.kind) := cell_row X6.out 1
              have xf1 := frozen_row X6.out 1
              have x2 : World.cell? _ ⟨w.heap.size + 1, 2, none⟩ = some (.bool ({ zeroA with kind := 4, policy := ⟨n1, n2⟩ }).cmd.loc) := cell_row X6.out 2
              have xf2 := frozen_row X6.out 2
              have x3 : World.cell? _ ⟨w.heap.size + 1, 3, none⟩ = some (.int .i64 ({ zeroA with kind := 4, policy := ⟨n1, n2⟩ }).cmd.id.index) := cell_row X6.out 3
              have xf3 := frozen_row X6.out 3
              have x4 : World.cell? _ ⟨w.heap.size + 1, 4, none⟩ = some (.int .i64 ({ zeroA with kind := 4, policy := ⟨n1, n2⟩ }).cmd.id.gen) := cell_row X6.out 4
              have xf4 := frozen_row X6.out 4
              have x5 : World.cell? _ ⟨w.heap.size + 1, 5, none⟩ = some (.int .i64 ({ zeroA with kind := 4, policy := ⟨n1, n2⟩ }).cmd.comp) := cell_row X6.out 5
              have xf5 := frozen_row X6.out 5
              have x6 : World.cell? _ ⟨w.heap.size + 1, 6, none⟩ = some (.slice none 0 0) := cell_row X6.out 6
              have xf6 := frozen_row X6.out 6
              have x7 : World.cell? _ ⟨w.heap.size + 1, 7, none⟩ = some (.int .i64 ({ zeroA with kind := 4, policy := ⟨n1, n2⟩ }).policy.room) := cell_row X6.out 7
              have xf7 := frozen_row X6.out 7
              have x8 : World.cell? _ ⟨w.heap.size + 1, 8, none⟩ = some (.int .i64 ({ zeroA with kind := 4, policy := ⟨n1, n2⟩ }).policy.frames) := cell_row X6.out 8
              have xf8 := frozen_row X6.out 8
              have x9 : World.cell? _ ⟨w.heap.size + 1, 9, none⟩ = some (.int .i64 ({ zeroA with kind := 4, policy := ⟨n1, n2⟩ }).n) := cell_row X6.out 9
              have xf9 := frozen_row X6.out 9
              have x10 : World.cell? _ ⟨w.heap.size + 1, 10, none⟩ = some (.slice none 0 0) := cell_row X6.out 10
              have xf10 := frozen_row X6.out 10
              have x11 : World.cell? _ ⟨w.heap.size + 1, 11, none⟩ = some (.slice none 0 0) := cell_row X6.out 11
              have xf11 := frozen_row X6.out 11
              have y0 : World.cell? _ ⟨w.heap.size, 0, none⟩ = some (.int .i64 (zeroA).kind) := cell_row Y6.out 0
              have yf0 := frozen_row Y6.out 0
              have y1 : World.cell? _ ⟨w.heap.size, 1, none⟩ = some (.int .i64 (zeroA).cmd.kind) := cell_row Y6.out 1
              have yf1 := frozen_row Y6.out 1
              have y2 : World.cell? _ ⟨w.heap.size, 2, none⟩ = some (.bool (zeroA).cmd.loc) := cell_row Y6.out 2
              have yf2 := frozen_row Y6.out 2
              have y3 : World.cell? _ ⟨w.heap.size, 3, none⟩ = some (.int .i64 (zeroA).cmd.id.index) := cell_row Y6.out 3
              have yf3 := frozen_row Y6.out 3
              have y4 : World.cell? _ ⟨w.heap.size, 4, none⟩ = some (.int .i64 (zeroA).cmd.id.gen) := cell_row Y6.out 4
              have yf4 := frozen_row Y6.out 4
              have y5 : World.cell? _ ⟨w.heap.size, 5, none⟩ = some (.int .i64 (zeroA).cmd.comp) := cell_row Y6.out 5
              have yf5 := frozen_row Y6.out 5
              have y6 : World.cell? _ ⟨w.heap.size, 6, none⟩ = some (.slice none 0 0) := cell_row Y6.out 6
              have yf6 := frozen_row Y6.out 6
              have y7 : World.cell? _ ⟨w.heap.size, 7, none⟩ = some (.int .i64 (zeroA).policy.room) := cell_row Y6.out 7
              have yf7 := frozen_row Y6.out 7
              have y8 : World.cell? _ ⟨w.heap.size, 8, none⟩ = some (.int .i64 (zeroA).policy.frames) := cell_row Y6.out 8
              have yf8 := frozen_row Y6.out 8
              have y9 : World.cell? _ ⟨w.heap.size, 9, none⟩ = some (.int .i64 (zeroA).n) := cell_row Y6.out 9
              have yf9 := frozen_row Y6.out 9
              have y10 : World.cell? _ ⟨w.heap.size, 10, none⟩ = some (.slice none 0 0) := cell_row Y6.out 10
              have yf10 := frozen_row Y6.out 10
              have y11 : World.cell? _ ⟨w.heap.size, 11, none⟩ = some (.slice none 0 0) := cell_row Y6.out 11
              have yf11 := frozen_row Y6.out 11
              go_wp2_with fail
              refine nm_post (fun W hnm => ?_)
              have RY := Lib.hid (show W.heap[w.heap.size]? = some (.cells (actRow ({ zeroA with kind := 4, policy := ⟨n1, n2⟩ }) (.slice none 0 0) (.slice none 0 0) (.slice none 0 0)) 35 (0, 0)) by rw [hnm]; exact row12 Y6.out)
              have KY := Lib.hid (show ∀ b, b ≠ w.heap.size → W.heap[b]? = V6.heap[b]? from fun b hb => by rw [hnm]; exact (Below.heap_setCell _ _ _ _ hb).trans ((Below.heap_setCell _ _ _ _ hb).trans ((Below.heap_setCell _ _ _ _ hb).trans ((Below.heap_setCell _ _ _ _ hb).trans ((Below.heap_setCell _ _ _ _ hb).trans ((Below.heap_setCell _ _ _ _ hb).trans ((Below.heap_setCell _ _ _ _ hb).trans ((Below.heap_setCell _ _ _ _ hb).trans ((Below.heap_setCell _ _ _ _ hb).trans ((Below.heap_setCell _ _ _ _ hb).trans ((Below.heap_setCell _ _ _ _ hb).trans (Below.heap_setCell _ _ _ _ hb))))))))))))
              have OO := Lib.hid (show Only (fun b => b = B) w W by rw [hnm]; exact ((((((((((((O6.out).late (Nat.le_refl _)).late (Nat.le_refl _)).late (Nat.le_refl _)).late (Nat.le_refl _)).late (Nat.le_refl _)).late (Nat.le_refl _)).late (Nat.le_refl _)).late (Nat.le_refl _)).late (Nat.le_refl _)).late (Nat.le_refl _)).late (Nat.le_refl _)).late (Nat.le_refl _))
              clear hnm x0 xf0 x1 xf1 x2 xf2 x3 xf3 x4 xf4 x5 xf5 x6 xf6 x7 xf7 x8 xf8 x9 xf9 x10 xf10 x11 xf11 y0 yf0 y1 yf1 y2 yf2 y3 yf3 y4 yf4 y5 yf5 y6 yf6 y7 yf7 y8 yf8 y9 yf9 y10 yf10 y11 yf11
              have RR := Lib.hid (R6.out.keep (KY.out B (by omega)) (fun b hq _ => ⟨hq, KY.out b (by have := HQ.out b hq; omega)⟩) R6.out.1)
              have AA := Lib.hid (show rAct.val (fun b => w.heap.size ≤ b) W (actAgg ({ zeroA with kind := 4, policy := ⟨n1, n2⟩ }) (.slice none 0 0) (.slice none 0 0) (.slice none 0 0)) ({ zeroA with kind := 4, policy := ⟨n1, n2⟩ }) from Rep.val_keep (fun b hb _ => ⟨by omega, KY.out b (by omega)⟩) A6.out)
              have y0 : World.cell? _ ⟨w.heap.size, 0, none⟩ = some (.int .i64 ({ zeroA with kind := 4, policy := ⟨n1, n2⟩ }).kind) := cell_row RY.out 0
              have y1 : World.cell? _ ⟨w.heap.size, 1, none⟩ = some (.int .i64 ({ zeroA with kind := 4, policy := ⟨n1, n2⟩ }).cmd.kind) := cell_row RY.out 1
              have y2 : World.cell? _ ⟨w.heap.size, 2, none⟩ = some (.bool ({ zeroA with kind := 4, policy := ⟨n1, n2⟩ }).cmd.loc) := cell_row RY.out 2
              have y3 : World.cell? _ ⟨w.heap.size, 3, none⟩ = some (.int .i64 ({ zeroA with kind := 4, policy := ⟨n1, n2⟩ }).cmd.id.index) := cell_row RY.out 3
              have y4 : World.cell? _ ⟨w.heap.size, 4, none⟩ = some (.int .i64 ({ zeroA with kind := 4, policy := ⟨n1, n2⟩ }).cmd.id.gen) := cell_row RY.out 4
              have y5 : World.cell? _ ⟨w.heap.size, 5, none⟩ = some (.int .i64 ({ zeroA with kind := 4, policy := ⟨n1, n2⟩ }).cmd.comp) := cell_row RY.out 5
              have y6 : World.cell? _ ⟨w.heap.size, 6, none⟩ = some (.slice none 0 0) := cell_row RY.out 6
              have y7 : World.cell? _ ⟨w.heap.size, 7, none⟩ = some (.int .i64 ({ zeroA with kind := 4, policy := ⟨n1, n2⟩ }).policy.room) := cell_row RY.out 7
              have y8 : World.cell? _ ⟨w.heap.size, 8, none⟩ = some (.int .i64 ({ zeroA with kind := 4, policy := ⟨n1, n2⟩ }).policy.frames) := cell_row RY.out 8
              have y9 : World.cell? _ ⟨w.heap.size, 9, none⟩ = some (.int .i64 ({ zeroA with kind := 4, policy := ⟨n1, n2⟩ }).n) := cell_row RY.out 9
              have y10 : World.cell? _ ⟨w.heap.size, 10, none⟩ = some (.slice none 0 0) := cell_row RY.out 10
              have y11 : World.cell? _ ⟨w.heap.size, 11, none⟩ = some (.slice none 0 0) := cell_row RY.out 11
              refine ⟨rfl, actAgg ({ zeroA with kind := 4, policy := ⟨n1, n2⟩ }) (.slice none 0 0) (.slice none 0 0) (.slice none 0 0), by simp only [results, hfr]; go_simp; rfl, ?_⟩
              clear y0 y1 y2 y3 y4 y5 y6 y7 y8 y9 y10 y11
              exact ⟨_, rfl, AA.out, by first | (simpa [hbad, hll] using RR.out) | (rw [hbad, hll]; rw [hll] at RR; exact RR.out), OO.out⟩
            | cons y m =>
              rw [hll] at q5
              simp only [List.length_cons] at q5
              have hpp : (0 : Int) < ((m.length + 1 : Nat) : Int) := by omega
              have hpq : (0 : Int) < (m.length : Int) + 1 := by omega
              generalize m.length = ml at *
              go_wp2_with (with_reducible refine stopLoad 35 3 rfl ?_)
              refine Lib.hid ?_
              clear q5 q6 z6
              refine nm_list (fun V6 hnm => ?_)
              have X6 := Lib.hid (show ActIs V6 (w.heap.size + 1) ({ zeroA with kind := 4, policy := ⟨n1, n2⟩ }) (.slice none 0 0) (.slice none 0 0) (.slice none 0 0) by rw [hnm]; exact row_other XZ.out (by omega))
              have Y6 := Lib.hid (show ActIs V6 w.heap.size zeroA (.slice none 0 0) (.slice none 0 0) (.slice none 0 0) by rw [hnm]; exact row_other YZ.out (by omega))
              have R6 := Lib.hid (show Rdr Q B V6 c ⟨(r5).l, true⟩ by rw [hnm]; exact RZ.out.put6 true)
              have O6 := Lib.hid (show Only (fun b => b = B) w V6 by rw [hnm]; exact OZ.out.put rfl)
              have A6 := Lib.hid (show rAct.val (fun b => w.heap.size + 2 ≤ b) V6 (actAgg ({ zeroA with kind := 4, policy := ⟨n1, n2⟩ }) (.slice none 0 0) (.slice none 0 0) (.slice none 0 0)) ({ zeroA with kind := 4, policy := ⟨n1, n2⟩ }) from Rep.val_keep (fun b hb _ => ⟨hb, by rw [hnm]; exact Below.heap_setCell _ _ _ _ (by dsimp only; omega)⟩) AZ.out)
              clear hnm
              have x0 : World.cell? _ ⟨w.heap.size + 1, 0, none⟩ = some (.int .i64 ({ zeroA with kind := 4, policy := ⟨n1, n2⟩ }).kind) := cell_row X6.out 0
              have xf0 := frozen_row X6.out 0
              have x1 : World.cell? _ ⟨w.heap.size + 1, 1, none⟩ = some (.int .i64 ({ zeroA with kind := 4, policy := ⟨n1, n2⟩ }).cmd.kind) := cell_row X6.out 1
              have xf1 := frozen_row X6.out 1
              have x2 : World.cell? _ ⟨w.heap.size + 1, 2, none⟩ = some (.bool ({ zeroA with kind := 4, policy := ⟨n1, n2⟩ }).cmd.loc) := cell_row X6.out 2
              have xf2 := frozen_row X6.out 2
              have x3 : World.cell? _ ⟨w.heap.size + 1, 3, none⟩ = some (.int .i64 ({ zeroA with kind := 4, policy := ⟨n1, n2⟩ }).cmd.id.index) := cell_row X6.out 3
              have xf3 := frozen_row X6.out 3
              have x4 : World.cell? _ ⟨w.heap.size + 1, 4, none⟩ = some (.int .i64 ({ zeroA with kind := 4, policy := ⟨n1, n2⟩ }).cmd.id.gen) := cell_row X6.out 4
              have xf4 := frozen_row X6.out 4
              have x5 : World.cell? _ ⟨w.heap.size + 1, 5, none⟩ = some (.int .i64 ({ zeroA with kind := 4, policy := ⟨n1, n2⟩ }).cmd.comp) := cell_row X6.out 5
              have xf5 := frozen_row X6.out 5
              have x6 : World.cell? _ ⟨w.heap.size + 1, 6, none⟩ = some (.slice none 0 0) := cell_row X6.out 6
              have xf6 := frozen_row X6.out 6
              have x7 : World.cell? _ ⟨w.heap.size + 1, 7, none⟩ = some (.int .i64 ({ zeroA with kind := 4, policy := ⟨n1, n2⟩ }).policy.room) := cell_row X6.out 7
              have xf7 := frozen_row X6.out 7
              have x8 : World.cell? _ ⟨w.heap.size + 1, 8, none⟩ = some (.int .i64 ({ zeroA with kind := 4, policy := ⟨n1, n2⟩ }).policy.frames) := cell_row X6.out 8
              have xf8 := frozen_row X6.out 8
              have x9 : World.cell? _ ⟨w.heap.size + 1, 9, none⟩ = some (.int .i64 ({ zeroA with kind := 4, policy := ⟨n1, n2⟩ }).n) := cell_row X6.out 9
              have xf9 := frozen_row X6.out 9
              have x10 : World.cell? _ ⟨w.heap.size + 1, 10, none⟩ = some (.slice none 0 0) := cell_row X6.out 10
              have xf10 := frozen_row X6.out 10
              have x11 : World.cell? _ ⟨w.heap.size + 1, 11, none⟩ = some (.slice none 0 0) := cell_row X6.out 11
              have xf11 := frozen_row X6.out 11
              have y0 : World.cell? _ ⟨w.heap.size, 0, none⟩ = some (.int .i64 (zeroA).kind) := cell_row Y6.out 0
              have yf0 := frozen_row Y6.out 0
              have y1 : World.cell? _ ⟨w.heap.size, 1, none⟩ = some (.int .i64 (zeroA).cmd.kind) := cell_row Y6.out 1
              have yf1 := frozen_row Y6.out 1
              have y2 : World.cell? _ ⟨w.heap.size, 2, none⟩ = some (.bool (zeroA).cmd.loc) := cell_row Y6.out 2
              have yf2 := frozen_row Y6.out 2
              have y3 : World.cell? _ ⟨w.heap.size, 3, none⟩ = some (.int .i64 (zeroA).cmd.id.index) := cell_row Y6.out 3
              have yf3 := frozen_row Y6.out 3
              have y4 : World.cell? _ ⟨w.heap.size, 4, none⟩ = some (.int .i64 (zeroA).cmd.id.gen) := cell_row Y6.out 4
              have yf4 := frozen_row Y6.out 4
              have y5 : World.cell? _ ⟨w.heap.size, 5, none⟩ = some (.int .i64 (zeroA).cmd.comp) := cell_row Y6.out 5
              have yf5 := frozen_row Y6.out 5
              have y6 : World.cell? _ ⟨w.heap.size, 6, none⟩ = some (.slice none 0 0) := cell_row Y6.out 6
              have yf6 := frozen_row Y6.out 6
              have y7 : World.cell? _ ⟨w.heap.size, 7, none⟩ = some (.int .i64 (zeroA).policy.room) := cell_row Y6.out 7
              have yf7 := frozen_row Y6.out 7
              have y8 : World.cell? _ ⟨w.heap.size, 8, none⟩ = some (.int .i64 (zeroA).policy.frames) := cell_row Y6.out 8
              have yf8 := frozen_row Y6.out 8
              have y9 : World.cell? _ ⟨w.heap.size, 9, none⟩ = some (.int .i64 (zeroA).n) := cell_row Y6.out 9
              have yf9 := frozen_row Y6.out 9
              have y10 : World.cell? _ ⟨w.heap.size, 10, none⟩ = some (.slice none 0 0) := cell_row Y6.out 10
              have yf10 := frozen_row Y6.out 10
              have y11 : World.cell? _ ⟨w.heap.size, 11, none⟩ = some (.slice none 0 0) := cell_row Y6.out 11
              have yf11 := frozen_row Y6.out 11
              go_wp2_with fail
              refine nm_post (fun W hnm => ?_)
              have RY := Lib.hid (show W.heap[w.heap.size]? = some (.cells (actRow ({ zeroA with kind := 4, policy := ⟨n1, n2⟩ }) (.slice none 0 0) (.slice none 0 0) (.slice none 0 0)) 35 (0, 0)) by rw [hnm]; exact row12 Y6.out)
              have KY := Lib.hid (show ∀ b, b ≠ w.heap.size → W.heap[b]? = V6.heap[b]? from fun b hb => by rw [hnm]; exact (Below.heap_setCell _ _ _ _ hb).trans ((Below.heap_setCell _ _ _ _ hb).trans ((Below.heap_setCell _ _ _ _ hb).trans ((Below.heap_setCell _ _ _ _ hb).trans ((Below.heap_setCell _ _ _ _ hb).trans ((Below.heap_setCell _ _ _ _ hb).trans ((Below.heap_setCell _ _ _ _ hb).trans ((Below.heap_setCell _ _ _ _ hb).trans ((Below.heap_setCell _ _ _ _ hb).trans ((Below.heap_setCell _ _ _ _ hb).trans ((Below.heap_setCell _ _ _ _ hb).trans (Below.heap_setCell _ _ _ _ hb))))))))))))
              have OO := Lib.hid (show Only (fun b => b = B) w W by rw [hnm]; exact ((((((((((((O6.out).late (Nat.le_refl _)).late (Nat.le_refl _)).late (Nat.le_refl _)).late (Nat.le_refl _)).late (Nat.le_refl _)).late (Nat.le_refl _)).late (Nat.le_refl _)).late (Nat.le_refl _)).late (Nat.le_refl _)).late (Nat.le_refl _)).late (Nat.le_refl _)).late (Nat.le_refl _))
              clear hnm x0 xf0 x1 xf1 x2 xf2 x3 xf3 x4 xf4 x5 xf5 x6 xf6 x7 xf7 x8 xf8 x9 xf9 x10 xf10 x11 xf11 y0 yf0 y1 yf1 y2 yf2 y3 yf3 y4 yf4 y5 yf5 y6 yf6 y7 yf7 y8 yf8 y9 yf9 y10 yf10 y11 yf11
              have RR := Lib.hid (R6.out.keep (KY.out B (by omega)) (fun b hq _ => ⟨hq, KY.out b (by have := HQ.out b hq; omega)⟩) R6.out.1)
              have AA := Lib.hid (show rAct.val (fun b => w.heap.size ≤ b) W (actAgg ({ zeroA with kind := 4, policy := ⟨n1, n2⟩ }) (.slice none 0 0) (.slice none 0 0) (.slice none 0 0)) ({ zeroA with kind := 4, policy := ⟨n1, n2⟩ }) from Rep.val_keep (fun b hb _ => ⟨by omega, KY.out b (by omega)⟩) A6.out)
              have y0 : World.cell? _ ⟨w.heap.size, 0, none⟩ = some (.int .i64 ({ zeroA with kind := 4, policy := ⟨n1, n2⟩ }).kind) := cell_row RY.out 0
              have y1 : World.cell? _ ⟨w.heap.size, 1, none⟩ = some (.int .i64 ({ zeroA with kind := 4, policy := ⟨n1, n2⟩ }).cmd.kind) := cell_row RY.out 1
              have y2 : World.cell? _ ⟨w.heap.size, 2, none⟩ = some (.bool ({ zeroA with kind := 4, policy := ⟨n1, n2⟩ }).cmd.loc) := cell_row RY.out 2
              have y3 : World.cell? _ ⟨w.heap.size, 3, none⟩ = some (.int .i64 ({ zeroA with kind := 4, policy := ⟨n1, n2⟩ }).cmd.id.index) := cell_row RY.out 3
              have y4 : World.cell? _ ⟨w.heap.size, 4, none⟩ = some (.int .i64 ({ zeroA with kind := 4, policy := ⟨n1, n2⟩ }).cmd.id.gen) := cell_row RY.out 4
              have y5 : World.cell? _ ⟨w.heap.size, 5, none⟩ = some (.int .i64 ({ zeroA with kind := 4, policy := ⟨n1, n2⟩ }).cmd.comp) := cell_row RY.out 5
              have y6 : World.cell? _ ⟨w.heap.size, 6, none⟩ = some (.slice none 0 0) := cell_row RY.out 6
              have y7 : World.cell? _ ⟨w.heap.size, 7, none⟩ = some (.int .i64 ({ zeroA with kind := 4, policy := ⟨n1, n2⟩ }).policy.room) := cell_row RY.out 7
              have y8 : World.cell? _ ⟨w.heap.size, 8, none⟩ = some (.int .i64 ({ zeroA with kind := 4, policy := ⟨n1, n2⟩ }).policy.frames) := cell_row RY.out 8
              have y9 : World.cell? _ ⟨w.heap.size, 9, none⟩ = some (.int .i64 ({ zeroA with kind := 4, policy := ⟨n1, n2⟩ }).n) := cell_row RY.out 9
              have y10 : World.cell? _ ⟨w.heap.size, 10, none⟩ = some (.slice none 0 0) := cell_row RY.out 10
              have y11 : World.cell? _ ⟨w.heap.size, 11, none⟩ = some (.slice none 0 0) := cell_row RY.out 11
              refine ⟨rfl, actAgg ({ zeroA with kind := 4, policy := ⟨n1, n2⟩ }) (.slice none 0 0) (.slice none 0 0) (.slice none 0 0), by simp only [results, hfr]; go_simp; rfl, ?_⟩
              clear y0 y1 y2 y3 y4 y5 y6 y7 y8 y9 y10 y11
              exact ⟨_, rfl, AA.out, by first | (simpa [hbad, hll] using RR.out) | (rw [hbad, hll]; rw [hll] at RR; exact RR.out), OO.out⟩
        · rw [if_neg hs3]
          have b3 : (s == [117, 112, 107, 101, 101, 112]) = false := by simpa [wUpkeep] using hs3
          by_cases hs4 : s = wFuse
          · rw [if_pos hs4]
            subst hs4
            unfold wFuse at HWDC
            dsimp only
            have HW1 := Lib.hid (fun V (hv : Rdr Q B V c r1) => And.intro (word_calls hv) hv.word_le)
            obtain ⟨s1, hg1⟩ : ∃ x, r1.word.1 = x := ⟨_, rfl⟩
            obtain ⟨r2, hg2⟩ : ∃ x, r1.word.2 = x := ⟨_, rfl⟩
            simp only [hg1, hg2] at HW1 ⊢
            clear hg1 hg2
            have HN1 := Lib.hid (fun V (hv : Rdr Q B V c r2) (hs : s1.length ≤ 1000000) (ht : Tabs V) => cnumr_calls hv s1 (by omega) ht)
            have HI1 := Lib.hid (numr_in r2 s1)
            obtain ⟨n1, hg1⟩ : ∃ x, (r2.num s1).1 = x := ⟨_, rfl⟩
            obtain ⟨r3, hg2⟩ : ∃ x, (r2.num s1).2 = x := ⟨_, rfl⟩
            simp only [hg1, hg2] at HN1 ⊢
            simp only [hg1] at HI1
            clear hg1 hg2
            have x0 : World.cell? _ ⟨w.heap.size + 1, 0, none⟩ = some (.int .i64 (zeroA).kind) := cell_row X0.out 0
            have xf0 := frozen_row X0.out 0
            have x1 : World.cell? _ ⟨w.heap.size + 1, 1, none⟩ = some (.int .i64 (zeroA).cmd.kind) := cell_row X0.out 1
            have xf1 := frozen_row X0.out 1
            have x2 : World.cell? _ ⟨w.heap.size + 1, 2, none⟩ = some (.bool (zeroA).cmd.loc) := cell_row X0.out 2
            have xf2 := frozen_row X0.out 2
            have x3 : World.cell? _ ⟨w.heap.size + 1, 3, none⟩ = some (.int .i64 (zeroA).cmd.id.index) := cell_row X0.out 3
            have xf3 := frozen_row X0.out 3
            have x4 : World.cell? _ ⟨w.heap.size + 1, 4, none⟩ = some (.int .i64 (zeroA).cmd.id.gen) := cell_row X0.out 4
            have xf4 := frozen_row X0.out 4
            have x5 : World.cell? _ ⟨w.heap.size + 1, 5, none⟩ = some (.int .i64 (zeroA).cmd.comp) := cell_row X0.out 5
            have xf5 := frozen_row X0.out 5
            have x6 : World.cell? _ ⟨w.heap.size + 1, 6, none⟩ = some (.slice none 0 0) := cell_row X0.out 6
            have xf6 := frozen_row X0.out 6
            have x7 : World.cell? _ ⟨w.heap.size + 1, 7, none⟩ = some (.int .i64 (zeroA).policy.room) := cell_row X0.out 7
            have xf7 := frozen_row X0.out 7
            have x8 : World.cell? _ ⟨w.heap.size + 1, 8, none⟩ = some (.int .i64 (zeroA).policy.frames) := cell_row X0.out 8
            have xf8 := frozen_row X0.out 8
            have x9 : World.cell? _ ⟨w.heap.size + 1, 9, none⟩ = some (.int .i64 (zeroA).n) := cell_row X0.out 9
            have xf9 := frozen_row X0.out 9
            have x10 : World.cell? _ ⟨w.heap.size + 1, 10, none⟩ = some (.slice none 0 0) := cell_row X0.out 10
            have xf10 := frozen_row X0.out 10
            have x11 : World.cell? _ ⟨w.heap.size + 1, 11, none⟩ = some (.slice none 0 0) := cell_row X0.out 11
            have xf11 := frozen_row X0.out 11
            go_enter Tryz.func30, Tryz.ntmps30
            go_wp2_with fail
            try rw [hW0]
            clear hW0
            clear x0 xf0 x1 xf1 x2 xf2 x3 xf3 x4 xf4 x5 xf5 x6 xf6 x7 xf7 x8 xf8 x9 xf9 x10 xf10 x11 xf11
            refine (HWDC.out).mono ?_
            rintro e w1 ⟨rfl, h1, o1⟩
            have R1 := Lib.hid h1
            have O1 := Lib.hid (O0.out.trans o1)
            have T1 := Lib.hid (T0.out.only o1 (by rintro b rfl; omega))
            have X1 := Lib.hid (show ActIs w1 (w.heap.size + 1) zeroA (.slice none 0 0) (.slice none 0 0) (.slice none 0 0) from row_only o1 X0.out (by omega))
            have Y1 := Lib.hid (show ActIs w1 w.heap.size zeroA (.slice none 0 0) (.slice none 0 0) (.slice none 0 0) from row_only o1 Y0.out (by omega))
            have hz1 := O1.out.size
            have hz1x : w.heap.size + 2 ≤ w1.heap.size := by have := o1.size; omega
            clear h1 o1
            have x0 : World.cell? _ ⟨w.heap.size + 1, 0, none⟩ = some (.int .i64 (zeroA).kind) := cell_row X1.out 0
            have xf0 := frozen_row X1.out 0
            have x1 : World.cell? _ ⟨w.heap.size + 1, 1, none⟩ = some (.int .i64 (zeroA).cmd.kind) := cell_row X1.out 1
            have xf1 := frozen_row X1.out 1
            have x2 : World.cell? _ ⟨w.heap.size + 1, 2, none⟩ = some (.bool (zeroA).cmd.loc) := cell_row X1.out 2
            have xf2 := frozen_row X1.out 2
            have x3 : World.cell? _ ⟨w.heap.size + 1, 3, none⟩ = some (.int .i64 (zeroA).cmd.id.index) := cell_row X1.out 3
            have xf3 := frozen_row X1.out 3
            have x4 : World.cell? _ ⟨w.heap.size + 1, 4, none⟩ = some (.int .i64 (zeroA).cmd.id.gen) := cell_row X1.out 4
            have xf4 := frozen_row X1.out 4
            have x5 : World.cell? _ ⟨w.heap.size + 1, 5, none⟩ = some (.int .i64 (zeroA).cmd.comp) := cell_row X1.out 5
            have xf5 := frozen_row X1.out 5
            have x6 : World.cell? _ ⟨w.heap.size + 1, 6, none⟩ = some (.slice none 0 0) := cell_row X1.out 6
            have xf6 := frozen_row X1.out 6
            have x7 : World.cell? _ ⟨w.heap.size + 1, 7, none⟩ = some (.int .i64 (zeroA).policy.room) := cell_row X1.out 7
            have xf7 := frozen_row X1.out 7
            have x8 : World.cell? _ ⟨w.heap.size + 1, 8, none⟩ = some (.int .i64 (zeroA).policy.frames) := cell_row X1.out 8
            have xf8 := frozen_row X1.out 8
            have x9 : World.cell? _ ⟨w.heap.size + 1, 9, none⟩ = some (.int .i64 (zeroA).n) := cell_row X1.out 9
            have xf9 := frozen_row X1.out 9
            have x10 : World.cell? _ ⟨w.heap.size + 1, 10, none⟩ = some (.slice none 0 0) := cell_row X1.out 10
            have xf10 := frozen_row X1.out 10
            have x11 : World.cell? _ ⟨w.heap.size + 1, 11, none⟩ = some (.slice none 0 0) := cell_row X1.out 11
            have xf11 := frozen_row X1.out 11
            go_wp2_with fail
            clear x0 xf0 x1 xf1 x2 xf2 x3 xf3 x4 xf4 x5 xf5 x6 xf6 x7 xf7 x8 xf8 x9 xf9 x10 xf10 x11 xf11
            refine nm_calls (fun V2 hnm => ?_)
            have XV2 := Lib.hid (show ActIs V2 (w.heap.size + 1) ({ zeroA with kind := 5 }) (.slice none 0 0) (.slice none 0 0) (.slice none 0 0) by rw [hnm]; exact heap_setRow X1.out)
            have YV2 := Lib.hid (show ActIs V2 w.heap.size zeroA (.slice none 0 0) (.slice none 0 0) (.slice none 0 0) by rw [hnm]; exact row_other Y1.out (by omega))
            have OV2 := Lib.hid (show Only (fun b => b = B) w V2 by rw [hnm]; exact O1.out.late (by omega))
            have RV2 := Lib.hid (show Rdr Q B V2 c r1 from R1.out.keep (by rw [hnm]; exact Below.heap_setCell _ _ _ _ (by dsimp only; omega)) (fun b hq _ => ⟨hq, by rw [hnm]; exact Below.heap_setCell _ _ _ _ (by have := HQ.out b hq; dsimp only; omega)⟩) R1.out.1)
            have TV2 := Lib.hid (show Tabs V2 from T1.out.only (show Only (fun b => b = w.heap.size + 1) _ V2 by rw [hnm]; exact (Only.refl _ _).put rfl) (by rintro b rfl; omega))
            clear hnm
            have HLV3 := Lib.hid (HW1.out _ RV2.out).2
            refine ((HW1.out _ RV2.out).1).mono ?_
            rintro e V3 ⟨rfl, h2, o2⟩
            have RV3 := Lib.hid h2
            have XV3 := Lib.hid (show ActIs V3 (w.heap.size + 1) ({ zeroA with kind := 5 }) (.slice none 0 0) (.slice none 0 0) (.slice none 0 0) from row_only o2 XV2.out (by omega))
            have YV3 := Lib.hid (show ActIs V3 w.heap.size zeroA (.slice none 0 0) (.slice none 0 0) (.slice none 0 0) from row_only o2 YV2.out (by omega))
            have OV3 := Lib.hid (OV2.out.trans o2)
            have TV3 := Lib.hid (TV2.out.only o2 (by rintro b rfl; omega))
            clear h2 o2
            go_wp2_with fail
            refine (HN1.out _ RV3.out HLV3.out TV3.out).mono ?_
            rintro e V4 ⟨rfl, h2, o2⟩
            have RV4 := Lib.hid h2
            have XV4 := Lib.hid (show ActIs V4 (w.heap.size + 1) ({ zeroA with kind := 5 }) (.slice none 0 0) (.slice none 0 0) (.slice none 0 0) from row_only o2 XV3.out (by omega))
            have YV4 := Lib.hid (show ActIs V4 w.heap.size zeroA (.slice none 0 0) (.slice none 0 0) (.slice none 0 0) from row_only o2 YV3.out (by omega))
            have OV4 := Lib.hid (OV3.out.trans o2)
            have TV4 := Lib.hid (TV3.out.only o2 (by rintro b rfl; omega))
            clear h2 o2
            have x0 : World.cell? _ ⟨w.heap.size + 1, 0, none⟩ = some (.int .i64 ({ zeroA with kind := 5 }).kind) := cell_row XV4.out 0
            have xf0 := frozen_row XV4.out 0
            have x1 : World.cell? _ ⟨w.heap.size + 1, 1, none⟩ = some (.int .i64 ({ zeroA with kind := 5 }).cmd.kind) := cell_row XV4.out 1
            have xf1 := frozen_row XV4.out 1
            have x2 : World.cell? _ ⟨w.heap.size + 1, 2, none⟩ = some (.bool ({ zeroA with kind := 5 }).cmd.loc) := cell_row XV4.out 2
            have xf2 := frozen_row XV4.out 2
            have x3 : World.cell? _ ⟨w.heap.size + 1, 3, none⟩ = some (.int .i64 ({ zeroA with kind := 5 }).cmd.id.index) := cell_row XV4.out 3
            have xf3 := frozen_row XV4.out 3
            have x4 : World.cell? _ ⟨w.heap.size + 1, 4, none⟩ = some (.int .i64 ({ zeroA with kind := 5 }).cmd.id.gen) := cell_row XV4.out 4
            have xf4 := frozen_row XV4.out 4
            have x5 : World.cell? _ ⟨w.heap.size + 1, 5, none⟩ = some (.int .i64 ({ zeroA with kind := 5 }).cmd.comp) := cell_row XV4.out 5
            have xf5 := frozen_row XV4.out 5
            have x6 : World.cell? _ ⟨w.heap.size + 1, 6, none⟩ = some (.slice none 0 0) := cell_row XV4.out 6
            have xf6 := frozen_row XV4.out 6
            have x7 : World.cell? _ ⟨w.heap.size + 1, 7, none⟩ = some (.int .i64 ({ zeroA with kind := 5 }).policy.room) := cell_row XV4.out 7
            have xf7 := frozen_row XV4.out 7
            have x8 : World.cell? _ ⟨w.heap.size + 1, 8, none⟩ = some (.int .i64 ({ zeroA with kind := 5 }).policy.frames) := cell_row XV4.out 8
            have xf8 := frozen_row XV4.out 8
            have x9 : World.cell? _ ⟨w.heap.size + 1, 9, none⟩ = some (.int .i64 ({ zeroA with kind := 5 }).n) := cell_row XV4.out 9
            have xf9 := frozen_row XV4.out 9
            have x10 : World.cell? _ ⟨w.heap.size + 1, 10, none⟩ = some (.slice none 0 0) := cell_row XV4.out 10
            have xf10 := frozen_row XV4.out 10
            have x11 : World.cell? _ ⟨w.heap.size + 1, 11, none⟩ = some (.slice none 0 0) := cell_row XV4.out 11
            have xf11 := frozen_row XV4.out 11
            go_wp2_with (with_reducible refine stopNil 50 rfl ?_)
            refine Lib.hid ?_
            clear x0 xf0 x1 xf1 x2 xf2 x3 xf3 x4 xf4 x5 xf5 x6 xf6 x7 xf7 x8 xf8 x9 xf9 x10 xf10 x11 xf11
            refine nm_list (fun V5 hnm => ?_)
            have XV5 := Lib.hid (show ActIs V5 (w.heap.size + 1) ({ zeroA with kind := 5, n := n1 }) (.slice none 0 0) (.slice none 0 0) (.slice none 0 0) by rw [hnm]; exact heap_setRow XV4.out)
            have YV5 := Lib.hid (show ActIs V5 w.heap.size zeroA (.slice none 0 0) (.slice none 0 0) (.slice none 0 0) by rw [hnm]; exact row_other YV4.out (by omega))
            have OV5 := Lib.hid (show Only (fun b => b = B) w V5 by rw [hnm]; exact OV4.out.late (by omega))
            have RV5 := Lib.hid (show Rdr Q B V5 c r3 from RV4.out.keep (by rw [hnm]; exact Below.heap_setCell _ _ _ _ (by dsimp only; omega)) (fun b hq _ => ⟨hq, by rw [hnm]; exact Below.heap_setCell _ _ _ _ (by have := HQ.out b hq; dsimp only; omega)⟩) RV4.out.1)
            have TV5 := Lib.hid (show Tabs V5 from TV4.out.only (show Only (fun b => b = w.heap.size + 1) _ V5 by rw [hnm]; exact (Only.refl _ _).put rfl) (by rintro b rfl; omega))
            clear hnm
            have RZ := RV5
            have XZ := XV5
            have YZ := YV5
            have OZ := OV5
            have AZ := Lib.hid (show rAct.val (fun b => w.heap.size + 2 ≤ b) V5 (actAgg ({ zeroA with kind := 5, n := n1 }) (.slice none 0 0) (.slice none 0 0) (.slice none 0 0)) ({ zeroA with kind := 5, n := n1 }) from act_bare (x := { zeroA with kind := 5, n := n1 }) (by show (Lit.int .i64 5).wf = true; decide) rfl in0 in0 HI1.out rfl rfl)
            obtain ⟨A5, c5, q5, hq5, hq5m, hq5w⟩ := RZ.out.c5
            clear hq5 hq5m hq5w
            have q6 := RZ.out.c6
            have z6 := RZ.out.f6
            have HLZ := Lib.hid RZ.out
            cases hbad : (r3).bad with
            | true =>
              rw [hbad] at q6
              go_wp2_with (with_reducible refine stopLoad 35 3 rfl ?_)
              refine Lib.hid ?_
              clear q5 q6 z6
              refine nm_list (fun V6 hnm => ?_)
              have X6 := Lib.hid (show ActIs V6 (w.heap.size + 1) ({ zeroA with kind := 5, n := n1 }) (.slice none 0 0) (.slice none 0 0) (.slice none 0 0) by rw [hnm]; exact row_other XZ.out (by omega))
              have Y6 := Lib.hid (show ActIs V6 w.heap.size zeroA (.slice none 0 0) (.slice none 0 0) (.slice none 0 0) by rw [hnm]; exact row_other YZ.out (by omega))
              have R6 := Lib.hid (show Rdr Q B V6 c ⟨(r3).l, true⟩ by rw [hnm]; exact RZ.out.put6 true)
              have O6 := Lib.hid (show Only (fun b => b = B) w V6 by rw [hnm]; exact OZ.out.put rfl)
              have A6 := Lib.hid (show rAct.val (fun b => w.heap.size + 2 ≤ b) V6 (actAgg ({ zeroA with kind := 5, n := n1 }) (.slice none 0 0) (.slice none 0 0) (.slice none 0 0)) ({ zeroA with kind := 5, n := n1 }) from Rep.val_keep (fun b hb _ => ⟨hb, by rw [hnm]; exact Below.heap_setCell _ _ _ _ (by dsimp only; omega)⟩) AZ.out)
              clear hnm
              have x0 : World.cell? _ ⟨w.heap.size + 1, 0, none⟩ = some (.int .i64 ({ zeroA with kind := 5, n := n1 }).kind) := cell_row X6.out 0
              have xf0 := frozen_row X6.out 0
              have x1 : World.cell? _ ⟨w.heap.size + 1, 1, none⟩ = some (.int .i64 ({ zeroA with kind := 5, n := n1 }).cmd.kind) := cell_row X6.out 1
              have xf1 := frozen_row X6.out 1
              have x2 : World.cell? _ ⟨w.heap.size + 1, 2, none⟩ = some (.bool ({ zeroA with kind := 5, n := n1 }).cmd.loc) := cell_row X6.out 2
              have xf2 := frozen_row X6.out 2
              have x3 : World.cell? _ ⟨w.heap.size + 1, 3, none⟩ = some (.int .i64 ({ zeroA with kind := 5, n := n1 }).cmd.id.index) := cell_row X6.out 3
              have xf3 := frozen_row X6.out 3
              have x4 : World.cell? _ ⟨w.heap.size + 1, 4, none⟩ = some (.int .i64 ({ zeroA with kind := 5, n := n1 }).cmd.id.gen) := cell_row X6.out 4
              have xf4 := frozen_row X6.out 4
              have x5 : World.cell? _ ⟨w.heap.size + 1, 5, none⟩ = some (.int .i64 ({ zeroA with kind := 5, n := n1 }).cmd.comp) := cell_row X6.out 5
              have xf5 := frozen_row X6.out 5
              have x6 : World.cell? _ ⟨w.heap.size + 1, 6, none⟩ = some (.slice none 0 0) := cell_row X6.out 6
              have xf6 := frozen_row X6.out 6
              have x7 : World.cell? _ ⟨w.heap.size + 1, 7, none⟩ = some (.int .i64 ({ zeroA with kind := 5, n := n1 }).policy.room) := cell_row X6.out 7
              have xf7 := frozen_row X6.out 7
              have x8 : World.cell? _ ⟨w.heap.size + 1, 8, none⟩ = some (.int .i64 ({ zeroA with kind := 5, n := n1 }).policy.frames) := cell_row X6.out 8
              have xf8 := frozen_row X6.out 8
              have x9 : World.cell? _ ⟨w.heap.size + 1, 9, none⟩ = some (.int .i64 ({ zeroA with kind := 5, n := n1 }).n) := cell_row X6.out 9
              have xf9 := frozen_row X6.out 9
              have x10 : World.cell? _ ⟨w.heap.size + 1, 10, none⟩ = some (.slice none 0 0) := cell_row X6.out 10
              have xf10 := frozen_row X6.out 10
              have x11 : World.cell? _ ⟨w.heap.size + 1, 11, none⟩ = some (.slice none 0 0) := cell_row X6.out 11
              have xf11 := frozen_row X6.out 11
              have y0 : World.cell? _ ⟨w.heap.size, 0, none⟩ = some (.int .i64 (zeroA).kind) := cell_row Y6.out 0
              have yf0 := frozen_row Y6.out 0
              have y1 : World.cell? _ ⟨w.heap.size, 1, none⟩ = some (.int .i64 (zeroA).cmd.kind) := cell_row Y6.out 1
              have yf1 := frozen_row Y6.out 1
              have y2 : World.cell? _ ⟨w.heap.size, 2, none⟩ = some (.bool (zeroA).cmd.loc) := cell_row Y6.out 2
              have yf2 := frozen_row Y6.out 2
              have y3 : World.cell? _ ⟨w.heap.size, 3, none⟩ = some (.int .i64 (zeroA).cmd.id.index) := cell_row Y6.out 3
              have yf3 := frozen_row Y6.out 3
              have y4 : World.cell? _ ⟨w.heap.size, 4, none⟩ = some (.int .i64 (zeroA).cmd.id.gen) := cell_row Y6.out 4
              have yf4 := frozen_row Y6.out 4
              have y5 : World.cell? _ ⟨w.heap.size, 5, none⟩ = some (.int .i64 (zeroA).cmd.comp) := cell_row Y6.out 5
              have yf5 := frozen_row Y6.out 5
              have y6 : World.cell? _ ⟨w.heap.size, 6, none⟩ = some (.slice none 0 0) := cell_row Y6.out 6
              have yf6 := frozen_row Y6.out 6
              have y7 : World.cell? _ ⟨w.heap.size, 7, none⟩ = some (.int .i64 (zeroA).policy.room) := cell_row Y6.out 7
              have yf7 := frozen_row Y6.out 7
              have y8 : World.cell? _ ⟨w.heap.size, 8, none⟩ = some (.int .i64 (zeroA).policy.frames) := cell_row Y6.out 8
              have yf8 := frozen_row Y6.out 8
              have y9 : World.cell? _ ⟨w.heap.size, 9, none⟩ = some (.int .i64 (zeroA).n) := cell_row Y6.out 9
              have yf9 := frozen_row Y6.out 9
              have y10 : World.cell? _ ⟨w.heap.size, 10, none⟩ = some (.slice none 0 0) := cell_row Y6.out 10
              have yf10 := frozen_row Y6.out 10
              have y11 : World.cell? _ ⟨w.heap.size, 11, none⟩ = some (.slice none 0 0) := cell_row Y6.out 11
              have yf11 := frozen_row Y6.out 11
              go_wp2_with fail
              refine nm_post (fun W hnm => ?_)
              have RY := Lib.hid (show W.heap[w.heap.size]? = some (.cells (actRow ({ zeroA with kind := 5, n := n1 }) (.slice none 0 0) (.slice none 0 0) (.slice none 0 0)) 35 (0, 0)) by rw [hnm]; exact row12 Y6.out)
              have KY := Lib.hid (show ∀ b, b ≠ w.heap.size → W.heap[b]? = V6.heap[b]? from fun b hb => by rw [hnm]; exact (Below.heap_setCell _ _ _ _ hb).trans ((Below.heap_setCell _ _ _ _ hb).trans ((Below.heap_setCell _ _ _ _ hb).trans ((Below.heap_setCell _ _ _ _ hb).trans ((Below.heap_setCell _ _ _ _ hb).trans ((Below.heap_setCell _ _ _ _ hb).trans ((Below.heap_setCell _ _ _ _ hb).trans ((Below.heap_setCell _ _ _ _ hb).trans ((Below.heap_setCell _ _ _ _ hb).trans ((Below.heap_setCell _ _ _ _ hb).trans ((Below.heap_setCell _ _ _ _ hb).trans (Below.heap_setCell _ _ _ _ hb))))))))))))
              have OO := Lib.hid (show Only (fun b => b = B) w W by rw [hnm]; exact ((((((((((((O6.out).late (Nat.le_refl _)).late (Nat.le_refl _)).late (Nat.le_refl _)).late (Nat.le_refl _)).late (Nat.le_refl _)).late (Nat.le_refl _)).late (Nat.le_refl _)).late (Nat.le_refl _)).late (Nat.le_refl _)).late (Nat.le_refl _)).late (Nat.le_refl _)).late (Nat.le_refl _))
              clear hnm x0 xf0 x1 xf1 x2 xf2 x3 xf3 x4 xf4 x5 xf5 x6 xf6 x7 xf7 x8 xf8 x9 xf9 x10 xf10 x11 xf11 y0 yf0 y1 yf1 y2 yf2 y3 yf3 y4 yf4 y5 yf5 y6 yf6 y7 yf7 y8 yf8 y9 yf9 y10 yf10 y11 yf11
              have RR := Lib.hid (R6.out.keep (KY.out B (by omega)) (fun b hq _ => ⟨hq, KY.out b (by have := HQ.out b hq; omega)⟩) R6.out.1)
              have AA := Lib.hid (show rAct.val (fun b => w.heap.size ≤ b) W (actAgg ({ zeroA with kind := 5, n := n1 }) (.slice none 0 0) (.slice none 0 0) (.slice none 0 0)) ({ zeroA with kind := 5, n := n1 }) from Rep.val_keep (fun b hb _ => ⟨by omega, KY.out b (by omega)⟩) A6.out)
              have y0 : World.cell? _ ⟨w.heap.size, 0, none⟩ = some (.int .i64 ({ zeroA with kind := 5, n := n1 }).kind) := cell_row RY.out 0
              have y1 : World.cell? _ ⟨w.heap.size, 1, none⟩ = some (.int .i64 ({ zeroA with kind := 5, n := n1 }).cmd.kind) := cell_row RY.out 1
              have y2 : World.cell? _ ⟨w.heap.size, 2, none⟩ = some (.bool ({ zeroA with kind := 5, n := n1 }).cmd.loc) := cell_row RY.out 2
              have y3 : World.cell? _ ⟨w.heap.size, 3, none⟩ = some (.int .i64 ({ zeroA with kind := 5, n := n1 }).cmd.id.index) := cell_row RY.out 3
              have y4 : World.cell? _ ⟨w.heap.size, 4, none⟩ = some (.int .i64 ({ zeroA with kind := 5, n := n1 }).cmd.id.gen) := cell_row RY.out 4
              have y5 : World.cell? _ ⟨w.heap.size, 5, none⟩ = some (.int .i64 ({ zeroA with kind := 5, n := n1 }).cmd.comp) := cell_row RY.out 5
              have y6 : World.cell? _ ⟨w.heap.size, 6, none⟩ = some (.slice none 0 0) := cell_row RY.out 6
              have y7 : World.cell? _ ⟨w.heap.size, 7, none⟩ = some (.int .i64 ({ zeroA with kind := 5, n := n1 }).policy.room) := cell_row RY.out 7
              have y8 : World.cell? _ ⟨w.heap.size, 8, none⟩ = some (.int .i64 ({ zeroA with kind := 5, n := n1 }).policy.frames) := cell_row RY.out 8
              have y9 : World.cell? _ ⟨w.heap.size, 9, none⟩ = some (.int .i64 ({ zeroA with kind := 5, n := n1 }).n) := cell_row RY.out 9
              have y10 : World.cell? _ ⟨w.heap.size, 10, none⟩ = some (.slice none 0 0) := cell_row RY.out 10
              have y11 : World.cell? _ ⟨w.heap.size, 11, none⟩ = some (.slice none 0 0) := cell_row RY.out 11
              refine ⟨rfl, actAgg ({ zeroA with kind := 5, n := n1 }) (.slice none 0 0) (.slice none 0 0) (.slice none 0 0), by simp only [results, hfr]; go_simp; rfl, ?_⟩
              clear y0 y1 y2 y3 y4 y5 y6 y7 y8 y9 y10 y11
              exact ⟨_, rfl, AA.out, by first | (simpa [hbad] using RR.out) | (rw [hbad]; exact RR.out), OO.out⟩
            | false =>
              rw [hbad] at q6
              cases hll : (r3).l with
              | nil =>
                rw [hll] at q5
                simp only [List.length_nil] at q5
                go_wp2_with (with_reducible refine stopLoad 35 3 rfl ?_)
                refine Lib.hid ?_
                clear q5 q6 z6
                refine nm_list (fun V6 hnm => ?_)
                have X6 := Lib.hid (show ActIs V6 (w.heap.size + 1) ({ zeroA with kind := 5, n := n1 }) (.slice none 0 0) (.slice none 0 0) (.slice none 0 0) by rw [hnm]; exact row_other XZ.out (by omega))
                have Y6 := Lib.hid (show ActIs V6 w.heap.size zeroA (.slice none 0 0) (.slice none 0 0) (.slice none 0 0) by rw [hnm]; exact row_other YZ.out (by omega))
                have R6 := Lib.hid (show Rdr Q B V6 c ⟨(r3).l, false⟩ by rw [hnm]; exact RZ.out.put6 false)
                have O6 := Lib.hid (show Only (fun b => b = B) w V6 by rw [hnm]; exact OZ.out.put rfl)
                have A6 := Lib.hid (show rAct.val (fun b => w.heap.size + 2 ≤ b) V6 (actAgg ({ zeroA with kind := 5, n := n1 }) (.slice none 0 0) (.slice none 0 0) (.slice none 0 0)) ({ zeroA with kind := 5, n := n1 }) from Rep.val_keep (fun b hb _ => ⟨hb, by rw [hnm]; exact Below.heap_setCell _ _ _ _ (by dsimp only; omega)⟩) AZ.out)
                clear hnm
                have x0 : World.cell? _ ⟨w.heap.size + 1, 0, none⟩ = some (.int .i64 ({ zeroA with kind := 5, n := n1 }).kind) := cell_row X6.out 0
                have xf0 := frozen_row X6.out 0
                have x1 : World.cell? _ ⟨w.heap.size + 1, 1, none⟩ = some (.int .i64 ({ zeroA with kind := 5, n := n1 }).cmd.kind) := cell_row X6.out 1
                have xf1 := frozen_row X6.out 1
                have x2 : World.cell? _ ⟨w.heap.size + 1, 2, none⟩ = some (.bool ({ zeroA with kind := 5, n := n1 }).cmd.loc) := cell_row X6.out 2
                have xf2 := frozen_row X6.out 2
                have x3 : World.cell? _ ⟨w.heap.size + 1, 3, none⟩ = some (.int .i64 ({ zeroA with kind := 5, n := n1 }).cmd.id.index) := cell_row X6.out 3
                have xf3 := frozen_row X6.out 3
                have x4 : World.cell? _ ⟨w.heap.size + 1, 4, none⟩ = some (.int .i64 ({ zeroA with kind := 5, n := n1 }).cmd.id.gen) := cell_row X6.out 4
                have xf4 := frozen_row X6.out 4
                have x5 : World.cell? _ ⟨w.heap.size + 1, 5, none⟩ = some (.int .i64 ({ zeroA with kind := 5, n := n1 }).cmd.comp) := cell_row X6.out 5
                have xf5 := frozen_row X6.out 5
                have x6 : World.cell? _ ⟨w.heap.size + 1, 6, none⟩ = some (.slice none 0 0) := cell_row X6.out 6
                have xf6 := frozen_row X6.out 6
                have x7 : World.cell? _ ⟨w.heap.size + 1, 7, none⟩ = some (.int .i64 ({ zeroA with kind := 5, n := n1 }).policy.room) := cell_row X6.out 7
                have xf7 := frozen_row X6.out 7
                have x8 : World.cell? _ ⟨w.heap.size + 1, 8, none⟩ = some (.int .i64 ({ zeroA with kind := 5, n := n1 }).policy.frames) := cell_row X6.out 8
                have xf8 := frozen_row X6.out 8
                have x9 : World.cell? _ ⟨w.heap.size + 1, 9, none⟩ = some (.int .i64 ({ zeroA with kind := 5, n := n1 }).n) := cell_row X6.out 9
                have xf9 := frozen_row X6.out 9
                have x10 : World.cell? _ ⟨w.heap.size + 1, 10, none⟩ = some (.slice none 0 0) := cell_row X6.out 10
                have xf10 := frozen_row X6.out 10
                have x11 : World.cell? _ ⟨w.heap.size + 1, 11, none⟩ = some (.slice none 0 0) := cell_row X6.out 11
                have xf11 := frozen_row X6.out 11
                have y0 : World.cell? _ ⟨w.heap.size, 0, none⟩ = some (.int .i64 (zeroA).kind) := cell_row Y6.out 0
                have yf0 := frozen_row Y6.out 0
                have y1 : World.cell? _ ⟨w.heap.size, 1, none⟩ = some (.int .i64 (zeroA).cmd.kind) := cell_row Y6.out 1
                have yf1 := frozen_row Y6.out 1
                have y2 : World.cell? _ ⟨w.heap.size, 2, none⟩ = some (.bool (zeroA).cmd.loc) := cell_row Y6.out 2
                have yf2 := frozen_row Y6.out 2
                have y3 : World.cell? _ ⟨w.heap.size, 3, none⟩ = some (.int .i64 (zeroA).cmd.id.index) := cell_row Y6.out 3
                have yf3 := frozen_row Y6.out 3
                have y4 : World.cell? _ ⟨w.heap.size, 4, none⟩ = some (.int .i64 (zeroA).cmd.id.gen) := cell_row Y6.out 4
                have yf4 := frozen_row Y6.out 4
                have y5 : World.cell? _ ⟨w.heap.size, 5, none⟩ = some (.int .i64 (zeroA).cmd.comp) := cell_row Y6.out 5
                have yf5 := frozen_row Y6.out 5
                have y6 : World.cell? _ ⟨w.heap.size, 6, none⟩ = some (.slice none 0 0) := cell_row Y6.out 6
                have yf6 := frozen_row Y6.out 6
                have y7 : World.cell? _ ⟨w.heap.size, 7, none⟩ = some (.int .i64 (zeroA).policy.room) := cell_row Y6.out 7
                have yf7 := frozen_row Y6.out 7
                have y8 : World.cell? _ ⟨w.heap.size, 8, none⟩ = some (.int .i64 (zeroA).policy.frames) := cell_row Y6.out 8
                have yf8 := frozen_row Y6.out 8
                have y9 : World.cell? _ ⟨w.heap.size, 9, none⟩ = some (.int .i64 (zeroA).n) := cell_row Y6.out 9
                have yf9 := frozen_row Y6.out 9
                have y10 : World.cell? _ ⟨w.heap.size, 10, none⟩ = some (.slice none 0 0) := cell_row Y6.out 10
                have yf10 := frozen_row Y6.out 10
                have y11 : World.cell? _ ⟨w.heap.size, 11, none⟩ = some (.slice none 0 0) := cell_row Y6.out 11
                have yf11 := frozen_row Y6.out 11
                go_wp2_with fail
                refine nm_post (fun W hnm => ?_)
                have RY := Lib.hid (show W.heap[w.heap.size]? = some (.cells (actRow ({ zeroA with kind := 5, n := n1 }) (.slice none 0 0) (.slice none 0 0) (.slice none 0 0)) 35 (0, 0)) by rw [hnm]; exact row12 Y6.out)
                have KY := Lib.hid (show ∀ b, b ≠ w.heap.size → W.heap[b]? = V6.heap[b]? from fun b hb => by rw [hnm]; exact (Below.heap_setCell _ _ _ _ hb).trans ((Below.heap_setCell _ _ _ _ hb).trans ((Below.heap_setCell _ _ _ _ hb).trans ((Below.heap_setCell _ _ _ _ hb).trans ((Below.heap_setCell _ _ _ _ hb).trans ((Below.heap_setCell _ _ _ _ hb).trans ((Below.heap_setCell _ _ _ _ hb).trans ((Below.heap_setCell _ _ _ _ hb).trans ((Below.heap_setCell _ _ _ _ hb).trans ((Below.heap_setCell _ _ _ _ hb).trans ((Below.heap_setCell _ _ _ _ hb).trans (Below.heap_setCell _ _ _ _ hb))))))))))))
                have OO := Lib.hid (show Only (fun b => b = B) w W by rw [hnm]; exact ((((((((((((O6.out).late (Nat.le_refl _)).late (Nat.le_refl _)).late (Nat.le_refl _)).late (Nat.le_refl _)).late (Nat.le_refl _)).late (Nat.le_refl _)).late (Nat.le_refl _)).late (Nat.le_refl _)).late (Nat.le_refl _)).late (Nat.le_refl _)).late (Nat.le_refl _)).late (Nat.le_refl _))
                clear hnm x0 xf0 x1 xf1 x2 xf2 x3 xf3 x4 xf4 x5 xf5 x6 xf6 x7 xf7 x8 xf8 x9 xf9 x10 xf10 x11 xf11 y0 yf0 y1 yf1 y2 yf2 y3 yf3 y4 yf4 y5 yf5 y6 yf6 y7 yf7 y8 yf8 y9 yf9 y10 yf10 y11 yf11
                have RR := Lib.hid (R6.out.keep (KY.out B (by omega)) (fun b hq _ => ⟨hq, KY.out b (by have := HQ.out b hq; omega)⟩) R6.out.1)
                have AA := Lib.hid (show rAct.val (fun b => w.heap.size ≤ b) W (actAgg ({ zeroA with kind := 5, n := n1 }) (.slice none 0 0) (.slice none 0 0) (.slice none 0 0)) ({ zeroA with kind := 5, n := n1 }) from Rep.val_keep (fun b hb _ => ⟨by omega, KY.out b (by omega)⟩) A6.out)
                have y0 : World.cell? _ ⟨w.heap.size, 0, none⟩ = some (.int .i64 ({ zeroA with kind := 5, n := n1 }).kind) := cell_row RY.out 0
                have y1 : World.cell? _ ⟨w.heap.size, 1, none⟩ = some (.int .i64 ({ zeroA with kind := 5, n := n1 }).cmd.kind) := cell_row RY.out 1
                have y2 : World.cell? _ ⟨w.heap.size, 2, none⟩ = some (.bool ({ zeroA with kind := 5, n := n1 }).cmd.loc) := cell_row RY.out 2
                have y3 : World.cell? _ ⟨w.heap.size, 3, none⟩ = some (.int .i64 ({ zeroA with kind := 5, n := n1 }).cmd.id.index) := cell_row RY.out 3
                have y4 : World.cell? _ ⟨w.heap.size, 4, none⟩ = some (.int .i64 ({ zeroA with kind := 5, n := n1 }).cmd.id.gen) := cell_row RY.out 4
                have y5 : World.cell? _ ⟨w.heap.size, 5, none⟩ = some (.int .i64 ({ zeroA with kind := 5, n := n1 }).cmd.comp) := cell_row RY.out 5
                have y6 : World.cell? _ ⟨w.heap.size, 6, none⟩ = some (.slice none 0 0) := cell_row RY.out 6
                have y7 : World.cell? _ ⟨w.heap.size, 7, none⟩ = some (.int .i64 ({ zeroA with kind := 5, n := n1 }).policy.room) := cell_row RY.out 7
                have y8 : World.cell? _ ⟨w.heap.size, 8, none⟩ = some (.int .i64 ({ zeroA with kind := 5, n := n1 }).policy.frames) := cell_row RY.out 8
                have y9 : World.cell? _ ⟨w.heap.size, 9, none⟩ = some (.int .i64 ({ zeroA with kind := 5, n := n1 }).n) := cell_row RY.out 9
                have y10 : World.cell? _ ⟨w.heap.size, 10, none⟩ = some (.slice none 0 0) := cell_row RY.out 10
                have y11 : World.cell? _ ⟨w.heap.size, 11, none⟩ = some (.slice none 0 0) := cell_row RY.out 11
                refine ⟨rfl, actAgg ({ zeroA with kind := 5, n := n1 }) (.slice none 0 0) (.slice none 0 0) (.slice none 0 0), by simp only [results, hfr]; go_simp; rfl, ?_⟩
                clear y0 y1 y2 y3 y4 y5 y6 y7 y8 y9 y10 y11
                exact ⟨_, rfl, AA.out, by first | (simpa [hbad, hll] using RR.out) | (rw [hbad, hll]; rw [hll] at RR; exact RR.out), OO.out⟩
              | cons y m =>
                rw [hll] at q5
                simp only [List.length_cons] at q5
                have hpp : (0 : Int) < ((m.length + 1 : Nat) : Int) := by omega
                have hpq : (0 : Int) < (m.length : Int) + 1 := by omega
                generalize m.length = ml at *
                go_wp2_with (with_reducible refine stopLoad 35 3 rfl ?_)
                refine Lib.hid ?_
                clear q5 q6 z6
                refine nm_list (fun V6 hnm => ?_)
                have X6 := Lib.hid (show ActIs V6 (w.heap.size + 1) ({ zeroA with kind := 5, n := n1 }) (.slice none 0 0) (.slice none 0 0) (.slice none 0 0) by rw [hnm]; exact row_other XZ.out (by omega))
                have Y6 := Lib.hid (show ActIs V6 w.heap.size zeroA (.slice none 0 0) (.slice none 0 0) (.slice none 0 0) by rw [hnm]; exact row_other YZ.out (by omega))
                have R6 := Lib.hid (show Rdr Q B V6 c ⟨(r3).l, true⟩ by rw [hnm]; exact RZ.out.put6 true)
                have O6 := Lib.hid (show Only (fun b => b = B) w V6 by rw [hnm]; exact OZ.out.put rfl)
                have A6 := Lib.hid (show rAct.val (fun b => w.heap.size + 2 ≤ b) V6 (actAgg ({ zeroA with kind := 5, n := n1 }) (.slice none 0 0) (.slice none 0 0) (.slice none 0 0)) ({ zeroA with kind := 5, n := n1 }) from Rep.val_keep (fun b hb _ => ⟨hb, by rw [hnm]; exact Below.heap_setCell _ _ _ _ (by dsimp only; omega)⟩) AZ.out)
                clear hnm
                have x0 : World.cell? _ ⟨w.heap.size + 1, 0, none⟩ = some (.int .i64 ({ zeroA with kind := 5, n := n1 }).kind) := cell_row X6.out 0
                have xf0 := frozen_row X6.out 0
                have x1 : World.cell? _ ⟨w.heap.size + 1, 1, none⟩ = some (.int .i64 ({ zeroA with kind := 5, n := n1 }).cmd.kind) := cell_row X6.out 1
                have xf1 := frozen_row X6.out 1
                have x2 : World.cell? _ ⟨w.heap.size + 1, 2, none⟩ = some (.bool ({ zeroA with kind := 5, n := n1 }).cmd.loc) := cell_row X6.out 2
                have xf2 := frozen_row X6.out 2
                have x3 : World.cell? _ ⟨w.heap.size + 1, 3, none⟩ = some (.int .i64 ({ zeroA with kind := 5, n := n1 }).cmd.id.index) := cell_row X6.out 3
                have xf3 := frozen_row X6.out 3
                have x4 : World.cell? _ ⟨w.heap.size + 1, 4, none⟩ = some (.int .i64 ({ zeroA with kind := 5, n := n1 }).cmd.id.gen) := cell_row X6.out 4
                have xf4 := frozen_row X6.out 4
                have x5 : World.cell? _ ⟨w.heap.size + 1, 5, none⟩ = some (.int .i64 ({ zeroA with kind := 5, n := n1 }).cmd.comp) := cell_row X6.out 5
                have xf5 := frozen_row X6.out 5
                have x6 : World.cell? _ ⟨w.heap.size + 1, 6, none⟩ = some (.slice none 0 0) := cell_row X6.out 6
                have xf6 := frozen_row X6.out 6
                have x7 : World.cell? _ ⟨w.heap.size + 1, 7, none⟩ = some (.int .i64 ({ zeroA with kind := 5, n := n1 }).policy.room) := cell_row X6.out 7
                have xf7 := frozen_row X6.out 7
                have x8 : World.cell? _ ⟨w.heap.size + 1, 8, none⟩ = some (.int .i64 ({ zeroA with kind := 5, n := n1 }).policy.frames) := cell_row X6.out 8
                have xf8 := frozen_row X6.out 8
                have x9 : World.cell? _ ⟨w.heap.size + 1, 9, none⟩ = some (.int .i64 ({ zeroA with kind := 5, n := n1 }).n) := cell_row X6.out 9
                have xf9 := frozen_row X6.out 9
                have x10 : World.cell? _ ⟨w.heap.size + 1, 10, none⟩ = some (.slice none 0 0) := cell_row X6.out 10
                have xf10 := frozen_row X6.out 10
                have x11 : World.cell? _ ⟨w.heap.size + 1, 11, none⟩ = some (.slice none 0 0) := cell_row X6.out 11
                have xf11 := frozen_row X6.out 11
                have y0 : World.cell? _ ⟨w.heap.size, 0, none⟩ = some (.int .i64 (zeroA).kind) := cell_row Y6.out 0
                have yf0 := frozen_row Y6.out 0
                have y1 : World.cell? _ ⟨w.heap.size, 1, none⟩ = some (.int .i64 (zeroA).cmd.kind) := cell_row Y6.out 1
                have yf1 := frozen_row Y6.out 1
                have y2 : World.cell? _ ⟨w.heap.size, 2, none⟩ = some (.bool (zeroA).cmd.loc) := cell_row Y6.out 2
                have yf2 := frozen_row Y6.out 2
                have y3 : World.cell? _ ⟨w.heap.size, 3, none⟩ = some (.int .i64 (zeroA).cmd.id.index) := cell_row Y6.out 3
                have yf3 := frozen_row Y6.out 3
                have y4 : World.cell? _ ⟨w.heap.size, 4, none⟩ = some (.int .i64 (zeroA).cmd.id.gen) := cell_row Y6.out 4
                have yf4 := frozen_row Y6.out 4
                have y5 : World.cell? _ ⟨w.heap.size, 5, none⟩ = some (.int .i64 (zeroA).cmd.comp) := cell_row Y6.out 5
                have yf5 := frozen_row Y6.out 5
                have y6 : World.cell? _ ⟨w.heap.size, 6, none⟩ = some (.slice none 0 0) := cell_row Y6.out 6
                have yf6 := frozen_row Y6.out 6
                have y7 : World.cell? _ ⟨w.heap.size, 7, none⟩ = some (.int .i64 (zeroA).policy.room) := cell_row Y6.out 7
                have yf7 := frozen_row Y6.out 7
                have y8 : World.cell? _ ⟨w.heap.size, 8, none⟩ = some (.int .i64 (zeroA).policy.frames) := cell_row Y6.out 8
                have yf8 := frozen_row Y6.out 8
                have y9 : World.cell? _ ⟨w.heap.size, 9, none⟩ = some (.int .i64 (zeroA).n) := cell_row Y6.out 9
                have yf9 := frozen_row Y6.out 9
                have y10 : World.cell? _ ⟨w.heap.size, 10, none⟩ = some (.slice none 0 0) := cell_row Y6.out 10
                have yf10 := frozen_row Y6.out 10
                have y11 : World.cell? _ ⟨w.heap.size, 11, none⟩ = some (.slice none 0 0) := cell_row Y6.out 11
                have yf11 := frozen_row Y6.out 11
                go_wp2_with fail
                refine nm_post (fun W hnm => ?_)
                have RY := Lib.hid (show W.heap[w.heap.size]? = some (.cells (actRow ({ zeroA with kind := 5, n := n1 }) (.slice none 0 0) (.slice none 0 0) (.slice none 0 0)) 35 (0, 0)) by rw [hnm]; exact row12 Y6.out)
                have KY := Lib.hid (show ∀ b, b ≠ w.heap.size → W.heap[b]? = V6.heap[b]? from fun b hb => by rw [hnm]; exact (Below.heap_setCell _ _ _ _ hb).trans ((Below.heap_setCell _ _ _ _ hb).trans ((Below.heap_setCell _ _ _ _ hb).trans ((Below.heap_setCell _ _ _ _ hb).trans ((Below.heap_setCell _ _ _ _ hb).trans ((Below.heap_setCell _ _ _ _ hb).trans ((Below.heap_setCell _ _ _ _ hb).trans ((Below.heap_setCell _ _ _ _ hb).trans ((Below.heap_setCell _ _ _ _ hb).trans ((Below.heap_setCell _ _ _ _ hb).trans ((Below.heap_setCell _ _ _ _ hb).trans (Below.heap_setCell _ _ _ _ hb))))))))))))
                have OO := Lib.hid (show Only (fun b => b = B) w W by rw [hnm]; exact ((((((((((((O6.out).late (Nat.le_refl _)).late (Nat.le_refl _)).late (Nat.le_refl _)).late (Nat.le_refl _)).late (Nat.le_refl _)).late (Nat.le_refl _)).late (Nat.le_refl _)).late (Nat.le_refl _)).late (Nat.le_refl _)).late (Nat.le_refl _)).late (Nat.le_refl _)).late (Nat.le_refl _))
                clear hnm x0 xf0 x1 xf1 x2 xf2 x3 xf3 x4 xf4 x5 xf5 x6 xf6 x7 xf7 x8 xf8 x9 xf9 x10 xf10 x11 xf11 y0 yf0 y1 yf1 y2 yf2 y3 yf3 y4 yf4 y5 yf5 y6 yf6 y7 yf7 y8 yf8 y9 yf9 y10 yf10 y11 yf11
                have RR := Lib.hid (R6.out.keep (KY.out B (by omega)) (fun b hq _ => ⟨hq, KY.out b (by have := HQ.out b hq; omega)⟩) R6.out.1)
                have AA := Lib.hid (show rAct.val (fun b => w.heap.size ≤ b) W (actAgg ({ zeroA with kind := 5, n := n1 }) (.slice none 0 0) (.slice none 0 0) (.slice none 0 0)) ({ zeroA with kind := 5, n := n1 }) from Rep.val_keep (fun b hb _ => ⟨by omega, KY.out b (by omega)⟩) A6.out)
                have y0 : World.cell? _ ⟨w.heap.size, 0, none⟩ = some (.int .i64 ({ zeroA with kind := 5, n := n1 }).kind) := cell_row RY.out 0
                have y1 : World.cell? _ ⟨w.heap.size, 1, none⟩ = some (.int .i64 ({ zeroA with kind := 5, n := n1 }).cmd.kind) := cell_row RY.out 1
                have y2 : World.cell? _ ⟨w.heap.size, 2, none⟩ = some (.bool ({ zeroA with kind := 5, n := n1 }).cmd.loc) := cell_row RY.out 2
                have y3 : World.cell? _ ⟨w.heap.size, 3, none⟩ = some (.int .i64 ({ zeroA with kind := 5, n := n1 }).cmd.id.index) := cell_row RY.out 3
                have y4 : World.cell? _ ⟨w.heap.size, 4, none⟩ = some (.int .i64 ({ zeroA with kind := 5, n := n1 }).cmd.id.gen) := cell_row RY.out 4
                have y5 : World.cell? _ ⟨w.heap.size, 5, none⟩ = some (.int .i64 ({ zeroA with kind := 5, n := n1 }).cmd.comp) := cell_row RY.out 5
                have y6 : World.cell? _ ⟨w.heap.size, 6, none⟩ = some (.slice none 0 0) := cell_row RY.out 6
                have y7 : World.cell? _ ⟨w.heap.size, 7, none⟩ = some (.int .i64 ({ zeroA with kind := 5, n := n1 }).policy.room) := cell_row RY.out 7
                have y8 : World.cell? _ ⟨w.heap.size, 8, none⟩ = some (.int .i64 ({ zeroA with kind := 5, n := n1 }).policy.frames) := cell_row RY.out 8
                have y9 : World.cell? _ ⟨w.heap.size, 9, none⟩ = some (.int .i64 ({ zeroA with kind := 5, n := n1 }).n) := cell_row RY.out 9
                have y10 : World.cell? _ ⟨w.heap.size, 10, none⟩ = some (.slice none 0 0) := cell_row RY.out 10
                have y11 : World.cell? _ ⟨w.heap.size, 11, none⟩ = some (.slice none 0 0) := cell_row RY.out 11
                refine ⟨rfl, actAgg ({ zeroA with kind := 5, n := n1 }) (.slice none 0 0) (.slice none 0 0) (.slice none 0 0), by simp only [results, hfr]; go_simp; rfl, ?_⟩
                clear y0 y1 y2 y3 y4 y5 y6 y7 y8 y9 y10 y11
                exact ⟨_, rfl, AA.out, by first | (simpa [hbad, hll] using RR.out) | (rw [hbad, hll]; rw [hll] at RR; exact RR.out), OO.out⟩
          · rw [if_neg hs4]
            have b4 : (s == [102, 117, 115, 101]) = false := by simpa [wFuse] using hs4
            by_cases hs5 : s = wCrash
            · rw [if_pos hs5]
              subst hs5
              unfold wCrash at HWDC
              have x0 : World.cell? _ ⟨w.heap.size + 1, 0, none⟩ = some (.int .i64 (zeroA).kind) := cell_row X0.out 0
              have xf0 := frozen_row X0.out 0
              have x1 : World.cell? _ ⟨w.heap.size + 1, 1, none⟩ = some (.int .i64 (zeroA).cmd.kind) := cell_row X0.out 1
              have xf1 := frozen_row X0.out 1
              have x2 : World.cell? _ ⟨w.heap.size + 1, 2, none⟩ = some (.bool (zeroA).cmd.loc) := cell_row X0.out 2
              have xf2 := frozen_row X0.out 2
              have x3 : World.cell? _ ⟨w.heap.size + 1, 3, none⟩ = some (.int .i64 (zeroA).cmd.id.index) := cell_row X0.out 3
              have xf3 := frozen_row X0.out 3
              have x4 : World.cell? _ ⟨w.heap.size + 1, 4, none⟩ = some (.int .i64 (zeroA).cmd.id.gen) := cell_row X0.out 4
              have xf4 := frozen_row X0.out 4
              have x5 : World.cell? _ ⟨w.heap.size + 1, 5, none⟩ = some (.int .i64 (zeroA).cmd.comp) := cell_row X0.out 5
              have xf5 := frozen_row X0.out 5
              have x6 : World.cell? _ ⟨w.heap.size + 1, 6, none⟩ = some (.slice none 0 0) := cell_row X0.out 6
              have xf6 := frozen_row X0.out 6
              have x7 : World.cell? _ ⟨w.heap.size + 1, 7, none⟩ = some (.int .i64 (zeroA).policy.room) := cell_row X0.out 7
              have xf7 := frozen_row X0.out 7
              have x8 : World.cell? _ ⟨w.heap.size + 1, 8, none⟩ = some (.int .i64 (zeroA).policy.frames) := cell_row X0.out 8
              have xf8 := frozen_row X0.out 8
              have x9 : World.cell? _ ⟨w.heap.size + 1, 9, none⟩ = some (.int .i64 (zeroA).n) := cell_row X0.out 9
              have xf9 := frozen_row X0.out 9
              have x10 : World.cell? _ ⟨w.heap.size + 1, 10, none⟩ = some (.slice none 0 0) := cell_row X0.out 10
              have xf10 := frozen_row X0.out 10
              have x11 : World.cell? _ ⟨w.heap.size + 1, 11, none⟩ = some (.slice none 0 0) := cell_row X0.out 11
              have xf11 := frozen_row X0.out 11
              obtain ⟨rc, hrc⟩ : ∃ rc, r1.crash = rc := ⟨_, rfl⟩
              rw [hrc]
              have HRC := Lib.hid hrc
              clear hrc
              go_enter Tryz.func30, Tryz.ntmps30
              go_wp2_with fail
              try rw [hW0]
              clear hW0
              clear x0 xf0 x1 xf1 x2 xf2 x3 xf3 x4 xf4 x5 xf5 x6 xf6 x7 xf7 x8 xf8 x9 xf9 x10 xf10 x11 xf11
              refine (HWDC.out).mono ?_
              rintro e w1 ⟨rfl, h1, o1⟩
              have R1 := Lib.hid h1
              have O1 := Lib.hid (O0.out.trans o1)
              have T1 := Lib.hid (T0.out.only o1 (by rintro b rfl; omega))
              have X1 := Lib.hid (show ActIs w1 (w.heap.size + 1) zeroA (.slice none 0 0) (.slice none 0 0) (.slice none 0 0) from row_only o1 X0.out (by omega))
              have Y1 := Lib.hid (show ActIs w1 w.heap.size zeroA (.slice none 0 0) (.slice none 0 0) (.slice none 0 0) from row_only o1 Y0.out (by omega))
              have hz1 := O1.out.size
              have hz1x : w.heap.size + 2 ≤ w1.heap.size := by have := o1.size; omega
              clear h1 o1
              have x0 : World.cell? _ ⟨w.heap.size + 1, 0, none⟩ = some (.int .i64 (zeroA).kind) := cell_row X1.out 0
              have xf0 := frozen_row X1.out 0
              have x1 : World.cell? _ ⟨w.heap.size + 1, 1, none⟩ = some (.int .i64 (zeroA).cmd.kind) := cell_row X1.out 1
              have xf1 := frozen_row X1.out 1
              have x2 : World.cell? _ ⟨w.heap.size + 1, 2, none⟩ = some (.bool (zeroA).cmd.loc) := cell_row X1.out 2
              have xf2 := frozen_row X1.out 2
              have x3 : World.cell? _ ⟨w.heap.size + 1, 3, none⟩ = some (.int .i64 (zeroA).cmd.id.index) := cell_row X1.out 3
              have xf3 := frozen_row X1.out 3
              have x4 : World.cell? _ ⟨w.heap.size + 1, 4, none⟩ = some (.int .i64 (zeroA).cmd.id.gen) := cell_row X1.out 4
              have xf4 := frozen_row X1.out 4
              have x5 : World.cell? _ ⟨w.heap.size + 1, 5, none⟩ = some (.int .i64 (zeroA).cmd.comp) := cell_row X1.out 5
              have xf5 := frozen_row X1.out 5
              have x6 : World.cell? _ ⟨w.heap.size + 1, 6, none⟩ = some (.slice none 0 0) := cell_row X1.out 6
              have xf6 := frozen_row X1.out 6
              have x7 : World.cell? _ ⟨w.heap.size + 1, 7, none⟩ = some (.int .i64 (zeroA).policy.room) := cell_row X1.out 7
              have xf7 := frozen_row X1.out 7
              have x8 : World.cell? _ ⟨w.heap.size + 1, 8, none⟩ = some (.int .i64 (zeroA).policy.frames) := cell_row X1.out 8
              have xf8 := frozen_row X1.out 8
              have x9 : World.cell? _ ⟨w.heap.size + 1, 9, none⟩ = some (.int .i64 (zeroA).n) := cell_row X1.out 9
              have xf9 := frozen_row X1.out 9
              have x10 : World.cell? _ ⟨w.heap.size + 1, 10, none⟩ = some (.slice none 0 0) := cell_row X1.out 10
              have xf10 := frozen_row X1.out 10
              have x11 : World.cell? _ ⟨w.heap.size + 1, 11, none⟩ = some (.slice none 0 0) := cell_row X1.out 11
              have xf11 := frozen_row X1.out 11
              go_wp2_with fail
              clear x0 xf0 x1 xf1 x2 xf2 x3 xf3 x4 xf4 x5 xf5 x6 xf6 x7 xf7 x8 xf8 x9 xf9 x10 xf10 x11 xf11
              refine nm_calls (fun V2 hnm => ?_)
              have XV2 := Lib.hid (show ActIs V2 (w.heap.size + 1) ({ zeroA with kind := 6 }) (.slice none 0 0) (.slice none 0 0) (.slice none 0 0) by rw [hnm]; exact heap_setRow X1.out)
              have YV2 := Lib.hid (show ActIs V2 w.heap.size zeroA (.slice none 0 0) (.slice none 0 0) (.slice none 0 0) by rw [hnm]; exact row_other Y1.out (by omega))
              have OV2 := Lib.hid (show Only (fun b => b = B) w V2 by rw [hnm]; exact O1.out.late (by omega))
              have RV2 := Lib.hid (show Rdr Q B V2 c r1 from R1.out.keep (by rw [hnm]; exact Below.heap_setCell _ _ _ _ (by dsimp only; omega)) (fun b hq _ => ⟨hq, by rw [hnm]; exact Below.heap_setCell _ _ _ _ (by have := HQ.out b hq; dsimp only; omega)⟩) R1.out.1)
              have TV2 := Lib.hid (show Tabs V2 from T1.out.only (show Only (fun b => b = w.heap.size + 1) _ V2 by rw [hnm]; exact (Only.refl _ _).put rfl) (by rintro b rfl; omega))
              clear hnm
              have ZV2 := Lib.hid (show w.heap.size + 2 ≤ V2.heap.size by have := (Array.getElem?_eq_some_iff.1 XV2.out).1; omega)
              refine (ccrash_calls (kd := 6) RV2.out (show CrashIs V2 (w.heap.size + 1) 6 (.slice none 0 0) (.slice none 0 0) from XV2.out) (by omega) TV2.out hB8 (by omega) (fun b hb => by have := HQ.out b hb; omega) (fun b hb => by have := HQ.out b hb; have := ZV2.out; omega) HWL.out).mono ?_
              rw [HRC.out]
              rintro e V3 ⟨rfl, h2, o2, F, U, hxx, hF, hU⟩
              obtain ⟨AF, cF, hAF, hF1, hF2⟩ := Rep.acc_form hF
              obtain ⟨AU, cU, hAU, hU1, hU2⟩ := Rep.acc_form hU
              subst hAF hAU
              have SF := sl_of (Rep.acc_fresh hF)
              have SU := sl_of (Rep.acc_fresh hU)
              have HSF := Lib.hid SF
              have HSU := Lib.hid SU
              have RZ := Lib.hid h2
              have XZ := Lib.hid (show ActIs V3 (w.heap.size + 1) ({ zeroA with kind := 6, fates := rc.1.1, fuses := rc.1.2 }) (.slice none 0 0) (.slice AF rc.1.1.length cF) (.slice AU rc.1.2.length cU) from hxx)
              have YZ := Lib.hid (show ActIs V3 w.heap.size zeroA (.slice none 0 0) (.slice none 0 0) (.slice none 0 0) from row_only o2 YV2.out (by omega))
              have OZ := Lib.hid (only_new OV2.out o2 (by rintro b (rfl | rfl) <;> omega))
              have HG := Lib.hid (show ∀ b, V2.heap.size ≤ b → w.heap.size + 2 ≤ b from fun b hb => Nat.le_trans ZV2.out hb)
              clear h2 o2 hxx hF hU SF SU hF1 hF2 hU1 hU2
              go_wp2_with (with_reducible refine stopNil 50 rfl ?_)
              refine Lib.hid ?_
              have AZ := Lib.hid (show rAct.val (fun b => w.heap.size + 2 ≤ b) V3 (actAgg ({ zeroA with kind := 6, fates := rc.1.1, fuses := rc.1.2 }) (.slice none 0 0) (.slice AF rc.1.1.length cF) (.slice AU rc.1.2.length cU)) ({ zeroA with kind := 6, fates := rc.1.1, fuses := rc.1.2 }) from rAct_agg (x := { zeroA with kind := 6, fates := rc.1.1, fuses := rc.1.2 }) (A_cmd_data := none) (c_cmd_data := 0) (by show (Lit.int .i64 6).wf = true; decide) wf0 wf0 wf0 wf0 ⟨by simp [zeroA, zeroC], by simp [maxLen], [], rfl, fun h => absurd h (by simp [zeroA, zeroC])⟩ wf0 wf0 wf0 (HSF.out.keep (fun b hb _ => ⟨HG.out b hb, rfl⟩)) (HSU.out.keep (fun b hb _ => ⟨HG.out b hb, rfl⟩)))
              obtain ⟨A5, c5, q5, hq5, hq5m, hq5w⟩ := RZ.out.c5
              clear hq5 hq5m hq5w
              have q6 := RZ.out.c6
              have z6 := RZ.out.f6
              have HLZ := Lib.hid RZ.out
              cases hbad : (rc.2).bad with
              | true =>
                rw [hbad] at q6
                go_wp2_with (with_reducible refine stopLoad 35 3 rfl ?_)
                refine Lib.hid ?_
                clear q5 q6 z6
                refine nm_list (fun V6 hnm => ?_)
                have X6 := Lib.hid (show ActIs V6 (w.heap.size + 1) ({ zeroA with kind := 6, fates := rc.1.1, fuses := rc.1.2 }) (.slice none 0 0) (.slice AF rc.1.1.length cF) (.slice AU rc.1.2.length cU) by rw [hnm]; exact row_other XZ.out (by omega))
                have Y6 := Lib.hid (show ActIs V6 w.heap.size zeroA (.slice none 0 0) (.slice none 0 0) (.slice none 0 0) by rw [hnm]; exact row_other YZ.out (by omega))
                have R6 := Lib.hid (show Rdr Q B V6 c ⟨(rc.2).l, true⟩ by rw [hnm]; exact RZ.out.put6 true)
                have O6 := Lib.hid (show Only (fun b => b = B) w V6 by rw [hnm]; exact OZ.out.put rfl)
                have A6 := Lib.hid (show rAct.val (fun b => w.heap.size + 2 ≤ b) V6 (actAgg ({ zeroA with kind := 6, fates := rc.1.1, fuses := rc.1.2 }) (.slice none 0 0) (.slice AF rc.1.1.length cF) (.slice AU rc.1.2.length cU)) ({ zeroA with kind := 6, fates := rc.1.1, fuses := rc.1.2 }) from Rep.val_keep (fun b hb _ => ⟨hb, by rw [hnm]; exact Below.heap_setCell _ _ _ _ (by dsimp only; omega)⟩) AZ.out)
                clear hnm
                have x0 : World.cell? _ ⟨w.heap.size + 1, 0, none⟩ = some (.int .i64 ({ zeroA with kind := 6, fates := rc.1.1, fuses := rc.1.2 }).kind) := cell_row X6.out 0
                have xf0 := frozen_row X6.out 0
                have x1 : World.cell? _ ⟨w.heap.size + 1, 1, none⟩ = some (.int .i64 ({ zeroA with kind := 6, fates := rc.1.1, fuses := rc.1.2 }).cmd.kind) := cell_row X6.out 1
                have xf1 := frozen_row X6.out 1
                have x2 : World.cell? _ ⟨w.heap.size + 1, 2, none⟩ = some (.bool ({ zeroA with kind := 6, fates := rc.1.1, fuses := rc.1.2 }).cmd.loc) := cell_row X6.out 2
                have xf2 := frozen_row X6.out 2
                have x3 : World.cell? _ ⟨w.heap.size + 1, 3, none⟩ = some (.int .i64 ({ zeroA with kind := 6, fates := rc.1.1, fuses := rc.1.2 }).cmd.id.index) := cell_row X6.out 3
                have xf3 := frozen_row X6.out 3
                have x4 : World.cell? _ ⟨w.heap.size + 1, 4, none⟩ = some (.int .i64 ({ zeroA with kind := 6, fates := rc.1.1, fuses := rc.1.2 }).cmd.id.gen) := cell_row X6.out 4
                have xf4 := frozen_row X6.out 4
                have x5 : World.cell? _ ⟨w.heap.size + 1, 5, none⟩ = some (.int .i64 ({ zeroA with kind := 6, fates := rc.1.1, fuses := rc.1.2 }).cmd.comp) := cell_row X6.out 5
                have xf5 := frozen_row X6.out 5
                have x6 : World.cell? _ ⟨w.heap.size + 1, 6, none⟩ = some (.slice none 0 0) := cell_row X6.out 6
                have xf6 := frozen_row X6.out 6
                have x7 : World.cell? _ ⟨w.heap.size + 1, 7, none⟩ = some (.int .i64 ({ zeroA with kind := 6, fates := rc.1.1, fuses := rc.1.2 }).policy.room) := cell_row X6.out 7
                have xf7 := frozen_row X6.out 7
                have x8 : World.cell? _ ⟨w.heap.size + 1, 8, none⟩ = some (.int .i64 ({ zeroA with kind := 6, fates := rc.1.1, fuses := rc.1.2 }).policy.frames) := cell_row X6.out 8
                have xf8 := frozen_row X6.out 8
                have x9 : World.cell? _ ⟨w.heap.size + 1, 9, none⟩ = some (.int .i64 ({ zeroA with kind := 6, fates := rc.1.1, fuses := rc.1.2 }).n) := cell_row X6.out 9
                have xf9 := frozen_row X6.out 9
                have x10 : World.cell? _ ⟨w.heap.size + 1, 10, none⟩ = some (.slice AF rc.1.1.length cF) := cell_row X6.out 10
                have xf10 := frozen_row X6.out 10
                have x11 : World.cell? _ ⟨w.heap.size + 1, 11, none⟩ = some (.slice AU rc.1.2.length cU) := cell_row X6.out 11
                have xf11 := frozen_row X6.out 11
                have y0 : World.cell? _ ⟨w.heap.size, 0, none⟩ = some (.int .i64 (zeroA).kind) := cell_row Y6.out 0
                have yf0 := frozen_row Y6.out 0
                have y1 : World.cell? _ ⟨w.heap.size, 1, none⟩ = some (.int .i64 (zeroA).cmd.kind) := cell_row Y6.out 1
                have yf1 := frozen_row Y6.out 1
                have y2 : World.cell? _ ⟨w.heap.size, 2, none⟩ = some (.bool (zeroA).cmd.loc) := cell_row Y6.out 2
                have yf2 := frozen_row Y6.out 2
                have y3 : World.cell? _ ⟨w.heap.size, 3, none⟩ = some (.int .i64 (zeroA).cmd.id.index) := cell_row Y6.out 3
                have yf3 := frozen_row Y6.out 3
                have y4 : World.cell? _ ⟨w.heap.size, 4, none⟩ = some (.int .i64 (zeroA).cmd.id.gen) := cell_row Y6.out 4
                have yf4 := frozen_row Y6.out 4
                have y5 : World.cell? _ ⟨w.heap.size, 5, none⟩ = some (.int .i64 (zeroA).cmd.comp) := cell_row Y6.out 5
                have yf5 := frozen_row Y6.out 5
                have y6 : World.cell? _ ⟨w.heap.size, 6, none⟩ = some (.slice none 0 0) := cell_row Y6.out 6
                have yf6 := frozen_row Y6.out 6
                have y7 : World.cell? _ ⟨w.heap.size, 7, none⟩ = some (.int .i64 (zeroA).policy.room) := cell_row Y6.out 7
                have yf7 := frozen_row Y6.out 7
                have y8 : World.cell? _ ⟨w.heap.size, 8, none⟩ = some (.int .i64 (zeroA).policy.frames) := cell_row Y6.out 8
                have yf8 := frozen_row Y6.out 8
                have y9 : World.cell? _ ⟨w.heap.size, 9, none⟩ = some (.int .i64 (zeroA).n) := cell_row Y6.out 9
                have yf9 := frozen_row Y6.out 9
                have y10 : World.cell? _ ⟨w.heap.size, 10, none⟩ = some (.slice none 0 0) := cell_row Y6.out 10
                have yf10 := frozen_row Y6.out 10
                have y11 : World.cell? _ ⟨w.heap.size, 11, none⟩ = some (.slice none 0 0) := cell_row Y6.out 11
                have yf11 := frozen_row Y6.out 11
                go_wp2_with fail
                refine nm_post (fun W hnm => ?_)
                have RY := Lib.hid (show W.heap[w.heap.size]? = some (.cells (actRow ({ zeroA with kind := 6, fates := rc.1.1, fuses := rc.1.2 }) (.slice none 0 0) (.slice AF rc.1.1.length cF) (.slice AU rc.1.2.length cU)) 35 (0, 0)) by rw [hnm]; exact row12 Y6.out)
                have KY := Lib.hid (show ∀ b, b ≠ w.heap.size → W.heap[b]? = V6.heap[b]? from fun b hb => by rw [hnm]; exact (Below.heap_setCell _ _ _ _ hb).trans ((Below.heap_setCell _ _ _ _ hb).trans ((Below.heap_setCell _ _ _ _ hb).trans ((Below.heap_setCell _ _ _ _ hb).trans ((Below.heap_setCell _ _ _ _ hb).trans ((Below.heap_setCell _ _ _ _ hb).trans ((Below.heap_setCell _ _ _ _ hb).trans ((Below.heap_setCell _ _ _ _ hb).trans ((Below.heap_setCell _ _ _ _ hb).trans ((Below.heap_setCell _ _ _ _ hb).trans ((Below.heap_setCell _ _ _ _ hb).trans (Below.heap_setCell _ _ _ _ hb))))))))))))
                have OO := Lib.hid (show Only (fun b => b = B) w W by rw [hnm]; exact ((((((((((((O6.out).late (Nat.le_refl _)).late (Nat.le_refl _)).late (Nat.le_refl _)).late (Nat.le_refl _)).late (Nat.le_refl _)).late (Nat.le_refl _)).late (Nat.le_refl _)).late (Nat.le_refl _)).late (Nat.le_refl _)).late (Nat.le_refl _)).late (Nat.le_refl _)).late (Nat.le_refl _))
                clear hnm x0 xf0 x1 xf1 x2 xf2 x3 xf3 x4 xf4 x5 xf5 x6 xf6 x7 xf7 x8 xf8 x9 xf9 x10 xf10 x11 xf11 y0 yf0 y1 yf1 y2 yf2 y3 yf3 y4 yf4 y5 yf5 y6 yf6 y7 yf7 y8 yf8 y9 yf9 y10 yf10 y11 yf11
                have RR := Lib.hid (R6.out.keep (KY.out B (by omega)) (fun b hq _ => ⟨hq, KY.out b (by have := HQ.out b hq; omega)⟩) R6.out.1)
                have AA := Lib.hid (show rAct.val (fun b => w.heap.size ≤ b) W (actAgg ({ zeroA with kind := 6, fates := rc.1.1, fuses := rc.1.2 }) (.slice none 0 0) (.slice AF rc.1.1.length cF) (.slice AU rc.1.2.length cU)) ({ zeroA with kind := 6, fates := rc.1.1, fuses := rc.1.2 }) from Rep.val_keep (fun b hb _ => ⟨by omega, KY.out b (by omega)⟩) A6.out)
                have y0 : World.cell? _ ⟨w.heap.size, 0, none⟩ = some (.int .i64 ({ zeroA with kind := 6, fates := rc.1.1, fuses := rc.1.2 }).kind) := cell_row RY.out 0
                have y1 : World.cell? _ ⟨w.heap.size, 1, none⟩ = some (.int .i64 ({ zeroA with kind := 6, fates := rc.1.1, fuses := rc.1.2 }).cmd.kind) := cell_row RY.out 1
                have y2 : World.cell? _ ⟨w.heap.size, 2, none⟩ = some (.bool ({ zeroA with kind := 6, fates := rc.1.1, fuses := rc.1.2 }).cmd.loc) := cell_row RY.out 2
                have y3 : World.cell? _ ⟨w.heap.size, 3, none⟩ = some (.int .i64 ({ zeroA with kind := 6, fates := rc.1.1, fuses := rc.1.2 }).cmd.id.index) := cell_row RY.out 3
                have y4 : World.cell? _ ⟨w.heap.size, 4, none⟩ = some (.int .i64 ({ zeroA with kind := 6, fates := rc.1.1, fuses := rc.1.2 }).cmd.id.gen) := cell_row RY.out 4
                have y5 : World.cell? _ ⟨w.heap.size, 5, none⟩ = some (.int .i64 ({ zeroA with kind := 6, fates := rc.1.1, fuses := rc.1.2 }).cmd.comp) := cell_row RY.out 5
                have y6 : World.cell? _ ⟨w.heap.size, 6, none⟩ = some (.slice none 0 0) := cell_row RY.out 6
                have y7 : World.cell? _ ⟨w.heap.size, 7, none⟩ = some (.int .i64 ({ zeroA with kind := 6, fates := rc.1.1, fuses := rc.1.2 }).policy.room) := cell_row RY.out 7
                have y8 : World.cell? _ ⟨w.heap.size, 8, none⟩ = some (.int .i64 ({ zeroA with kind := 6, fates := rc.1.1, fuses := rc.1.2 }).policy.frames) := cell_row RY.out 8
                have y9 : World.cell? _ ⟨w.heap.size, 9, none⟩ = some (.int .i64 ({ zeroA with kind := 6, fates := rc.1.1, fuses := rc.1.2 }).n) := cell_row RY.out 9
                have y10 : World.cell? _ ⟨w.heap.size, 10, none⟩ = some (.slice AF rc.1.1.length cF) := cell_row RY.out 10
                have y11 : World.cell? _ ⟨w.heap.size, 11, none⟩ = some (.slice AU rc.1.2.length cU) := cell_row RY.out 11
                refine ⟨rfl, actAgg ({ zeroA with kind := 6, fates := rc.1.1, fuses := rc.1.2 }) (.slice none 0 0) (.slice AF rc.1.1.length cF) (.slice AU rc.1.2.length cU), by simp only [results, hfr]; go_simp; rfl, ?_⟩
                clear y0 y1 y2 y3 y4 y5 y6 y7 y8 y9 y10 y11
                exact ⟨_, rfl, AA.out, by first | (simpa [hbad] using RR.out) | (rw [hbad]; exact RR.out), OO.out⟩
              | false =>
                rw [hbad] at q6
                cases hll : (rc.2).l with
                | nil =>
                  rw [hll] at q5
                  simp only [List.length_nil] at q5
                  go_wp2_with (with_reducible refine stopLoad 35 3 rfl ?_)
                  refine Lib.hid ?_
                  clear q5 q6 z6
                  refine nm_list (fun V6 hnm => ?_)
                  have X6 := Lib.hid (show ActIs V6 (w.heap.size + 1) ({ zeroA with kind := 6, fates := rc.1.1, fuses := rc.1.2 }) (.slice none 0 0) (.slice AF rc.1.1.length cF) (.slice AU rc.1.2.length cU) by rw [hnm]; exact row_other XZ.out (by omega))
                  have Y6 := Lib.hid (show ActIs V6 w.heap.size zeroA (.slice none 0 0) (.slice none 0 0) (.slice none 0 0) by rw [hnm]; exact row_other YZ.out (by omega))
                  have R6 := Lib.hid (show Rdr Q B V6 c ⟨(rc.2).l, false⟩ by rw [hnm]; exact RZ.out.put6 false)
                  have O6 := Lib.hid (show Only (fun b => b = B) w V6 by rw [hnm]; exact OZ.out.put rfl)
                  have A6 := Lib.hid (show rAct.val (fun b => w.heap.size + 2 ≤ b) V6 (actAgg ({ zeroA with kind := 6, fates := rc.1.1, fuses := rc.1.2 }) (.slice none 0 0) (.slice AF rc.1.1.length cF) (.slice AU rc.1.2.length cU)) ({ zeroA with kind := 6, fates := rc.1.1, fuses := rc.1.2 }) from Rep.val_keep (fun b hb _ => ⟨hb, by rw [hnm]; exact Below.heap_setCell _ _ _ _ (by dsimp only; omega)⟩) AZ.out)
                  clear hnm
                  have x0 : World.cell? _ ⟨w.heap.size + 1, 0, none⟩ = some (.int .i64 ({ zeroA with kind := 6, fates := rc.1.1, fuses := rc.1.2 }).kind) := cell_row X6.out 0
                  have xf0 := frozen_row X6.out 0
                  have x1 : World.cell? _ ⟨w.heap.size + 1, 1, none⟩ = some (.int .i64 ({ zeroA with kind := 6, fates := rc.1.1, fuses := rc.1.2 }).cmd.kind) := cell_row X6.out 1
                  have xf1 := frozen_row X6.out 1
                  have x2 : World.cell? _ ⟨w.heap.size + 1, 2, none⟩ = some (.bool ({ zeroA with kind := 6, fates := rc.1.1, fuses := rc.1.2 }).cmd.loc) := cell_row X6.out 2
                  have xf2 := frozen_row X6.out 2
                  have x3 : World.cell? _ ⟨w.heap.size + 1, 3, none⟩ = some (.int .i64 ({ zeroA with kind := 6, fates := rc.1.1, fuses := rc.1.2 }).cmd.id.index) := cell_row X6.out 3
                  have xf3 := frozen_row X6.out 3
                  have x4 : World.cell? _ ⟨w.heap.size + 1, 4, none⟩ = some (.int .i64 ({ zeroA with kind := 6, fates := rc.1.1, fuses := rc.1.2 }).cmd.id.gen) := cell_row X6.out 4
                  have xf4 := frozen_row X6.out 4
                  have x5 : World.cell? _ ⟨w.heap.size + 1, 5, none⟩ = some (.int .i64 ({ zeroA with kind := 6, fates := rc.1.1, fuses := rc.1.2 }).cmd.comp) := cell_row X6.out 5
                  have xf5 := frozen_row X6.out 5
                  have x6 : World.cell? _ ⟨w.heap.size + 1, 6, none⟩ = some (.slice none 0 0) := cell_row X6.out 6
                  have xf6 := frozen_row X6.out 6
                  have x7 : World.cell? _ ⟨w.heap.size + 1, 7, none⟩ = some (.int .i64 ({ zeroA with kind := 6, fates := rc.1.1, fuses := rc.1.2 }).policy.room) := cell_row X6.out 7
                  have xf7 := frozen_row X6.out 7
                  have x8 : World.cell? _ ⟨w.heap.size + 1, 8, none⟩ = some (.int .i64 ({ zeroA with kind := 6, fates := rc.1.1, fuses := rc.1.2 }).policy.frames) := cell_row X6.out 8
                  have xf8 := frozen_row X6.out 8
                  have x9 : World.cell? _ ⟨w.heap.size + 1, 9, none⟩ = some (.int .i64 ({ zeroA with kind := 6, fates := rc.1.1, fuses := rc.1.2 }).n) := cell_row X6.out 9
                  have xf9 := frozen_row X6.out 9
                  have x10 : World.cell? _ ⟨w.heap.size + 1, 10, none⟩ = some (.slice AF rc.1.1.length cF) := cell_row X6.out 10
                  have xf10 := frozen_row X6.out 10
                  have x11 : World.cell? _ ⟨w.heap.size + 1, 11, none⟩ = some (.slice AU rc.1.2.length cU) := cell_row X6.out 11
                  have xf11 := frozen_row X6.out 11
                  have y0 : World.cell? _ ⟨w.heap.size, 0, none⟩ = some (.int .i64 (zeroA).kind) := cell_row Y6.out 0
                  have yf0 := frozen_row Y6.out 0
                  have y1 : World.cell? _ ⟨w.heap.size, 1, none⟩ = some (.int .i64 (zeroA).cmd.kind) := cell_row Y6.out 1
                  have yf1 := frozen_row Y6.out 1
                  have y2 : World.cell? _ ⟨w.heap.size, 2, none⟩ = some (.bool (zeroA).cmd.loc) := cell_row Y6.out 2
                  have yf2 := frozen_row Y6.out 2
                  have y3 : World.cell? _ ⟨w.heap.size, 3, none⟩ = some (.int .i64 (zeroA).cmd.id.index) := cell_row Y6.out 3
                  have yf3 := frozen_row Y6.out 3
                  have y4 : World.cell? _ ⟨w.heap.size, 4, none⟩ = some (.int .i64 (zeroA).cmd.id.gen) := cell_row Y6.out 4
                  have yf4 := frozen_row Y6.out 4
                  have y5 : World.cell? _ ⟨w.heap.size, 5, none⟩ = some (.int .i64 (zeroA).cmd.comp) := cell_row Y6.out 5
                  have yf5 := frozen_row Y6.out 5
                  have y6 : World.cell? _ ⟨w.heap.size, 6, none⟩ = some (.slice none 0 0) := cell_row Y6.out 6
                  have yf6 := frozen_row Y6.out 6
                  have y7 : World.cell? _ ⟨w.heap.size, 7, none⟩ = some (.int .i64 (zeroA).policy.room) := cell_row Y6.out 7
                  have yf7 := frozen_row Y6.out 7
                  have y8 : World.cell? _ ⟨w.heap.size, 8, none⟩ = some (.int .i64 (zeroA).policy.frames) := cell_row Y6.out 8
                  have yf8 := frozen_row Y6.out 8
                  have y9 : World.cell? _ ⟨w.heap.size, 9, none⟩ = some (.int .i64 (zeroA).n) := cell_row Y6.out 9
                  have yf9 := frozen_row Y6.out 9
                  have y10 : World.cell? _ ⟨w.heap.size, 10, none⟩ = some (.slice none 0 0) := cell_row Y6.out 10
                  have yf10 := frozen_row Y6.out 10
                  have y11 : World.cell? _ ⟨w.heap.size, 11, none⟩ = some (.slice none 0 0) := cell_row Y6.out 11
                  have yf11 := frozen_row Y6.out 11
                  go_wp2_with fail
                  refine nm_post (fun W hnm => ?_)
                  have RY := Lib.hid (show W.heap[w.heap.size]? = some (.cells (actRow ({ zeroA with kind := 6, fates := rc.1.1, fuses := rc.1.2 }) (.slice none 0 0) (.slice AF rc.1.1.length cF) (.slice AU rc.1.2.length cU)) 35 (0, 0)) by rw [hnm]; exact row12 Y6.out)
                  have KY := Lib.hid (show ∀ b, b ≠ w.heap.size → W.heap[b]? = V6.heap[b]? from fun b hb => by rw [hnm]; exact (Below.heap_setCell _ _ _ _ hb).trans ((Below.heap_setCell _ _ _ _ hb).trans ((Below.heap_setCell _ _ _ _ hb).trans ((Below.heap_setCell _ _ _ _ hb).trans ((Below.heap_setCell _ _ _ _ hb).trans ((Below.heap_setCell _ _ _ _ hb).trans ((Below.heap_setCell _ _ _ _ hb).trans ((Below.heap_setCell _ _ _ _ hb).trans ((Below.heap_setCell _ _ _ _ hb).trans ((Below.heap_setCell _ _ _ _ hb).trans ((Below.heap_setCell _ _ _ _ hb).trans (Below.heap_setCell _ _ _ _ hb))))))))))))
                  have OO := Lib.hid (show Only (fun b => b = B) w W by rw [hnm]; exact ((((((((((((O6.out).late (Nat.le_refl _)).late (Nat.le_refl _)).late (Nat.le_refl _)).late (Nat.le_refl _)).late (Nat.le_refl _)).late (Nat.le_refl _)).late (Nat.le_refl _)).late (Nat.le_refl _)).late (Nat.le_refl _)).late (Nat.le_refl _)).late (Nat.le_refl _)).late (Nat.le_refl _))
                  clear hnm x0 xf0 x1 xf1 x2 xf2 x3 xf3 x4 xf4 x5 xf5 x6 xf6 x7 xf7 x8 xf8 x9 xf9 x10 xf10 x11 xf11 y0 yf0 y1 yf1 y2 yf2 y3 yf3 y4 yf4 y5 yf5 y6 yf6 y7 yf7 y8 yf8 y9 yf9 y10 yf10 y11 yf11
                  have RR := Lib.hid (R6.out.keep (KY.out B (by omega)) (fun b hq _ => ⟨hq, KY.out b (by have := HQ.out b hq; omega)⟩) R6.out.1)
                  have AA := Lib.hid (show rAct.val (fun b => w.heap.size ≤ b) W (actAgg ({ zeroA with kind := 6, fates := rc.1.1, fuses := rc.1.2 }) (.slice none 0 0) (.slice AF rc.1.1.length cF) (.slice AU rc.1.2.length cU)) ({ zeroA with kind := 6, fates := rc.1.1, fuses := rc.1.2 }) from Rep.val_keep (fun b hb _ => ⟨by omega, KY.out b (by omega)⟩) A6.out)
                  have y0 : World.cell? _ ⟨w.heap.size, 0, none⟩ = some (.int .i64 ({ zeroA with kind := 6, fates := rc.1.1, fuses := rc.1.2 }).kind) := cell_row RY.out 0
                  have y1 : World.cell? _ ⟨w.heap.size, 1, none⟩ = some (.int .i64 ({ zeroA with kind := 6, fates := rc.1.1, fuses := rc.1.2 }).cmd.kind) := cell_row RY.out 1
                  have y2 : World.cell? _ ⟨w.heap.size, 2, none⟩ = some (.bool ({ zeroA with kind := 6, fates := rc.1.1, fuses := rc.1.2 }).cmd.loc) := cell_row RY.out 2
                  have y3 : World.cell? _ ⟨w.heap.size, 3, none⟩ = some (.int .i64 ({ zeroA with kind := 6, fates := rc.1.1, fuses := rc.1.2 }).cmd.id.index) := cell_row RY.out 3
                  have y4 : World.cell? _ ⟨w.heap.size, 4, none⟩ = some (.int .i64 ({ zeroA with kind := 6, fates := rc.1.1, fuses := rc.1.2 }).cmd.id.gen) := cell_row RY.out 4
                  have y5 : World.cell? _ ⟨w.heap.size, 5, none⟩ = some (.int .i64 ({ zeroA with kind := 6, fates := rc.1.1, fuses := rc.1.2 }).cmd.comp) := cell_row RY.out 5
                  have y6 : World.cell? _ ⟨w.heap.size, 6, none⟩ = some (.slice none 0 0) := cell_row RY.out 6
                  have y7 : World.cell? _ ⟨w.heap.size, 7, none⟩ = some (.int .i64 ({ zeroA with kind := 6, fates := rc.1.1, fuses := rc.1.2 }).policy.room) := cell_row RY.out 7
                  have y8 : World.cell? _ ⟨w.heap.size, 8, none⟩ = some (.int .i64 ({ zeroA with kind := 6, fates := rc.1.1, fuses := rc.1.2 }).policy.frames) := cell_row RY.out 8
                  have y9 : World.cell? _ ⟨w.heap.size, 9, none⟩ = some (.int .i64 ({ zeroA with kind := 6, fates := rc.1.1, fuses := rc.1.2 }).n) := cell_row RY.out 9
                  have y10 : World.cell? _ ⟨w.heap.size, 10, none⟩ = some (.slice AF rc.1.1.length cF) := cell_row RY.out 10
                  have y11 : World.cell? _ ⟨w.heap.size, 11, none⟩ = some (.slice AU rc.1.2.length cU) := cell_row RY.out 11
                  refine ⟨rfl, actAgg ({ zeroA with kind := 6, fates := rc.1.1, fuses := rc.1.2 }) (.slice none 0 0) (.slice AF rc.1.1.length cF) (.slice AU rc.1.2.length cU), by simp only [results, hfr]; go_simp; rfl, ?_⟩
                  clear y0 y1 y2 y3 y4 y5 y6 y7 y8 y9 y10 y11
                  exact ⟨_, rfl, AA.out, by first | (simpa [hbad, hll] using RR.out) | (rw [hbad, hll]; rw [hll] at RR; exact RR.out), OO.out⟩
                | cons y m =>
                  rw [hll] at q5
                  simp only [List.length_cons] at q5
                  have hpp : (0 : Int) < ((m.length + 1 : Nat) : Int) := by omega
                  have hpq : (0 : Int) < (m.length : Int) + 1 := by omega
                  generalize m.length = ml at *
                  go_wp2_with (with_reducible refine stopLoad 35 3 rfl ?_)
                  refine Lib.hid ?_
                  clear q5 q6 z6
                  refine nm_list (fun V6 hnm => ?_)
                  have X6 := Lib.hid (show ActIs V6 (w.heap.size + 1) ({ zeroA with kind := 6, fates := rc.1.1, fuses := rc.1.2 }) (.slice none 0 0) (.slice AF rc.1.1.length cF) (.slice AU rc.1.2.length cU) by rw [hnm]; exact row_other XZ.out (by omega))
                  have Y6 := Lib.hid (show ActIs V6 w.heap.size zeroA (.slice none 0 0) (.slice none 0 0) (.slice none 0 0) by rw [hnm]; exact row_other YZ.out (by omega))
                  have R6 := Lib.hid (show Rdr Q B V6 c ⟨(rc.2).l, true⟩ by rw [hnm]; exact RZ.out.put6 true)
                  have O6 := Lib.hid (show Only (fun b => b = B) w V6 by rw [hnm]; exact OZ.out.put rfl)
                  have A6 := Lib.hid (show rAct.val (fun b => w.heap.size + 2 ≤ b) V6 (actAgg ({ zeroA with kind := 6, fates := rc.1.1, fuses := rc.1.2 }) (.slice none 0 0) (.slice AF rc.1.1.length cF) (.slice AU rc.1.2.length cU)) ({ zeroA with kind := 6, fates := rc.1.1, fuses := rc.1.2 }) from Rep.val_keep (fun b hb _ => ⟨hb, by rw [hnm]; exact Below.heap_setCell _ _ _ _ (by dsimp only; omega)⟩) AZ.out)
                  clear hnm
                  have x0 : World.cell? _ ⟨w.heap.size + 1, 0, none⟩ = some (.int .i64 ({ zeroA with kind := 6, fates := rc.1.1, fuses := rc.1.2 }).kind) := cell_row X6.out 0
                  have xf0 := frozen_row X6.out 0
                  have x1 : World.cell? _ ⟨w.heap.size + 1, 1, none⟩ = some (.int .i64 ({ zeroA with kind := 6, fates := rc.1.1, fuses := rc.1.2 }).cmd.kind) := cell_row X6.out 1
                  have xf1 := frozen_row X6.out 1
                  have x2 : World.cell? _ ⟨w.heap.size + 1, 2, none⟩ = some (.bool ({ zeroA with kind := 6, fates := rc.1.1, fuses := rc.1.2 }).cmd.loc) := cell_row X6.out 2
                  have xf2 := frozen_row X6.out 2
                  have x3 : World.cell? _ ⟨w.heap.size + 1, 3, none⟩ = some (.int .i64 ({ zeroA with kind := 6, fates := rc.1.1, fuses := rc.1.2 }).cmd.id.index) := cell_row X6.out 3
                  have xf3 := frozen_row X6.out 3
                  have x4 : World.cell? _ ⟨w.heap.size + 1, 4, none⟩ = some (.int .i64 ({ zeroA with kind := 6, fates := rc.1.1, fuses := rc.1.2 }).cmd.id.gen) := cell_row X6.out 4
                  have xf4 := frozen_row X6.out 4
                  have x5 : World.cell? _ ⟨w.heap.size + 1, 5, none⟩ = some (.int .i64 ({ zeroA with kind := 6, fates := rc.1.1, fuses := rc.1.2 }).cmd.comp) := cell_row X6.out 5
                  have xf5 := frozen_row X6.out 5
                  have x6 : World.cell? _ ⟨w.heap.size + 1, 6, none⟩ = some (.slice none 0 0) := cell_row X6.out 6
                  have xf6 := frozen_row X6.out 6
                  have x7 : World.cell? _ ⟨w.heap.size + 1, 7, none⟩ = some (.int .i64 ({ zeroA with kind := 6, fates := rc.1.1, fuses := rc.1.2 }).policy.room) := cell_row X6.out 7
                  have xf7 := frozen_row X6.out 7
                  have x8 : World.cell? _ ⟨w.heap.size + 1, 8, none⟩ = some (.int .i64 ({ zeroA with kind := 6, fates := rc.1.1, fuses := rc.1.2 }).policy.frames) := cell_row X6.out 8
                  have xf8 := frozen_row X6.out 8
                  have x9 : World.cell? _ ⟨w.heap.size + 1, 9, none⟩ = some (.int .i64 ({ zeroA with kind := 6, fates := rc.1.1, fuses := rc.1.2 }).n) := cell_row X6.out 9
                  have xf9 := frozen_row X6.out 9
                  have x10 : World.cell? _ ⟨w.heap.size + 1, 10, none⟩ = some (.slice AF rc.1.1.length cF) := cell_row X6.out 10
                  have xf10 := frozen_row X6.out 10
                  have x11 : World.cell? _ ⟨w.heap.size + 1, 11, none⟩ = some (.slice AU rc.1.2.length cU) := cell_row X6.out 11
                  have xf11 := frozen_row X6.out 11
                  have y0 : World.cell? _ ⟨w.heap.size, 0, none⟩ = some (.int .i64 (zeroA).kind) := cell_row Y6.out 0
                  have yf0 := frozen_row Y6.out 0
                  have y1 : World.cell? _ ⟨w.heap.size, 1, none⟩ = some (.int .i64 (zeroA).cmd.kind) := cell_row Y6.out 1
                  have yf1 := frozen_row Y6.out 1
                  have y2 : World.cell? _ ⟨w.heap.size, 2, none⟩ = some (.bool (zeroA).cmd.loc) := cell_row Y6.out 2
                  have yf2 := frozen_row Y6.out 2
                  have y3 : World.cell? _ ⟨w.heap.size, 3, none⟩ = some (.int .i64 (zeroA).cmd.id.index) := cell_row Y6.out 3
                  have yf3 := frozen_row Y6.out 3
                  have y4 : World.cell? _ ⟨w.heap.size, 4, none⟩ = some (.int .i64 (zeroA).cmd.id.gen) := cell_row Y6.out 4
                  have yf4 := frozen_row Y6.out 4
                  have y5 : World.cell? _ ⟨w.heap.size, 5, none⟩ = some (.int .i64 (zeroA).cmd.comp) := cell_row Y6.out 5
                  have yf5 := frozen_row Y6.out 5
                  have y6 : World.cell? _ ⟨w.heap.size, 6, none⟩ = some (.slice none 0 0) := cell_row Y6.out 6
                  have yf6 := frozen_row Y6.out 6
                  have y7 : World.cell? _ ⟨w.heap.size, 7, none⟩ = some (.int .i64 (zeroA).policy.room) := cell_row Y6.out 7
                  have yf7 := frozen_row Y6.out 7
                  have y8 : World.cell? _ ⟨w.heap.size, 8, none⟩ = some (.int .i64 (zeroA).policy.frames) := cell_row Y6.out 8
                  have yf8 := frozen_row Y6.out 8
                  have y9 : World.cell? _ ⟨w.heap.size, 9, none⟩ = some (.int .i64 (zeroA).n) := cell_row Y6.out 9
                  have yf9 := frozen_row Y6.out 9
                  have y10 : World.cell? _ ⟨w.heap.size, 10, none⟩ = some (.slice none 0 0) := cell_row Y6.out 10
                  have yf10 := frozen_row Y6.out 10
                  have y11 : World.cell? _ ⟨w.heap.size, 11, none⟩ = some (.slice none 0 0) := cell_row Y6.out 11
                  have yf11 := frozen_row Y6.out 11
                  go_wp2_with fail
                  refine nm_post (fun W hnm => ?_)
                  have RY := Lib.hid (show W.heap[w.heap.size]? = some (.cells (actRow ({ zeroA with kind := 6, fates := rc.1.1, fuses := rc.1.2 }) (.slice none 0 0) (.slice AF rc.1.1.length cF) (.slice AU rc.1.2.length cU)) 35 (0, 0)) by rw [hnm]; exact row12 Y6.out)
                  have KY := Lib.hid (show ∀ b, b ≠ w.heap.size → W.heap[b]? = V6.heap[b]? from fun b hb => by rw [hnm]; exact (Below.heap_setCell _ _ _ _ hb).trans ((Below.heap_setCell _ _ _ _ hb).trans ((Below.heap_setCell _ _ _ _ hb).trans ((Below.heap_setCell _ _ _ _ hb).trans ((Below.heap_setCell _ _ _ _ hb).trans ((Below.heap_setCell _ _ _ _ hb).trans ((Below.heap_setCell _ _ _ _ hb).trans ((Below.heap_setCell _ _ _ _ hb).trans ((Below.heap_setCell _ _ _ _ hb).trans ((Below.heap_setCell _ _ _ _ hb).trans ((Below.heap_setCell _ _ _ _ hb).trans (Below.heap_setCell _ _ _ _ hb))))))))))))
                  have OO := Lib.hid (show Only (fun b => b = B) w W by rw [hnm]; exact ((((((((((((O6.out).late (Nat.le_refl _)).late (Nat.le_refl _)).late (Nat.le_refl _)).late (Nat.le_refl _)).late (Nat.le_refl _)).late (Nat.le_refl _)).late (Nat.le_refl _)).late (Nat.le_refl _)).late (Nat.le_refl _)).late (Nat.le_refl _)).late (Nat.le_refl _)).late (Nat.le_refl _))
                  clear hnm x0 xf0 x1 xf1 x2 xf2 x3 xf3 x4 xf4 x5 xf5 x6 xf6 x7 xf7 x8 xf8 x9 xf9 x10 xf10 x11 xf11 y0 yf0 y1 yf1 y2 yf2 y3 yf3 y4 yf4 y5 yf5 y6 yf6 y7 yf7 y8 yf8 y9 yf9 y10 yf10 y11 yf11
                  have RR := Lib.hid (R6.out.keep (KY.out B (by omega)) (fun b hq _ => ⟨hq, KY.out b (by have := HQ.out b hq; omega)⟩) R6.out.1)
                  have AA := Lib.hid (show rAct.val (fun b => w.heap.size ≤ b) W (actAgg ({ zeroA with kind := 6, fates := rc.1.1, fuses := rc.1.2 }) (.slice none 0 0) (.slice AF rc.1.1.length cF) (.slice AU rc.1.2.length cU)) ({ zeroA with kind := 6, fates := rc.1.1, fuses := rc.1.2 }) from Rep.val_keep (fun b hb _ => ⟨by omega, KY.out b (by omega)⟩) A6.out)
                  have y0 : World.cell? _ ⟨w.heap.size, 0, none⟩ = some (.int .i64 ({ zeroA with kind := 6, fates := rc.1.1, fuses := rc.1.2 }).kind) := cell_row RY.out 0
                  have y1 : World.cell? _ ⟨w.heap.size, 1, none⟩ = some (.int .i64 ({ zeroA with kind := 6, fates := rc.1.1, fuses := rc.1.2 }).cmd.kind) := cell_row RY.out 1
                  have y2 : World.cell? _ ⟨w.heap.size, 2, none⟩ = some (.bool ({ zeroA with kind := 6, fates := rc.1.1, fuses := rc.1.2 }).cmd.loc) := cell_row RY.out 2
                  have y3 : World.cell? _ ⟨w.heap.size, 3, none⟩ = some (.int .i64 ({ zeroA with kind := 6, fates := rc.1.1, fuses := rc.1.2 }).cmd.id.index) := cell_row RY.out 3
                  have y4 : World.cell? _ ⟨w.heap.size, 4, none⟩ = some (.int .i64 ({ zeroA with kind := 6, fates := rc.1.1, fuses := rc.1.2 }).cmd.id.gen) := cell_row RY.out 4
                  have y5 : World.cell? _ ⟨w.heap.size, 5, none⟩ = some (.int .i64 ({ zeroA with kind := 6, fates := rc.1.1, fuses := rc.1.2 }).cmd.comp) := cell_row RY.out 5
                  have y6 : World.cell? _ ⟨w.heap.size, 6, none⟩ = some (.slice none 0 0) := cell_row RY.out 6
                  have y7 : World.cell? _ ⟨w.heap.size, 7, none⟩ = some (.int .i64 ({ zeroA with kind := 6, fates := rc.1.1, fuses := rc.1.2 }).policy.room) := cell_row RY.out 7
                  have y8 : World.cell? _ ⟨w.heap.size, 8, none⟩ = some (.int .i64 ({ zeroA with kind := 6, fates := rc.1.1, fuses := rc.1.2 }).policy.frames) := cell_row RY.out 8
                  have y9 : World.cell? _ ⟨w.heap.size, 9, none⟩ = some (.int .i64 ({ zeroA with kind := 6, fates := rc.1.1, fuses := rc.1.2 }).n) := cell_row RY.out 9
                  have y10 : World.cell? _ ⟨w.heap.size, 10, none⟩ = some (.slice AF rc.1.1.length cF) := cell_row RY.out 10
                  have y11 : World.cell? _ ⟨w.heap.size, 11, none⟩ = some (.slice AU rc.1.2.length cU) := cell_row RY.out 11
                  refine ⟨rfl, actAgg ({ zeroA with kind := 6, fates := rc.1.1, fuses := rc.1.2 }) (.slice none 0 0) (.slice AF rc.1.1.length cF) (.slice AU rc.1.2.length cU), by simp only [results, hfr]; go_simp; rfl, ?_⟩
                  clear y0 y1 y2 y3 y4 y5 y6 y7 y8 y9 y10 y11
                  exact ⟨_, rfl, AA.out, by first | (simpa [hbad, hll] using RR.out) | (rw [hbad, hll]; rw [hll] at RR; exact RR.out), OO.out⟩
            · rw [if_neg hs5]
              have b5 : (s == [99, 114, 97, 115, 104]) = false := by simpa [wCrash] using hs5
              have x0 : World.cell? _ ⟨w.heap.size + 1, 0, none⟩ = some (.int .i64 (zeroA).kind) := cell_row X0.out 0
              have xf0 := frozen_row X0.out 0
              have x1 : World.cell? _ ⟨w.heap.size + 1, 1, none⟩ = some (.int .i64 (zeroA).cmd.kind) := cell_row X0.out 1
              have xf1 := frozen_row X0.out 1
              have x2 : World.cell? _ ⟨w.heap.size + 1, 2, none⟩ = some (.bool (zeroA).cmd.loc) := cell_row X0.out 2
              have xf2 := frozen_row X0.out 2
              have x3 : World.cell? _ ⟨w.heap.size + 1, 3, none⟩ = some (.int .i64 (zeroA).cmd.id.index) := cell_row X0.out 3
              have xf3 := frozen_row X0.out 3
              have x4 : World.cell? _ ⟨w.heap.size + 1, 4, none⟩ = some (.int .i64 (zeroA).cmd.id.gen) := cell_row X0.out 4
              have xf4 := frozen_row X0.out 4
              have x5 : World.cell? _ ⟨w.heap.size + 1, 5, none⟩ = some (.int .i64 (zeroA).cmd.comp) := cell_row X0.out 5
              have xf5 := frozen_row X0.out 5
              have x6 : World.cell? _ ⟨w.heap.size + 1, 6, none⟩ = some (.slice none 0 0) := cell_row X0.out 6
              have xf6 := frozen_row X0.out 6
              have x7 : World.cell? _ ⟨w.heap.size + 1, 7, none⟩ = some (.int .i64 (zeroA).policy.room) := cell_row X0.out 7
              have xf7 := frozen_row X0.out 7
              have x8 : World.cell? _ ⟨w.heap.size + 1, 8, none⟩ = some (.int .i64 (zeroA).policy.frames) := cell_row X0.out 8
              have xf8 := frozen_row X0.out 8
              have x9 : World.cell? _ ⟨w.heap.size + 1, 9, none⟩ = some (.int .i64 (zeroA).n) := cell_row X0.out 9
              have xf9 := frozen_row X0.out 9
              have x10 : World.cell? _ ⟨w.heap.size + 1, 10, none⟩ = some (.slice none 0 0) := cell_row X0.out 10
              have xf10 := frozen_row X0.out 10
              have x11 : World.cell? _ ⟨w.heap.size + 1, 11, none⟩ = some (.slice none 0 0) := cell_row X0.out 11
              have xf11 := frozen_row X0.out 11
              obtain ⟨rc, hrc⟩ : ∃ rc, r1.command c.comps s = rc := ⟨_, rfl⟩
              rw [hrc]
              have HRC := Lib.hid hrc
              clear hrc
              go_enter Tryz.func30, Tryz.ntmps30
              go_wp2_with fail
              try rw [hW0]
              clear hW0
              clear x0 xf0 x1 xf1 x2 xf2 x3 xf3 x4 xf4 x5 xf5 x6 xf6 x7 xf7 x8 xf8 x9 xf9 x10 xf10 x11 xf11
              refine (HWDC.out).mono ?_
              rintro e w1 ⟨rfl, h1, o1⟩
              have R1 := Lib.hid h1
              have O1 := Lib.hid (O0.out.trans o1)
              have T1 := Lib.hid (T0.out.only o1 (by rintro b rfl; omega))
              have X1 := Lib.hid (show ActIs w1 (w.heap.size + 1) zeroA (.slice none 0 0) (.slice none 0 0) (.slice none 0 0) from row_only o1 X0.out (by omega))
              have Y1 := Lib.hid (show ActIs w1 w.heap.size zeroA (.slice none 0 0) (.slice none 0 0) (.slice none 0 0) from row_only o1 Y0.out (by omega))
              have hz1 := O1.out.size
              have hz1x : w.heap.size + 2 ≤ w1.heap.size := by have := o1.size; omega
              clear h1 o1
              have x0 : World.cell? _ ⟨w.heap.size + 1, 0, none⟩ = some (.int .i64 (zeroA).kind) := cell_row X1.out 0
              have xf0 := frozen_row X1.out 0
              have x1 : World.cell? _ ⟨w.heap.size + 1, 1, none⟩ = some (.int .i64 (zeroA).cmd.kind) := cell_row X1.out 1
              have xf1 := frozen_row X1.out 1
              have x2 : World.cell? _ ⟨w.heap.size + 1, 2, none⟩ = some (.bool (zeroA).cmd.loc) := cell_row X1.out 2
              have xf2 := frozen_row X1.out 2
              have x3 : World.cell? _ ⟨w.heap.size + 1, 3, none⟩ = some (.int .i64 (zeroA).cmd.id.index) := cell_row X1.out 3
              have xf3 := frozen_row X1.out 3
              have x4 : World.cell? _ ⟨w.heap.size + 1, 4, none⟩ = some (.int .i64 (zeroA).cmd.id.gen) := cell_row X1.out 4
              have xf4 := frozen_row X1.out 4
              have x5 : World.cell? _ ⟨w.heap.size + 1, 5, none⟩ = some (.int .i64 (zeroA).cmd.comp) := cell_row X1.out 5
              have xf5 := frozen_row X1.out 5
              have x6 : World.cell? _ ⟨w.heap.size + 1, 6, none⟩ = some (.slice none 0 0) := cell_row X1.out 6
              have xf6 := frozen_row X1.out 6
              have x7 : World.cell? _ ⟨w.heap.size + 1, 7, none⟩ = some (.int .i64 (zeroA).policy.room) := cell_row X1.out 7
              have xf7 := frozen_row X1.out 7
              have x8 : World.cell? _ ⟨w.heap.size + 1, 8, none⟩ = some (.int .i64 (zeroA).policy.frames) := cell_row X1.out 8
              have xf8 := frozen_row X1.out 8
              have x9 : World.cell? _ ⟨w.heap.size + 1, 9, none⟩ = some (.int .i64 (zeroA).n) := cell_row X1.out 9
              have xf9 := frozen_row X1.out 9
              have x10 : World.cell? _ ⟨w.heap.size + 1, 10, none⟩ = some (.slice none 0 0) := cell_row X1.out 10
              have xf10 := frozen_row X1.out 10
              have x11 : World.cell? _ ⟨w.heap.size + 1, 11, none⟩ = some (.slice none 0 0) := cell_row X1.out 11
              have xf11 := frozen_row X1.out 11
              go_wp2_with fail
              clear x0 xf0 x1 xf1 x2 xf2 x3 xf3 x4 xf4 x5 xf5 x6 xf6 x7 xf7 x8 xf8 x9 xf9 x10 xf10 x11 xf11
              refine (ccommand_calls R1.out s T1.out hB8 (fun b hb => by have := HQ.out b hb; omega)).mono ?_
              rw [HRC.out]
              rintro e V2 ⟨v, rfl, hv, h2, o2⟩
              obtain ⟨AD, cD, rfl, f0, f1, f2, f3, fS⟩ := rCmd_val hv
              have R2 := Lib.hid h2
              have X2 := Lib.hid (show ActIs V2 (w.heap.size + 1) zeroA (.slice none 0 0) (.slice none 0 0) (.slice none 0 0) from row_only o2 X1.out (by omega))
              have Y2 := Lib.hid (show ActIs V2 w.heap.size zeroA (.slice none 0 0) (.slice none 0 0) (.slice none 0 0) from row_only o2 Y1.out (by omega))
              have O2 := Lib.hid (O1.out.trans o2)
              have HF := Lib.hid (And.intro f0 (And.intro f1 (And.intro f2 f3)))
              have HS := Lib.hid fS
              clear hv h2 o2 f0 f1 f2 f3 fS
              have x0 : World.cell? _ ⟨w.heap.size + 1, 0, none⟩ = some (.int .i64 (zeroA).kind) := cell_row X2.out 0
              have xf0 := frozen_row X2.out 0
              have x1 : World.cell? _ ⟨w.heap.size + 1, 1, none⟩ = some (.int .i64 (zeroA).cmd.kind) := cell_row X2.out 1
              have xf1 := frozen_row X2.out 1
              have x2 : World.cell? _ ⟨w.heap.size + 1, 2, none⟩ = some (.bool (zeroA).cmd.loc) := cell_row X2.out 2
              have xf2 := frozen_row X2.out 2
              have x3 : World.cell? _ ⟨w.heap.size + 1, 3, none⟩ = some (.int .i64 (zeroA).cmd.id.index) := cell_row X2.out 3
              have xf3 := frozen_row X2.out 3
              have x4 : World.cell? _ ⟨w.heap.size + 1, 4, none⟩ = some (.int .i64 (zeroA).cmd.id.gen) := cell_row X2.out 4
              have xf4 := frozen_row X2.out 4
              have x5 : World.cell? _ ⟨w.heap.size + 1, 5, none⟩ = some (.int .i64 (zeroA).cmd.comp) := cell_row X2.out 5
              have xf5 := frozen_row X2.out 5
              have x6 : World.cell? _ ⟨w.heap.size + 1, 6, none⟩ = some (.slice none 0 0) := cell_row X2.out 6
              have xf6 := frozen_row X2.out 6
              have x7 : World.cell? _ ⟨w.heap.size + 1, 7, none⟩ = some (.int .i64 (zeroA).policy.room) := cell_row X2.out 7
              have xf7 := frozen_row X2.out 7
              have x8 : World.cell? _ ⟨w.heap.size + 1, 8, none⟩ = some (.int .i64 (zeroA).policy.frames) := cell_row X2.out 8
              have xf8 := frozen_row X2.out 8
              have x9 : World.cell? _ ⟨w.heap.size + 1, 9, none⟩ = some (.int .i64 (zeroA).n) := cell_row X2.out 9
              have xf9 := frozen_row X2.out 9
              have x10 : World.cell? _ ⟨w.heap.size + 1, 10, none⟩ = some (.slice none 0 0) := cell_row X2.out 10
              have xf10 := frozen_row X2.out 10
              have x11 : World.cell? _ ⟨w.heap.size + 1, 11, none⟩ = some (.slice none 0 0) := cell_row X2.out 11
              have xf11 := frozen_row X2.out 11
              go_wp2_with (with_reducible refine stopNil 50 rfl ?_)
              refine Lib.hid ?_
              clear x0 xf0 x1 xf1 x2 xf2 x3 xf3 x4 xf4 x5 xf5 x6 xf6 x7 xf7 x8 xf8 x9 xf9 x10 xf10 x11 xf11
              refine nm_list (fun V3 hnm => ?_)
              have XZ := Lib.hid (show ActIs V3 (w.heap.size + 1) ({ zeroA with cmd := rc.1 }) (.slice AD rc.1.data.length cD) (.slice none 0 0) (.slice none 0 0) by rw [hnm]; exact heap_setRow (heap_setRow (heap_setRow (heap_setRow (heap_setRow (heap_setRow X2.out))))))
              have K3 := Lib.hid (show ∀ b, b ≠ w.heap.size + 1 → V3.heap[b]? = V2.heap[b]? from fun b hb => by rw [hnm]; exact (Below.heap_setCell _ _ _ _ hb).trans ((Below.heap_setCell _ _ _ _ hb).trans ((Below.heap_setCell _ _ _ _ hb).trans ((Below.heap_setCell _ _ _ _ hb).trans ((Below.heap_setCell _ _ _ _ hb).trans (Below.heap_setCell _ _ _ _ hb))))))
              have YZ := Lib.hid (show ActIs V3 w.heap.size zeroA (.slice none 0 0) (.slice none 0 0) (.slice none 0 0) from (K3.out _ (by omega)).trans Y2.out)
              have OZ := Lib.hid (show Only (fun b => b = B) w V3 by rw [hnm]; exact (((((O2.out.late (by omega)).late (by omega)).late (by omega)).late (by omega)).late (by omega)).late (by omega))
              have RZ := Lib.hid (show Rdr Q B V3 c rc.2 from R2.out.keep (K3.out B (by omega)) (fun b hq _ => ⟨hq, K3.out b (by have := HQ.out b hq; omega)⟩) R2.out.1)
              have S3 := Lib.hid (HS.out.keep (Q' := fun b => w.heap.size + 2 ≤ b) (fun b hb _ => ⟨by omega, K3.out b (by omega)⟩))
              clear hnm
              have AZ := Lib.hid (show rAct.val (fun b => w.heap.size + 2 ≤ b) V3 (actAgg ({ zeroA with cmd := rc.1 }) (.slice AD rc.1.data.length cD) (.slice none 0 0) (.slice none 0 0)) ({ zeroA with cmd := rc.1 }) from rAct_agg (x := { zeroA with cmd := rc.1 }) (A_fates := none) (c_fates := 0) (A_fuses := none) (c_fuses := 0) wf0 HF.out.1 HF.out.2.1 HF.out.2.2.1 HF.out.2.2.2 S3.out wf0 wf0 wf0 ⟨by simp [zeroA], by simp [maxLen], [], rfl, fun h => absurd h (by simp [zeroA])⟩ ⟨by simp [zeroA], by simp [maxLen], [], rfl, fun h => absurd h (by simp [zeroA])⟩)
              obtain ⟨A5, c5, q5, hq5, hq5m, hq5w⟩ := RZ.out.c5
              clear hq5 hq5m hq5w
              have q6 := RZ.out.c6
              have z6 := RZ.out.f6
              have HLZ := Lib.hid RZ.out
              cases hbad : (rc.2).bad with
              | true =>
                rw [hbad] at q6
                go_wp2_with (with_reducible refine stopLoad 35 3 rfl ?_)
                refine Lib.hid ?_
                clear q5 q6 z6
                refine nm_list (fun V6 hnm => ?_)
                have X6 := Lib.hid (show ActIs V6 (w.heap.size + 1) ({ zeroA with cmd := rc.1 }) (.slice AD rc.1.data.length cD) (.slice none 0 0) (.slice none 0 0) by rw [hnm]; exact row_other XZ.out (by omega))
                have Y6 := Lib.hid (show ActIs V6 w.heap.size zeroA (.slice none 0 0) (.slice none 0 0) (.slice none 0 0) by rw [hnm]; exact row_other YZ.out (by omega))
                have R6 := Lib.hid (show Rdr Q B V6 c ⟨(rc.2).l, true⟩ by rw [hnm]; exact RZ.out.put6 true)
                have O6 := Lib.hid (show Only (fun b => b = B) w V6 by rw [hnm]; exact OZ.out.put rfl)
                have A6 := Lib.hid (show rAct.val (fun b => w.heap.size + 2 ≤ b) V6 (actAgg ({ zeroA with cmd := rc.1 }) (.slice AD rc.1.data.length cD) (.slice none 0 0) (.slice none 0 0)) ({ zeroA with cmd := rc.1 }) from Rep.val_keep (fun b hb _ => ⟨hb, by rw [hnm]; exact Below.heap_setCell _ _ _ _ (by dsimp only; omega)⟩) AZ.out)
                clear hnm
                have x0 : World.cell? _ ⟨w.heap.size + 1, 0, none⟩ = some (.int .i64 ({ zeroA with cmd := rc.1 }).kind) := cell_row X6.out 0
                have xf0 := frozen_row X6.out 0
                have x1 : World.cell? _ ⟨w.heap.size + 1, 1, none⟩ = some (.int .i64 ({ zeroA with cmd := rc.1 }).cmd.kind) := cell_row X6.out 1
                have xf1 := frozen_row X6.out 1
                have x2 : World.cell? _ ⟨w.heap.size + 1, 2, none⟩ = some (.bool ({ zeroA with cmd := rc.1 }).cmd.loc) := cell_row X6.out 2
                have xf2 := frozen_row X6.out 2
                have x3 : World.cell? _ ⟨w.heap.size + 1, 3, none⟩ = some (.int .i64 ({ zeroA with cmd := rc.1 }).cmd.id.index) := cell_row X6.out 3
                have xf3 := frozen_row X6.out 3
                have x4 : World.cell? _ ⟨w.heap.size + 1, 4, none⟩ = some (.int .i64 ({ zeroA with cmd := rc.1 }).cmd.id.gen) := cell_row X6.out 4
                have xf4 := frozen_row X6.out 4
                have x5 : World.cell? _ ⟨w.heap.size + 1, 5, none⟩ = some (.int .i64 ({ zeroA with cmd := rc.1 }).cmd.comp) := cell_row X6.out 5
                have xf5 := frozen_row X6.out 5
                have x6 : World.cell? _ ⟨w.heap.size + 1, 6, none⟩ = some (.slice AD rc.1.data.length cD) := cell_row X6.out 6
                have xf6 := frozen_row X6.out 6
                have x7 : World.cell? _ ⟨w.heap.size + 1, 7, none⟩ = some (.int .i64 ({ zeroA with cmd := rc.1 }).policy.room) := cell_row X6.out 7
                have xf7 := frozen_row X6.out 7
                have x8 : World.cell? _ ⟨w.heap.size + 1, 8, none⟩ = some (.int .i64 ({ zeroA with cmd := rc.1 }).policy.frames) := cell_row X6.out 8
                have xf8 := frozen_row X6.out 8
                have x9 : World.cell? _ ⟨w.heap.size + 1, 9, none⟩ = some (.int .i64 ({ zeroA with cmd := rc.1 }).n) := cell_row X6.out 9
                have xf9 := frozen_row X6.out 9
                have x10 : World.cell? _ ⟨w.heap.size + 1, 10, none⟩ = some (.slice none 0 0) := cell_row X6.out 10
                have xf10 := frozen_row X6.out 10
                have x11 : World.cell? _ ⟨w.heap.size + 1, 11, none⟩ = some (.slice none 0 0) := cell_row X6.out 11
                have xf11 := frozen_row X6.out 11
                have y0 : World.cell? _ ⟨w.heap.size, 0, none⟩ = some (.int .i64 (zeroA).kind) := cell_row Y6.out 0
                have yf0 := frozen_row Y6.out 0
                have y1 : World.cell? _ ⟨w.heap.size, 1, none⟩ = some (.int .i64 (zeroA).cmd.kind) := cell_row Y6.out 1
                have yf1 := frozen_row Y6.out 1
                have y2 : World.cell? _ ⟨w.heap.size, 2, none⟩ = some (.bool (zeroA).cmd.loc) := cell_row Y6.out 2
                have yf2 := frozen_row Y6.out 2
                have y3 : World.cell? _ ⟨w.heap.size, 3, none⟩ = some (.int .i64 (zeroA).cmd.id.index) := cell_row Y6.out 3
                have yf3 := frozen_row Y6.out 3
                have y4 : World.cell? _ ⟨w.heap.size, 4, none⟩ = some (.int .i64 (zeroA).cmd.id.gen) := cell_row Y6.out 4
                have yf4 := frozen_row Y6.out 4
                have y5 : World.cell? _ ⟨w.heap.size, 5, none⟩ = some (.int .i64 (zeroA).cmd.comp) := cell_row Y6.out 5
                have yf5 := frozen_row Y6.out 5
                have y6 : World.cell? _ ⟨w.heap.size, 6, none⟩ = some (.slice none 0 0) := cell_row Y6.out 6
                have yf6 := frozen_row Y6.out 6
                have y7 : World.cell? _ ⟨w.heap.size, 7, none⟩ = some (.int .i64 (zeroA).policy.room) := cell_row Y6.out 7
                have yf7 := frozen_row Y6.out 7
                have y8 : World.cell? _ ⟨w.heap.size, 8, none⟩ = some (.int .i64 (zeroA).policy.frames) := cell_row Y6.out 8
                have yf8 := frozen_row Y6.out 8
                have y9 : World.cell? _ ⟨w.heap.size, 9, none⟩ = some (.int .i64 (zeroA).n) := cell_row Y6.out 9
                have yf9 := frozen_row Y6.out 9
                have y10 : World.cell? _ ⟨w.heap.size, 10, none⟩ = some (.slice none 0 0) := cell_row Y6.out 10
                have yf10 := frozen_row Y6.out 10
                have y11 : World.cell? _ ⟨w.heap.size, 11, none⟩ = some (.slice none 0 0) := cell_row Y6.out 11
                have yf11 := frozen_row Y6.out 11
                go_wp2_with fail
                refine nm_post (fun W hnm => ?_)
                have RY := Lib.hid (show W.heap[w.heap.size]? = some (.cells (actRow ({ zeroA with cmd := rc.1 }) (.slice AD rc.1.data.length cD) (.slice none 0 0) (.slice none 0 0)) 35 (0, 0)) by rw [hnm]; exact row12 Y6.out)
                have KY := Lib.hid (show ∀ b, b ≠ w.heap.size → W.heap[b]? = V6.heap[b]? from fun b hb => by rw [hnm]; exact (Below.heap_setCell _ _ _ _ hb).trans ((Below.heap_setCell _ _ _ _ hb).trans ((Below.heap_setCell _ _ _ _ hb).trans ((Below.heap_setCell _ _ _ _ hb).trans ((Below.heap_setCell _ _ _ _ hb).trans ((Below.heap_setCell _ _ _ _ hb).trans ((Below.heap_setCell _ _ _ _ hb).trans ((Below.heap_setCell _ _ _ _ hb).trans ((Below.heap_setCell _ _ _ _ hb).trans ((Below.heap_setCell _ _ _ _ hb).trans ((Below.heap_setCell _ _ _ _ hb).trans (Below.heap_setCell _ _ _ _ hb))))))))))))
                have OO := Lib.hid (show Only (fun b => b = B) w W by rw [hnm]; exact ((((((((((((O6.out).late (Nat.le_refl _)).late (Nat.le_refl _)).late (Nat.le_refl _)).late (Nat.le_refl _)).late (Nat.le_refl _)).late (Nat.le_refl _)).late (Nat.le_refl _)).late (Nat.le_refl _)).late (Nat.le_refl _)).late (Nat.le_refl _)).late (Nat.le_refl _)).late (Nat.le_refl _))
                clear hnm x0 xf0 x1 xf1 x2 xf2 x3 xf3 x4 xf4 x5 xf5 x6 xf6 x7 xf7 x8 xf8 x9 xf9 x10 xf10 x11 xf11 y0 yf0 y1 yf1 y2 yf2 y3 yf3 y4 yf4 y5 yf5 y6 yf6 y7 yf7 y8 yf8 y9 yf9 y10 yf10 y11 yf11
                have RR := Lib.hid (R6.out.keep (KY.out B (by omega)) (fun b hq _ => ⟨hq, KY.out b (by have := HQ.out b hq; omega)⟩) R6.out.1)
                have AA := Lib.hid (show rAct.val (fun b => w.heap.size ≤ b) W (actAgg ({ zeroA with cmd := rc.1 }) (.slice AD rc.1.data.length cD) (.slice none 0 0) (.slice none 0 0)) ({ zeroA with cmd := rc.1 }) from Rep.val_keep (fun b hb _ => ⟨by omega, KY.out b (by omega)⟩) A6.out)
                have y0 : World.cell? _ ⟨w.heap.size, 0, none⟩ = some (.int .i64 ({ zeroA with cmd := rc.1 }).kind) := cell_row RY.out 0
                have y1 : World.cell? _ ⟨w.heap.size, 1, none⟩ = some (.int .i64 ({ zeroA with cmd := rc.1 }).cmd.kind) := cell_row RY.out 1
                have y2 : World.cell? _ ⟨w.heap.size, 2, none⟩ = some (.bool ({ zeroA with cmd := rc.1 }).cmd.loc) := cell_row RY.out 2
                have y3 : World.cell? _ ⟨w.heap.size, 3, none⟩ = some (.int .i64 ({ zeroA with cmd := rc.1 }).cmd.id.index) := cell_row RY.out 3
                have y4 : World.cell? _ ⟨w.heap.size, 4, none⟩ = some (.int .i64 ({ zeroA with cmd := rc.1 }).cmd.id.gen) := cell_row RY.out 4
                have y5 : World.cell? _ ⟨w.heap.size, 5, none⟩ = some (.int .i64 ({ zeroA with cmd := rc.1 }).cmd.comp) := cell_row RY.out 5
                have y6 : World.cell? _ ⟨w.heap.size, 6, none⟩ = some (.slice AD rc.1.data.length cD) := cell_row RY.out 6
                have y7 : World.cell? _ ⟨w.heap.size, 7, none⟩ = some (.int .i64 ({ zeroA with cmd := rc.1 }).policy.room) := cell_row RY.out 7
                have y8 : World.cell? _ ⟨w.heap.size, 8, none⟩ = some (.int .i64 ({ zeroA with cmd := rc.1 }).policy.frames) := cell_row RY.out 8
                have y9 : World.cell? _ ⟨w.heap.size, 9, none⟩ = some (.int .i64 ({ zeroA with cmd := rc.1 }).n) := cell_row RY.out 9
                have y10 : World.cell? _ ⟨w.heap.size, 10, none⟩ = some (.slice none 0 0) := cell_row RY.out 10
                have y11 : World.cell? _ ⟨w.heap.size, 11, none⟩ = some (.slice none 0 0) := cell_row RY.out 11
                refine ⟨rfl, actAgg ({ zeroA with cmd := rc.1 }) (.slice AD rc.1.data.length cD) (.slice none 0 0) (.slice none 0 0), by simp only [results, hfr]; go_simp; rfl, ?_⟩
                clear y0 y1 y2 y3 y4 y5 y6 y7 y8 y9 y10 y11
                exact ⟨_, rfl, AA.out, by first | (simpa [hbad] using RR.out) | (rw [hbad]; exact RR.out), OO.out⟩
              | false =>
                rw [hbad] at q6
                cases hll : (rc.2).l with
                | nil =>
                  rw [hll] at q5
                  simp only [List.length_nil] at q5
                  go_wp2_with (with_reducible refine stopLoad 35 3 rfl ?_)
                  refine Lib.hid ?_
                  clear q5 q6 z6
                  refine nm_list (fun V6 hnm => ?_)
                  have X6 := Lib.hid (show ActIs V6 (w.heap.size + 1) ({ zeroA with cmd := rc.1 }) (.slice AD rc.1.data.length cD) (.slice none 0 0) (.slice none 0 0) by rw [hnm]; exact row_other XZ.out (by omega))
                  have Y6 := Lib.hid (show ActIs V6 w.heap.size zeroA (.slice none 0 0) (.slice none 0 0) (.slice none 0 0) by rw [hnm]; exact row_other YZ.out (by omega))
                  have R6 := Lib.hid (show Rdr Q B V6 c ⟨(rc.2).l, false⟩ by rw [hnm]; exact RZ.out.put6 false)
                  have O6 := Lib.hid (show Only (fun b => b = B) w V6 by rw [hnm]; exact OZ.out.put rfl)
                  have A6 := Lib.hid (show rAct.val (fun b => w.heap.size + 2 ≤ b) V6 (actAgg ({ zeroA with cmd := rc.1 }) (.slice AD rc.1.data.length cD) (.slice none 0 0) (.slice none 0 0)) ({ zeroA with cmd := rc.1 }) from Rep.val_keep (fun b hb _ => ⟨hb, by rw [hnm]; exact Below.heap_setCell _ _ _ _ (by dsimp only; omega)⟩) AZ.out)
                  clear hnm
                  have x0 : World.cell? _ ⟨w.heap.size + 1, 0, none⟩ = some (.int .i64 ({ zeroA with cmd := rc.1 }).kind) := cell_row X6.out 0
                  have xf0 := frozen_row X6.out 0
                  have x1 : World.cell? _ ⟨w.heap.size + 1, 1, none⟩ = some (.int .i64 ({ zeroA with cmd := rc.1 }).cmd.kind) := cell_row X6.out 1
                  have xf1 := frozen_row X6.out 1
                  have x2 : World.cell? _ ⟨w.heap.size + 1, 2, none⟩ = some (.bool ({ zeroA with cmd := rc.1 }).cmd.loc) := cell_row X6.out 2
                  have xf2 := frozen_row X6.out 2
                  have x3 : World.cell? _ ⟨w.heap.size + 1, 3, none⟩ = some (.int .i64 ({ zeroA with cmd := rc.1 }).cmd.id.index) := cell_row X6.out 3
                  have xf3 := frozen_row X6.out 3
                  have x4 : World.cell? _ ⟨w.heap.size + 1, 4, none⟩ = some (.int .i64 ({ zeroA with cmd := rc.1 }).cmd.id.gen) := cell_row X6.out 4
                  have xf4 := frozen_row X6.out 4
                  have x5 : World.cell? _ ⟨w.heap.size + 1, 5, none⟩ = some (.int .i64 ({ zeroA with cmd := rc.1 }).cmd.comp) := cell_row X6.out 5
                  have xf5 := frozen_row X6.out 5
                  have x6 : World.cell? _ ⟨w.heap.size + 1, 6, none⟩ = some (.slice AD rc.1.data.length cD) := cell_row X6.out 6
                  have xf6 := frozen_row X6.out 6
                  have x7 : World.cell? _ ⟨w.heap.size + 1, 7, none⟩ = some (.int .i64 ({ zeroA with cmd := rc.1 }).policy.room) := cell_row X6.out 7
                  have xf7 := frozen_row X6.out 7
                  have x8 : World.cell? _ ⟨w.heap.size + 1, 8, none⟩ = some (.int .i64 ({ zeroA with cmd := rc.1 }).policy.frames) := cell_row X6.out 8
                  have xf8 := frozen_row X6.out 8
                  have x9 : World.cell? _ ⟨w.heap.size + 1, 9, none⟩ = some (.int .i64 ({ zeroA with cmd := rc.1 }).n) := cell_row X6.out 9
                  have xf9 := frozen_row X6.out 9
                  have x10 : World.cell? _ ⟨w.heap.size + 1, 10, none⟩ = some (.slice none 0 0) := cell_row X6.out 10
                  have xf10 := frozen_row X6.out 10
                  have x11 : World.cell? _ ⟨w.heap.size + 1, 11, none⟩ = some (.slice none 0 0) := cell_row X6.out 11
                  have xf11 := frozen_row X6.out 11
                  have y0 : World.cell? _ ⟨w.heap.size, 0, none⟩ = some (.int .i64 (zeroA).kind) := cell_row Y6.out 0
                  have yf0 := frozen_row Y6.out 0
                  have y1 : World.cell? _ ⟨w.heap.size, 1, none⟩ = some (.int .i64 (zeroA).cmd.kind) := cell_row Y6.out 1
                  have yf1 := frozen_row Y6.out 1
                  have y2 : World.cell? _ ⟨w.heap.size, 2, none⟩ = some (.bool (zeroA).cmd.loc) := cell_row Y6.out 2
                  have yf2 := frozen_row Y6.out 2
                  have y3 : World.cell? _ ⟨w.heap.size, 3, none⟩ = some (.int .i64 (zeroA).cmd.id.index) := cell_row Y6.out 3
                  have yf3 := frozen_row Y6.out 3
                  have y4 : World.cell? _ ⟨w.heap.size, 4, none⟩ = some (.int .i64 (zeroA).cmd.id.gen) := cell_row Y6.out 4
                  have yf4 := frozen_row Y6.out 4
                  have y5 : World.cell? _ ⟨w.heap.size, 5, none⟩ = some (.int .i64 (zeroA).cmd.comp) := cell_row Y6.out 5
                  have yf5 := frozen_row Y6.out 5
                  have y6 : World.cell? _ ⟨w.heap.size, 6, none⟩ = some (.slice none 0 0) := cell_row Y6.out 6
                  have yf6 := frozen_row Y6.out 6
                  have y7 : World.cell? _ ⟨w.heap.size, 7, none⟩ = some (.int .i64 (zeroA).policy.room) := cell_row Y6.out 7
                  have yf7 := frozen_row Y6.out 7
                  have y8 : World.cell? _ ⟨w.heap.size, 8, none⟩ = some (.int .i64 (zeroA).policy.frames) := cell_row Y6.out 8
                  have yf8 := frozen_row Y6.out 8
                  have y9 : World.cell? _ ⟨w.heap.size, 9, none⟩ = some (.int .i64 (zeroA).n) := cell_row Y6.out 9
                  have yf9 := frozen_row Y6.out 9
                  have y10 : World.cell? _ ⟨w.heap.size, 10, none⟩ = some (.slice none 0 0) := cell_row Y6.out 10
                  have yf10 := frozen_row Y6.out 10
                  have y11 : World.cell? _ ⟨w.heap.size, 11, none⟩ = some (.slice none 0 0) := cell_row Y6.out 11
                  have yf11 := frozen_row Y6.out 11
                  go_wp2_with fail
                  refine nm_post (fun W hnm => ?_)
                  have RY := Lib.hid (show W.heap[w.heap.size]? = some (.cells (actRow ({ zeroA with cmd := rc.1 }) (.slice AD rc.1.data.length cD) (.slice none 0 0) (.slice none 0 0)) 35 (0, 0)) by rw [hnm]; exact row12 Y6.out)
                  have KY := Lib.hid (show ∀ b, b ≠ w.heap.size → W.heap[b]? = V6.heap[b]? from fun b hb => by rw [hnm]; exact (Below.heap_setCell _ _ _ _ hb).trans ((Below.heap_setCell _ _ _ _ hb).trans ((Below.heap_setCell _ _ _ _ hb).trans ((Below.heap_setCell _ _ _ _ hb).trans ((Below.heap_setCell _ _ _ _ hb).trans ((Below.heap_setCell _ _ _ _ hb).trans ((Below.heap_setCell _ _ _ _ hb).trans ((Below.heap_setCell _ _ _ _ hb).trans ((Below.heap_setCell _ _ _ _ hb).trans ((Below.heap_setCell _ _ _ _ hb).trans ((Below.heap_setCell _ _ _ _ hb).trans (Below.heap_setCell _ _ _ _ hb))))))))))))
                  have OO := Lib.hid (show Only (fun b => b = B) w W by rw [hnm]; exact ((((((((((((O6.out).late (Nat.le_refl _)).late (Nat.le_refl _)).late (Nat.le_refl _)).late (Nat.le_refl _)).late (Nat.le_refl _)).late (Nat.le_refl _)).late (Nat.le_refl _)).late (Nat.le_refl _)).late (Nat.le_refl _)).late (Nat.le_refl _)).late (Nat.le_refl _)).late (Nat.le_refl _))
                  clear hnm x0 xf0 x1 xf1 x2 xf2 x3 xf3 x4 xf4 x5 xf5 x6 xf6 x7 xf7 x8 xf8 x9 xf9 x10 xf10 x11 xf11 y0 yf0 y1 yf1 y2 yf2 y3 yf3 y4 yf4 y5 yf5 y6 yf6 y7 yf7 y8 yf8 y9 yf9 y10 yf10 y11 yf11
                  have RR := Lib.hid (R6.out.keep (KY.out B (by omega)) (fun b hq _ => ⟨hq, KY.out b (by have := HQ.out b hq; omega)⟩) R6.out.1)
                  have AA := Lib.hid (show rAct.val (fun b => w.heap.size ≤ b) W (actAgg ({ zeroA with cmd := rc.1 }) (.slice AD rc.1.data.length cD) (.slice none 0 0) (.slice none 0 0)) ({ zeroA with cmd := rc.1 }) from Rep.val_keep (fun b hb _ => ⟨by omega, KY.out b (by omega)⟩) A6.out)
                  have y0 : World.cell? _ ⟨w.heap.size, 0, none⟩ = some (.int .i64 ({ zeroA with cmd := rc.1 }).kind) := cell_row RY.out 0
                  have y1 : World.cell? _ ⟨w.heap.size, 1, none⟩ = some (.int .i64 ({ zeroA with cmd := rc.1 }).cmd.kind) := cell_row RY.out 1
                  have y2 : World.cell? _ ⟨w.heap.size, 2, none⟩ = some (.bool ({ zeroA with cmd := rc.1 }).cmd.loc) := cell_row RY.out 2
                  have y3 : World.cell? _ ⟨w.heap.size, 3, none⟩ = some (.int .i64 ({ zeroA with cmd := rc.1 }).cmd.id.index) := cell_row RY.out 3
                  have y4 : World.cell? _ ⟨w.heap.size, 4, none⟩ = some (.int .i64 ({ zeroA with cmd := rc.1 }).cmd.id.gen) := cell_row RY.out 4
                  have y5 : World.cell? _ ⟨w.heap.size, 5, none⟩ = some (.int .i64 ({ zeroA with cmd := rc.1 }).cmd.comp) := cell_row RY.out 5
                  have y6 : World.cell? _ ⟨w.heap.size, 6, none⟩ = some (.slice AD rc.1.data.length cD) := cell_row RY.out 6
                  have y7 : World.cell? _ ⟨w.heap.size, 7, none⟩ = some (.int .i64 ({ zeroA with cmd := rc.1 }).policy.room) := cell_row RY.out 7
                  have y8 : World.cell? _ ⟨w.heap.size, 8, none⟩ = some (.int .i64 ({ zeroA with cmd := rc.1 }).policy.frames) := cell_row RY.out 8
                  have y9 : World.cell? _ ⟨w.heap.size, 9, none⟩ = some (.int .i64 ({ zeroA with cmd := rc.1 }).n) := cell_row RY.out 9
                  have y10 : World.cell? _ ⟨w.heap.size, 10, none⟩ = some (.slice none 0 0) := cell_row RY.out 10
                  have y11 : World.cell? _ ⟨w.heap.size, 11, none⟩ = some (.slice none 0 0) := cell_row RY.out 11
                  refine ⟨rfl, actAgg ({ zeroA with cmd := rc.1 }) (.slice AD rc.1.data.length cD) (.slice none 0 0) (.slice none 0 0), by simp only [results, hfr]; go_simp; rfl, ?_⟩
                  clear y0 y1 y2 y3 y4 y5 y6 y7 y8 y9 y10 y11
                  exact ⟨_, rfl, AA.out, by first | (simpa [hbad, hll] using RR.out) | (rw [hbad, hll]; rw [hll] at RR; exact RR.out), OO.out⟩
                | cons y m =>
                  rw [hll] at q5
                  simp only [List.length_cons] at q5
                  have hpp : (0 : Int) < ((m.length + 1 : Nat) : Int) := by omega
                  have hpq : (0 : Int) < (m.length : Int) + 1 := by omega
                  generalize m.length = ml at *
                  go_wp2_with (with_reducible refine stopLoad 35 3 rfl ?_)
                  refine Lib.hid ?_
                  clear q5 q6 z6
                  refine nm_list (fun V6 hnm => ?_)
                  have X6 := Lib.hid (show ActIs V6 (w.heap.size + 1) ({ zeroA with cmd := rc.1 }) (.slice AD rc.1.data.length cD) (.slice none 0 0) (.slice none 0 0) by rw [hnm]; exact row_other XZ.out (by omega))
                  have Y6 := Lib.hid (show ActIs V6 w.heap.size zeroA (.slice none 0 0) (.slice none 0 0) (.slice none 0 0) by rw [hnm]; exact row_other YZ.out (by omega))
                  have R6 := Lib.hid (show Rdr Q B V6 c ⟨(rc.2).l, true⟩ by rw [hnm]; exact RZ.out.put6 true)
                  have O6 := Lib.hid (show Only (fun b => b = B) w V6 by rw [hnm]; exact OZ.out.put rfl)
                  have A6 := Lib.hid (show rAct.val (fun b => w.heap.size + 2 ≤ b) V6 (actAgg ({ zeroA with cmd := rc.1 }) (.slice AD rc.1.data.length cD) (.slice none 0 0) (.slice none 0 0)) ({ zeroA with cmd := rc.1 }) from Rep.val_keep (fun b hb _ => ⟨hb, by rw [hnm]; exact Below.heap_setCell _ _ _ _ (by dsimp only; omega)⟩) AZ.out)
                  clear hnm
                  have x0 : World.cell? _ ⟨w.heap.size + 1, 0, none⟩ = some (.int .i64 ({ zeroA with cmd := rc.1 }).kind) := cell_row X6.out 0
                  have xf0 := frozen_row X6.out 0
                  have x1 : World.cell? _ ⟨w.heap.size + 1, 1, none⟩ = some (.int .i64 ({ zeroA with cmd := rc.1 }).cmd.kind) := cell_row X6.out 1
                  have xf1 := frozen_row X6.out 1
                  have x2 : World.cell? _ ⟨w.heap.size + 1, 2, none⟩ = some (.bool ({ zeroA with cmd := rc.1 }).cmd.loc) := cell_row X6.out 2
                  have xf2 := frozen_row X6.out 2
                  have x3 : World.cell? _ ⟨w.heap.size + 1, 3, none⟩ = some (.int .i64 ({ zeroA with cmd := rc.1 }).cmd.id.index) := cell_row X6.out 3
                  have xf3 := frozen_row X6.out 3
                  have x4 : World.cell? _ ⟨w.heap.size + 1, 4, none⟩ = some (.int .i64 ({ zeroA with cmd := rc.1 }).cmd.id.gen) := cell_row X6.out 4
                  have xf4 := frozen_row X6.out 4
                  have x5 : World.cell? _ ⟨w.heap.size + 1, 5, none⟩ = some (.int .i64 ({ zeroA with cmd := rc.1 }).cmd.comp) := cell_row X6.out 5
                  have xf5 := frozen_row X6.out 5
                  have x6 : World.cell? _ ⟨w.heap.size + 1, 6, none⟩ = some (.slice AD rc.1.data.length cD) := cell_row X6.out 6
                  have xf6 := frozen_row X6.out 6
                  have x7 : World.cell? _ ⟨w.heap.size + 1, 7, none⟩ = some (.int .i64 ({ zeroA with cmd := rc.1 }).policy.room) := cell_row X6.out 7
                  have xf7 := frozen_row X6.out 7
                  have x8 : World.cell? _ ⟨w.heap.size + 1, 8, none⟩ = some (.int .i64 ({ zeroA with cmd := rc.1 }).policy.frames) := cell_row X6.out 8
                  have xf8 := frozen_row X6.out 8
                  have x9 : World.cell? _ ⟨w.heap.size + 1, 9, none⟩ = some (.int .i64 ({ zeroA with cmd := rc.1 }).n) := cell_row X6.out 9
                  have xf9 := frozen_row X6.out 9
                  have x10 : World.cell? _ ⟨w.heap.size + 1, 10, none⟩ = some (.slice none 0 0) := cell_row X6.out 10
                  have xf10 := frozen_row X6.out 10
                  have x11 : World.cell? _ ⟨w.heap.size + 1, 11, none⟩ = some (.slice none 0 0) := cell_row X6.out 11
                  have xf11 := frozen_row X6.out 11
                  have y0 : World.cell? _ ⟨w.heap.size, 0, none⟩ = some (.int .i64 (zeroA).kind) := cell_row Y6.out 0
                  have yf0 := frozen_row Y6.out 0
                  have y1 : World.cell? _ ⟨w.heap.size, 1, none⟩ = some (.int .i64 (zeroA).cmd.kind) := cell_row Y6.out 1
                  have yf1 := frozen_row Y6.out 1
                  have y2 : World.cell? _ ⟨w.heap.size, 2, none⟩ = some (.bool (zeroA).cmd.loc) := cell_row Y6.out 2
                  have yf2 := frozen_row Y6.out 2
                  have y3 : World.cell? _ ⟨w.heap.size, 3, none⟩ = some (.int .i64 (zeroA).cmd.id.index) := cell_row Y6.out 3
                  have yf3 := frozen_row Y6.out 3
                  have y4 : World.cell? _ ⟨w.heap.size, 4, none⟩ = some (.int .i64 (zeroA).cmd.id.gen) := cell_row Y6.out 4
                  have yf4 := frozen_row Y6.out 4
                  have y5 : World.cell? _ ⟨w.heap.size, 5, none⟩ = some (.int .i64 (zeroA).cmd.comp) := cell_row Y6.out 5
                  have yf5 := frozen_row Y6.out 5
                  have y6 : World.cell? _ ⟨w.heap.size, 6, none⟩ = some (.slice none 0 0) := cell_row Y6.out 6
                  have yf6 := frozen_row Y6.out 6
                  have y7 : World.cell? _ ⟨w.heap.size, 7, none⟩ = some (.int .i64 (zeroA).policy.room) := cell_row Y6.out 7
                  have yf7 := frozen_row Y6.out 7
                  have y8 : World.cell? _ ⟨w.heap.size, 8, none⟩ = some (.int .i64 (zeroA).policy.frames) := cell_row Y6.out 8
                  have yf8 := frozen_row Y6.out 8
                  have y9 : World.cell? _ ⟨w.heap.size, 9, none⟩ = some (.int .i64 (zeroA).n) := cell_row Y6.out 9
                  have yf9 := frozen_row Y6.out 9
                  have y10 : World.cell? _ ⟨w.heap.size, 10, none⟩ = some (.slice none 0 0) := cell_row Y6.out 10
                  have yf10 := frozen_row Y6.out 10
                  have y11 : World.cell? _ ⟨w.heap.size, 11, none⟩ = some (.slice none 0 0) := cell_row Y6.out 11
                  have yf11 := frozen_row Y6.out 11
                  go_wp2_with fail
                  refine nm_post (fun W hnm => ?_)
                  have RY := Lib.hid (show W.heap[w.heap.size]? = some (.cells (actRow ({ zeroA with cmd := rc.1 }) (.slice AD rc.1.data.length cD) (.slice none 0 0) (.slice none 0 0)) 35 (0, 0)) by rw [hnm]; exact row12 Y6.out)
                  have KY := Lib.hid (show ∀ b, b ≠ w.heap.size → W.heap[b]? = V6.heap[b]? from fun b hb => by rw [hnm]; exact (Below.heap_setCell _ _ _ _ hb).trans ((Below.heap_setCell _ _ _ _ hb).trans ((Below.heap_setCell _ _ _ _ hb).trans ((Below.heap_setCell _ _ _ _ hb).trans ((Below.heap_setCell _ _ _ _ hb).trans ((Below.heap_setCell _ _ _ _ hb).trans ((Below.heap_setCell _ _ _ _ hb).trans ((Below.heap_setCell _ _ _ _ hb).trans ((Below.heap_setCell _ _ _ _ hb).trans ((Below.heap_setCell _ _ _ _ hb).trans ((Below.heap_setCell _ _ _ _ hb).trans (Below.heap_setCell _ _ _ _ hb))))))))))))
                  have OO := Lib.hid (show Only (fun b => b = B) w W by rw [hnm]; exact ((((((((((((O6.out).late (Nat.le_refl _)).late (Nat.le_refl _)).late (Nat.le_refl _)).late (Nat.le_refl _)).late (Nat.le_refl _)).late (Nat.le_refl _)).late (Nat.le_refl _)).late (Nat.le_refl _)).late (Nat.le_refl _)).late (Nat.le_refl _)).late (Nat.le_refl _)).late (Nat.le_refl _))
                  clear hnm x0 xf0 x1 xf1 x2 xf2 x3 xf3 x4 xf4 x5 xf5 x6 xf6 x7 xf7 x8 xf8 x9 xf9 x10 xf10 x11 xf11 y0 yf0 y1 yf1 y2 yf2 y3 yf3 y4 yf4 y5 yf5 y6 yf6 y7 yf7 y8 yf8 y9 yf9 y10 yf10 y11 yf11
                  have RR := Lib.hid (R6.out.keep (KY.out B (by omega)) (fun b hq _ => ⟨hq, KY.out b (by have := HQ.out b hq; omega)⟩) R6.out.1)
                  have AA := Lib.hid (show rAct.val (fun b => w.heap.size ≤ b) W (actAgg ({ zeroA with cmd := rc.1 }) (.slice AD rc.1.data.length cD) (.slice none 0 0) (.slice none 0 0)) ({ zeroA with cmd := rc.1 }) from Rep.val_keep (fun b hb _ => ⟨by omega, KY.out b (by omega)⟩) A6.out)
                  have y0 : World.cell? _ ⟨w.heap.size, 0, none⟩ = some (.int .i64 ({ zeroA with cmd := rc.1 }).kind) := cell_row RY.out 0
                  have y1 : World.cell? _ ⟨w.heap.size, 1, none⟩ = some (.int .i64 ({ zeroA with cmd := rc.1 }).cmd.kind) := cell_row RY.out 1
                  have y2 : World.cell? _ ⟨w.heap.size, 2, none⟩ = some (.bool ({ zeroA with cmd := rc.1 }).cmd.loc) := cell_row RY.out 2
                  have y3 : World.cell? _ ⟨w.heap.size, 3, none⟩ = some (.int .i64 ({ zeroA with cmd := rc.1 }).cmd.id.index) := cell_row RY.out 3
                  have y4 : World.cell? _ ⟨w.heap.size, 4, none⟩ = some (.int .i64 ({ zeroA with cmd := rc.1 }).cmd.id.gen) := cell_row RY.out 4
                  have y5 : World.cell? _ ⟨w.heap.size, 5, none⟩ = some (.int .i64 ({ zeroA with cmd := rc.1 }).cmd.comp) := cell_row RY.out 5
                  have y6 : World.cell? _ ⟨w.heap.size, 6, none⟩ = some (.slice AD rc.1.data.length cD) := cell_row RY.out 6
                  have y7 : World.cell? _ ⟨w.heap.size, 7, none⟩ = some (.int .i64 ({ zeroA with cmd := rc.1 }).policy.room) := cell_row RY.out 7
                  have y8 : World.cell? _ ⟨w.heap.size, 8, none⟩ = some (.int .i64 ({ zeroA with cmd := rc.1 }).policy.frames) := cell_row RY.out 8
                  have y9 : World.cell? _ ⟨w.heap.size, 9, none⟩ = some (.int .i64 ({ zeroA with cmd := rc.1 }).n) := cell_row RY.out 9
                  have y10 : World.cell? _ ⟨w.heap.size, 10, none⟩ = some (.slice none 0 0) := cell_row RY.out 10
                  have y11 : World.cell? _ ⟨w.heap.size, 11, none⟩ = some (.slice none 0 0) := cell_row RY.out 11
                  refine ⟨rfl, actAgg ({ zeroA with cmd := rc.1 }) (.slice AD rc.1.data.length cD) (.slice none 0 0) (.slice none 0 0), by simp only [results, hfr]; go_simp; rfl, ?_⟩
                  clear y0 y1 y2 y3 y4 y5 y6 y7 y8 y9 y10 y11
                  exact ⟨_, rfl, AA.out, by first | (simpa [hbad, hll] using RR.out) | (rw [hbad, hll]; rw [hll] at RR; exact RR.out), OO.out⟩
end Go.Proofs.YtejibngkeaamkaaGreatDoor
