/- Texts on which the proofs stand: FOne, FFind. No condition is laid on any input. -/
import Derived.Test.YteljibjbndpncaaJsG24
namespace Go.Proofs.Yteljibjbndpncaa
open Go.RowKit

/-- A command whose entity is known. -/
def doneS (c : DConf) (s : DState) (x : DCmd) (id : DID) : DState × DResult := if x.kind < 0 ∨ 3 < x.kind then (s, ⟨1, noID⟩) else goS c s x.kind id x.comp x.data
theorem doneS_bad {c : DConf} {s : DState} {x : DCmd} {id : DID} (h : x.kind < 0 ∨ 3 < x.kind) : doneS c s x id = (s, ⟨1, noID⟩) := if_pos h
theorem doneS_ok {c : DConf} {s : DState} {x : DCmd} {id : DID} (h : ¬ (x.kind < 0 ∨ 3 < x.kind)) : doneS c s x id = goS c s x.kind id x.comp x.data := if_neg h
theorem doneS_0 {c : DConf} {s : DState} {x : DCmd} {id : DID} (h : x.kind = 0) : doneS c s x id = ((spawnS c s).1, ⟨(spawnS c s).2.2, (spawnS c s).2.1⟩) := by
  rw [doneS_ok (by omega)]; unfold goS; rw [if_neg (by omega), if_neg (by omega), if_neg (by omega)]
theorem doneS_1 {c : DConf} {s : DState} {x : DCmd} {id : DID} (h : x.kind = 1) : doneS c s x id = ((despawnS c s id).1, ⟨(despawnS c s id).2, noID⟩) := by
  rw [doneS_ok (by omega)]; unfold goS; rw [if_pos h]
theorem doneS_2 {c : DConf} {s : DState} {x : DCmd} {id : DID} (h : x.kind = 2) : doneS c s x id = ((setS c s id x.comp x.data).1, ⟨(setS c s id x.comp x.data).2, noID⟩) := by
  rw [doneS_ok (by omega)]; unfold goS; rw [if_neg (by omega), if_pos h]
theorem doneS_3 {c : DConf} {s : DState} {x : DCmd} {id : DID} (h : x.kind = 3) : doneS c s x id = ((removeS c s id x.comp).1, ⟨(removeS c s id x.comp).2, noID⟩) := by
  rw [doneS_ok (by omega)]; unfold goS; rw [if_neg (by omega), if_neg (by omega), if_pos h]

theorem one_mach {Q : Nat → Prop} {M : Nat} {w W0 W1 W : World} {c : DConf} {s t : DState} (hb : Below w.heap.size w W0) (hz : W0.heap.size = w.heap.size + 3) (h0 : Mach Q M w c s) (h : Mach (fun b => Lo Q w b ∨ W0.heap.size ≤ b) M W1 c t) (ho : Only (fun b => b = w.heap.size + 1 + 1) W1 W) : Mach (fun b => Q b ∨ w.heap.size ≤ b) M W c t := by
  have hm := h0.lt
  exact h.keep (ho.block M h.lt (fun e => by have e2 : M = w.heap.size + 1 + 1 := e; omega)) (fun b hq hl => ⟨hq.elim (fun h => .inl h.1) (fun h => .inr (Nat.le_trans hb.size h)), ho.block b hl (fun e => by have e2 : b = w.heap.size + 1 + 1 := e; rcases hq with hq | hq; (· have := hq.2; omega); omega)⟩) (fun b hq => hq.elim (h0.1 b) (fun h => by omega))
theorem one_only {M : Nat} {w W0 W1 W : World} (hb : Below w.heap.size w W0) (h1 : Only (fun b => b = M) W0 W1) (h2 : Only (fun b => b = w.heap.size + 1 + 1) W1 W) : Only (fun b => b = M) w W :=
  ⟨h2.os.trans (h1.os.trans hb.os), h2.tape.trans (h1.tape.trans hb.tape), h2.output.trans (h1.output.trans hb.output), Nat.le_trans hb.size (Nat.le_trans h1.size h2.size),
   fun b hl hf => (h2.block b (Nat.lt_of_lt_of_le hl (Nat.le_trans hb.size h1.size)) (fun e => by have e2 : b = w.heap.size + 1 + 1 := e; omega)).trans ((h1.block b (Nat.lt_of_lt_of_le hl hb.size) hf).trans (hb.block b hl))⟩
theorem one_mach2 {Q : Nat → Prop} {M n : Nat} {w W0 W : World} {c : DConf} {s : DState} (h0 : Mach Q M w c s) (h : Mach (Lo Q w) M W0 c s) (ho : Only (Box w n) W0 W) : Mach (fun b => Q b ∨ w.heap.size ≤ b) M W c s := by
  have hm := h0.lt
  exact h.keep (ho.block M h.lt (fun e => by have := e.1; omega)) (fun b hq hl => ⟨.inl hq.1, ho.block b hl (fun e => by have := e.1; have := hq.2; omega)⟩) (fun b hq => hq.elim (h0.1 b) (fun h => by omega))
theorem one_only2 {F : Nat → Prop} {n : Nat} {w W0 W : World} (hb : Below w.heap.size w W0) (ho : Only (Box w n) W0 W) : Only F w W :=
  ⟨ho.os.trans hb.os, ho.tape.trans hb.tape, ho.output.trans hb.output, Nat.le_trans hb.size ho.size, fun b hl _ => (ho.block b (Nat.lt_of_lt_of_le hl hb.size) (fun e => by have := e.1; omega)).trans (hb.block b hl)⟩

set_option maxRecDepth 100000 in
set_option maxHeartbeats 4000000 in
/-- flush.one -/
theorem fone_calls {Q Qx : Nat → Prop} {M : Nat} {w : World} {c : DConf} {s : DState} {vx : Value} {x : DCmd} {id : DID} (hm : Mach Q M w c s) (hok : StOk c s) (hx : rCmd.val Qx w vx x) :
    Calls Try.prog 127 #[.iface 175 (.pointer (some ⟨M, 0, none⟩)), vx, .agg #[.int .i64 id.index, .int .i64 id.gen]] w (MachDid Q M w c (doneS c s x id).1 (.agg #[.int .i64 (doneS c s x id).2.err, .int .i64 (doneS c s x id).2.id.index, .int .i64 (doneS c s x id).2.id.gen])) := by
  have HM := Lib.hid hm
  have HML := Lib.hid hm.lt
  have HOK := Lib.hid hok
  obtain ⟨A5, c5, rfl, _, _, _, _, h5⟩ := rCmd_val hx
  have H5 := Lib.hid h5
  have hfr : Try.f127.results = #[.cell 6 168] := rfl
  clear hm hx hok h5
  obtain ⟨W0, hW0⟩ : ∃ W, (((w.alloc (.cells #[.int .i64 x.kind, .bool x.loc, .int .i64 x.id.index, .int .i64 x.id.gen, .int .i64 x.comp, .slice A5 x.data.length c5] 116)).alloc (.cells #[.int .i64 id.index, .int .i64 id.gen] 114)).alloc (.cells #[.int .i64 0, .int .i64 0, .int .i64 0] 168)) = W := ⟨_, rfl⟩
  have hz0 : W0.heap.size = w.heap.size + 3 := by rw [← hW0]; simp
  have hb0 : Below w.heap.size w W0 := by rw [← hW0]; exact (((Below.refl _ _).alloc (Nat.le_refl _) _).alloc (by first | (simp; done) | (simp; omega)) _).alloc (by first | (simp; done) | (simp; omega)) _
  have HZ := Lib.hid hz0
  have HB0 := Lib.hid hb0
  have R0_0 := Lib.hid (show W0.heap[w.heap.size]? = some (.cells #[.int .i64 x.kind, .bool x.loc, .int .i64 x.id.index, .int .i64 x.id.gen, .int .i64 x.comp, .slice A5 x.data.length c5] 116 (0, 0)) by rw [← hW0]; exact alloc_old (alloc_old (alloc_at rfl)))
  have R1_0 := Lib.hid (show W0.heap[w.heap.size + 1]? = some (.cells #[.int .i64 id.index, .int .i64 id.gen] 114 (0, 0)) by rw [← hW0]; exact alloc_old (alloc_at (by simp)))
  have R2_0 := Lib.hid (show W0.heap[w.heap.size + 1 + 1]? = some (.cells #[.int .i64 0, .int .i64 0, .int .i64 0] 168 (0, 0)) by rw [← hW0]; exact alloc_at (by simp))
  have O0 := Lib.hid (Only.refl (Box w 3) W0)
  have HMV := Lib.hid (show Mach (Lo Q w) M W0 c s from HM.out.lo hb0)
  have HDV := Lib.hid (show Rep.byte.list.val (Lo Qx w) W0 (.slice A5 x.data.length c5) x.data from val_lo H5.out.val hb0)
  have hm_spawn : ∀ (n : Nat) (W : World), (method (n + 1) 175 (.pointer (some ⟨M, 0, none⟩)) "vivarium/flush.spawn").run Try.prog W = .ok (179, .pointer (some ⟨M, 0, none⟩)) W := fun _ _ => by kernel_rfl
  have hm_despawn : ∀ (n : Nat) (W : World), (method (n + 1) 175 (.pointer (some ⟨M, 0, none⟩)) "vivarium/flush.despawn").run Try.prog W = .ok (176, .pointer (some ⟨M, 0, none⟩)) W := fun _ _ => by kernel_rfl
  have hm_set : ∀ (n : Nat) (W : World), (method (n + 1) 175 (.pointer (some ⟨M, 0, none⟩)) "vivarium/flush.set").run Try.prog W = .ok (178, .pointer (some ⟨M, 0, none⟩)) W := fun _ _ => by kernel_rfl
  have hm_remove : ∀ (n : Nat) (W : World), (method (n + 1) 175 (.pointer (some ⟨M, 0, none⟩)) "vivarium/flush.remove").run Try.prog W = .ok (177, .pointer (some ⟨M, 0, none⟩)) W := fun _ _ => by kernel_rfl
  by_cases hk : x.kind = 0
  case pos =>
    have HE := Lib.hid (doneS_0 (c := c) (s := s) (x := x) (id := id) hk)
    have g0 : (x.kind == 0) = true := by simp [hk]
    clear hk
    clear hz0 hb0
    have q0_0 := rw6 R0_0.out
    have q1_0 := rw2 R1_0.out
    have q2_0 := rw3 R2_0.out
    go_enter Try.func127, Try.ntmps127
    go_wp2_with fail
    try rw [hW0]
    clear hW0
    try go_wp2_with fail
    clear q0_0 q1_0 q2_0
    refine (machSpawn_calls HMV.out HOK.out).mono ?_
    obtain ⟨r, hr⟩ : ∃ r, spawnS c s = r := ⟨_, rfl⟩
    rw [hr] at HE ⊢
    clear hr
    rintro e w1 ⟨rfl, hm1, ho1⟩
    have HM1 := Lib.hid hm1
    have HO1 := Lib.hid ho1
    clear hm1 ho1
    have T0 := Lib.hid (row_only HO1.out R0_0.out (by have := HML.out; first | omega | (dsimp only; omega)))
    have T1 := Lib.hid (row_only HO1.out R1_0.out (by have := HML.out; first | omega | (dsimp only; omega)))
    have T2 := Lib.hid (row_only HO1.out R2_0.out (by have := HML.out; first | omega | (dsimp only; omega)))
    have q0_0 := rw6 T0.out
    have q1_0 := rw2 T1.out
    have q2_0 := rw3 T2.out
    go_wp2_with fail
    clear q0_0 q1_0 q2_0
    refine nm_post (fun w9 hnm => ?_)
    have HO9 := Lib.hid (show Only (fun b => b = w.heap.size + 1 + 1) w1 w9 by rw [hnm]; exact (((((((Only.refl (fun b => b = w.heap.size + 1 + 1) w1)).put rfl).put rfl).put rfl).put rfl).put rfl).put rfl)
    have R9 := Lib.hid (show w9.heap[w.heap.size + 1 + 1]? = some (.cells #[.int .i64 r.2.2, .int .i64 r.2.1.index, .int .i64 r.2.1.gen] 168 (0, 0)) by rw [hnm]; exact heap_setRow (heap_setRow (heap_setRow (heap_setRow (heap_setRow (heap_setRow (T2.out)))))))
    clear hnm
    have q2_0 := cl3 R9.out
    refine ⟨rfl, .agg #[.int .i64 r.2.2, .int .i64 r.2.1.index, .int .i64 r.2.1.gen], by simp only [results, hfr]; go_simp, ?_⟩
    clear q2_0
    rw [HE.out]
    exact ⟨rfl, one_mach HB0.out HZ.out HM.out HM1.out HO9.out, one_only HB0.out HO1.out HO9.out⟩
  by_cases hk : x.kind = 1
  case pos =>
    have HE := Lib.hid (doneS_1 (c := c) (s := s) (x := x) (id := id) hk)
    have g0 : (x.kind == 0) = false := beq_eq_false_iff_ne.2 (by omega)
    have g1 : (x.kind == 1) = true := by simp [hk]
    clear hk
    clear hz0 hb0
    have q0_0 := rw6 R0_0.out
    have q1_0 := rw2 R1_0.out
    have q2_0 := rw3 R2_0.out
    go_enter Try.func127, Try.ntmps127
    go_wp2_with fail
    try rw [hW0]
    clear hW0
    try go_wp2_with fail
    clear q0_0 q1_0 q2_0
    refine (machDespawn_calls (id := id) HMV.out HOK.out).mono ?_
    obtain ⟨r, hr⟩ : ∃ r, despawnS c s id = r := ⟨_, rfl⟩
    rw [hr] at HE ⊢
    clear hr
    rintro e w1 ⟨rfl, hm1, ho1⟩
    have HM1 := Lib.hid hm1
    have HO1 := Lib.hid ho1
    clear hm1 ho1
    have T0 := Lib.hid (row_only HO1.out R0_0.out (by have := HML.out; first | omega | (dsimp only; omega)))
    have T1 := Lib.hid (row_only HO1.out R1_0.out (by have := HML.out; first | omega | (dsimp only; omega)))
    have T2 := Lib.hid (row_only HO1.out R2_0.out (by have := HML.out; first | omega | (dsimp only; omega)))
    have q0_0 := rw6 T0.out
    have q1_0 := rw2 T1.out
    have q2_0 := rw3 T2.out
    go_wp2_with fail
    clear q0_0 q1_0 q2_0
    refine nm_post (fun w9 hnm => ?_)
    have HO9 := Lib.hid (show Only (fun b => b = w.heap.size + 1 + 1) w1 w9 by rw [hnm]; exact (((((Only.refl (fun b => b = w.heap.size + 1 + 1) w1)).put rfl).put rfl).put rfl).put rfl)
    have R9 := Lib.hid (show w9.heap[w.heap.size + 1 + 1]? = some (.cells #[.int .i64 r.2, .int .i64 0, .int .i64 0] 168 (0, 0)) by rw [hnm]; exact heap_setRow (heap_setRow (heap_setRow (heap_setRow (T2.out)))))
    clear hnm
    have q2_0 := cl3 R9.out
    refine ⟨rfl, .agg #[.int .i64 r.2, .int .i64 0, .int .i64 0], by simp only [results, hfr]; go_simp, ?_⟩
    clear q2_0
    rw [HE.out]
    exact ⟨rfl, one_mach HB0.out HZ.out HM.out HM1.out HO9.out, one_only HB0.out HO1.out HO9.out⟩
  by_cases hk : x.kind = 2
  case pos =>
    have HE := Lib.hid (doneS_2 (c := c) (s := s) (x := x) (id := id) hk)
    have g0 : (x.kind == 0) = false := beq_eq_false_iff_ne.2 (by omega)
    have g1 : (x.kind == 1) = false := beq_eq_false_iff_ne.2 (by omega)
    have g2 : (x.kind == 2) = true := by simp [hk]
    clear hk
    clear hz0 hb0
    have q0_0 := rw6 R0_0.out
    have q1_0 := rw2 R1_0.out
    have q2_0 := rw3 R2_0.out
    go_enter Try.func127, Try.ntmps127
    go_wp2_with fail
    try rw [hW0]
    clear hW0
    try go_wp2_with fail
    clear q0_0 q1_0 q2_0
    refine (machSet_calls (id := id) (k := x.comp) HMV.out HOK.out HDV.out).mono ?_
    obtain ⟨r, hr⟩ : ∃ r, setS c s id x.comp x.data = r := ⟨_, rfl⟩
    rw [hr] at HE ⊢
    clear hr
    rintro e w1 ⟨rfl, hm1, ho1⟩
    have HM1 := Lib.hid hm1
    have HO1 := Lib.hid ho1
    clear hm1 ho1
    have T0 := Lib.hid (row_only HO1.out R0_0.out (by have := HML.out; first | omega | (dsimp only; omega)))
    have T1 := Lib.hid (row_only HO1.out R1_0.out (by have := HML.out; first | omega | (dsimp only; omega)))
    have T2 := Lib.hid (row_only HO1.out R2_0.out (by have := HML.out; first | omega | (dsimp only; omega)))
    have q0_0 := rw6 T0.out
    have q1_0 := rw2 T1.out
    have q2_0 := rw3 T2.out
    go_wp2_with fail
    clear q0_0 q1_0 q2_0
    refine nm_post (fun w9 hnm => ?_)
    have HO9 := Lib.hid (show Only (fun b => b = w.heap.size + 1 + 1) w1 w9 by rw [hnm]; exact (((((Only.refl (fun b => b = w.heap.size + 1 + 1) w1)).put rfl).put rfl).put rfl).put rfl)
    have R9 := Lib.hid (show w9.heap[w.heap.size + 1 + 1]? = some (.cells #[.int .i64 r.2, .int .i64 0, .int .i64 0] 168 (0, 0)) by rw [hnm]; exact heap_setRow (heap_setRow (heap_setRow (heap_setRow (T2.out)))))
    clear hnm
    have q2_0 := cl3 R9.out
    refine ⟨rfl, .agg #[.int .i64 r.2, .int .i64 0, .int .i64 0], by simp only [results, hfr]; go_simp, ?_⟩
    clear q2_0
    rw [HE.out]
    exact ⟨rfl, one_mach HB0.out HZ.out HM.out HM1.out HO9.out, one_only HB0.out HO1.out HO9.out⟩
  by_cases hk : x.kind = 3
  case pos =>
    have HE := Lib.hid (doneS_3 (c := c) (s := s) (x := x) (id := id) hk)
    have g0 : (x.kind == 0) = false := beq_eq_false_iff_ne.2 (by omega)
    have g1 : (x.kind == 1) = false := beq_eq_false_iff_ne.2 (by omega)
    have g2 : (x.kind == 2) = false := beq_eq_false_iff_ne.2 (by omega)
    have g3 : (x.kind == 3) = true := by simp [hk]
    clear hk
    clear hz0 hb0
    have q0_0 := rw6 R0_0.out
    have q1_0 := rw2 R1_0.out
    have q2_0 := rw3 R2_0.out
    go_enter Try.func127, Try.ntmps127
    go_wp2_with fail
    try rw [hW0]
    clear hW0
    try go_wp2_with fail
    clear q0_0 q1_0 q2_0
    refine (machRemove_calls (id := id) (k := x.comp) HMV.out HOK.out).mono ?_
    obtain ⟨r, hr⟩ : ∃ r, removeS c s id x.comp = r := ⟨_, rfl⟩
    rw [hr] at HE ⊢
    clear hr
    rintro e w1 ⟨rfl, hm1, ho1⟩
    have HM1 := Lib.hid hm1
    have HO1 := Lib.hid ho1
    clear hm1 ho1
    have T0 := Lib.hid (row_only HO1.out R0_0.out (by have := HML.out; first | omega | (dsimp only; omega)))
    have T1 := Lib.hid (row_only HO1.out R1_0.out (by have := HML.out; first | omega | (dsimp only; omega)))
    have T2 := Lib.hid (row_only HO1.out R2_0.out (by have := HML.out; first | omega | (dsimp only; omega)))
    have q0_0 := rw6 T0.out
    have q1_0 := rw2 T1.out
    have q2_0 := rw3 T2.out
    go_wp2_with fail
    clear q0_0 q1_0 q2_0
    refine nm_post (fun w9 hnm => ?_)
    have HO9 := Lib.hid (show Only (fun b => b = w.heap.size + 1 + 1) w1 w9 by rw [hnm]; exact (((((Only.refl (fun b => b = w.heap.size + 1 + 1) w1)).put rfl).put rfl).put rfl).put rfl)
    have R9 := Lib.hid (show w9.heap[w.heap.size + 1 + 1]? = some (.cells #[.int .i64 r.2, .int .i64 0, .int .i64 0] 168 (0, 0)) by rw [hnm]; exact heap_setRow (heap_setRow (heap_setRow (heap_setRow (T2.out)))))
    clear hnm
    have q2_0 := cl3 R9.out
    refine ⟨rfl, .agg #[.int .i64 r.2, .int .i64 0, .int .i64 0], by simp only [results, hfr]; go_simp, ?_⟩
    clear q2_0
    rw [HE.out]
    exact ⟨rfl, one_mach HB0.out HZ.out HM.out HM1.out HO9.out, one_only HB0.out HO1.out HO9.out⟩
  have HE := Lib.hid (doneS_bad (c := c) (s := s) (x := x) (id := id) (by omega))
  have g0 : (x.kind == 0) = false := beq_eq_false_iff_ne.2 (by omega)
  have g1 : (x.kind == 1) = false := beq_eq_false_iff_ne.2 (by omega)
  have g2 : (x.kind == 2) = false := beq_eq_false_iff_ne.2 (by omega)
  have g3 : (x.kind == 3) = false := beq_eq_false_iff_ne.2 (by omega)
  clear hz0 hb0
  have q0_0 := rw6 R0_0.out
  have q1_0 := rw2 R1_0.out
  have q2_0 := rw3 R2_0.out
  go_enter Try.func127, Try.ntmps127
  go_wp2_with fail
  try rw [hW0]
  clear hW0
  try go_wp2_with fail
  clear q0_0 q1_0 q2_0
  refine nm_post (fun w9 hnm => ?_)
  have S1 := Lib.hid (show Only (Box w 3) W0 w9 from (by rw [hnm]; exact ((((Only.refl (Box w 3) W0).put ⟨by omega, by omega⟩).put ⟨by omega, by omega⟩).put ⟨by omega, by omega⟩).put ⟨by omega, by omega⟩))
  have O1 := Lib.hid (O0.out.trans S1.out)
  have R0_1 := Lib.hid (row_nm hnm (row_other (row_other (row_other (row_other (R0_0.out) (by omega)) (by omega)) (by omega)) (by omega)))
  have R1_1 := Lib.hid (row_nm hnm (row_other (row_other (row_other (row_other (R1_0.out) (by omega)) (by omega)) (by omega)) (by omega)))
  have R2_1 := Lib.hid (show w9.heap[w.heap.size + 1 + 1]? = some (.cells #[.int .i64 1, .int .i64 0, .int .i64 0] 168 (0, 0)) from (by rw [hnm]; exact heap_setRow (heap_setRow (heap_setRow (heap_setRow (R2_0.out))))))
  clear hnm
  have q2_0 := cl3 R2_1.out
  refine ⟨rfl, .agg #[.int .i64 1, .int .i64 0, .int .i64 0], by simp only [results, hfr]; go_simp, ?_⟩
  clear q2_0
  rw [HE.out]
  exact ⟨rfl, one_mach2 HM.out HMV.out O1.out, one_only2 HB0.out O1.out⟩
end Go.Proofs.Yteljibjbndpncaa
namespace Go.Proofs.Yteljibjbndpncaa
open Go.RowKit

theorem spawns_get {l : List DCmd} {done : List DResult} {j : Nat} {x : DCmd} {r : DResult} (hx : l[j]? = some x) (hr : done[j]? = some r) (hk : x.kind = 0) : (spawnsOf l done)[(spawnsOf (l.take j) (done.take j)).length]? = some r := by
  have h1 := (List.getElem?_eq_some_iff.1 hx).1
  have h2 := (List.getElem?_eq_some_iff.1 hr).1
  have hn := spawns_next hx hr
  rw [if_pos hk] at hn
  have hs : spawnsOf l done = spawnsOf (l.take (j + 1)) (done.take (j + 1)) ++ spawnsOf (l.drop (j + 1)) (done.drop (j + 1)) := by
    conv => lhs; rw [← List.take_append_drop (j + 1) l, ← List.take_append_drop (j + 1) done]
    unfold spawnsOf
    rw [List.zip_append (by rw [List.length_take, List.length_take]; omega), List.filter_append, List.map_append]
  rw [hs, hn, List.append_assoc, List.getElem?_append_right (Nat.le_refl _), Nat.sub_self]
  rfl
theorem spawns_same {l : List DCmd} {done : List DResult} {j : Nat} (h : done.length ≤ j) : spawnsOf (l.take (j + 1)) (done.take (j + 1)) = spawnsOf (l.take j) (done.take j) := by
  rw [spawns_end (.inr h), spawns_end (.inr (by omega))]

set_option maxRecDepth 100000 in
set_option maxHeartbeats 1000000 in
/-- flush.found -/
theorem ffound_calls {w : World} {r : DResult} :
    Calls Try.prog 146 #[.agg #[.int .i64 r.err, .int .i64 r.id.index, .int .i64 r.id.gen]] w (FoundPost w (if r.err = 0 then some r.id else none)) := by
  have hfr : Try.f146.results = #[.cell 2 114, .tmp 3] := rfl
  by_cases he : r.err = 0
  · skip
    skip
    have HE := Lib.hid (show (if r.err = 0 then some r.id else none) = some r.id from if_pos he)
    rw [HE.out]
    have he1 : (r.err != 0) = false := by simp [he]
    clear he
    obtain ⟨W0, hW0⟩ : ∃ W, ((w.alloc (.cells #[.int .i64 r.err, .int .i64 r.id.index, .int .i64 r.id.gen] 168)).alloc (.cells #[.int .i64 0, .int .i64 0] 114)) = W := ⟨_, rfl⟩
    have hz0 : W0.heap.size = w.heap.size + 2 := by rw [← hW0]; simp
    have hb0 : Below w.heap.size w W0 := by rw [← hW0]; exact ((Below.refl _ _).alloc (Nat.le_refl _) _).alloc (by first | (simp; done) | (simp; omega)) _
    have HZ := Lib.hid hz0
    have HB0 := Lib.hid hb0
    have R0_0 := Lib.hid (show W0.heap[w.heap.size]? = some (.cells #[.int .i64 r.err, .int .i64 r.id.index, .int .i64 r.id.gen] 168 (0, 0)) by rw [← hW0]; exact alloc_old (alloc_at rfl))
    have R1_0 := Lib.hid (show W0.heap[w.heap.size + 1]? = some (.cells #[.int .i64 0, .int .i64 0] 114 (0, 0)) by rw [← hW0]; exact alloc_at (by simp))
    have O0 := Lib.hid (Only.refl (Box w 2) W0)
    clear hz0 hb0
    have q0_0 := rw3 R0_0.out
    have q1_0 := rw2 R1_0.out
    go_enter Try.func146, Try.ntmps146
    go_wp2_with fail
    try rw [hW0]
    clear hW0
    try go_wp2_with fail
    clear q0_0 q1_0
    refine nm_post (fun w1 hnm => ?_)
    have S1 := Lib.hid (show Only (Box w 2) W0 w1 from (by rw [hnm]; exact ((Only.refl (Box w 2) W0).put ⟨by omega, by omega⟩).put ⟨by omega, by omega⟩))
    have O1 := Lib.hid (O0.out.trans S1.out)
    have R0_1 := Lib.hid (row_nm hnm (row_other (row_other (R0_0.out) (by omega)) (by omega)))
    have R1_1 := Lib.hid (show w1.heap[w.heap.size + 1]? = some (.cells #[.int .i64 r.id.index, .int .i64 r.id.gen] 114 (0, 0)) from (by rw [hnm]; exact heap_setRow (heap_setRow (R1_0.out))))
    clear hnm
    have q1_0 := cl2 R1_1.out
    refine ⟨rfl, .tuple #[.agg #[.int .i64 r.id.index, .int .i64 r.id.gen], .bool true], by simp only [results, hfr]; go_simp, ?_⟩
    clear q1_0
    exact ⟨rfl, Only.fin HB0.out O1.out⟩
  · skip
    skip
    have HE := Lib.hid (show (if r.err = 0 then some r.id else none) = none from if_neg he)
    rw [HE.out]
    have he1 : (r.err != 0) = true := by simp [he]
    clear he
    obtain ⟨W0, hW0⟩ : ∃ W, ((w.alloc (.cells #[.int .i64 r.err, .int .i64 r.id.index, .int .i64 r.id.gen] 168)).alloc (.cells #[.int .i64 0, .int .i64 0] 114)) = W := ⟨_, rfl⟩
    have hz0 : W0.heap.size = w.heap.size + 2 := by rw [← hW0]; simp
    have hb0 : Below w.heap.size w W0 := by rw [← hW0]; exact ((Below.refl _ _).alloc (Nat.le_refl _) _).alloc (by first | (simp; done) | (simp; omega)) _
    have HZ := Lib.hid hz0
    have HB0 := Lib.hid hb0
    have R0_0 := Lib.hid (show W0.heap[w.heap.size]? = some (.cells #[.int .i64 r.err, .int .i64 r.id.index, .int .i64 r.id.gen] 168 (0, 0)) by rw [← hW0]; exact alloc_old (alloc_at rfl))
    have R1_0 := Lib.hid (show W0.heap[w.heap.size + 1]? = some (.cells #[.int .i64 0, .int .i64 0] 114 (0, 0)) by rw [← hW0]; exact alloc_at (by simp))
    have O0 := Lib.hid (Only.refl (Box w 2) W0)
    clear hz0 hb0
    have q0_0 := rw3 R0_0.out
    have q1_0 := rw2 R1_0.out
    go_enter Try.func146, Try.ntmps146
    go_wp2_with fail
    try rw [hW0]
    clear hW0
    try go_wp2_with fail
    clear q0_0 q1_0
    refine nm_post (fun w1 hnm => ?_)
    have S1 := Lib.hid (show Only (Box w 2) W0 w1 from (by rw [hnm]; exact ((Only.refl (Box w 2) W0).put ⟨by omega, by omega⟩).put ⟨by omega, by omega⟩))
    have O1 := Lib.hid (O0.out.trans S1.out)
    have R0_1 := Lib.hid (row_nm hnm (row_other (row_other (R0_0.out) (by omega)) (by omega)))
    have R1_1 := Lib.hid (show w1.heap[w.heap.size + 1]? = some (.cells #[.int .i64 0, .int .i64 0] 114 (0, 0)) from (by rw [hnm]; exact heap_setRow (heap_setRow (R1_0.out))))
    clear hnm
    have q1_0 := cl2 R1_1.out
    refine ⟨rfl, .tuple #[.agg #[.int .i64 0, .int .i64 0], .bool false], by simp only [results, hfr]; go_simp, ?_⟩
    clear q1_0
    exact ⟨rfl, Only.fin HB0.out O1.out⟩

set_option maxRecDepth 100000 in
set_option maxHeartbeats 4000000 in
/-- flush.Find -/
theorem ffind_calls {Q Q' : Nat → Prop} {w : World} {u v : Value} {l : List DCmd} {done : List DResult} {k : Int} (hx : rCmd.list.val Q w u l) (hy : rResult.list.val Q' w v done) (hl : done.length ≤ 100000) (hkw : (Lit.int .i64 k).wf = true) :
    Calls Try.prog 126 #[u, v, .int .i64 k] w (FoundPost w (findS l done k)) := by
  obtain ⟨A, c, rfl, hc1, hc2, hA⟩ := Rep.val_list hx
  obtain ⟨B, d, rfl, hd1, hd2, hB⟩ := Rep.val_list hy
  unfold maxLen at hc2 hd2
  have HA := Lib.hid hA
  have HB := Lib.hid hB
  have HL := Lib.hid hl
  have HKW := Lib.hid (show -9223372036854775808 ≤ k ∧ k ≤ 9223372036854775807 by
    have h : IntKind.i64.min ≤ k ∧ k ≤ IntKind.i64.max := by simpa [Lit.wf] using hkw
    have h1 : IntKind.i64.min = -9223372036854775808 := rfl
    have h2 : IntKind.i64.max = 9223372036854775807 := rfl
    omega)
  have hfr : Try.f126.results = #[.cell 6 114, .tmp 7] := rfl
  clear hx hy hA hB hkw
  obtain ⟨W0, hW0⟩ : ∃ W, (w.alloc (.cells #[.int .i64 0, .int .i64 0] 114)) = W := ⟨_, rfl⟩
  have hz0 : W0.heap.size = w.heap.size + 1 := by rw [← hW0]; simp
  have hb0 : Below w.heap.size w W0 := by rw [← hW0]; exact (Below.refl _ _).alloc (Nat.le_refl _) _
  have HZ := Lib.hid hz0
  have HB0 := Lib.hid hb0
  have R0_0 := Lib.hid (show W0.heap[w.heap.size]? = some (.cells #[.int .i64 0, .int .i64 0] 114 (0, 0)) by rw [← hW0]; exact alloc_at rfl)
  have O0 := Lib.hid (Only.refl (Box w 1) W0)
  have HAT := Lib.hid (show ∀ V, Below W0.heap.size W0 V → rCmd.At Q V A l from fun V h => Rep.At.keep (w := w) (fun b hb hl => ⟨hb, (hb0.trans (h.mono hb0.size)).block b hl.lt⟩) HA.out)
  have HBT := Lib.hid (show ∀ V, Below W0.heap.size W0 V → rResult.At Q' V B done from fun V h => Rep.At.keep (w := w) (fun b hb hl => ⟨hb, (hb0.trans (h.mono hb0.size)).block b hl.lt⟩) HB.out)
  clear hz0 hb0
  have q0_0 := rw2 R0_0.out
  go_enter Try.func126, Try.ntmps126
  go_wp2_with fail
  try rw [hW0]
  clear hW0
  try go_wp2_with fail
  clear q0_0
  go_loopw [2, 12] (fun u2 i wr => ∃ (j : Nat) (k' : Int), i = .int .i64 j ∧ u2 = .int .i64 k' ∧ j ≤ l.length ∧ Hid (k' = IntKind.i64.wrap (k - ((spawnsOf (l.take j) (done.take j)).length : Nat))) ∧ Hid (k < 0 ∨ (((spawnsOf (l.take j) (done.take j)).length : Nat) : Int) ≤ k) ∧ Hid (Below W0.heap.size W0 wr)) (fun _ i _ => l.length - (intOf i).toNat)
  case atStart => exact ⟨0, k, rfl, rfl, Nat.zero_le _, Lib.hid (by simp only [List.take_zero]; rw [show (spawnsOf [] []).length = 0 from rfl]; have := HKW.out; rw [IntKind.wrap_i64]; omega), Lib.hid (by simp only [List.take_zero]; rw [show (spawnsOf [] []).length = 0 from rfl]; omega), Lib.hid (Below.refl _ _)⟩
  case round =>
    obtain ⟨j, k', rfl, rfl, hj1, HKR, HNF, HBR⟩ := hrel
    have HSL := Lib.hid (show (spawnsOf (l.take j) (done.take j)).length ≤ done.length from Nat.le_trans spawns_len (by rw [List.length_take]; omega))
    by_cases hlt : (j : Int) < l.length
    · skip
      obtain ⟨x, hx⟩ : ∃ x, l[j]? = some x := ⟨_, List.getElem?_eq_getElem (by omega)⟩
      obtain ⟨cb, co, Ad, cd, rfl, _, x0, x1, x2, x3, x4, x5, _⟩ := rCmd_at (HAT.out wr HBR.out) hx
      have HX := Lib.hid hx
      clear hx
      by_cases hk : x.kind = 0
      case neg =>
        have hk0 : (x.kind != 0) = true := by simp [hk]
        have HK := Lib.hid hk
        clear hk
        have HSM := Lib.hid (show spawnsOf (l.take (j + 1)) (done.take (j + 1)) = spawnsOf (l.take j) (done.take j) by rcases Nat.lt_or_ge j done.length with h | h; (· rw [spawns_next HX.out (List.getElem?_eq_getElem h), if_neg HK.out, List.append_nil]); exact spawns_same h)
        go_wp2_with fail
        exact ⟨⟨j + 1, k', by go_num, rfl, by omega, Lib.hid (by rw [HSM.out]; exact HKR.out), Lib.hid (by rw [HSM.out]; exact HNF.out), Lib.hid (HBR.out.trans ((Below.refl _ _).alloc (Nat.le_refl _) _ |>.mono HBR.out.size))⟩, by simp [intOf]; omega⟩
      have hk0 : (x.kind != 0) = false := by simp [hk]
      have HK := Lib.hid hk
      clear hk
      by_cases hlt2 : (j : Int) < done.length
      case neg =>
        have HSM := Lib.hid (spawns_same (l := l) (done := done) (j := j) (by omega))
        go_wp2_with fail
        exact ⟨⟨j + 1, k', by go_num, rfl, by omega, Lib.hid (by rw [HSM.out]; exact HKR.out), Lib.hid (by rw [HSM.out]; exact HNF.out), Lib.hid (HBR.out.trans ((Below.refl _ _).alloc (Nat.le_refl _) _ |>.mono HBR.out.size))⟩, by simp [intOf]; omega⟩
      obtain ⟨r, hr⟩ : ∃ r, done[j]? = some r := ⟨_, List.getElem?_eq_getElem (by omega)⟩
      obtain ⟨rb, ro, rfl, _, y0, y1, y2, _⟩ := rResult_at (HBT.out wr HBR.out) hr
      have HR := Lib.hid hr
      clear hr
      by_cases hz : k' = 0
      case pos =>
        subst hz
        have HE := Lib.hid (show findS l done k = (if r.err = 0 then some r.id else none) by
          have h1 := HKR.out
          have h2 := HKW.out
          have h3 := HSL.out
          have h4 := HL.out
          rw [IntKind.wrap_i64] at h1
          have hkm : k = (((spawnsOf (l.take j) (done.take j)).length : Nat) : Int) := by omega
          rw [hkm]
          exact findS_at (spawns_get HX.out HR.out HK.out))
        have S1 := Lib.hid (show Only (Box w 1) W0 wr from Only.of_below HBR.out)
        have O1 := Lib.hid (O0.out.trans S1.out)
        have R0_1 := Lib.hid (row_call HBR.out R0_0.out)
        have k1 : (wr.alloc (.cells #[.int .i64 x.kind, .bool x.loc, .int .i64 x.id.index, .int .i64 x.id.gen, .int .i64 x.comp, .slice Ad x.data.length cd] 116)).heap[w.heap.size]? = some (.cells #[.int .i64 0, .int .i64 0] 114 (0, 0)) := alloc_old (R0_1.out)
        have k1_0 := rw2 k1
        clear k1
        have k2 : (wr.alloc (.cells #[.int .i64 x.kind, .bool x.loc, .int .i64 x.id.index, .int .i64 x.id.gen, .int .i64 x.comp, .slice Ad x.data.length cd] 116)).heap[wr.heap.size]? = some (.cells #[.int .i64 x.kind, .bool x.loc, .int .i64 x.id.index, .int .i64 x.id.gen, .int .i64 x.comp, .slice Ad x.data.length cd] 116 (0, 0)) := alloc_at rfl
        have k2_0 := rw6 k2
        clear k2
        have yy0 := cell_call (show Below wr.heap.size wr (wr.alloc (.cells #[.int .i64 x.kind, .bool x.loc, .int .i64 x.id.index, .int .i64 x.id.gen, .int .i64 x.comp, .slice Ad x.data.length cd] 116)) from (Below.refl _ _).alloc (Nat.le_refl _) _) y0
        have yy1 := cell_call (show Below wr.heap.size wr (wr.alloc (.cells #[.int .i64 x.kind, .bool x.loc, .int .i64 x.id.index, .int .i64 x.id.gen, .int .i64 x.comp, .slice Ad x.data.length cd] 116)) from (Below.refl _ _).alloc (Nat.le_refl _) _) y1
        have yy2 := cell_call (show Below wr.heap.size wr (wr.alloc (.cells #[.int .i64 x.kind, .bool x.loc, .int .i64 x.id.index, .int .i64 x.id.gen, .int .i64 x.comp, .slice Ad x.data.length cd] 116)) from (Below.refl _ _).alloc (Nat.le_refl _) _) y2
        go_wp2_with fail
        clear k1_0 k2_0 yy0 yy1 yy2
        refine nm_calls (fun w1 hnm => ?_)
        have HF1 := Lib.hid (show w.heap.size + 1 ≤ wr.heap.size by have := O1.out.size; have := HZ.out; omega)
        have S2 := Lib.hid (show Only (Box w 1) wr w1 from (by rw [hnm]; exact (Only.refl (Box w 1) wr).alloc _))
        have O2 := Lib.hid (O1.out.trans S2.out)
        have R0_2 := Lib.hid (row_nm hnm (alloc_old (R0_1.out)))
        have Rwr_heap_size_2 := Lib.hid (show w1.heap[wr.heap.size]? = some (.cells #[.int .i64 x.kind, .bool x.loc, .int .i64 x.id.index, .int .i64 x.id.gen, .int .i64 x.comp, .slice Ad x.data.length cd] 116 (0, 0)) from (by rw [hnm]; exact alloc_at rfl))
        clear hnm
        refine (ffound_calls (r := r)).mono ?_
        rintro e w2 ⟨rfl, hb⟩
        obtain ⟨d, hd⟩ : ∃ d : Option DID, (if r.err = 0 then some r.id else none) = d := ⟨_, rfl⟩
        rw [hd] at HE ⊢
        clear hd
        have S3 := Lib.hid (show Only (Box w 1) w1 w2 from Only.of_below hb)
        have O3 := Lib.hid (O2.out.trans S3.out)
        have R0_3 := Lib.hid (row_call hb R0_2.out)
        have Rwr_heap_size_3 := Lib.hid (row_call hb Rwr_heap_size_2.out)
        clear hb
        have q0_0 := rw2 R0_3.out
        have qn0_0 := rw6 Rwr_heap_size_3.out
        go_wp2_with fail
        clear q0_0 qn0_0
        refine nm_post (fun w3 hnm => ?_)
        have S4 := Lib.hid (show Only (Box w 1) w2 w3 from (by rw [hnm]; exact ((Only.refl (Box w 1) w2).put ⟨by omega, by omega⟩).put ⟨by omega, by omega⟩))
        have O4 := Lib.hid (O3.out.trans S4.out)
        have R0_4 := Lib.hid (show w3.heap[w.heap.size]? = some (.cells #[.int .i64 (d.getD noID).index, .int .i64 (d.getD noID).gen] 114 (0, 0)) from (by rw [hnm]; exact heap_setRow (heap_setRow (R0_3.out))))
        have Rwr_heap_size_4 := Lib.hid (row_nm hnm (row_other (row_other (Rwr_heap_size_3.out) (by have := HF1.out; omega)) (by have := HF1.out; omega)))
        clear hnm
        have q0_0 := cl2 R0_4.out
        refine ⟨rfl, .tuple #[.agg #[.int .i64 (d.getD noID).index, .int .i64 (d.getD noID).gen], .bool d.isSome], by simp only [results, hfr]; go_simp, ?_⟩
        clear q0_0
        exact ⟨by rw [HE.out], Only.fin HB0.out O4.out⟩
      have HN := Lib.hid (show (spawnsOf (l.take (j + 1)) (done.take (j + 1))).length = (spawnsOf (l.take j) (done.take j)).length + 1 by rw [spawns_next HX.out HR.out, if_pos HK.out, List.length_append]; rfl)
      have HK2 := Lib.hid (show IntKind.i64.wrap (k' - 1) = IntKind.i64.wrap (k - (((spawnsOf (l.take j) (done.take j)).length + 1 : Nat) : Int)) by
        rw [HKR.out, IntKind.wrap_i64, IntKind.wrap_i64, IntKind.wrap_i64]; omega)
      have HN2 := Lib.hid (show k < 0 ∨ ((((spawnsOf (l.take j) (done.take j)).length + 1 : Nat)) : Int) ≤ k by
        have h1 := HKR.out
        have h2 := HKW.out
        have h3 := HSL.out
        have h4 := HL.out
        have h5 := HNF.out
        rw [IntKind.wrap_i64] at h1
        omega)
      have hz0 : (k' == 0) = false := by simp [hz]
      clear hz
      go_wp2_with fail
      exact ⟨⟨j + 1, _, by go_num, rfl, by omega, Lib.hid (by rw [HN.out]; have h := HK2.out; rw [IntWalk.i64_left (k' - 1)] at h; exact h), Lib.hid (by rw [HN.out]; exact HN2.out), Lib.hid (HBR.out.trans ((Below.refl _ _).alloc (Nat.le_refl _) _ |>.mono HBR.out.size))⟩, by simp [intOf]; omega⟩
    · obtain rfl : j = l.length := by omega
      have HE := Lib.hid (show findS l done k = none by
        have h := HNF.out
        rw [spawns_end (.inl (Nat.le_refl _))] at h
        rcases h with h | h
        · exact findS_neg h
        · exact findS_high h)
      have S1 := Lib.hid (show Only (Box w 1) W0 wr from Only.of_below HBR.out)
      have O1 := Lib.hid (O0.out.trans S1.out)
      have R0_1 := Lib.hid (row_call HBR.out R0_0.out)
      have q0_0 := rw2 R0_1.out
      go_wp2_with fail
      clear q0_0
      refine nm_post (fun w3 hnm => ?_)
      have S2 := Lib.hid (show Only (Box w 1) wr w3 from (by rw [hnm]; exact ((Only.refl (Box w 1) wr).put ⟨by omega, by omega⟩).put ⟨by omega, by omega⟩))
      have O2 := Lib.hid (O1.out.trans S2.out)
      have R0_2 := Lib.hid (show w3.heap[w.heap.size]? = some (.cells #[.int .i64 0, .int .i64 0] 114 (0, 0)) from (by rw [hnm]; exact heap_setRow (heap_setRow (R0_1.out))))
      clear hnm
      have q0_0 := cl2 R0_2.out
      refine ⟨rfl, .tuple #[.agg #[.int .i64 0, .int .i64 0], .bool false], by simp only [results, hfr]; go_simp, ?_⟩
      clear q0_0
      exact ⟨by rw [HE.out]; rfl, Only.fin HB0.out O2.out⟩
end Go.Proofs.Yteljibjbndpncaa
