/- A step of the reference's device: a fuse, a crash, a sector that is none. -/
import Derived.Test.YtfpmkenobphfnaaPstRGoBox
namespace Go.Proofs.Ytfpmkenobphfnaa
open Go.RowKit

set_option maxRecDepth 100000 in
set_option maxHeartbeats 4000000 in
/-- ref04.Go: fuse -/
theorem rgo_fuse {Q Q' : Nat → Prop} {w : World} {v u : Value} {d : DDisk} {x : DStep} (hx : rDisk.val Q w v d) (hy : rStep.val Q' w u x) (hq : ∀ b, Q b → b < w.heap.size) (hq' : ∀ b, Q' b → b < w.heap.size) (hn : d.wait.length ≤ 100000000) (hs : d.safe.length ≤ 100000000) (hk : ∀ y ∈ d.wait, 0 ≤ y.pos ∧ y.pos < d.safe.length) (h3 : x.act = 3) :
    Calls Try.prog 15 #[v, u] w (GoPost Q w (goW d x)) := by
  obtain ⟨A0, c0, A1, c1, rfl, sp, sq, f2, f3, f4⟩ := rDisk_val hx
  obtain ⟨A2, c2, A3, c3, rfl, g0, g1, sb, sf⟩ := rStep_val hy
  have hsz1 : (w.alloc (.cells (dcells d A0 c0 A1 c1) 33)).heap.size = w.heap.size + 1 := by simp
  have hsz2 : ((w.alloc (.cells (dcells d A0 c0 A1 c1) 33)).alloc (.cells (scells x A2 c2 A3 c3) 41)).heap.size = w.heap.size + 1 + 1 := by simp
  have b1 : Below w.heap.size w (w.alloc (.cells (dcells d A0 c0 A1 c1) 33)) := (Below.refl _ _).alloc (Nat.le_refl _) _
  have b2 := b1.alloc (by rw [hsz1]; omega) (.cells (scells x A2 c2 A3 c3) 41)
  have b3 := b2.alloc (by rw [hsz2]; omega) (.cells zcells 33)
  have k1 := heap_alloc_new w (.cells (dcells d A0 c0 A1 c1) 33)
  have k2 := heap_alloc_new (w.alloc (.cells (dcells d A0 c0 A1 c1) 33)) (.cells (scells x A2 c2 A3 c3) 41)
  have k3 := heap_alloc_new ((w.alloc (.cells (dcells d A0 c0 A1 c1) 33)).alloc (.cells (scells x A2 c2 A3 c3) 41)) (.cells zcells 33)
  rw [hsz1] at k2
  rw [hsz2] at k3
  have hbox : GoBox Q Q' w (((w.alloc (.cells (dcells d A0 c0 A1 c1) 33)).alloc (.cells (scells x A2 c2 A3 c3) 41)).alloc (.cells zcells 33)) d x A0 c0 A1 c1 A2 c2 A3 c3 :=
    ⟨(Below.heap_alloc _ _ _ (by rw [hsz2]; omega)).trans ((Below.heap_alloc _ _ _ (by rw [hsz1]; omega)).trans k1), (Below.heap_alloc _ _ _ (by rw [hsz2]; omega)).trans k2, k3, b3, by simp,
      sp.keep fun b hb hl => ⟨.inl hb, b3.block b hl.lt⟩, sq.keep fun b hb hl => ⟨.inl hb, b3.block b hl.lt⟩, f2, f3, f4, sb.keep fun b hb hl => ⟨hb, b3.block b hl.lt⟩, sf.keep fun b hb hl => ⟨hb, b3.block b hl.lt⟩⟩
  have HG := Lib.hid hbox
  clear hx hy sp sq f2 f3 f4 sb sf hsz1 hsz2 b1 b2 b3 k1 k2 k3 hbox
  have HQ := Lib.hid hq
  have HQ' := Lib.hid hq'
  have HN := Lib.hid hn
  have HSL := Lib.hid hs
  have HK := Lib.hid hk
  clear hq hq' hn hs hk
  unfold dcells scells zcells at HG
  generalize hW1 : ((w.alloc (.cells #[.slice A0 d.safe.length c0, .slice A1 d.wait.length c1, .int .i64 d.fuse, .bool d.off, .int .i64 d.reads, .int .i64 d.writes] 33)).alloc (.cells #[.int .i64 x.act, .int .i64 x.pos, .slice A2 x.b.length c2, .slice A3 x.fates.length c3] 41)).alloc (.cells #[.slice none 0 0, .slice none 0 0, .int .i64 0, .bool false, .int .i64 0, .int .i64 0] 33) = W1 at *
  obtain ⟨e0, e1, e2, e3, e4, e5, z0, z1, z2, z3, z4, z5⟩ := HG.out.dcell
  obtain ⟨s0, s1, s2, s3⟩ := HG.out.scell
  obtain ⟨r0, r1, r2, r3, r4, r5, y0, y1, y2, y3, y4, y5⟩ := HG.out.rcell
  have hfr : Try.f15.results = #[.cell 4 33, .tmp 5, .tmp 6] := rfl
  rw [h3] at s0
  have HR := Lib.hid (show goW d x = ({ d with fuse := if x.pos < 0 then -1 else x.pos }, [], 0) by unfold goW; rw [if_pos h3])
  have H1 := Lib.hid (HG.out.setFuse HQ.out HQ'.out g1)
  clear h3 g0 g1
  by_cases hp : x.pos < 0
  · have HR2 := Lib.hid (show goW d x = ({ d with fuse := -1 }, [], 0) by rw [HR.out, if_pos hp])
    go_enter Try.func15, Try.ntmps15
    go_wp2_with fail
    rw [HR2.out]
    refine ⟨rfl, _, ?_, (H1.out.setFuse HQ.out HQ'.out (n := -1) rfl).done HQ.out ?_ (nil_bytes _ _)⟩
    · simp only [results, hfr]
      go_simp
      try rfl
    · repeat (refine But.set ?_ _ _)
      exact But.refl _ _
  · have HR2 := Lib.hid (show goW d x = ({ d with fuse := x.pos }, [], 0) by rw [HR.out, if_neg hp])
    go_enter Try.func15, Try.ntmps15
    go_wp2_with fail
    rw [HR2.out]
    refine ⟨rfl, _, ?_, H1.out.done HQ.out ?_ (nil_bytes _ _)⟩
    · simp only [results, hfr]
      go_simp
      try rfl
    · repeat (refine But.set ?_ _ _)
      exact But.refl _ _

set_option maxRecDepth 100000 in
set_option maxHeartbeats 4000000 in
/-- ref04.Go: crash -/
theorem rgo_crash {Q Q' : Nat → Prop} {w : World} {v u : Value} {d : DDisk} {x : DStep} (hx : rDisk.val Q w v d) (hy : rStep.val Q' w u x) (hq : ∀ b, Q b → b < w.heap.size) (hq' : ∀ b, Q' b → b < w.heap.size) (hn : d.wait.length ≤ 100000000) (hs : d.safe.length ≤ 100000000) (hk : ∀ y ∈ d.wait, 0 ≤ y.pos ∧ y.pos < d.safe.length) (h3 : ¬ x.act = 3) (h4 : x.act = 4) :
    Calls Try.prog 15 #[v, u] w (GoPost Q w (goW d x)) := by
  obtain ⟨A0, c0, A1, c1, rfl, sp, sq, f2, f3, f4⟩ := rDisk_val hx
  obtain ⟨A2, c2, A3, c3, rfl, g0, g1, sb, sf⟩ := rStep_val hy
  have hsz1 : (w.alloc (.cells (dcells d A0 c0 A1 c1) 33)).heap.size = w.heap.size + 1 := by simp
  have hsz2 : ((w.alloc (.cells (dcells d A0 c0 A1 c1) 33)).alloc (.cells (scells x A2 c2 A3 c3) 41)).heap.size = w.heap.size + 1 + 1 := by simp
  have b1 : Below w.heap.size w (w.alloc (.cells (dcells d A0 c0 A1 c1) 33)) := (Below.refl _ _).alloc (Nat.le_refl _) _
  have b2 := b1.alloc (by rw [hsz1]; omega) (.cells (scells x A2 c2 A3 c3) 41)
  have b3 := b2.alloc (by rw [hsz2]; omega) (.cells zcells 33)
  have k1 := heap_alloc_new w (.cells (dcells d A0 c0 A1 c1) 33)
  have k2 := heap_alloc_new (w.alloc (.cells (dcells d A0 c0 A1 c1) 33)) (.cells (scells x A2 c2 A3 c3) 41)
  have k3 := heap_alloc_new ((w.alloc (.cells (dcells d A0 c0 A1 c1) 33)).alloc (.cells (scells x A2 c2 A3 c3) 41)) (.cells zcells 33)
  rw [hsz1] at k2
  rw [hsz2] at k3
  have hbox : GoBox Q Q' w (((w.alloc (.cells (dcells d A0 c0 A1 c1) 33)).alloc (.cells (scells x A2 c2 A3 c3) 41)).alloc (.cells zcells 33)) d x A0 c0 A1 c1 A2 c2 A3 c3 :=
    ⟨(Below.heap_alloc _ _ _ (by rw [hsz2]; omega)).trans ((Below.heap_alloc _ _ _ (by rw [hsz1]; omega)).trans k1), (Below.heap_alloc _ _ _ (by rw [hsz2]; omega)).trans k2, k3, b3, by simp,
      sp.keep fun b hb hl => ⟨.inl hb, b3.block b hl.lt⟩, sq.keep fun b hb hl => ⟨.inl hb, b3.block b hl.lt⟩, f2, f3, f4, sb.keep fun b hb hl => ⟨hb, b3.block b hl.lt⟩, sf.keep fun b hb hl => ⟨hb, b3.block b hl.lt⟩⟩
  have HG := Lib.hid hbox
  clear hx hy sp sq f2 f3 f4 sb sf hsz1 hsz2 b1 b2 b3 k1 k2 k3 hbox
  have HQ := Lib.hid hq
  have HQ' := Lib.hid hq'
  have HN := Lib.hid hn
  have HSL := Lib.hid hs
  have HK := Lib.hid hk
  clear hq hq' hn hs hk
  unfold dcells scells zcells at HG
  generalize hW1 : ((w.alloc (.cells #[.slice A0 d.safe.length c0, .slice A1 d.wait.length c1, .int .i64 d.fuse, .bool d.off, .int .i64 d.reads, .int .i64 d.writes] 33)).alloc (.cells #[.int .i64 x.act, .int .i64 x.pos, .slice A2 x.b.length c2, .slice A3 x.fates.length c3] 41)).alloc (.cells #[.slice none 0 0, .slice none 0 0, .int .i64 0, .bool false, .int .i64 0, .int .i64 0] 33) = W1 at *
  obtain ⟨e0, e1, e2, e3, e4, e5, z0, z1, z2, z3, z4, z5⟩ := HG.out.dcell
  obtain ⟨s0, s1, s2, s3⟩ := HG.out.scell
  obtain ⟨r0, r1, r2, r3, r4, r5, y0, y1, y2, y3, y4, y5⟩ := HG.out.rcell
  have hfr : Try.f15.results = #[.cell 4 33, .tmp 5, .tmp 6] := rfl
  rw [h4] at s0
  have HR := Lib.hid (show goW d x = (crashW d x.fates, [], 0) by unfold goW; rw [if_neg h3, if_pos h4])
  clear h3 h4 g0 g1
  go_enter Try.func15, Try.ntmps15
  go_wp2_with fail
  refine (rcrash_calls HG.out.valIn HG.out.fates.val (fun b hb => hb.2) (by have := HN.out; omega) (by have := HSL.out; omega)).mono ?_
  rintro e w2 ⟨z, rfl, hz, hb2⟩
  have H2 := Lib.hid (HG.out.below hb2)
  generalize crashW d x.fates = dd at *
  obtain ⟨B0, k0, B1, k1, rfl, q0, q1, f2, f3, f4⟩ := rDisk_val hz
  have HZ := Lib.hid (Rep.val_mono (Q' := fun b => Q b ∨ w.heap.size + 3 ≤ b) (fun b hb _ => hb.elim (fun h => h.1) (fun h => .inr (Nat.le_trans HG.out.big h))) (rDisk_agg q0 q1 f2 f3 f4))
  clear hz hb2 q0 q1 f2 f3 f4
  clear e0 e1 e2 e3 e4 e5 z0 z1 z2 z3 z4 z5 s0 s1 s2 s3 r0 r1 r2 r3 r4 r5 y0 y1 y2 y3 y4 y5
  obtain ⟨r0, r1, r2, r3, r4, r5, y0, y1, y2, y3, y4, y5⟩ := H2.out.rcell
  go_wp2_with fail
  rw [HR.out]
  refine ⟨rfl, _, ?_, H2.out.fin HQ.out ?_ HZ.out (nil_bytes _ _)⟩
  · simp only [results, hfr]
    go_simp
  · repeat (refine But.set ?_ _ _)
    exact But.refl _ _

set_option maxRecDepth 100000 in
set_option maxHeartbeats 4000000 in
/-- ref04.Go: range -/
theorem rgo_range {Q Q' : Nat → Prop} {w : World} {v u : Value} {d : DDisk} {x : DStep} (hx : rDisk.val Q w v d) (hy : rStep.val Q' w u x) (hq : ∀ b, Q b → b < w.heap.size) (hq' : ∀ b, Q' b → b < w.heap.size) (hn : d.wait.length ≤ 100000000) (hs : d.safe.length ≤ 100000000) (hk : ∀ y ∈ d.wait, 0 ≤ y.pos ∧ y.pos < d.safe.length) (h3 : ¬ x.act = 3) (h4 : ¬ x.act = 4) (h2 : ¬ x.act = 2) (hr : x.pos < 0 ∨ (d.safe.length : Int) ≤ x.pos) :
    Calls Try.prog 15 #[v, u] w (GoPost Q w (goW d x)) := by
  obtain ⟨A0, c0, A1, c1, rfl, sp, sq, f2, f3, f4⟩ := rDisk_val hx
  obtain ⟨A2, c2, A3, c3, rfl, g0, g1, sb, sf⟩ := rStep_val hy
  have hsz1 : (w.alloc (.cells (dcells d A0 c0 A1 c1) 33)).heap.size = w.heap.size + 1 := by simp
  have hsz2 : ((w.alloc (.cells (dcells d A0 c0 A1 c1) 33)).alloc (.cells (scells x A2 c2 A3 c3) 41)).heap.size = w.heap.size + 1 + 1 := by simp
  have b1 : Below w.heap.size w (w.alloc (.cells (dcells d A0 c0 A1 c1) 33)) := (Below.refl _ _).alloc (Nat.le_refl _) _
  have b2 := b1.alloc (by rw [hsz1]; omega) (.cells (scells x A2 c2 A3 c3) 41)
  have b3 := b2.alloc (by rw [hsz2]; omega) (.cells zcells 33)
  have k1 := heap_alloc_new w (.cells (dcells d A0 c0 A1 c1) 33)
  have k2 := heap_alloc_new (w.alloc (.cells (dcells d A0 c0 A1 c1) 33)) (.cells (scells x A2 c2 A3 c3) 41)
  have k3 := heap_alloc_new ((w.alloc (.cells (dcells d A0 c0 A1 c1) 33)).alloc (.cells (scells x A2 c2 A3 c3) 41)) (.cells zcells 33)
  rw [hsz1] at k2
  rw [hsz2] at k3
  have hbox : GoBox Q Q' w (((w.alloc (.cells (dcells d A0 c0 A1 c1) 33)).alloc (.cells (scells x A2 c2 A3 c3) 41)).alloc (.cells zcells 33)) d x A0 c0 A1 c1 A2 c2 A3 c3 :=
    ⟨(Below.heap_alloc _ _ _ (by rw [hsz2]; omega)).trans ((Below.heap_alloc _ _ _ (by rw [hsz1]; omega)).trans k1), (Below.heap_alloc _ _ _ (by rw [hsz2]; omega)).trans k2, k3, b3, by simp,
      sp.keep fun b hb hl => ⟨.inl hb, b3.block b hl.lt⟩, sq.keep fun b hb hl => ⟨.inl hb, b3.block b hl.lt⟩, f2, f3, f4, sb.keep fun b hb hl => ⟨hb, b3.block b hl.lt⟩, sf.keep fun b hb hl => ⟨hb, b3.block b hl.lt⟩⟩
  have HG := Lib.hid hbox
  clear hx hy sp sq f2 f3 f4 sb sf hsz1 hsz2 b1 b2 b3 k1 k2 k3 hbox
  have HQ := Lib.hid hq
  have HQ' := Lib.hid hq'
  have HN := Lib.hid hn
  have HSL := Lib.hid hs
  have HK := Lib.hid hk
  clear hq hq' hn hs hk
  unfold dcells scells zcells at HG
  generalize hW1 : ((w.alloc (.cells #[.slice A0 d.safe.length c0, .slice A1 d.wait.length c1, .int .i64 d.fuse, .bool d.off, .int .i64 d.reads, .int .i64 d.writes] 33)).alloc (.cells #[.int .i64 x.act, .int .i64 x.pos, .slice A2 x.b.length c2, .slice A3 x.fates.length c3] 41)).alloc (.cells #[.slice none 0 0, .slice none 0 0, .int .i64 0, .bool false, .int .i64 0, .int .i64 0] 33) = W1 at *
  obtain ⟨e0, e1, e2, e3, e4, e5, z0, z1, z2, z3, z4, z5⟩ := HG.out.dcell
  obtain ⟨s0, s1, s2, s3⟩ := HG.out.scell
  obtain ⟨r0, r1, r2, r3, r4, r5, y0, y1, y2, y3, y4, y5⟩ := HG.out.rcell
  have hfr : Try.f15.results = #[.cell 4 33, .tmp 5, .tmp 6] := rfl
  have HR := Lib.hid (show goW d x = (d, [], 2) by unfold goW; rw [if_neg h3, if_neg h4, if_pos ⟨h2, hr⟩])
  have n3 : (x.act == 3) = false := by simpa using h3
  have n4 : (x.act == 4) = false := by simpa using h4
  have n2 : (x.act != 2) = true := by simpa using h2
  have hcap := HG.out.safe.2.1
  have hlc := HG.out.safe.1
  unfold maxLen at hcap
  clear h2 h3 h4 g0 g1
  by_cases hp : x.pos < 0
  · clear hr
    go_enter Try.func15, Try.ntmps15
    go_wp2_with fail
    rw [HR.out]
    refine ⟨rfl, _, ?_, HG.out.done HQ.out ?_ (nil_bytes _ _)⟩
    · simp only [results, hfr]
      go_simp
      try rfl
    · repeat (refine But.set ?_ _ _)
      exact But.refl _ _
  · have hp2 : (d.safe.length : Int) ≤ x.pos := hr.resolve_left hp
    clear hr
    go_enter Try.func15, Try.ntmps15
    go_wp2_with fail
    rw [HR.out]
    refine ⟨rfl, _, ?_, HG.out.done HQ.out ?_ (nil_bytes _ _)⟩
    · simp only [results, hfr]
      go_simp
      try rfl
    · repeat (refine But.set ?_ _ _)
      exact But.refl _ _

end Go.Proofs.Ytfpmkenobphfnaa
