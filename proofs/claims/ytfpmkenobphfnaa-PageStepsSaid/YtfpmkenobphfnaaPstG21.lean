/- Texts on which the proofs stand: RGoR, RGo. No condition is laid on any input. -/
import Derived.Test.YtfpmkenobphfnaaPstRGoA
import Derived.Test.YtfpmkenobphfnaaPstRGoBox
import Derived.Test.YtfpmkenobphfnaaPstRGoS
import Derived.Test.YtfpmkenobphfnaaPstRGoW
/- A step of the reference's device: a read. -/
namespace Go.Proofs.Ytfpmkenobphfnaa
open Go.RowKit

set_option maxRecDepth 100000 in
set_option maxHeartbeats 4000000 in
/-- ref04.Go: read -/
theorem rgo_read {Q Q' : Nat → Prop} {w : World} {v u : Value} {d : DDisk} {x : DStep} (hx : rDisk.val Q w v d) (hy : rStep.val Q' w u x) (hq : ∀ b, Q b → b < w.heap.size) (hq' : ∀ b, Q' b → b < w.heap.size) (hn : d.wait.length ≤ 100000000) (hs : d.safe.length ≤ 100000000) (hk : ∀ y ∈ d.wait, 0 ≤ y.pos ∧ y.pos < d.safe.length) (h3 : ¬ x.act = 3) (h4 : ¬ x.act = 4) (h2 : ¬ x.act = 2) (hr : ¬ (x.pos < 0 ∨ (d.safe.length : Int) ≤ x.pos)) (h1 : ¬ x.act = 1) :
    Calls Try.prog 15 #[v, u] w (GoPost Q w (goW d x)) := by
  obtain ⟨A0, c0, A1, c1, rfl, sp, sq, f2, f3, f4⟩ := rDisk_val hx
  obtain ⟨A2, c2, A3, c3, rfl, g0, g1, sb, sf⟩ := rStep_val hy
  have hsz1 : (w.alloc (.cells (dcells d A0 c0 A1 c1) 33)).heap.size = w.heap.size + 1 := by simp
  have hsz2 : ((w.alloc (.cells (dcells d A0 c0 A1 c1) 33)).alloc (.cells (scells x A2 c2 A3 c3) 41)).heap.size = w.heap.size + 1 + 1 := by simp
  have b1 : Below w.heap.size w (w.alloc (.cells (dcells d A0 c0 A1 c1) 33)) := (Below.refl _ _).alloc (Nat.le_refl _) _
  have b2 := b1.alloc (by rw [hsz1]; omega) (.cells (scells x A2 c2 A3 c3) 41)
  have b3 := b2.alloc (by rw [hsz2]; omega) (.cells zcells 33)
  have k1 := heap_alloc_new w (.cells (dcells d A0 c0 A1 c1) 33)
  have k2 := heap_alloc_new (w.alloc (.cells (dcells d A0 c0 A1 c1) 33)) (.cells (scells x A2 c2 A3 c3) 41)
  have k3 := heap_alloc_new ((w.alloc (.cells (dcells d A0 c0 A1 c1) 33)).alloc (.cells (scells x A2 c2 A3 c3) 41)) (.cells zcells 33)
  rw [hsz1] at k2
  rw [hsz2] at k3
  have hbox : GoBox Q Q' w (((w.alloc (.cells (dcells d A0 c0 A1 c1) 33)).alloc (.cells (scells x A2 c2 A3 c3) 41)).alloc (.cells zcells 33)) d x A0 c0 A1 c1 A2 c2 A3 c3 :=
    ⟨(Below.heap_alloc _ _ _ (by rw [hsz2]; omega)).trans ((Below.heap_alloc _ _ _ (by rw [hsz1]; omega)).trans k1), (Below.heap_alloc _ _ _ (by rw [hsz2]; omega)).trans k2, k3, b3, by simp,
      sp.keep fun b hb hl => ⟨.inl hb, b3.block b hl.lt⟩, sq.keep fun b hb hl => ⟨.inl hb, b3.block b hl.lt⟩, f2, f3, f4, sb.keep fun b hb hl => ⟨hb, b3.block b hl.lt⟩, sf.keep fun b hb hl => ⟨hb, b3.block b hl.lt⟩⟩
  have HG := Lib.hid hbox
  clear hx hy sp sq f2 f3 f4 sb sf hsz1 hsz2 b1 b2 b3 k1 k2 k3 hbox
  have HQ := Lib.hid hq
  have HQ' := Lib.hid hq'
  have HN := Lib.hid hn
  have HSL := Lib.hid hs
  have HK := Lib.hid hk
  clear hq hq' hn hs hk
  unfold dcells scells zcells at HG
  generalize hW1 : ((w.alloc (.cells #[.slice A0 d.safe.length c0, .slice A1 d.wait.length c1, .int .i64 d.fuse, .bool d.off, .int .i64 d.reads, .int .i64 d.writes] 33)).alloc (.cells #[.int .i64 x.act, .int .i64 x.pos, .slice A2 x.b.length c2, .slice A3 x.fates.length c3] 41)).alloc (.cells #[.slice none 0 0, .slice none 0 0, .int .i64 0, .bool false, .int .i64 0, .int .i64 0] 33) = W1 at *
  obtain ⟨e0, e1, e2, e3, e4, e5, z0, z1, z2, z3, z4, z5⟩ := HG.out.dcell
  obtain ⟨s0, s1, s2, s3⟩ := HG.out.scell
  obtain ⟨r0, r1, r2, r3, r4, r5, y0, y1, y2, y3, y4, y5⟩ := HG.out.rcell
  have hfr : Try.f15.results = #[.cell 4 33, .tmp 5, .tmp 6] := rfl
  have hp1 : 0 ≤ x.pos := by omega
  have hp2 : x.pos < (d.safe.length : Int) := by omega
  have HP := Lib.hid (show 0 ≤ x.pos ∧ x.pos < (d.safe.length : Int) from ⟨hp1, hp2⟩)
  have n3 : (x.act == 3) = false := by simpa using h3
  have n4 : (x.act == 4) = false := by simpa using h4
  have n2 : (x.act != 2) = true := by simpa using h2
  have m2 : (x.act == 2) = false := by simpa using h2
  have hcap := HG.out.safe.2.1
  have hlc := HG.out.safe.1
  unfold maxLen at hcap
  have HR := Lib.hid (show ((burnW d).2 ≠ 0 → goW d x = ((burnW d).1, [], (burnW d).2)) ∧ ((burnW d).2 = 0 → goW d x = ({ (burnW d).1 with reads := wrap64 ((burnW d).1.reads + 1) }, lastW (burnW d).1 x.pos, 0)) from ⟨fun h => by unfold goW; rw [if_neg h3, if_neg h4, if_neg (fun e => hr e.2), if_pos h], fun h => by unfold goW; rw [if_neg h3, if_neg h4, if_neg (fun e => hr e.2), if_neg (fun e => e h), if_neg h1, if_neg h2]⟩)
  have n1 : (x.act == 1) = false := by simpa using h1
  clear h1 h2 h3 h4 hr g0
  go_enter Try.func15, Try.ntmps15
  go_wp2_with fail
  clear hp1 hp2 hcap hlc
  refine (rburn_calls HG.out.val).mono ?_
  rintro e w2 ⟨z, rfl, hz, hb2⟩
  have H2 := Lib.hid (HG.out.below hb2)
  have HSAME := Lib.hid (burnW_same d)
  obtain ⟨d1, er, hd1⟩ : ∃ d1 er, burnW d = (d1, er) := ⟨_, _, rfl⟩
  rw [hd1] at hz HSAME HR ⊢
  dsimp only at hz HSAME HR ⊢
  clear hd1
  obtain ⟨B0, k0, B1, k1, rfl, q0, q1, f2, f3, f4⟩ := rDisk_val hz
  have H3 := Lib.hid (H2.out.setAll HQ.out HQ'.out q0 q1 f2 f3 f4)
  clear hz hb2 q0 q1 f2 f3 f4
  clear e0 e1 e2 e3 e4 e5 z0 z1 z2 z3 z4 z5 s0 s1 s2 s3 r0 r1 r2 r3 r4 r5 y0 y1 y2 y3 y4 y5
  obtain ⟨e0, e1, e2, e3, e4, e5, z0, z1, z2, z3, z4, z5⟩ := H2.out.dcell
  obtain ⟨s0, s1, s2, s3⟩ := H2.out.scell
  obtain ⟨r0, r1, r2, r3, r4, r5, y0, y1, y2, y3, y4, y5⟩ := H2.out.rcell
  try dsimp only
  by_cases he : er = 0
  · subst he
    have HR3 := Lib.hid (HR.out.2 rfl)
    obtain ⟨W3, hW3⟩ : ∃ W3, ((((((w2.setCell ⟨w.heap.size, 0, none⟩ (.slice B0 d1.safe.length k0)).setCell ⟨w.heap.size, 1, none⟩ (.slice B1 d1.wait.length k1)).setCell ⟨w.heap.size, 2, none⟩ (.int .i64 d1.fuse)).setCell ⟨w.heap.size, 3, none⟩ (.bool d1.off)).setCell ⟨w.heap.size, 4, none⟩ (.int .i64 d1.reads)).setCell ⟨w.heap.size, 5, none⟩ (.int .i64 d1.writes)) = W3 := ⟨_, rfl⟩
    rw [hW3] at H3
    have C3 := H3.out.cond
    have b3 := Below.refl W3.heap.size W3
    have HBND := Lib.hid (show d1.wait.length ≤ 100000000 ∧ d1.safe.length = d.safe.length by rw [HSAME.out.2, HSAME.out.1]; exact ⟨HN.out, rfl⟩)
    go_wp2_with fail
    clear hW3
    clear e0 e1 e2 e3 e4 e5 z0 z1 z2 z3 z4 z5 s0 s1 s2 s3 r0 r1 r2 r3 r4 r5 y0 y1 y2 y3 y4 y5
    clear b3 C3
    have H4 := Lib.hid (H3.out.setReads HQ.out HQ'.out (wrap64_wf (d1.reads + 1)))
    obtain ⟨W4, hW4⟩ : ∃ W4, W3.setCell ⟨w.heap.size, 4, none⟩ (.int .i64 (wrap64 (d1.reads + 1))) = W4 := ⟨_, rfl⟩
    rw [hW4] at H4 ⊢
    clear hW4
    have C4 := H4.out.condA
    have D4 := H4.out.cond
    have HGP := Lib.hid g1
    have HLW := Lib.hid (show lastW d1 x.pos = lastW { d1 with reads := wrap64 (d1.reads + 1) } x.pos from rfl)
    have hbd := (Below.refl W4.heap.size W4).drew
    clear g1
    go_region_held3 (fun W' => Alike (w.heap.size + 1 + 1) W4 W')
      ((with_reducible (repeat (refine Alike.set ?_ _ _)); first | with_reducible exact Alike.of hbd | with_reducible exact Alike.of D5.out))
      (first
        | (go_at_call 87; refine (rlast_calls (w := W4.drew) (Rep.val_keep (w := W4) (Q' := fun b => (Q b ∨ w.heap.size + 3 ≤ b) ∧ b < W4.heap.size) (fun b hb _ => ⟨hb, rfl⟩) H4.out.valIn) (fun b hb => hb.2) (Nat.le_trans HBND.out.1 (by decide)) (by have := HP.out; have := HBND.out.2; dsimp only; omega)).mono ?_; rintro e w5 ⟨u5, rfl, hu5, hb5⟩; have D5 := Lib.hid (hbd.trans hb5); have HU5 := Lib.hid (Rep.val_mono (Q' := fun b => Q b ∨ w.heap.size + 3 ≤ b) (fun b hb _ => hb.1) hu5); have d5 := D5.out; clear hu5 hb5))
    clear C4
    go_wp2_with fail
    rw [← HLW.out] at HU5
    rw [HR3.out]
    refine ⟨rfl, _, ?_, (H4.out.below D5.out).done HQ.out ?_ HU5.out⟩
    · simp only [results, hfr]
      go_simp
      try rfl
    · repeat (refine But.set ?_ _ _)
      exact But.refl _ _
  · have HR3 := Lib.hid (HR.out.1 he)
    have ge : (er != 0) = true := by simpa using he
    clear he
    go_wp2_with fail
    rw [HR3.out]
    refine ⟨rfl, _, ?_, H3.out.done HQ.out ?_ (nil_bytes _ _)⟩
    · simp only [results, hfr]
      go_simp
      try rfl
    · repeat (refine But.set ?_ _ _)
      exact But.refl _ _

end Go.Proofs.Ytfpmkenobphfnaa
/- One step of the reference's device. -/
namespace Go.Proofs.Ytfpmkenobphfnaa
open Go.RowKit

/-- ref04.Go -/
theorem rgo_calls {Q Q' : Nat → Prop} {w : World} {v u : Value} {d : DDisk} {x : DStep} (hx : rDisk.val Q w v d) (hy : rStep.val Q' w u x) (hq : ∀ b, Q b → b < w.heap.size) (hq' : ∀ b, Q' b → b < w.heap.size) (hn : d.wait.length ≤ 100000000) (hs : d.safe.length ≤ 100000000) (hk : ∀ y ∈ d.wait, 0 ≤ y.pos ∧ y.pos < d.safe.length) :
    Calls Try.prog 15 #[v, u] w (GoPost Q w (goW d x)) := by
  by_cases h3 : x.act = 3
  · exact rgo_fuse hx hy hq hq' hn hs hk h3
  by_cases h4 : x.act = 4
  · exact rgo_crash hx hy hq hq' hn hs hk h3 h4
  by_cases h2 : x.act = 2
  · exact rgo_sync hx hy hq hq' hn hs hk h3 h4 h2
  by_cases hr : x.pos < 0 ∨ (d.safe.length : Int) ≤ x.pos
  · exact rgo_range hx hy hq hq' hn hs hk h3 h4 h2 hr
  by_cases h1 : x.act = 1
  · exact rgo_write hx hy hq hq' hn hs hk h3 h4 h2 hr h1
  · exact rgo_read hx hy hq hq' hn hs hk h3 h4 h2 hr h1
end Go.Proofs.Ytfpmkenobphfnaa
