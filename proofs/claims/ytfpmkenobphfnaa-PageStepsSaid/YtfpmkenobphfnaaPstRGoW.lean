/- A step of the reference's device: a write. -/
import Derived.Test.YtfpmkenobphfnaaPstRGoBox
namespace Go.Proofs.Ytfpmkenobphfnaa
open Go.RowKit

set_option maxRecDepth 100000 in
set_option maxHeartbeats 4000000 in
/-- ref04.Go: write -/
theorem rgo_write {Q Q' : Nat → Prop} {w : World} {v u : Value} {d : DDisk} {x : DStep} (hx : rDisk.val Q w v d) (hy : rStep.val Q' w u x) (hq : ∀ b, Q b → b < w.heap.size) (hq' : ∀ b, Q' b → b < w.heap.size) (hn : d.wait.length ≤ 100000000) (hs : d.safe.length ≤ 100000000) (hk : ∀ y ∈ d.wait, 0 ≤ y.pos ∧ y.pos < d.safe.length) (h3 : ¬ x.act = 3) (h4 : ¬ x.act = 4) (h2 : ¬ x.act = 2) (hr : ¬ (x.pos < 0 ∨ (d.safe.length : Int) ≤ x.pos)) (h1 : x.act = 1) :
    Calls Try.prog 15 #[v, u] w (GoPost Q w (goW d x)) := by
  obtain ⟨A0, c0, A1, c1, rfl, sp, sq, f2, f3, f4⟩ := rDisk_val hx
  obtain ⟨A2, c2, A3, c3, rfl, g0, g1, sb, sf⟩ := rStep_val hy
  have hsz1 : (w.alloc (.cells (dcells d A0 c0 A1 c1) 33)).heap.size = w.heap.size + 1 := by simp
  have hsz2 : ((w.alloc (.cells (dcells d A0 c0 A1 c1) 33)).alloc (.cells (scells x A2 c2 A3 c3) 41)).heap.size = w.heap.size + 1 + 1 := by simp
  have b1 : Below w.heap.size w (w.alloc (.cells (dcells d A0 c0 A1 c1) 33)) := (Below.refl _ _).alloc (Nat.le_refl _) _
  have b2 := b1.alloc (by rw [hsz1]; omega) (.cells (scells x A2 c2 A3 c3) 41)
  have b3 := b2.alloc (by rw [hsz2]; omega) (.cells zcells 33)
  have k1 := heap_alloc_new w (.cells (dcells d A0 c0 A1 c1) 33)
  have k2 := heap_alloc_new (w.alloc (.cells (dcells d A0 c0 A1 c1) 33)) (.cells (scells x A2 c2 A3 c3) 41)
  have k3 := heap_alloc_new ((w.alloc (.cells (dcells d A0 c0 A1 c1) 33)).alloc (.cells (scells x A2 c2 A3 c3) 41)) (.cells zcells 33)
  rw [hsz1] at k2
  rw [hsz2] at k3
  have hbox : GoBox Q Q' w (((w.alloc (.cells (dcells d A0 c0 A1 c1) 33)).alloc (.cells (scells x A2 c2 A3 c3) 41)).alloc (.cells zcells 33)) d x A0 c0 A1 c1 A2 c2 A3 c3 :=
    ⟨(Below.heap_alloc _ _ _ (by rw [hsz2]; omega)).trans ((Below.heap_alloc _ _ _ (by rw [hsz1]; omega)).trans k1), (Below.heap_alloc _ _ _ (by rw [hsz2]; omega)).trans k2, k3, b3, by simp,
      sp.keep fun b hb hl => ⟨.inl hb, b3.block b hl.lt⟩, sq.keep fun b hb hl => ⟨.inl hb, b3.block b hl.lt⟩, f2, f3, f4, sb.keep fun b hb hl => ⟨hb, b3.block b hl.lt⟩, sf.keep fun b hb hl => ⟨hb, b3.block b hl.lt⟩⟩
  have HG := Lib.hid hbox
  clear hx hy sp sq f2 f3 f4 sb sf hsz1 hsz2 b1 b2 b3 k1 k2 k3 hbox
  have HQ := Lib.hid hq
  have HQ' := Lib.hid hq'
  have HN := Lib.hid hn
  have HSL := Lib.hid hs
  have HK := Lib.hid hk
  clear hq hq' hn hs hk
  unfold dcells scells zcells at HG
  generalize hW1 : ((w.alloc (.cells #[.slice A0 d.safe.length c0, .slice A1 d.wait.length c1, .int .i64 d.fuse, .bool d.off, .int .i64 d.reads, .int .i64 d.writes] 33)).alloc (.cells #[.int .i64 x.act, .int .i64 x.pos, .slice A2 x.b.length c2, .slice A3 x.fates.length c3] 41)).alloc (.cells #[.slice none 0 0, .slice none 0 0, .int .i64 0, .bool false, .int .i64 0, .int .i64 0] 33) = W1 at *
  obtain ⟨e0, e1, e2, e3, e4, e5, z0, z1, z2, z3, z4, z5⟩ := HG.out.dcell
  obtain ⟨s0, s1, s2, s3⟩ := HG.out.scell
  obtain ⟨r0, r1, r2, r3, r4, r5, y0, y1, y2, y3, y4, y5⟩ := HG.out.rcell
  have hfr : Try.f15.results = #[.cell 4 33, .tmp 5, .tmp 6] := rfl
  have hp1 : 0 ≤ x.pos := by omega
  have hp2 : x.pos < (d.safe.length : Int) := by omega
  have HP := Lib.hid (show 0 ≤ x.pos ∧ x.pos < (d.safe.length : Int) from ⟨hp1, hp2⟩)
  have n3 : (x.act == 3) = false := by simpa using h3
  have n4 : (x.act == 4) = false := by simpa using h4
  have n2 : (x.act != 2) = true := by simpa using h2
  have m2 : (x.act == 2) = false := by simpa using h2
  have hcap := HG.out.safe.2.1
  have hlc := HG.out.safe.1
  unfold maxLen at hcap
  have HR := Lib.hid (show ((burnW d).2 ≠ 0 → goW d x = ((burnW d).1, [], (burnW d).2)) ∧ ((burnW d).2 = 0 → goW d x = ({ (burnW d).1 with wait := (burnW d).1.wait ++ [⟨x.pos, cutTo x.b 512⟩], writes := wrap64 ((burnW d).1.writes + 1) }, [], 0)) from ⟨fun h => by unfold goW; rw [if_neg h3, if_neg h4, if_neg (fun e => hr e.2), if_pos h], fun h => by unfold goW; rw [if_neg h3, if_neg h4, if_neg (fun e => hr e.2), if_neg (fun e => e h), if_pos h1]⟩)
  rw [h1] at s0
  have HA := Lib.hid h1
  clear h1 h2 h3 h4 hr n3 n4 n2 m2 g0
  go_enter Try.func15, Try.ntmps15
  go_wp2_with fail
  clear hp1 hp2 hcap hlc
  refine (rburn_calls HG.out.val).mono ?_
  rintro e w2 ⟨z, rfl, hz, hb2⟩
  have H2 := Lib.hid (HG.out.below hb2)
  have HSAME := Lib.hid (burnW_same d)
  obtain ⟨d1, er, hd1⟩ : ∃ d1 er, burnW d = (d1, er) := ⟨_, _, rfl⟩
  rw [hd1] at hz HSAME HR ⊢
  dsimp only at hz HSAME HR ⊢
  clear hd1
  obtain ⟨B0, k0, B1, k1, rfl, q0, q1, f2, f3, f4⟩ := rDisk_val hz
  have H3 := Lib.hid (H2.out.setAll HQ.out HQ'.out q0 q1 f2 f3 f4)
  clear hz hb2 q0 q1 f2 f3 f4
  clear e0 e1 e2 e3 e4 e5 z0 z1 z2 z3 z4 z5 s0 s1 s2 s3 r0 r1 r2 r3 r4 r5 y0 y1 y2 y3 y4 y5
  obtain ⟨e0, e1, e2, e3, e4, e5, z0, z1, z2, z3, z4, z5⟩ := H2.out.dcell
  obtain ⟨s0, s1, s2, s3⟩ := H2.out.scell
  rw [HA.out] at s0
  obtain ⟨r0, r1, r2, r3, r4, r5, y0, y1, y2, y3, y4, y5⟩ := H2.out.rcell
  try dsimp only
  by_cases he : er = 0
  · subst he
    have HR3 := Lib.hid (HR.out.2 rfl)
    obtain ⟨W3, hW3⟩ : ∃ W3, ((((((w2.setCell ⟨w.heap.size, 0, none⟩ (.slice B0 d1.safe.length k0)).setCell ⟨w.heap.size, 1, none⟩ (.slice B1 d1.wait.length k1)).setCell ⟨w.heap.size, 2, none⟩ (.int .i64 d1.fuse)).setCell ⟨w.heap.size, 3, none⟩ (.bool d1.off)).setCell ⟨w.heap.size, 4, none⟩ (.int .i64 d1.reads)).setCell ⟨w.heap.size, 5, none⟩ (.int .i64 d1.writes)) = W3 := ⟨_, rfl⟩
    rw [hW3] at H3
    have C3 := H3.out.cond
    rw [HA.out] at C3
    have b3 := Below.refl W3.heap.size W3
    have HBND := Lib.hid (show d1.wait.length ≤ 100000000 by rw [HSAME.out.2]; exact HN.out)
    generalize hn1 : d1.wait.length = n1 at *
    have HN1 := Lib.hid hn1
    clear hn1
    go_wp2_with fail
    clear hW3
    clear e0 e1 e2 e3 e4 e5 z0 z1 z2 z3 z4 z5 s0 s1 s2 s3 r0 r1 r2 r3 r4 r5 y0 y1 y2 y3 y4 y5
    have hnb : Below W3.heap.size W3 (W3.alloc (.cells #[] 136)) := (Below.refl _ _).alloc (Nat.le_refl _) _
    have HNB := Lib.hid hnb
    have HA0 := Lib.hid (show rWrite.acc 136 W3.heap.size (fun b => Q b ∨ w.heap.size + 3 ≤ b) (W3.alloc (.cells #[] 136)).drew (.slice (some ⟨W3.heap.size, 0, none⟩) 0 0) [] from Rep.acc_keep (w := W3.alloc (.cells #[] 136)) (fun _ _ _ => rfl) (fun _ h _ => h) (Rep.acc_made W3 #[] 0 (Nat.le_refl _) (by simp [maxLen]) (by simp)))
    have HX0 := Lib.hid (show rWrite.list.val (fun b => (Q b ∨ w.heap.size + 3 ≤ b) ∧ b < W3.heap.size) (W3.alloc (.cells #[] 136)).drew (.slice B1 n1 k1) d1.wait from by
      have h := H3.out.wait.val
      rw [HN1.out] at h
      exact Rep.val_keep (w := W3) (fun b hb hl => ⟨⟨hb, hl.lt⟩, hnb.block b hl.lt⟩) h)
    have HL2 := Lib.hid (show ([] : List DWrite).length + d1.wait.length ≤ maxLen ∧ (([] : List DWrite).length + d1.wait.length) * 32 ≤ 140737488355328 by rw [HN1.out]; have := HBND.out; simp [maxLen]; omega)
    have HL3 := Lib.hid (show d1.wait.length + 1 ≤ maxLen ∧ (d1.wait.length + 1) * 32 ≤ 140737488355328 by rw [HN1.out]; have := HBND.out; simp [maxLen]; omega)
    have HQN := Lib.hid (show ∀ b, ((Q b ∨ w.heap.size + 3 ≤ b) ∧ b < W3.heap.size) → IsC (W3.alloc (.cells #[] 136)).drew b → (Q b ∨ w.heap.size + 3 ≤ b) ∧ (Value.slice (some ⟨W3.heap.size, 0, none⟩) 0 0).ownBlock ≠ some b from fun b hb _ => ⟨hb.1, fun e => by have e2 : W3.heap.size = b := Option.some.inj e; omega⟩)
    have KS := Lib.hid (show ∀ W', Below W3.heap.size W3 W' → W'.cell? ⟨w.heap.size + 1, 1, none⟩ = some (.int .i64 x.pos) ∧ W'.cell? ⟨w.heap.size + 1, 2, none⟩ = some (.slice A2 x.b.length c2) from fun W' hb => ⟨(H3.out.below hb).scell.2.1, (H3.out.below hb).scell.2.2.1⟩)
    have KS2 := Lib.hid (show ∀ W' v, Below W3.heap.size W3 W' → (W'.setCell ⟨w.heap.size, 1, none⟩ v).cell? ⟨w.heap.size + 1, 1, none⟩ = some (.int .i64 x.pos) ∧ (W'.setCell ⟨w.heap.size, 1, none⟩ v).cell? ⟨w.heap.size + 1, 2, none⟩ = some (.slice A2 x.b.length c2) from fun W' v hb => ⟨(World.cell?_of_block (Below.heap_setCell _ _ _ _ (Nat.succ_ne_self _))).trans (KS.out W' hb).1, (World.cell?_of_block (Below.heap_setCell _ _ _ _ (Nat.succ_ne_self _))).trans (KS.out W' hb).2⟩)
    have hbd := (Below.refl W3.heap.size W3).drew
    have hbnd := hnb.drew
    have HBS := Lib.hid (show ∀ W', Below W3.heap.size W3 W' → Rep.byte.list.val Q' W' (.slice A2 x.b.length c2) x.b from fun W' hb => (H3.out.below hb).b.val)
    have HG1 := Lib.hid g1
    clear g1
    refine wp_region_noPanic ?_
    refine wp_region_held_drew (S := fun W' => W'.cell? ⟨w.heap.size + 1, 1, none⟩ = some (.int .i64 x.pos) ∧ W'.cell? ⟨w.heap.size + 1, 2, none⟩ = some (.slice A2 x.b.length c2)) (by kernel_rfl) (KS.out _ hbd) (fun hHeld => ?_)
    refine wpAnyH_take (i := 1) (v := .pointer (some ⟨w.heap.size, 1, none⟩)) rfl (by kernel_rfl) (by kernel_rfl) (by kernel_rfl) (fun _ _ _ h => h) (Or.inl ⟨by rfl, fun w' _ => by go_simp⟩) (by assumption) ?_
    skip
    refine wpAnyH_take (i := 4) (v := .pointer (some ⟨w.heap.size + 1, 1, none⟩)) rfl (by kernel_rfl) (by kernel_rfl) (by kernel_rfl) (fun _ _ _ h => h) (Or.inl ⟨by rfl, fun w' _ => by go_simp⟩) (by assumption) ?_
    skip
    refine wpAnyH_take (i := 5) (v := .int .i64 x.pos) rfl (by kernel_rfl) (by kernel_rfl) (by kernel_rfl) (fun _ _ _ h => h) (Or.inl ⟨by rfl, fun w' h => by obtain ⟨x0, x1⟩ := (h : w'.cell? ⟨w.heap.size + 1, 1, none⟩ = some (.int .i64 x.pos) ∧ w'.cell? ⟨w.heap.size + 1, 2, none⟩ = some (.slice A2 x.b.length c2)); go_simp⟩) (by assumption) ?_
    skip
    refine wpAnyH_take (i := 6) (v := .pointer (some ⟨w.heap.size + 1, 2, none⟩)) rfl (by kernel_rfl) (by kernel_rfl) (by kernel_rfl) (fun _ _ _ h => h) (Or.inl ⟨by rfl, fun w' _ => by go_simp⟩) (by assumption) ?_
    skip
    refine wpAnyH_take (i := 7) (v := .slice A2 x.b.length c2) rfl (by kernel_rfl) (by kernel_rfl) (by kernel_rfl) (fun _ _ _ h => h) (Or.inl ⟨by rfl, fun w' h => by obtain ⟨x0, x1⟩ := (h : w'.cell? ⟨w.heap.size + 1, 1, none⟩ = some (.int .i64 x.pos) ∧ w'.cell? ⟨w.heap.size + 1, 2, none⟩ = some (.slice A2 x.b.length c2)); go_simp⟩) (by assumption) ?_
    skip
    refine wpAnyH_ready (rs := [0, 2]) (by kernel_rfl) (by simp) ?_
    refine AllReadyH.cons rfl (fun K hK => ?_) (AllReadyH.cons rfl (fun K hK => ?_) AllReadyH.nil)
    · go_simp
      refine hK.out _ _ (KS.out _ hbnd) (fun hHeld => ?_)
      clear hK K
      skip
      refine wpAnyH_ready (rs := [2]) (by kernel_rfl) (by simp) ?_
      refine AllReadyH.cons rfl (fun K hK => ?_) AllReadyH.nil
      go_simp
      refine hK.out _ _ (KS.out _ hbnd) (fun hHeld => ?_)
      clear hK K
      skip
      refine wpAnyH_ready (rs := [3]) (by kernel_rfl) (by simp) ?_
      refine AllReadyH.cons rfl (fun K hK => ?_) AllReadyH.nil
      refine step_spread (e := 136) (base := W3.heap.size) (Q := fun b => Q b ∨ w.heap.size + 3 ≤ b) (r := rWrite) rfl _ _ 31 rfl (.agg #[.int .i64 0, .slice none 0 0]) 2 32 Try.underlying31 infoWrite rfl (by decide) rfl _ [] (by rfl) HA0.out _ d1.wait (by rfl) HX0.out HQN.out HL2.out.1 HL2.out.2 HNB.out.size ?_
      intro v4 w4 hacc hgr hat
      rw [List.nil_append] at hacc
      have HA4 := Lib.hid hacc
      have D4 := Lib.hid (Rep.acc_below HA0.out hbnd hgr HNB.out.size)
      obtain ⟨A4, c4, rfl, _, _⟩ := Rep.acc_form hacc
      have d4 := D4.out
      clear hacc hgr hat
      refine hK.out _ _ (KS.out _ D4.out) (fun hHeld => ?_)
      clear hK K
      skip
      refine wpAnyH_ready (rs := [8]) (by kernel_rfl) (by simp) ?_
      refine AllReadyH.cons rfl (fun K hK => ?_) AllReadyH.nil
      go_simp
      go_at_call 84
      refine (rcutTo_calls (n := 512) (HBS.out _ D4.out) (by decide)).mono ?_
      rintro e w5 ⟨u5, rfl, hu5, hb5⟩
      have HU5 := Lib.hid hu5
      have HB5 := Lib.hid hb5
      have D5 := Lib.hid (D4.out.trans (hb5.mono D4.out.size))
      obtain ⟨A5, c5, rfl, _, _⟩ := Rep.acc_form hu5
      have d5 := D5.out
      clear hu5 hb5
      refine hK.out _ _ (KS.out _ D5.out) (fun hHeld => ?_)
      clear hK K
      skip
      refine wpAnyH_take (i := 9) (v := .agg #[.int .i64 x.pos, .slice A5 (cutTo x.b 512).length c5]) rfl (by kernel_rfl) (by kernel_rfl) (by kernel_rfl) (fun _ _ _ h => h) (Or.inl ⟨by rfl, fun w' _ => by go_simp⟩) (by assumption) ?_
      skip
      refine wpAnyH_ready (rs := [10]) (by kernel_rfl) (by simp) ?_
      refine AllReadyH.cons rfl (fun K hK => ?_) AllReadyH.nil
      go_simp
      refine hK.out _ _ (KS.out _ (D5.out.alloc D5.out.size _)) (fun hHeld => ?_)
      clear hK K
      skip
      refine wpAnyH_ready (rs := [11]) (by kernel_rfl) (by simp) ?_
      refine AllReadyH.cons rfl (fun K hK => ?_) AllReadyH.nil
      refine step_snoc (e := 136) (base := W3.heap.size) (Q := fun b => Q b ∨ w.heap.size + 3 ≤ b) (r := rWrite) rfl _ _ 31 rfl (.agg #[.int .i64 0, .slice none 0 0]) 2 32 Try.underlying31 infoWrite rfl (by decide) rfl _ d1.wait (by rfl) (Rep.acc_later HA4.out HB5.out) ⟨x.pos, cutTo x.b 512⟩ _ (write_new HU5.out HG1.out (Nat.le_trans H3.out.big D4.out.size) (Rep.acc_own HA4.out)) (by rfl) HL3.out.1 HL3.out.2 D5.out.size ?_
      intro v6 w6 hacc6 hgr6
      have HA6 := Lib.hid hacc6
      have D6 := Lib.hid (Rep.acc_below (Rep.acc_later HA4.out HB5.out) D5.out hgr6 D5.out.size)
      obtain ⟨A6, c6, rfl, _, _⟩ := Rep.acc_form hacc6
      have d6 := D6.out
      clear hacc6 hgr6
      refine hK.out _ _ (KS.out _ D6.out) (fun hHeld => ?_)
      clear hK K
      skip
      refine wpAnyH_take (i := 12) (v := .pointer (some ⟨w.heap.size, 1, none⟩)) rfl (by kernel_rfl) (by kernel_rfl) (by kernel_rfl) (fun _ _ _ h => h) (Or.inl ⟨by rfl, fun w' _ => by go_simp⟩) (by assumption) ?_
      skip
      refine wpAnyH_ready (rs := [13]) (by kernel_rfl) (by simp) ?_
      refine AllReadyH.cons rfl (fun K hK => ?_) AllReadyH.nil
      go_simp
      refine hK.out _ _ (KS2.out _ _ D6.out) (fun hHeld => ?_)
      clear hK K
      skip
      refine wpAnyH_done (by kernel_rfl) ?_ _
      refine NoPanic.normal ?_
      clear KS KS2 hbd hbnd HBS HX0 HA0 HL2 HL3 HQN
      go_wp2_with fail
      have HSL6 := Lib.hid (show rWrite.Sl (fun b => Q b ∨ w.heap.size + 3 ≤ b) w6 A6 c6 (d1.wait ++ [⟨x.pos, cutTo x.b 512⟩]) from by
        obtain ⟨A', c', he, hs⟩ := Rep.val_sl (Rep.acc_val HA6.out)
        simp only [Value.slice.injEq] at he
        obtain ⟨rfl, _, rfl⟩ := he
        have hown := Rep.acc_own HA6.out
        exact hs.keep fun b hb' _ => ⟨hb'.elim id fun e => .inr (Nat.le_trans H3.out.big (hown b e).1), rfl⟩)
      have H5 := ((H3.out.below D6.out).setWait HQ.out HQ'.out HSL6.out).setWrites HQ.out HQ'.out (wrap64_wf (d1.writes + 1))
      simp only [List.length_append, List.length_singleton] at H5
      have H5 := Lib.hid H5
      rw [HR3.out]
      refine ⟨rfl, _, ?_, H5.out.done HQ.out ?_ (nil_bytes _ _)⟩
      · simp only [results, hfr]
        go_simp
        first
          | rfl
          | (unfold dcells; dsimp only; rw [List.length_append, HN1.out]; rfl)
      · repeat (refine But.set ?_ _ _)
        exact But.refl _ _

    · go_simp
      refine hK.out _ _ (KS.out _ hbd) (fun hHeld => ?_)
      clear hK K
      skip
      refine wpAnyH_ready (rs := [0]) (by kernel_rfl) (by simp) ?_
      refine AllReadyH.cons rfl (fun K hK => ?_) AllReadyH.nil
      go_simp
      refine hK.out _ _ (KS.out _ hbnd) (fun hHeld => ?_)
      clear hK K
      skip
      refine wpAnyH_ready (rs := [3]) (by kernel_rfl) (by simp) ?_
      refine AllReadyH.cons rfl (fun K hK => ?_) AllReadyH.nil
      refine step_spread (e := 136) (base := W3.heap.size) (Q := fun b => Q b ∨ w.heap.size + 3 ≤ b) (r := rWrite) rfl _ _ 31 rfl (.agg #[.int .i64 0, .slice none 0 0]) 2 32 Try.underlying31 infoWrite rfl (by decide) rfl _ [] (by rfl) HA0.out _ d1.wait (by rfl) HX0.out HQN.out HL2.out.1 HL2.out.2 HNB.out.size ?_
      intro v4 w4 hacc hgr hat
      rw [List.nil_append] at hacc
      have HA4 := Lib.hid hacc
      have D4 := Lib.hid (Rep.acc_below HA0.out hbnd hgr HNB.out.size)
      obtain ⟨A4, c4, rfl, _, _⟩ := Rep.acc_form hacc
      have d4 := D4.out
      clear hacc hgr hat
      refine hK.out _ _ (KS.out _ D4.out) (fun hHeld => ?_)
      clear hK K
      skip
      refine wpAnyH_ready (rs := [8]) (by kernel_rfl) (by simp) ?_
      refine AllReadyH.cons rfl (fun K hK => ?_) AllReadyH.nil
      go_simp
      go_at_call 84
      refine (rcutTo_calls (n := 512) (HBS.out _ D4.out) (by decide)).mono ?_
      rintro e w5 ⟨u5, rfl, hu5, hb5⟩
      have HU5 := Lib.hid hu5
      have HB5 := Lib.hid hb5
      have D5 := Lib.hid (D4.out.trans (hb5.mono D4.out.size))
      obtain ⟨A5, c5, rfl, _, _⟩ := Rep.acc_form hu5
      have d5 := D5.out
      clear hu5 hb5
      refine hK.out _ _ (KS.out _ D5.out) (fun hHeld => ?_)
      clear hK K
      skip
      refine wpAnyH_take (i := 9) (v := .agg #[.int .i64 x.pos, .slice A5 (cutTo x.b 512).length c5]) rfl (by kernel_rfl) (by kernel_rfl) (by kernel_rfl) (fun _ _ _ h => h) (Or.inl ⟨by rfl, fun w' _ => by go_simp⟩) (by assumption) ?_
      skip
      refine wpAnyH_ready (rs := [10]) (by kernel_rfl) (by simp) ?_
      refine AllReadyH.cons rfl (fun K hK => ?_) AllReadyH.nil
      go_simp
      refine hK.out _ _ (KS.out _ (D5.out.alloc D5.out.size _)) (fun hHeld => ?_)
      clear hK K
      skip
      refine wpAnyH_ready (rs := [11]) (by kernel_rfl) (by simp) ?_
      refine AllReadyH.cons rfl (fun K hK => ?_) AllReadyH.nil
      refine step_snoc (e := 136) (base := W3.heap.size) (Q := fun b => Q b ∨ w.heap.size + 3 ≤ b) (r := rWrite) rfl _ _ 31 rfl (.agg #[.int .i64 0, .slice none 0 0]) 2 32 Try.underlying31 infoWrite rfl (by decide) rfl _ d1.wait (by rfl) (Rep.acc_later HA4.out HB5.out) ⟨x.pos, cutTo x.b 512⟩ _ (write_new HU5.out HG1.out (Nat.le_trans H3.out.big D4.out.size) (Rep.acc_own HA4.out)) (by rfl) HL3.out.1 HL3.out.2 D5.out.size ?_
      intro v6 w6 hacc6 hgr6
      have HA6 := Lib.hid hacc6
      have D6 := Lib.hid (Rep.acc_below (Rep.acc_later HA4.out HB5.out) D5.out hgr6 D5.out.size)
      obtain ⟨A6, c6, rfl, _, _⟩ := Rep.acc_form hacc6
      have d6 := D6.out
      clear hacc6 hgr6
      refine hK.out _ _ (KS.out _ D6.out) (fun hHeld => ?_)
      clear hK K
      skip
      refine wpAnyH_take (i := 12) (v := .pointer (some ⟨w.heap.size, 1, none⟩)) rfl (by kernel_rfl) (by kernel_rfl) (by kernel_rfl) (fun _ _ _ h => h) (Or.inl ⟨by rfl, fun w' _ => by go_simp⟩) (by assumption) ?_
      skip
      refine wpAnyH_ready (rs := [13]) (by kernel_rfl) (by simp) ?_
      refine AllReadyH.cons rfl (fun K hK => ?_) AllReadyH.nil
      go_simp
      refine hK.out _ _ (KS2.out _ _ D6.out) (fun hHeld => ?_)
      clear hK K
      skip
      refine wpAnyH_done (by kernel_rfl) ?_ _
      refine NoPanic.normal ?_
      clear KS KS2 hbd hbnd HBS HX0 HA0 HL2 HL3 HQN
      go_wp2_with fail
      have HSL6 := Lib.hid (show rWrite.Sl (fun b => Q b ∨ w.heap.size + 3 ≤ b) w6 A6 c6 (d1.wait ++ [⟨x.pos, cutTo x.b 512⟩]) from by
        obtain ⟨A', c', he, hs⟩ := Rep.val_sl (Rep.acc_val HA6.out)
        simp only [Value.slice.injEq] at he
        obtain ⟨rfl, _, rfl⟩ := he
        have hown := Rep.acc_own HA6.out
        exact hs.keep fun b hb' _ => ⟨hb'.elim id fun e => .inr (Nat.le_trans H3.out.big (hown b e).1), rfl⟩)
      have H5 := ((H3.out.below D6.out).setWait HQ.out HQ'.out HSL6.out).setWrites HQ.out HQ'.out (wrap64_wf (d1.writes + 1))
      simp only [List.length_append, List.length_singleton] at H5
      have H5 := Lib.hid H5
      rw [HR3.out]
      refine ⟨rfl, _, ?_, H5.out.done HQ.out ?_ (nil_bytes _ _)⟩
      · simp only [results, hfr]
        go_simp
        first
          | rfl
          | (unfold dcells; dsimp only; rw [List.length_append, HN1.out]; rfl)
      · repeat (refine But.set ?_ _ _)
        exact But.refl _ _
  · have HR3 := Lib.hid (HR.out.1 he)
    have ge : (er != 0) = true := by simpa using he
    clear he
    go_wp2_with fail
    rw [HR3.out]
    refine ⟨rfl, _, ?_, H3.out.done HQ.out ?_ (nil_bytes _ _)⟩
    · simp only [results, hfr]
      go_simp
      try rfl
    · repeat (refine But.set ?_ _ _)
      exact But.refl _ _

end Go.Proofs.Ytfpmkenobphfnaa
