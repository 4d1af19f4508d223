/- A step of the reference's device: a sync. -/
import Derived.Test.YtfpmkenobphfnaaPstRGoBox
namespace Go.Proofs.Ytfpmkenobphfnaa
open Go.RowKit

set_option maxRecDepth 100000 in
set_option maxHeartbeats 4000000 in
/-- ref04.Go: sync -/
theorem rgo_sync {Q Q' : Nat → Prop} {w : World} {v u : Value} {d : DDisk} {x : DStep} (hx : rDisk.val Q w v d) (hy : rStep.val Q' w u x) (hq : ∀ b, Q b → b < w.heap.size) (hq' : ∀ b, Q' b → b < w.heap.size) (hn : d.wait.length ≤ 100000000) (hs : d.safe.length ≤ 100000000) (hk : ∀ y ∈ d.wait, 0 ≤ y.pos ∧ y.pos < d.safe.length) (h3 : ¬ x.act = 3) (h4 : ¬ x.act = 4) (h2 : x.act = 2) :
    Calls Try.prog 15 #[v, u] w (GoPost Q w (goW d x)) := by
  obtain ⟨A0, c0, A1, c1, rfl, sp, sq, f2, f3, f4⟩ := rDisk_val hx
  obtain ⟨A2, c2, A3, c3, rfl, g0, g1, sb, sf⟩ := rStep_val hy
  have hsz1 : (w.alloc (.cells (dcells d A0 c0 A1 c1) 33)).heap.size = w.heap.size + 1 := by simp
  have hsz2 : ((w.alloc (.cells (dcells d A0 c0 A1 c1) 33)).alloc (.cells (scells x A2 c2 A3 c3) 41)).heap.size = w.heap.size + 1 + 1 := by simp
  have b1 : Below w.heap.size w (w.alloc (.cells (dcells d A0 c0 A1 c1) 33)) := (Below.refl _ _).alloc (Nat.le_refl _) _
  have b2 := b1.alloc (by rw [hsz1]; omega) (.cells (scells x A2 c2 A3 c3) 41)
  have b3 := b2.alloc (by rw [hsz2]; omega) (.cells zcells 33)
  have k1 := heap_alloc_new w (.cells (dcells d A0 c0 A1 c1) 33)
  have k2 := heap_alloc_new (w.alloc (.cells (dcells d A0 c0 A1 c1) 33)) (.cells (scells x A2 c2 A3 c3) 41)
  have k3 := heap_alloc_new ((w.alloc (.cells (dcells d A0 c0 A1 c1) 33)).alloc (.cells (scells x A2 c2 A3 c3) 41)) (.cells zcells 33)
  rw [hsz1] at k2
  rw [hsz2] at k3
  have hbox : GoBox Q Q' w (((w.alloc (.cells (dcells d A0 c0 A1 c1) 33)).alloc (.cells (scells x A2 c2 A3 c3) 41)).alloc (.cells zcells 33)) d x A0 c0 A1 c1 A2 c2 A3 c3 :=
    ⟨(Below.heap_alloc _ _ _ (by rw [hsz2]; omega)).trans ((Below.heap_alloc _ _ _ (by rw [hsz1]; omega)).trans k1), (Below.heap_alloc _ _ _ (by rw [hsz2]; omega)).trans k2, k3, b3, by simp,
      sp.keep fun b hb hl => ⟨.inl hb, b3.block b hl.lt⟩, sq.keep fun b hb hl => ⟨.inl hb, b3.block b hl.lt⟩, f2, f3, f4, sb.keep fun b hb hl => ⟨hb, b3.block b hl.lt⟩, sf.keep fun b hb hl => ⟨hb, b3.block b hl.lt⟩⟩
  have HG := Lib.hid hbox
  clear hx hy sp sq f2 f3 f4 sb sf hsz1 hsz2 b1 b2 b3 k1 k2 k3 hbox
  have HQ := Lib.hid hq
  have HQ' := Lib.hid hq'
  have HN := Lib.hid hn
  have HSL := Lib.hid hs
  have HK := Lib.hid hk
  clear hq hq' hn hs hk
  unfold dcells scells zcells at HG
  generalize hW1 : ((w.alloc (.cells #[.slice A0 d.safe.length c0, .slice A1 d.wait.length c1, .int .i64 d.fuse, .bool d.off, .int .i64 d.reads, .int .i64 d.writes] 33)).alloc (.cells #[.int .i64 x.act, .int .i64 x.pos, .slice A2 x.b.length c2, .slice A3 x.fates.length c3] 41)).alloc (.cells #[.slice none 0 0, .slice none 0 0, .int .i64 0, .bool false, .int .i64 0, .int .i64 0] 33) = W1 at *
  obtain ⟨e0, e1, e2, e3, e4, e5, z0, z1, z2, z3, z4, z5⟩ := HG.out.dcell
  obtain ⟨s0, s1, s2, s3⟩ := HG.out.scell
  obtain ⟨r0, r1, r2, r3, r4, r5, y0, y1, y2, y3, y4, y5⟩ := HG.out.rcell
  have hfr : Try.f15.results = #[.cell 4 33, .tmp 5, .tmp 6] := rfl
  rw [h2] at s0
  have HA := Lib.hid h2
  have HR := Lib.hid (show ((burnW d).2 ≠ 0 → goW d x = ((burnW d).1, [], (burnW d).2)) ∧ ((burnW d).2 = 0 → goW d x = ({ (burnW d).1 with safe := syncTail (burnW d).1.safe (burnW d).1.wait, wait := [] }, [], 0)) from ⟨fun h => by unfold goW; rw [if_neg h3, if_neg h4, if_neg (fun e => e.1 h2), if_pos h], fun h => by unfold goW; rw [if_neg h3, if_neg h4, if_neg (fun e => e.1 h2), if_neg (fun e => e h), if_neg (show ¬ x.act = 1 by omega), if_pos h2]⟩)
  clear h2 h3 h4 g0 g1
  go_enter Try.func15, Try.ntmps15
  go_wp2_with fail
  refine (rburn_calls HG.out.val).mono ?_
  rintro e w2 ⟨z, rfl, hz, hb2⟩
  have H2 := Lib.hid (HG.out.below hb2)
  have HSAME := Lib.hid (burnW_same d)
  obtain ⟨d1, er, hd1⟩ : ∃ d1 er, burnW d = (d1, er) := ⟨_, _, rfl⟩
  rw [hd1] at hz HSAME HR ⊢
  dsimp only at hz HSAME HR ⊢
  clear hd1
  obtain ⟨B0, k0, B1, k1, rfl, q0, q1, f2, f3, f4⟩ := rDisk_val hz
  have H3 := Lib.hid (H2.out.setAll HQ.out HQ'.out q0 q1 f2 f3 f4)
  clear hz hb2 q0 q1 f2 f3 f4
  clear e0 e1 e2 e3 e4 e5 z0 z1 z2 z3 z4 z5 s0 s1 s2 s3 r0 r1 r2 r3 r4 r5 y0 y1 y2 y3 y4 y5
  obtain ⟨e0, e1, e2, e3, e4, e5, z0, z1, z2, z3, z4, z5⟩ := H2.out.dcell
  obtain ⟨s0, s1, s2, s3⟩ := H2.out.scell
  rw [HA.out] at s0
  obtain ⟨r0, r1, r2, r3, r4, r5, y0, y1, y2, y3, y4, y5⟩ := H2.out.rcell
  try dsimp only
  by_cases he : er = 0
  · subst he
    have HR3 := Lib.hid (HR.out.2 rfl)
    obtain ⟨W3, hW3⟩ : ∃ W3, ((((((w2.setCell ⟨w.heap.size, 0, none⟩ (.slice B0 d1.safe.length k0)).setCell ⟨w.heap.size, 1, none⟩ (.slice B1 d1.wait.length k1)).setCell ⟨w.heap.size, 2, none⟩ (.int .i64 d1.fuse)).setCell ⟨w.heap.size, 3, none⟩ (.bool d1.off)).setCell ⟨w.heap.size, 4, none⟩ (.int .i64 d1.reads)).setCell ⟨w.heap.size, 5, none⟩ (.int .i64 d1.writes)) = W3 := ⟨_, rfl⟩
    rw [hW3] at H3
    have C3 := H3.out.cond
    rw [HA.out] at C3
    have b3 := Below.refl W3.heap.size W3
    have HBND := Lib.hid (show d1.safe.length ≤ 100000000 ∧ d1.wait.length ≤ 100000000 by rw [HSAME.out.1, HSAME.out.2]; exact ⟨HSL.out, HN.out⟩)
    have HKY := Lib.hid (show ∀ y ∈ d1.wait, 0 ≤ y.pos ∧ y.pos < d1.safe.length by rw [HSAME.out.1, HSAME.out.2]; exact HK.out)
    generalize hn0 : d1.safe.length = n0 at *
    generalize hn1 : d1.wait.length = n1 at *
    have HN0 := Lib.hid hn0
    have HN1 := Lib.hid hn1
    clear hn0 hn1
    have hnb : Below W3.heap.size W3 (W3.alloc (.cells #[] 36)) := (Below.refl _ _).alloc (Nat.le_refl _) _
    have HA0 := Lib.hid (show Rep.byte.list.acc 36 W3.heap.size (fun b => Q b ∨ w.heap.size + 3 ≤ b) (W3.alloc (.cells #[] 36)) (.slice (some ⟨W3.heap.size, 0, none⟩) 0 0) [] from Rep.acc_made W3 #[] 0 (Nat.le_refl _) (by simp [maxLen]) (by simp))
    have HX0 := Lib.hid (show Rep.byte.list.list.val (fun b => (Q b ∨ w.heap.size + 3 ≤ b) ∧ b < W3.heap.size) (W3.alloc (.cells #[] 36)) (.slice B0 n0 k0) d1.safe from by
      have h := H3.out.safe.val
      rw [HN0.out] at h
      exact Rep.val_keep (fun b hb hl => ⟨⟨hb, hl.lt⟩, hnb.block b hl.lt⟩) h)
    have HL2 := Lib.hid (show ([] : List (List UInt8)).length + d1.safe.length ≤ maxLen ∧ (([] : List (List UInt8)).length + d1.safe.length) * 24 ≤ 140737488355328 by rw [HN0.out]; have := HBND.out; simp [maxLen]; omega)
    have HQN := Lib.hid (show ∀ b, ((Q b ∨ w.heap.size + 3 ≤ b) ∧ b < W3.heap.size) → IsC (W3.alloc (.cells #[] 36)) b → (Q b ∨ w.heap.size + 3 ≤ b) ∧ (Value.slice (some ⟨W3.heap.size, 0, none⟩) 0 0).ownBlock ≠ some b from fun b hb _ => ⟨hb.1, fun e => by have e2 : W3.heap.size = b := Option.some.inj e; omega⟩)
    have HNB := Lib.hid hnb
    go_wp2_with (refine wpList_spread (e := 36) (base := W3.heap.size) (Q := fun b => Q b ∨ w.heap.size + 3 ≤ b) (r := Rep.byte.list) rfl _ _ 30 rfl (.slice none 0 0) 1 24 Try.underlying30 info22 rfl (by decide) rfl _ [] (by exact rfl) HA0.out _ d1.safe (by exact rfl) HX0.out HQN.out HL2.out.1 HL2.out.2 HNB.out.size ?_; intro v6 w3 hacc3 hgr3 hat3)
    clear hW3
    clear e0 e1 e2 e3 e4 e5 z0 z1 z2 z3 z4 z5 s0 s1 s2 s3 r0 r1 r2 r3 r4 r5 y0 y1 y2 y3 y4 y5
    rw [List.nil_append] at hacc3
    have HB3 := Lib.hid (Rep.acc_below HA0.out HNB.out hgr3 HNB.out.size)
    obtain ⟨A6, c6, rfl, hc6, hm6⟩ := Rep.acc_form hacc3
    rw [HN0.out] at hacc3 hc6
    have HA3 := Lib.hid hacc3
    unfold maxLen at hm6
    clear hacc3 hgr3 hat3 hnb b3
    rw [HN0.out]
    have HCAP := Lib.hid (show n1 ≤ k1 ∧ k1 ≤ 9223372036854775807 by
      have h1 := H3.out.wait.1
      have h2 := H3.out.wait.2.1
      rw [HN1.out] at h1
      unfold maxLen at h2
      exact ⟨h1, h2⟩)
    have b3 := HB3.out
    go_loopw [9] (fun kk wr => ∃ j : Nat, kk = .int .i64 j ∧ j ≤ n1 ∧ Rep.byte.list.acc 36 W3.heap.size (fun b => Q b ∨ w.heap.size + 3 ≤ b) wr (.slice A6 n0 c6) (syncTail d1.safe (d1.wait.take j)) ∧ Below W3.heap.size W3 wr) (fun kk _ => n1 - (intOf kk).toNat)
    case atStart => exact ⟨0, rfl, Nat.zero_le _, HA3.out, b3⟩
    case round =>
      clear b3
      obtain ⟨j, rfl, hj, hacc, hb⟩ := hrel
      have HACC := Lib.hid hacc
      have HB := Lib.hid hb
      have hcap1 := HCAP.out
      clear hacc
      by_cases hlt : (j : Int) < n1
      · obtain ⟨y, hy⟩ : ∃ y, d1.wait[j]? = some y := ⟨_, List.getElem?_eq_getElem (by rw [HN1.out]; omega)⟩
        have hyk := HKY.out y (List.mem_of_getElem? hy)
        obtain ⟨bb, off, A7, c7, rfl, hbc, g0, g1, _, sy⟩ := rWrite_at H3.out.wait.2.2 hy
        have C2 : ∀ W', Below W3.heap.size W3 W' → W'.cell? ⟨bb, off + j * 2, none⟩ = some (.int .i64 y.pos) := fun W' hb => (hb.cell (p := ⟨bb, off + j * 2, none⟩) hbc.lt).trans g0
        have C3 : ∀ W', Below W3.heap.size W3 W' → W'.cell? ⟨bb, off + j * 2 + 1, none⟩ = some (.slice A7 y.b.length c7) := fun W' hb => (hb.cell (p := ⟨bb, off + j * 2 + 1, none⟩) hbc.lt).trans g1
        have HTS := Lib.hid (syncTail_succ d1.safe hy)
        obtain ⟨p, hp⟩ : ∃ p : Nat, y.pos = p := ⟨y.pos.toNat, by omega⟩
        rw [hp] at C2 HTS hyk
        rw [Int.toNat_natCast] at HTS
        have HLEN := Lib.hid (show (syncTail d1.safe (d1.wait.take j)).length = n0 by rw [syncTail_length, HN0.out])
        have HW0 := Lib.hid (show Rep.byte.list.acc 36 W3.heap.size (fun b => Q b ∨ w.heap.size + 3 ≤ b) wr.drew (.slice A6 n0 c6) (syncTail d1.safe (d1.wait.take j)) from Rep.acc_keep (w := wr) (w' := wr.drew) (fun _ _ _ => rfl) (fun _ h _ => h) HACC.out)
        have hown := Rep.acc_own HACC.out
        have HSY := Lib.hid (show Rep.byte.list.rd (fun b => (Q b ∨ w.heap.size + 3 ≤ b) ∧ (Value.slice A6 n0 c6).ownBlock ≠ some b) wr.drew [.slice A7 y.b.length c7] y.b from
          Rep.byte.list.keep (w := W3) (fun b hb' hl => ⟨⟨hb', fun e => by have := (hown b e).1; have := hl.lt; omega⟩, (HB.out.drew).block b hl.lt⟩) (Rep.sl_rd sy))
        have hp0 : p < n0 := by omega
        obtain ⟨g, cap, hv, _, hput⟩ := Rep.acc_put (u := .slice A7 y.b.length c7) rfl HW0.out (by rw [HLEN.out]; exact hp0) HSY.out rfl
        obtain ⟨z, hz⟩ : ∃ z, (syncTail d1.safe (d1.wait.take j))[p]? = some z := ⟨_, List.getElem?_eq_getElem (by rw [HLEN.out]; exact hp0)⟩
        obtain ⟨g', cap', u', hv', hcell', hfr', _, hg', _⟩ := Rep.acc_at rfl HW0.out hz
        rw [HLEN.out] at hv hv'
        cases hv
        cases hv'
        have HPUT := Lib.hid hput
        have HGB := Lib.hid hg'
        have hpn : (p : Int) < (n0 : Int) := by omega
        clear hput hown hz hy sy hbc g0 g1 hp hyk hg'
        go_wp2_with fail
        go_region_held3 (fun W' => Below W3.heap.size W3 W')
          (first
            | exact HB.out.drew
            | exact HB.out.drew.setCell HGB.out _)
          (fail)
        go_wp2_with fail
        exact ⟨⟨j + 1, by go_num, by omega, by rw [HTS.out]; exact Rep.acc_keep (w' := World.drew _) (fun _ _ _ => rfl) (fun _ h _ => h) HPUT.out, (HB.out.setCell HGB.out _).drew⟩, by simp [intOf]; omega⟩
      · obtain rfl : j = n1 := by omega
        have HF := Lib.hid (show syncTail d1.safe (d1.wait.take j) = syncTail d1.safe d1.wait by rw [List.take_of_length_le (by rw [HN1.out]; exact Nat.le_refl _)])
        have HACC2 := HACC.out
        rw [HF.out] at HACC2
        have HLEN := Lib.hid (show (syncTail d1.safe d1.wait).length = n0 by rw [syncTail_length, HN0.out])
        generalize syncTail d1.safe d1.wait = fs at *
        have HSV := Lib.hid (show Rep.byte.list.Sl (fun b => Q b ∨ w.heap.size + 3 ≤ b) wr A6 c6 fs from by
          obtain ⟨A', c', he, hs⟩ := Rep.val_sl (Rep.acc_val HACC2)
          simp only [Value.slice.injEq] at he
          obtain ⟨rfl, _, rfl⟩ := he
          have hown := Rep.acc_own HACC2
          exact hs.keep fun b hb' _ => ⟨hb'.elim id fun e => .inr (Nat.le_trans H3.out.big (hown b e).1), rfl⟩)
        have H5 := Lib.hid ((((H3.out.below hb).setSafe HQ.out HQ'.out HSV.out).setWait HQ.out HQ'.out (l := []) (B1 := none) (e1 := 0) ⟨Nat.zero_le _, Nat.zero_le _, [], rfl, fun h => absurd h (by simp)⟩))
        rw [HLEN.out] at H5
        clear HACC HACC2 HF
        go_wp2_with fail
        rw [HR3.out]
        refine ⟨rfl, _, ?_, H5.out.done HQ.out ?_ (nil_bytes _ _)⟩
        · simp only [results, hfr]
          go_simp
          unfold dcells
          dsimp only
          rw [HLEN.out]
          rfl
        · repeat (refine But.set ?_ _ _)
          exact But.refl _ _
  · have HR3 := Lib.hid (HR.out.1 he)
    have ge : (er != 0) = true := by simpa using he
    clear he
    go_wp2_with fail
    rw [HR3.out]
    refine ⟨rfl, _, ?_, H3.out.done HQ.out ?_ (nil_bytes _ _)⟩
    · simp only [results, hfr]
      go_simp
      try rfl
    · repeat (refine But.set ?_ _ _)
      exact But.refl _ _

end Go.Proofs.Ytfpmkenobphfnaa
