/- The statement on what is written and read of pages, walked. Printed by gen_pagesteps.py. -/
import Derived.Test.YtfpmkenobphfnaaPstG14
import Derived.Test.YtfpmkenobphfnaaPstG23
import Derived.Test.YtfpmkenobphfnaaPstG4
namespace Go.Proofs.Ytfpmkenobphfnaa
open Go.RowKit

/-- code -/
theorem code20_calls (n : Int) (w : World) : Calls Try.prog 16 #[.int .i64 n] w fun e w' => e = .returned (.int .i64 n) ∧ w' = w := by
  go_enter Try.func16, Try.ntmps16
  go_wp2_with fail
  go_ret
  exact ⟨rfl, rfl⟩

set_option maxRecDepth 100000 in
set_option maxHeartbeats 4000000 in
/-- PageSteps -/
theorem pageSteps_calls {Q Q' : Nat → Prop} {w : World} {vc vl : Value} {c : DConf} {size fuse : Int} {l : List DPStep} (hc : rConf.val Q w vc c) (_h1 : (Lit.int .i64 size).wf = true) (h2 : (Lit.int .i64 fuse).wf = true) (hl : rPStep.list.val Q' w vl l) :
    Calls Try.prog 3 #[vc, .int .i64 size, .int .i64 fuse, vl] w fun e w' => e = .returned (.bool true) ∧ Below w.heap.size w w' := by
  have HLV := Lib.hid (Rep.val_any hl)
  obtain ⟨AL, cl, rfl, hcl, hml, _⟩ := Rep.val_list hl
  unfold maxLen at hml
  obtain ⟨A, cap, rfl, _⟩ := rConf_val hc
  have hm := InBox.made hc 24
  have hbel : Below w.heap.size w (w.alloc (.cells #[.int .i64 c.log, .int .i64 c.pages, .int .i64 c.entities, .int .i64 c.gens, .slice A c.comps.length cap] 24)) := (Below.refl _ _).alloc (Nat.le_refl _) _
  have hsz : (w.alloc (.cells #[.int .i64 c.log, .int .i64 c.pages, .int .i64 c.entities, .int .i64 c.gens, .slice A c.comps.length cap] 24)).heap.size = w.heap.size + 1 := by simp
  generalize hW1 : w.alloc (.cells #[.int .i64 c.log, .int .i64 c.pages, .int .i64 c.entities, .int .i64 c.gens, .slice A c.comps.length cap] 24) = W1 at *
  have HB := Lib.hid hbel
  have HZ := Lib.hid hsz
  have KM := Lib.hid (show ∀ W, Below W1.heap.size W1 W → InBox W w.heap.size c A cap from fun W h => hm.later (h.mono (Nat.le_of_eq hsz.symm)))
  have KL := Lib.hid (show ∀ W, Below W1.heap.size W1 W → rPStep.At (fun b => b < w.heap.size) W AL l from fun W h => by
    obtain ⟨A', c', he, _, _, hat⟩ := Rep.val_list (Rep.val_below (B := w.heap.size) HLV.out (hbel.trans (h.mono hbel.size)) fun _ h _ => h)
    cases he; exact hat)
  have HF := Lib.hid h2
  obtain ⟨a0, a1, a2, a3, a4, _⟩ := hm
  clear hc hl hbel hsz _h1 h2
  go_enter Try.func3, Try.ntmps3
  go_wp2_with fail
  try rw [hW1]
  clear hW1
  try go_wp2_with fail
  refine (much_calls (KM.out _ (Below.refl _ _)).val).mono ?_
  rintro e w1 ⟨rfl, hb1⟩
  generalize muchConf c = mc
  have D1 := Lib.hid hb1
  clear hb1 a0 a1 a2 a3 a4
  cases mc with
  | true =>
    go_wp2_with fail
    refine (live20 _).mono ?_
    rintro e w9 ⟨rfl, hb9⟩
    go_wp2_with fail
    go_ret
    exact ⟨rfl, HB.out.trans ((D1.out.trans (hb9.mono D1.out.size)).mono HB.out.size)⟩
  | false =>
  by_cases hs : (60 : Int) < size
  · go_wp2_with fail
    refine (live20 _).mono ?_
    rintro e w9 ⟨rfl, hb9⟩
    go_wp2_with fail
    go_ret
    exact ⟨rfl, HB.out.trans ((D1.out.trans (hb9.mono D1.out.size)).mono HB.out.size)⟩
  by_cases hll : (30 : Int) < l.length
  · go_wp2_with fail
    refine (live20 _).mono ?_
    rintro e w9 ⟨rfl, hb9⟩
    go_wp2_with fail
    go_ret
    exact ⟨rfl, HB.out.trans ((D1.out.trans (hb9.mono D1.out.size)).mono HB.out.size)⟩
  have HLL := Lib.hid (show l.length ≤ 30 by omega)
  have HS := Lib.hid (show size ≤ 60 by omega)
  obtain ⟨k, hk⟩ : ∃ k, k = size.toNat := ⟨_, rfl⟩
  have HK := Lib.hid hk
  have HK6 := Lib.hid (show k ≤ 60 by omega)
  clear hk
  go_wp2_with fail
  refine (dev_new_any (n := size) (by have := HS.out; omega) w1).mono ?_
  rintro e w2 ⟨P, rfl, hd, hb2⟩
  have hnew : newN size = k := by have := HK.out; rcases newN_cases size with h | h | h <;> (have := HS.out; omega)
  rw [hnew] at hd
  have HD2 := Lib.hid hd
  have HB2 := Lib.hid hb2
  clear hnew hd hb2 hs
  go_wp2_with fail
  refine (rnew_calls size (by have := HS.out; omega) w2).mono ?_
  rintro e w3 ⟨z, rfl, hz, hb3⟩
  rw [← HK.out] at hz
  have HM0 := Lib.hid (show Mirror (newSt (List.replicate k (zeros 512))) (newD k) from ⟨rfl, fun _ => rfl, fun x hx => (by cases hx), rfl, rfl, rfl, rfl⟩)
  have HLS := Lib.hid (show (newD k).safe.length = k from List.length_replicate)
  have HLW := Lib.hid (show (newD k).wait.length = 0 from rfl)
  have HS0 := Lib.hid (new_sound k)
  generalize newSt (List.replicate k (zeros 512)) = s0 at *
  generalize newD k = d0 at *
  obtain ⟨B0, k0, B1, k1, rfl, q0, q1, f2, f3, f4⟩ := rDisk_val hz
  have hHZ := hz
  have h3 : Below w3.heap.size w3 (w3.alloc (.cells #[.slice B0 d0.safe.length k0, .slice B1 d0.wait.length k1, .int .i64 d0.fuse, .bool d0.off, .int .i64 d0.reads, .int .i64 d0.writes] 33)) := (Below.refl _ _).alloc (Nat.le_refl _) _
  have HT := Lib.hid (show Twin W1 (w3.alloc (.cells #[.slice B0 d0.safe.length k0, .slice B1 d0.wait.length k1, .int .i64 d0.fuse, .bool d0.off, .int .i64 d0.reads, .int .i64 d0.writes] 33)) P w3.heap.size 0 k s0 d0 B0 k0 B1 k1 from by
    have hsz : (w3.alloc (.cells #[.slice B0 d0.safe.length k0, .slice B1 d0.wait.length k1, .int .i64 d0.fuse, .bool d0.off, .int .i64 d0.reads, .int .i64 d0.writes] 33)).heap.size = w3.heap.size + 1 := by simp
    have hz1 := D1.out.size
    have hz2 := HB2.out.size
    have hz3 := hb3.size
    refine ⟨fun b => b < w1.heap.size ∨ (w2.heap.size ≤ b ∧ b < w3.heap.size + 1), fun b hb => .inl (Nat.lt_of_lt_of_le hb hz1), .inr ⟨hz3, Nat.lt_succ_self _⟩, Nat.le_trans hz1 (Nat.le_trans hz2 hz3), HD2.out.grow (hb3.trans (h3.mono hz3)) (fun b hb => hb.imp id fun e => ⟨e.1, by rw [hsz]; exact e.2⟩), heap_alloc_new w3 _, ?_, HM0.out, Nat.le_of_eq HLW.out, HLS.out, D1.out.trans ((HB2.out.trans ((hb3.trans (h3.mono hz3)).mono hz2)).mono hz1)⟩
    exact Rep.val_keep (fun b hb hl => ⟨⟨.inr ⟨hb, Nat.lt_succ_of_lt hl.lt⟩, Nat.ne_of_lt hl.lt⟩, h3.block b hl.lt⟩) hHZ)
  have hBsz : W1.heap.size ≤ w3.heap.size := Nat.le_trans D1.out.size (Nat.le_trans HB2.out.size hb3.size)
  clear h3 hz hHZ hb3 q0 q1 f2 f3 f4
  go_wp2_with fail
  generalize w3.alloc (.cells #[.slice B0 d0.safe.length k0, .slice B1 d0.wait.length k1, .int .i64 d0.fuse, .bool d0.off, .int .i64 d0.reads, .int .i64 d0.writes] 33) = w4 at *
  generalize w3.heap.size = B at *
  clear HD2 HB2 HM0 HLS HLW
  obtain ⟨K, hKw, hKB, hwB, hd, hblk, hv, hmir, hwl, hsl, hb⟩ := HT.out
  refine (dev_fuse hd HF.out).mono ?_
  rintro e w5 ⟨rfl, hd5, hk5⟩
  have HD5 := Lib.hid hd5
  have HBL5 := Lib.hid (show w5.heap[B]? = some (.cells #[.slice B0 d0.safe.length k0, .slice B1 d0.wait.length k1, .int .i64 d0.fuse, .bool d0.off, .int .i64 d0.reads, .int .i64 d0.writes] 33 (0, 0)) from (hk5.block B hKB).trans hblk)
  have HV5 := Lib.hid (show rDisk.val (fun b => K b ∧ b ≠ B) w5 (.agg #[.slice B0 d0.safe.length k0, .slice B1 d0.wait.length k1, .int .i64 d0.fuse, .bool d0.off, .int .i64 d0.reads, .int .i64 d0.writes]) d0 from hk5.val (fun b hb => hb.1) hv)
  have HB5 := Lib.hid (hb.trans (hk5.below (base := W1.heap.size) fun b hb => hKw b hb))
  have HKW := Lib.hid hKw
  have HKB := Lib.hid hKB
  have HWB := Lib.hid hwB
  obtain ⟨hm5, ho5⟩ := mirror_step hmir ⟨3, fuse, [], []⟩
  have HM5 := Lib.hid (show Mirror (fuseSt s0 fuse) (goW d0 ⟨3, fuse, [], []⟩).1 from hm5)
  have HW5 := Lib.hid (show (goW d0 ⟨3, fuse, [], []⟩).1.wait.length ≤ 1 by have := goW_wait d0 ⟨3, fuse, [], []⟩; omega)
  have HSL5 := Lib.hid (show (goW d0 ⟨3, fuse, [], []⟩).1.safe.length = k from (goW_safe d0 _).trans hsl)
  have HKK := Lib.hid (show ∀ y ∈ d0.wait, 0 ≤ y.pos ∧ y.pos < d0.safe.length from hmir.keys)
  have HLW0 := Lib.hid hwl
  have HSL0 := Lib.hid hsl
  have HSD := Lib.hid (show Sound (fuseSt s0 fuse) k from step_sound HS0.out ⟨3, fuse, [], []⟩)
  have e0 := cell_row HBL5.out 0
  have e1 := cell_row HBL5.out 1
  have e2 := cell_row HBL5.out 2
  have e3 := cell_row HBL5.out 3
  have e4 := cell_row HBL5.out 4
  have e5 := cell_row HBL5.out 5
  clear hKw hKB hwB hd hblk hv hmir hwl hsl hb hd5 hk5 hm5 ho5 HT
  go_wp2_with fail
  refine (rgo_calls (Q := fun b => K b ∧ b ≠ B) (Q' := fun b => b < w5.heap.size) HV5.out (show rStep.val (fun b => b < w5.heap.size) w5 _ ⟨3, fuse, [], []⟩ from rStep_agg (x := ⟨3, fuse, [], []⟩) rfl HF.out sl_nil sl_nil) (fun b hb => HD5.out.lt b hb.1) (fun b hb => hb) (by have := HLW0.out; omega) (by have := HSL0.out; have := HK6.out; omega) HKK.out).mono ?_
  rintro e w6 ⟨z6, u6, rfl, hz6, hu6, hb6⟩
  generalize (goW d0 ⟨3, fuse, [], []⟩).1 = d1 at *
  obtain ⟨E0, m0, E1, m1, rfl⟩ := rdisk_fields hz6
  have HTW := Lib.hid (twin_store (w := W1) HKW.out HKB.out HWB.out (HD5.out.more (Nat.zero_le 1)) hb6 HBL5.out hz6 HM5.out HW5.out HSL5.out HB5.out)
  have hrow6 : w6.heap[B]? = some (.cells #[.slice B0 d0.safe.length k0, .slice B1 d0.wait.length k1, .int .i64 d0.fuse, .bool d0.off, .int .i64 d0.reads, .int .i64 d0.writes] 33 (0, 0)) := (hb6.block B (HD5.out.lt B HKB.out)).trans HBL5.out
  have z0 := frozen_row hrow6 0
  have z1 := frozen_row hrow6 1
  have z2 := frozen_row hrow6 2
  have z3 := frozen_row hrow6 3
  have z4 := frozen_row hrow6 4
  have z5 := frozen_row hrow6 5
  clear e0 e1 e2 e3 e4 e5
  have e0 := cell_row hrow6 0
  have e1 := cell_row hrow6 1
  have e2 := cell_row hrow6 2
  have e3 := cell_row hrow6 3
  have e4 := cell_row hrow6 4
  have e5 := cell_row hrow6 5
  clear hz6 hu6 hrow6
  go_wp2_with fail
  unfold set6 at HTW
  generalize ((((((w6.setCell ⟨B, 0, none⟩ (.slice E0 d1.safe.length m0)).setCell ⟨B, 1, none⟩ (.slice E1 d1.wait.length m1)).setCell ⟨B, 2, none⟩ (.int .i64 d1.fuse)).setCell ⟨B, 3, none⟩ (.bool d1.off)).setCell ⟨B, 4, none⟩ (.int .i64 d1.reads)).setCell ⟨B, 5, none⟩ (.int .i64 d1.writes)) = Wa at *
  clear e0 e1 e2 e3 e4 e5 z0 z1 z2 z3 z4 z5 HM5 HW5 HSL5 HV5 HBL5 HKK HLW0 HSL0 HS0 hb6 HD5 HB5
  go_loopw [11] (fun kk wr => ∃ (j : Nat) (st : DiskSt) (d : DDisk) (A0 : Option Addr) (c0 : Nat) (A2 : Option Addr) (c2 : Nat), kk = .int .i64 j ∧ j ≤ l.length ∧ Hid (Sound st k) ∧ Hid (Twin W1 wr P B (j + 1) k st d A0 c0 A2 c2)) (fun kk _ => l.length - (intOf kk).toNat)
  case atStart => exact ⟨0, _, d1, E0, m0, E1, m1, rfl, Nat.zero_le _, HSD.out, HTW.out⟩
  case round =>
    clear HTW HSD
    obtain ⟨j, st, d, A0, c0, A2, c2, rfl, hj, hsd, htw⟩ := hrel
    have HSD := Lib.hid hsd.out
    have HTW := Lib.hid htw.out
    clear hsd htw
    have HBW := Lib.hid (show Below W1.heap.size W1 wr by obtain ⟨K, _, _, _, _, _, _, _, _, _, hb⟩ := HTW.out; exact hb)
    by_cases hlt : (j : Int) < l.length
    · obtain ⟨x, hx⟩ : ∃ x, l[j]? = some x := ⟨_, List.getElem?_eq_getElem (by omega)⟩
      obtain ⟨b, off, A6, c6, hAL, hbc, g0, g1, g2, g3, f1, f2, sp⟩ := rPStep_at (KL.out W1 (Below.refl _ _)) hx
      subst hAL
      have CE := Lib.hid (show ∀ W, Below W1.heap.size W1 W → W.cell? ⟨b, off + j * 4, none⟩ = some (.bool x.wr) ∧ W.cell? ⟨b, off + j * 4 + 1, none⟩ = some (.int .i64 x.epoch) ∧ W.cell? ⟨b, off + j * 4 + 2, none⟩ = some (.int .i64 x.p) ∧ W.cell? ⟨b, off + j * 4 + 3, none⟩ = some (.slice A6 x.b.length c6) from fun W h =>
        ⟨(h.cell (p := ⟨b, off + j * 4, none⟩) hbc.lt).trans g0, (h.cell (p := ⟨b, off + j * 4 + 1, none⟩) hbc.lt).trans g1, (h.cell (p := ⟨b, off + j * 4 + 2, none⟩) hbc.lt).trans g2, (h.cell (p := ⟨b, off + j * 4 + 3, none⟩) hbc.lt).trans g3⟩)
      have VB := Lib.hid (show ∀ W, Below W1.heap.size W1 W → Rep.byte.list.val (fun _ => True) W (.slice A6 x.b.length c6) x.b from fun W h => (sp.keep (w' := W) (Q' := fun _ => True) fun q _ hl => ⟨trivial, h.block q hl.lt⟩).val)
      have F1 := Lib.hid f1
      have F2 := Lib.hid f2
      clear hbc g0 g1 g2 g3 f1 f2 sp hx
      obtain ⟨e0, e1, e2, e3⟩ := CE.out _ HBW.out
      by_cases h6 : (600 : Int) < x.b.length
      · go_wp2_with fail
        refine (live20 _).mono ?_
        rintro e w9 ⟨rfl, hb9⟩
        go_wp2_with fail
        go_ret
        exact ⟨rfl, HB.out.trans ((HBW.out.trans (hb9.mono HBW.out.size)).mono HB.out.size)⟩
      cases hwr : x.wr with
      | true =>
        rw [hwr] at e0
        go_wp2_with fail
        clear e0 e1 e2 e3
        refine wp_region_held_drew (S := fun W => Below W1.heap.size W1 W) (by kernel_rfl) (HBW.out.drew) (fun s0 => ?_)
        refine wpAnyH_take (i := 0) (v := .pointer (some ⟨P, 0, none⟩)) rfl (by kernel_rfl) (by kernel_rfl) (by kernel_rfl) (fun _ _ _ h => h) (Or.inl ⟨by rfl, fun w' _ => by go_simp⟩) s0 ?_
        go_simp
        refine wpAnyH_take (i := 1) (v := .agg #[.int .i64 c.log, .int .i64 c.pages, .int .i64 c.entities, .int .i64 c.gens, .slice A c.comps.length cap]) rfl (by kernel_rfl) (by kernel_rfl) (by kernel_rfl) (fun _ _ _ h => h) (Or.inl ⟨by rfl, fun w' h => by obtain ⟨u0, u1, u2, u3, u4, _⟩ := KM.out _ (h : Below W1.heap.size W1 w'); obtain ⟨v0, v1, v2, v3⟩ := CE.out _ (h : Below W1.heap.size W1 w'); go_simp⟩) s0 ?_
        go_simp
        refine wpAnyH_take (i := 2) (v := .slice (some ⟨b, off, none⟩) l.length cl) rfl (by kernel_rfl) (by kernel_rfl) (by kernel_rfl) (fun _ _ _ h => h) (Or.inl ⟨by rfl, fun w' _ => by go_simp⟩) s0 ?_
        go_simp
        refine wpAnyH_take (i := 3) (v := .int .i64 j) rfl (by kernel_rfl) (by kernel_rfl) (by kernel_rfl) (fun _ _ _ h => h) (Or.inl ⟨by rfl, fun w' _ => by go_simp⟩) s0 ?_
        go_simp
        refine wpAnyH_take (i := 4) (v := .pointer (some ⟨b, off + j * 4, none⟩)) rfl (by kernel_rfl) (by kernel_rfl) (by kernel_rfl) (fun _ _ _ h => h) (Or.inl ⟨by rfl, fun w' _ => by go_simp⟩) s0 ?_
        go_simp
        refine wpAnyH_take (i := 5) (v := .pointer (some ⟨b, off + j * 4 + 1, none⟩)) rfl (by kernel_rfl) (by kernel_rfl) (by kernel_rfl) (fun _ _ _ h => h) (Or.inl ⟨by rfl, fun w' _ => by go_simp⟩) s0 ?_
        go_simp
        refine wpAnyH_take (i := 6) (v := .int .i64 x.epoch) rfl (by kernel_rfl) (by kernel_rfl) (by kernel_rfl) (fun _ _ _ h => h) (Or.inl ⟨by rfl, fun w' h => by obtain ⟨u0, u1, u2, u3, u4, _⟩ := KM.out _ (h : Below W1.heap.size W1 w'); obtain ⟨v0, v1, v2, v3⟩ := CE.out _ (h : Below W1.heap.size W1 w'); go_simp⟩) s0 ?_
        go_simp
        refine wpAnyH_take (i := 7) (v := .slice (some ⟨b, off, none⟩) l.length cl) rfl (by kernel_rfl) (by kernel_rfl) (by kernel_rfl) (fun _ _ _ h => h) (Or.inl ⟨by rfl, fun w' _ => by go_simp⟩) s0 ?_
        go_simp
        refine wpAnyH_take (i := 8) (v := .int .i64 j) rfl (by kernel_rfl) (by kernel_rfl) (by kernel_rfl) (fun _ _ _ h => h) (Or.inl ⟨by rfl, fun w' _ => by go_simp⟩) s0 ?_
        go_simp
        refine wpAnyH_take (i := 9) (v := .pointer (some ⟨b, off + j * 4, none⟩)) rfl (by kernel_rfl) (by kernel_rfl) (by kernel_rfl) (fun _ _ _ h => h) (Or.inl ⟨by rfl, fun w' _ => by go_simp⟩) s0 ?_
        go_simp
        refine wpAnyH_take (i := 10) (v := .pointer (some ⟨b, off + j * 4 + 2, none⟩)) rfl (by kernel_rfl) (by kernel_rfl) (by kernel_rfl) (fun _ _ _ h => h) (Or.inl ⟨by rfl, fun w' _ => by go_simp⟩) s0 ?_
        go_simp
        refine wpAnyH_take (i := 11) (v := .int .i64 x.p) rfl (by kernel_rfl) (by kernel_rfl) (by kernel_rfl) (fun _ _ _ h => h) (Or.inl ⟨by rfl, fun w' h => by obtain ⟨u0, u1, u2, u3, u4, _⟩ := KM.out _ (h : Below W1.heap.size W1 w'); obtain ⟨v0, v1, v2, v3⟩ := CE.out _ (h : Below W1.heap.size W1 w'); go_simp⟩) s0 ?_
        go_simp
        refine wpAnyH_take (i := 12) (v := .slice (some ⟨b, off, none⟩) l.length cl) rfl (by kernel_rfl) (by kernel_rfl) (by kernel_rfl) (fun _ _ _ h => h) (Or.inl ⟨by rfl, fun w' _ => by go_simp⟩) s0 ?_
        go_simp
        refine wpAnyH_take (i := 13) (v := .int .i64 j) rfl (by kernel_rfl) (by kernel_rfl) (by kernel_rfl) (fun _ _ _ h => h) (Or.inl ⟨by rfl, fun w' _ => by go_simp⟩) s0 ?_
        go_simp
        refine wpAnyH_take (i := 14) (v := .pointer (some ⟨b, off + j * 4, none⟩)) rfl (by kernel_rfl) (by kernel_rfl) (by kernel_rfl) (fun _ _ _ h => h) (Or.inl ⟨by rfl, fun w' _ => by go_simp⟩) s0 ?_
        go_simp
        refine wpAnyH_take (i := 15) (v := .pointer (some ⟨b, off + j * 4 + 3, none⟩)) rfl (by kernel_rfl) (by kernel_rfl) (by kernel_rfl) (fun _ _ _ h => h) (Or.inl ⟨by rfl, fun w' _ => by go_simp⟩) s0 ?_
        go_simp
        refine wpAnyH_take (i := 16) (v := .slice A6 x.b.length c6) rfl (by kernel_rfl) (by kernel_rfl) (by kernel_rfl) (fun _ _ _ h => h) (Or.inl ⟨by rfl, fun w' h => by obtain ⟨u0, u1, u2, u3, u4, _⟩ := KM.out _ (h : Below W1.heap.size W1 w'); obtain ⟨v0, v1, v2, v3⟩ := CE.out _ (h : Below W1.heap.size W1 w'); go_simp⟩) s0 ?_
        go_simp
        refine wpAnyH_all (rs := [17]) (by kernel_rfl) (by simp) ?_
        intro i hi
        obtain rfl : i = 17 := by simpa using hi
        clear hi
        refine wpOp_step rfl (fun K hK => ?_)
        go_simp
        obtain ⟨KD, hKw, hKB, hwB, hd, hblk, hv, hmir, hwl, hsl, hb⟩ := HTW.out.later ((Below.refl wr.heap.size wr).drew)
        refine (pageWrite_calls hd (by have := HLL.out; omega) (KM.out _ s0).val F1.out F2.out (VB.out _ s0)).mono ?_
        rintro e w5 ⟨rfl, hd5, hk5⟩
        obtain ⟨er, her⟩ : ∃ er, er = (pageWriteSt st c x.epoch x.p x.b).2 := ⟨_, rfl⟩
        rw [← her]
        have HER := Lib.hid her
        clear her
        have s1 : Below W1.heap.size W1 w5 := hb.trans (hk5.below (base := W1.heap.size) fun b hb => hKw b hb)
        refine hK _ _ ⟨s1, ?_⟩
        clear hK K
        refine wpAnyH_all (rs := [18]) (by kernel_rfl) (by simp) ?_
        intro i hi
        obtain rfl : i = 18 := by simpa using hi
        clear hi
        refine wpOp_step rfl (fun K hK => ?_)
        go_simp
        refine (code20_calls er _).mono ?_
        rintro e w' ⟨rfl, hw⟩
        have hw2 := hw.symm
        subst hw2
        clear hw
        refine hK _ _ ⟨s1, ?_⟩
        clear hK K
        refine wpAnyH_take (i := 19) (v := .int .i64 er) rfl (by kernel_rfl) (by kernel_rfl) (by kernel_rfl) (fun _ _ _ h => h) (Or.inl ⟨by rfl, fun w' _ => by go_simp⟩) s1 ?_
        go_simp
        refine wpAnyH_done (by kernel_rfl) ?_ _
        have HS1 := Lib.hid s1
        have HD5 := Lib.hid hd5
        have HBL5 := Lib.hid (show w5.heap[B]? = some (.cells #[.slice A0 d.safe.length c0, .slice A2 d.wait.length c2, .int .i64 d.fuse, .bool d.off, .int .i64 d.reads, .int .i64 d.writes] 33 (0, 0)) from (hk5.block B hKB).trans hblk)
        have HV5 := Lib.hid (show ∀ W, Below w5.heap.size w5 W → rDisk.val (fun q => KD q ∧ q ≠ B) W (.agg #[.slice A0 d.safe.length c0, .slice A2 d.wait.length c2, .int .i64 d.fuse, .bool d.off, .int .i64 d.reads, .int .i64 d.writes]) d from fun W h => Rep.val_below (hk5.val (fun q hq => hq.1) hv) h (fun q hq _ => hd5.lt q hq.1))
        have HKD := Lib.hid hKw
        have HKB := Lib.hid hKB
        have HWB := Lib.hid hwB
        obtain ⟨hm5, ho5⟩ := mirror_pageWrite hmir c x.epoch x.p x.b
        have HRW := Lib.hid (rwrite_wait d c x.epoch x.p x.b)
        have HWL := Lib.hid hwl
        have HSL := Lib.hid hsl
        have HKK := Lib.hid (show ∀ y ∈ d.wait, 0 ≤ y.pos ∧ y.pos < d.safe.length from hmir.keys)
        have HSD5 := Lib.hid (sound_pageWrite HSD.out c x.epoch x.p x.b)
        obtain ⟨d', hd'⟩ : ∃ d', d' = (rpageWriteD d c x.epoch x.p x.b).1 := ⟨_, rfl⟩
        have HMW := Lib.hid (show rpageWriteD d c x.epoch x.p x.b = (d', er) by rw [HER.out, ho5, hd'])
        rw [← hd'] at hm5 HRW
        have HM5 := Lib.hid hm5
        generalize (pageWriteSt st c x.epoch x.p x.b).1 = st' at *
        clear hKw hKB hwB hd hblk hv hmir hwl hsl hb hd5 hk5 hm5 ho5 hd' s0 s1 HER
        go_wp2_with fail
        refine wp_region_held_drew (S := fun W => Below w5.heap.size w5 W) (by kernel_rfl) ((Below.refl _ _).drew) (fun s0 => ?_)
        obtain ⟨v0, hv0⟩ : ∃ W, W = w5.drew := ⟨_, rfl⟩
        rw [← hv0] at s0 ⊢
        have t0 : Below w5.heap.size w5 v0 := s0
        clear hv0
        apply share5 (fun (X : Nat) (E0 : Option Addr) (m0 : Nat) (E1 : Option Addr) (m1 : Nat) (W : World) => Wait (fun q => KD q ∧ q ≠ B) w5 W X d' E0 m0 E1 m1)
        · intro key
          have KEY := Lib.hid key
          clear key
          refine wpAnyH_take (i := 0) (v := .agg #[.slice A0 d.safe.length c0, .slice A2 d.wait.length c2, .int .i64 d.fuse, .bool d.off, .int .i64 d.reads, .int .i64 d.writes]) rfl (by kernel_rfl) (by kernel_rfl) (by kernel_rfl) (fun _ _ _ h => h) (Or.inl ⟨by rfl, fun w' h => by have hw1 := HS1.out.trans (Below.mono (h : Below w5.heap.size w5 w') HS1.out.size); obtain ⟨u0, u1, u2, u3, u4, _⟩ := KM.out _ hw1; obtain ⟨v0, v1, v2, v3⟩ := CE.out _ hw1; have hrB := (Below.block (h : Below w5.heap.size w5 w') B (HD5.out.lt B HKB.out)).trans HBL5.out; have x0 := cell_row hrB 0; have x1 := cell_row hrB 1; have x2 := cell_row hrB 2; have x3 := cell_row hrB 3; have x4 := cell_row hrB 4; have x5 := cell_row hrB 5; go_simp⟩) t0 ?_
          go_simp
          refine wpAnyH_take (i := 1) (v := .agg #[.int .i64 c.log, .int .i64 c.pages, .int .i64 c.entities, .int .i64 c.gens, .slice A c.comps.length cap]) rfl (by kernel_rfl) (by kernel_rfl) (by kernel_rfl) (fun _ _ _ h => h) (Or.inl ⟨by rfl, fun w' h => by have hw1 := HS1.out.trans (Below.mono (h : Below w5.heap.size w5 w') HS1.out.size); obtain ⟨u0, u1, u2, u3, u4, _⟩ := KM.out _ hw1; obtain ⟨v0, v1, v2, v3⟩ := CE.out _ hw1; have hrB := (Below.block (h : Below w5.heap.size w5 w') B (HD5.out.lt B HKB.out)).trans HBL5.out; have x0 := cell_row hrB 0; have x1 := cell_row hrB 1; have x2 := cell_row hrB 2; have x3 := cell_row hrB 3; have x4 := cell_row hrB 4; have x5 := cell_row hrB 5; go_simp⟩) t0 ?_
          go_simp
          refine wpAnyH_take (i := 2) (v := .slice (some ⟨b, off, none⟩) l.length cl) rfl (by kernel_rfl) (by kernel_rfl) (by kernel_rfl) (fun _ _ _ h => h) (Or.inl ⟨by rfl, fun w' _ => by go_simp⟩) t0 ?_
          go_simp
          refine wpAnyH_take (i := 3) (v := .int .i64 j) rfl (by kernel_rfl) (by kernel_rfl) (by kernel_rfl) (fun _ _ _ h => h) (Or.inl ⟨by rfl, fun w' _ => by go_simp⟩) t0 ?_
          go_simp
          refine wpAnyH_take (i := 4) (v := .pointer (some ⟨b, off + j * 4, none⟩)) rfl (by kernel_rfl) (by kernel_rfl) (by kernel_rfl) (fun _ _ _ h => h) (Or.inl ⟨by rfl, fun w' _ => by go_simp⟩) t0 ?_
          go_simp
          refine wpAnyH_take (i := 5) (v := .pointer (some ⟨b, off + j * 4 + 1, none⟩)) rfl (by kernel_rfl) (by kernel_rfl) (by kernel_rfl) (fun _ _ _ h => h) (Or.inl ⟨by rfl, fun w' _ => by go_simp⟩) t0 ?_
          go_simp
          refine wpAnyH_take (i := 6) (v := .int .i64 x.epoch) rfl (by kernel_rfl) (by kernel_rfl) (by kernel_rfl) (fun _ _ _ h => h) (Or.inl ⟨by rfl, fun w' h => by have hw1 := HS1.out.trans (Below.mono (h : Below w5.heap.size w5 w') HS1.out.size); obtain ⟨u0, u1, u2, u3, u4, _⟩ := KM.out _ hw1; obtain ⟨v0, v1, v2, v3⟩ := CE.out _ hw1; have hrB := (Below.block (h : Below w5.heap.size w5 w') B (HD5.out.lt B HKB.out)).trans HBL5.out; have x0 := cell_row hrB 0; have x1 := cell_row hrB 1; have x2 := cell_row hrB 2; have x3 := cell_row hrB 3; have x4 := cell_row hrB 4; have x5 := cell_row hrB 5; go_simp⟩) t0 ?_
          go_simp
          refine wpAnyH_take (i := 7) (v := .slice (some ⟨b, off, none⟩) l.length cl) rfl (by kernel_rfl) (by kernel_rfl) (by kernel_rfl) (fun _ _ _ h => h) (Or.inl ⟨by rfl, fun w' _ => by go_simp⟩) t0 ?_
          go_simp
          refine wpAnyH_take (i := 8) (v := .int .i64 j) rfl (by kernel_rfl) (by kernel_rfl) (by kernel_rfl) (fun _ _ _ h => h) (Or.inl ⟨by rfl, fun w' _ => by go_simp⟩) t0 ?_
          go_simp
          refine wpAnyH_take (i := 9) (v := .pointer (some ⟨b, off + j * 4, none⟩)) rfl (by kernel_rfl) (by kernel_rfl) (by kernel_rfl) (fun _ _ _ h => h) (Or.inl ⟨by rfl, fun w' _ => by go_simp⟩) t0 ?_
          go_simp
          refine wpAnyH_take (i := 10) (v := .pointer (some ⟨b, off + j * 4 + 2, none⟩)) rfl (by kernel_rfl) (by kernel_rfl) (by kernel_rfl) (fun _ _ _ h => h) (Or.inl ⟨by rfl, fun w' _ => by go_simp⟩) t0 ?_
          go_simp
          refine wpAnyH_take (i := 11) (v := .int .i64 x.p) rfl (by kernel_rfl) (by kernel_rfl) (by kernel_rfl) (fun _ _ _ h => h) (Or.inl ⟨by rfl, fun w' h => by have hw1 := HS1.out.trans (Below.mono (h : Below w5.heap.size w5 w') HS1.out.size); obtain ⟨u0, u1, u2, u3, u4, _⟩ := KM.out _ hw1; obtain ⟨v0, v1, v2, v3⟩ := CE.out _ hw1; have hrB := (Below.block (h : Below w5.heap.size w5 w') B (HD5.out.lt B HKB.out)).trans HBL5.out; have x0 := cell_row hrB 0; have x1 := cell_row hrB 1; have x2 := cell_row hrB 2; have x3 := cell_row hrB 3; have x4 := cell_row hrB 4; have x5 := cell_row hrB 5; go_simp⟩) t0 ?_
          go_simp
          refine wpAnyH_take (i := 12) (v := .slice (some ⟨b, off, none⟩) l.length cl) rfl (by kernel_rfl) (by kernel_rfl) (by kernel_rfl) (fun _ _ _ h => h) (Or.inl ⟨by rfl, fun w' _ => by go_simp⟩) t0 ?_
          go_simp
          refine wpAnyH_take (i := 13) (v := .int .i64 j) rfl (by kernel_rfl) (by kernel_rfl) (by kernel_rfl) (fun _ _ _ h => h) (Or.inl ⟨by rfl, fun w' _ => by go_simp⟩) t0 ?_
          go_simp
          refine wpAnyH_take (i := 14) (v := .pointer (some ⟨b, off + j * 4, none⟩)) rfl (by kernel_rfl) (by kernel_rfl) (by kernel_rfl) (fun _ _ _ h => h) (Or.inl ⟨by rfl, fun w' _ => by go_simp⟩) t0 ?_
          go_simp
          refine wpAnyH_take (i := 15) (v := .pointer (some ⟨b, off + j * 4 + 3, none⟩)) rfl (by kernel_rfl) (by kernel_rfl) (by kernel_rfl) (fun _ _ _ h => h) (Or.inl ⟨by rfl, fun w' _ => by go_simp⟩) t0 ?_
          go_simp
          refine wpAnyH_take (i := 16) (v := .slice A6 x.b.length c6) rfl (by kernel_rfl) (by kernel_rfl) (by kernel_rfl) (fun _ _ _ h => h) (Or.inl ⟨by rfl, fun w' h => by have hw1 := HS1.out.trans (Below.mono (h : Below w5.heap.size w5 w') HS1.out.size); obtain ⟨u0, u1, u2, u3, u4, _⟩ := KM.out _ hw1; obtain ⟨v0, v1, v2, v3⟩ := CE.out _ hw1; have hrB := (Below.block (h : Below w5.heap.size w5 w') B (HD5.out.lt B HKB.out)).trans HBL5.out; have x0 := cell_row hrB 0; have x1 := cell_row hrB 1; have x2 := cell_row hrB 2; have x3 := cell_row hrB 3; have x4 := cell_row hrB 4; have x5 := cell_row hrB 5; go_simp⟩) t0 ?_
          go_simp
          refine wpAnyH_all (rs := [17, 21]) (by kernel_rfl) (by simp) ?_
          intro i hi
          have hi2 : i = 17 ∨ i = 21 := by simpa using hi
          clear hi
          rcases hi2 with rfl | rfl
          · skip
            refine wpOp_step rfl (fun K hK => ?_)
            go_simp
            have hw1 := HS1.out.trans (Below.mono t0 HS1.out.size)
            refine (rpageWrite_calls (Q := fun q => KD q ∧ q ≠ B) (HV5.out _ t0) (KM.out _ hw1).val F1.out F2.out (VB.out _ hw1) (fun q hq => Nat.lt_of_lt_of_le (HD5.out.lt q hq.1) (Below.size t0)) (by have := HWL.out; have := HLL.out; omega) (by have := HSL.out; have := HK6.out; omega) HKK.out).mono ?_
            rintro e v1 ⟨z, rfl, hz, hb⟩
            rw [HMW.out] at hz ⊢
            dsimp only at hz ⊢
            obtain ⟨E0, m0, E1, m1, rfl⟩ := rdisk_fields hz
            have VZ := Lib.hid (Rep.val_mono (Q' := fun q => (KD q ∧ q ≠ B) ∨ w5.heap.size ≤ q) (fun q hq _ => hq.imp id (fun e => Nat.le_trans (Below.size t0) e)) hz)
            have t1 : Below w5.heap.size w5 v1 := Below.trans t0 (hb.mono (Below.size t0))
            refine hK _ _ ⟨t1, ?_⟩
            clear hb hz hw1
            clear hK K
            refine wpAnyH_take (i := 18) (v := .tuple #[.agg #[.slice E0 d'.safe.length m0, .slice E1 d'.wait.length m1, .int .i64 d'.fuse, .bool d'.off, .int .i64 d'.reads, .int .i64 d'.writes], .int .i64 er]) rfl (by kernel_rfl) (by kernel_rfl) (by kernel_rfl) (fun _ _ _ h => h) (Or.inl ⟨by rfl, fun w' _ => by go_simp⟩) t1 ?_
            go_simp
            refine wpAnyH_take (i := 19) (v := .agg #[.slice E0 d'.safe.length m0, .slice E1 d'.wait.length m1, .int .i64 d'.fuse, .bool d'.off, .int .i64 d'.reads, .int .i64 d'.writes]) rfl (by kernel_rfl) (by kernel_rfl) (by kernel_rfl) (fun _ _ _ h => h) (Or.inl ⟨by rfl, fun w' _ => by go_simp⟩) t1 ?_
            go_simp
            refine wpAnyH_take (i := 20) (v := .int .i64 er) rfl (by kernel_rfl) (by kernel_rfl) (by kernel_rfl) (fun _ _ _ h => h) (Or.inl ⟨by rfl, fun w' _ => by go_simp⟩) t1 ?_
            go_simp
            refine wpAnyH_all (rs := [21]) (by kernel_rfl) (by simp) ?_
            intro i hi
            obtain rfl : i = 21 := by simpa using hi
            clear hi
            refine wpOp_step rfl (fun K hK => ?_)
            go_simp
            obtain ⟨X, hX⟩ : ∃ X, X = v1.heap.size := ⟨_, rfl⟩
            have hbx : Below v1.heap.size v1 (v1.alloc (.cells #[.slice none 0 0, .slice none 0 0, .int .i64 0, .bool false, .int .i64 0, .int .i64 0] 33)) := (Below.refl _ _).alloc (Nat.le_refl _) _
            have hrow : (v1.alloc (.cells #[.slice none 0 0, .slice none 0 0, .int .i64 0, .bool false, .int .i64 0, .int .i64 0] 33)).heap[X]? = some (.cells #[.slice none 0 0, .slice none 0 0, .int .i64 0, .bool false, .int .i64 0, .int .i64 0] 33 (0, 0)) := by rw [hX]; exact heap_alloc_new _ _
            have hXb : w5.heap.size ≤ X := by rw [hX]; exact Below.size t1
            have t2 : Below w5.heap.size w5 (v1.alloc (.cells #[.slice none 0 0, .slice none 0 0, .int .i64 0, .bool false, .int .i64 0, .int .i64 0] 33)) := Below.trans t1 (hbx.mono (Below.size t1))
            have VZ := Lib.hid (Rep.val_keep (Q' := fun q => ((KD q ∧ q ≠ B) ∨ w5.heap.size ≤ q) ∧ q ≠ X) (fun k hk hl => ⟨⟨hk, by rw [hX]; exact Nat.ne_of_lt hl.lt⟩, hbx.block k hl.lt⟩) VZ.out)
            rw [← hX]
            clear hbx hX
            generalize v1.alloc (.cells #[.slice none 0 0, .slice none 0 0, .int .i64 0, .bool false, .int .i64 0, .int .i64 0] 33) = v2 at *
            refine hK _ _ ⟨t2, ?_⟩
            clear hK K
            exact KEY.out X E0 m0 E1 m1 v2 ⟨t2, hrow, hXb, VZ.out⟩
          · skip
            refine wpOp_step rfl (fun K hK => ?_)
            go_simp
            obtain ⟨X, hX⟩ : ∃ X, X = v0.heap.size := ⟨_, rfl⟩
            have hbx : Below v0.heap.size v0 (v0.alloc (.cells #[.slice none 0 0, .slice none 0 0, .int .i64 0, .bool false, .int .i64 0, .int .i64 0] 33)) := (Below.refl _ _).alloc (Nat.le_refl _) _
            have hrow : (v0.alloc (.cells #[.slice none 0 0, .slice none 0 0, .int .i64 0, .bool false, .int .i64 0, .int .i64 0] 33)).heap[X]? = some (.cells #[.slice none 0 0, .slice none 0 0, .int .i64 0, .bool false, .int .i64 0, .int .i64 0] 33 (0, 0)) := by rw [hX]; exact heap_alloc_new _ _
            have hXb : w5.heap.size ≤ X := by rw [hX]; exact Below.size t0
            have t3 : Below w5.heap.size w5 (v0.alloc (.cells #[.slice none 0 0, .slice none 0 0, .int .i64 0, .bool false, .int .i64 0, .int .i64 0] 33)) := Below.trans t0 (hbx.mono (Below.size t0))
            rw [← hX]
            clear hbx hX
            generalize v0.alloc (.cells #[.slice none 0 0, .slice none 0 0, .int .i64 0, .bool false, .int .i64 0, .int .i64 0] 33) = v3 at *
            refine hK _ _ ⟨t3, ?_⟩
            clear hK K
            refine wpAnyH_all (rs := [17]) (by kernel_rfl) (by simp) ?_
            intro i hi
            obtain rfl : i = 17 := by simpa using hi
            clear hi
            refine wpOp_step rfl (fun K hK => ?_)
            go_simp
            have hw1 := HS1.out.trans (Below.mono t3 HS1.out.size)
            refine (rpageWrite_calls (Q := fun q => KD q ∧ q ≠ B) (HV5.out _ t3) (KM.out _ hw1).val F1.out F2.out (VB.out _ hw1) (fun q hq => Nat.lt_of_lt_of_le (HD5.out.lt q hq.1) (Below.size t3)) (by have := HWL.out; have := HLL.out; omega) (by have := HSL.out; have := HK6.out; omega) HKK.out).mono ?_
            rintro e v4 ⟨z, rfl, hz, hb⟩
            rw [HMW.out] at hz ⊢
            dsimp only at hz ⊢
            obtain ⟨E0, m0, E1, m1, rfl⟩ := rdisk_fields hz
            have hXlt : X < v3.heap.size := IsC.lt ⟨_, _, _, hrow⟩
            have VZ := Lib.hid (Rep.val_mono (Q' := fun q => ((KD q ∧ q ≠ B) ∨ w5.heap.size ≤ q) ∧ q ≠ X) (fun q hq _ => ⟨hq.imp id (fun e => Nat.le_trans (Below.size t3) e), fun e => by rcases hq with hq | hq; (· have := HD5.out.lt q hq.1; omega); (· omega)⟩) hz)
            clear hXlt
            have hrow := (hb.block X (IsC.lt ⟨_, _, _, hrow⟩)).trans hrow
            have t4 : Below w5.heap.size w5 v4 := Below.trans t3 (hb.mono (Below.size t3))
            refine hK _ _ ⟨t4, ?_⟩
            clear hb hz hw1
            clear hK K
            refine wpAnyH_take (i := 18) (v := .tuple #[.agg #[.slice E0 d'.safe.length m0, .slice E1 d'.wait.length m1, .int .i64 d'.fuse, .bool d'.off, .int .i64 d'.reads, .int .i64 d'.writes], .int .i64 er]) rfl (by kernel_rfl) (by kernel_rfl) (by kernel_rfl) (fun _ _ _ h => h) (Or.inl ⟨by rfl, fun w' _ => by go_simp⟩) t4 ?_
            go_simp
            refine wpAnyH_take (i := 19) (v := .agg #[.slice E0 d'.safe.length m0, .slice E1 d'.wait.length m1, .int .i64 d'.fuse, .bool d'.off, .int .i64 d'.reads, .int .i64 d'.writes]) rfl (by kernel_rfl) (by kernel_rfl) (by kernel_rfl) (fun _ _ _ h => h) (Or.inl ⟨by rfl, fun w' _ => by go_simp⟩) t4 ?_
            go_simp
            refine wpAnyH_take (i := 20) (v := .int .i64 er) rfl (by kernel_rfl) (by kernel_rfl) (by kernel_rfl) (fun _ _ _ h => h) (Or.inl ⟨by rfl, fun w' _ => by go_simp⟩) t4 ?_
            go_simp
            exact KEY.out X E0 m0 E1 m1 v4 ⟨t4, hrow, hXb, VZ.out⟩
        · rintro X E0 m0 E1 m1 W hW
          have HW := Lib.hid hW
          refine wpAnyH_all (rs := [22]) (by kernel_rfl) (by simp) ?_
          intro i hi
          obtain rfl : i = 22 := by simpa using hi
          clear hi
          have hx := hW.row
          clear hW
          have z0 := frozen_row hx 0
          have z1 := frozen_row hx 1
          have z2 := frozen_row hx 2
          have z3 := frozen_row hx 3
          have z4 := frozen_row hx 4
          have z5 := frozen_row hx 5
          have e0 := cell_row hx 0
          have e1 := cell_row hx 1
          have e2 := cell_row hx 2
          have e3 := cell_row hx 3
          have e4 := cell_row hx 4
          have e5 := cell_row hx 5
          refine wpOp_step rfl (fun K hK => ?_)
          go_simp
          clear hx e0 e1 e2 e3 e4 e5 z0 z1 z2 z3 z4 z5
          obtain ⟨WE, hWE⟩ : ∃ WE, WE = set6 W X (.slice E0 d'.safe.length m0) (.slice E1 d'.wait.length m1) (.int .i64 d'.fuse) (.bool d'.off) (.int .i64 d'.reads) (.int .i64 d'.writes) := ⟨_, rfl⟩
          have hk2 : ∀ k, k ≠ X → WE.heap[k]? = W.heap[k]? := fun k hk => by rw [hWE]; exact set6_keep hk
          have HROW := Lib.hid (show WE.heap[X]? = some (.cells #[.slice E0 d'.safe.length m0, .slice E1 d'.wait.length m1, .int .i64 d'.fuse, .bool d'.off, .int .i64 d'.reads, .int .i64 d'.writes] 33 (0, 0)) by rw [hWE]; exact row6_set HW.out.row)
          have HBE := Lib.hid (show Below w5.heap.size w5 WE by rw [hWE]; exact set6_below HW.out.bel HW.out.big)
          have HVE := Lib.hid (show rDisk.val (fun b => (KD b ∧ b ≠ B) ∨ w5.heap.size ≤ b) WE (.agg #[.slice E0 d'.safe.length m0, .slice E1 d'.wait.length m1, .int .i64 d'.fuse, .bool d'.off, .int .i64 d'.reads, .int .i64 d'.writes]) d' from Rep.val_keep (fun k hk _ => ⟨hk.1, hk2 k hk.2⟩) HW.out.val)
          unfold set6 at hWE
          rw [← hWE]
          clear hk2 hWE
          refine hK _ _ ⟨HBE.out, ?_⟩
          clear hK K s0 t0
          refine wpAnyH_take (i := 23) (v := .int .i64 er) rfl (by kernel_rfl) (by kernel_rfl) (by kernel_rfl) (fun _ _ _ h => h) (Or.inl ⟨by rfl, fun w' _ => by go_simp⟩) HBE.out ?_
          go_simp
          refine wpAnyH_done (by kernel_rfl) ?_ _
          have hBe : WE.heap[B]? = some (.cells #[.slice A0 d.safe.length c0, .slice A2 d.wait.length c2, .int .i64 d.fuse, .bool d.off, .int .i64 d.reads, .int .i64 d.writes] 33 (0, 0)) := (HBE.out.block B (HD5.out.lt B HKB.out)).trans HBL5.out
          have z0 := frozen_row hBe 0
          have z1 := frozen_row hBe 1
          have z2 := frozen_row hBe 2
          have z3 := frozen_row hBe 3
          have z4 := frozen_row hBe 4
          have z5 := frozen_row hBe 5
          have e0 := cell_row hBe 0
          have e1 := cell_row hBe 1
          have e2 := cell_row hBe 2
          have e3 := cell_row hBe 3
          have e4 := cell_row hBe 4
          have e5 := cell_row hBe 5
          have y0 := cell_row HROW.out 0
          have y1 := cell_row HROW.out 1
          have y2 := cell_row HROW.out 2
          have y3 := cell_row HROW.out 3
          have y4 := cell_row HROW.out 4
          have y5 := cell_row HROW.out 5
          clear hBe
          go_wp2_with fail
          have HTN := Lib.hid (twin_store (w := W1) HKD.out HKB.out HWB.out HD5.out HBE.out HBL5.out HVE.out HM5.out (by have := HRW.out.1; have := HWL.out; omega) (HRW.out.2.trans HSL.out) HS1.out)
          unfold set6 at HTN
          exact ⟨⟨j + 1, st', d', E0, m0, E1, m1, by go_num, by omega, HSD5.out, HTN.out⟩, by simp [intOf]; omega⟩
      | false =>
        rw [hwr] at e0
        go_wp2_with fail
        clear e0 e1 e2 e3
        refine wp_region_held_drew (S := fun W => Below W1.heap.size W1 W) (by kernel_rfl) (HBW.out.drew) (fun s0 => ?_)
        refine wpAnyH_take (i := 0) (v := .pointer (some ⟨P, 0, none⟩)) rfl (by kernel_rfl) (by kernel_rfl) (by kernel_rfl) (fun _ _ _ h => h) (Or.inl ⟨by rfl, fun w' _ => by go_simp⟩) s0 ?_
        go_simp
        refine wpAnyH_take (i := 1) (v := .agg #[.int .i64 c.log, .int .i64 c.pages, .int .i64 c.entities, .int .i64 c.gens, .slice A c.comps.length cap]) rfl (by kernel_rfl) (by kernel_rfl) (by kernel_rfl) (fun _ _ _ h => h) (Or.inl ⟨by rfl, fun w' h => by obtain ⟨u0, u1, u2, u3, u4, _⟩ := KM.out _ (h : Below W1.heap.size W1 w'); obtain ⟨v0, v1, v2, v3⟩ := CE.out _ (h : Below W1.heap.size W1 w'); go_simp⟩) s0 ?_
        go_simp
        refine wpAnyH_take (i := 2) (v := .slice (some ⟨b, off, none⟩) l.length cl) rfl (by kernel_rfl) (by kernel_rfl) (by kernel_rfl) (fun _ _ _ h => h) (Or.inl ⟨by rfl, fun w' _ => by go_simp⟩) s0 ?_
        go_simp
        refine wpAnyH_take (i := 3) (v := .int .i64 j) rfl (by kernel_rfl) (by kernel_rfl) (by kernel_rfl) (fun _ _ _ h => h) (Or.inl ⟨by rfl, fun w' _ => by go_simp⟩) s0 ?_
        go_simp
        refine wpAnyH_take (i := 4) (v := .pointer (some ⟨b, off + j * 4, none⟩)) rfl (by kernel_rfl) (by kernel_rfl) (by kernel_rfl) (fun _ _ _ h => h) (Or.inl ⟨by rfl, fun w' _ => by go_simp⟩) s0 ?_
        go_simp
        refine wpAnyH_take (i := 5) (v := .pointer (some ⟨b, off + j * 4 + 2, none⟩)) rfl (by kernel_rfl) (by kernel_rfl) (by kernel_rfl) (fun _ _ _ h => h) (Or.inl ⟨by rfl, fun w' _ => by go_simp⟩) s0 ?_
        go_simp
        refine wpAnyH_take (i := 6) (v := .int .i64 x.p) rfl (by kernel_rfl) (by kernel_rfl) (by kernel_rfl) (fun _ _ _ h => h) (Or.inl ⟨by rfl, fun w' h => by obtain ⟨u0, u1, u2, u3, u4, _⟩ := KM.out _ (h : Below W1.heap.size W1 w'); obtain ⟨v0, v1, v2, v3⟩ := CE.out _ (h : Below W1.heap.size W1 w'); go_simp⟩) s0 ?_
        go_simp
        refine wpAnyH_all (rs := [7]) (by kernel_rfl) (by simp) ?_
        intro i hi
        obtain rfl : i = 7 := by simpa using hi
        clear hi
        refine wpOp_step rfl (fun K hK => ?_)
        go_simp
        obtain ⟨KD, hKw, hKB, hwB, hd, hblk, hv, hmir, hwl, hsl, hb⟩ := HTW.out.later ((Below.refl wr.heap.size wr).drew)
        refine (pageRead_calls hd (KM.out _ s0).val (fun y hy => by have := HSD.out.sec y hy; omega) (fun i y hy => by have := HSD.out.wt i y hy; omega)).mono ?_
        rintro e w5 ⟨u5, rfl, hu5, hd5, hk5⟩
        obtain ⟨er, her⟩ : ∃ er, er = (pageReadSt st c x.p).2.2 := ⟨_, rfl⟩
        obtain ⟨l5, hl5⟩ : ∃ l5, l5 = (pageReadSt st c x.p).2.1 := ⟨_, rfl⟩
        rw [← her]
        rw [← hl5] at hu5
        have HER := Lib.hid her
        have HL5 := Lib.hid hl5
        clear her hl5
        obtain ⟨A4, c4, rfl, _, _, _⟩ := Rep.val_list hu5
        have s1 : Below W1.heap.size W1 w5 := hb.trans (hk5.below (base := W1.heap.size) fun b hb => hKw b hb)
        refine hK _ _ ⟨s1, ?_⟩
        clear hK K
        refine wpAnyH_take (i := 8) (v := .tuple #[.slice A4 l5.length c4, .int .i64 er]) rfl (by kernel_rfl) (by kernel_rfl) (by kernel_rfl) (fun _ _ _ h => h) (Or.inl ⟨by rfl, fun w' _ => by go_simp⟩) s1 ?_
        go_simp
        refine wpAnyH_take (i := 9) (v := .slice A4 l5.length c4) rfl (by kernel_rfl) (by kernel_rfl) (by kernel_rfl) (fun _ _ _ h => h) (Or.inl ⟨by rfl, fun w' _ => by go_simp⟩) s1 ?_
        go_simp
        refine wpAnyH_take (i := 10) (v := .int .i64 er) rfl (by kernel_rfl) (by kernel_rfl) (by kernel_rfl) (fun _ _ _ h => h) (Or.inl ⟨by rfl, fun w' _ => by go_simp⟩) s1 ?_
        go_simp
        refine wpAnyH_take (i := 11) (v := .slice A4 l5.length c4) rfl (by kernel_rfl) (by kernel_rfl) (by kernel_rfl) (fun _ _ _ h => h) (Or.inl ⟨by rfl, fun w' _ => by go_simp⟩) s1 ?_
        go_simp
        refine wpAnyH_take (i := 12) (v := .int .i64 er) rfl (by kernel_rfl) (by kernel_rfl) (by kernel_rfl) (fun _ _ _ h => h) (Or.inl ⟨by rfl, fun w' _ => by go_simp⟩) s1 ?_
        go_simp
        refine wpAnyH_done (by kernel_rfl) ?_ _
        have HS1 := Lib.hid s1
        have hBw : B < wr.heap.size := hd.lt B hKB
        have HD5 := Lib.hid (hd5.more (Nat.le_succ (j + 1)))
        have HBL5 := Lib.hid (show w5.heap[B]? = some (.cells #[.slice A0 d.safe.length c0, .slice A2 d.wait.length c2, .int .i64 d.fuse, .bool d.off, .int .i64 d.reads, .int .i64 d.writes] 33 (0, 0)) from (hk5.block B hKB).trans hblk)
        have HV5 := Lib.hid (show ∀ W, Below w5.heap.size w5 W → rDisk.val (fun q => KD q ∧ q ≠ B) W (.agg #[.slice A0 d.safe.length c0, .slice A2 d.wait.length c2, .int .i64 d.fuse, .bool d.off, .int .i64 d.reads, .int .i64 d.writes]) d from fun W h => Rep.val_below (hk5.val (fun q hq => hq.1) hv) h (fun q hq _ => hd5.lt q hq.1))
        have HU5 := Lib.hid (show Rep.byte.list.val (fun q => q ≠ B) w5 (.slice A4 l5.length c4) l5 from Rep.val_mono (fun q hq _ => by have hq2 : wr.heap.size ≤ q := hq; omega) hu5)
        have HKD := Lib.hid hKw
        have HKB := Lib.hid hKB
        have HWB := Lib.hid hwB
        obtain ⟨hm5, ho5⟩ := mirror_pageRead hmir c x.p
        have HRW := Lib.hid (rread_wait d c x.p)
        have HWL := Lib.hid hwl
        have HSL := Lib.hid hsl
        have HKK := Lib.hid (show ∀ y ∈ d.wait, 0 ≤ y.pos ∧ y.pos < d.safe.length from hmir.keys)
        have HSD5 := Lib.hid (sound_pageRead HSD.out c x.p)
        obtain ⟨d', hd'⟩ : ∃ d', d' = (rpageReadD d c x.p).1 := ⟨_, rfl⟩
        have HMW := Lib.hid (show rpageReadD d c x.p = (d', l5, er) by rw [HER.out, HL5.out, ho5, hd'])
        rw [← hd'] at hm5 HRW
        have HM5 := Lib.hid hm5
        generalize (pageReadSt st c x.p).1 = st' at *
        clear hKw hKB hwB hd hblk hv hmir hwl hsl hb hd5 hk5 hm5 ho5 hd' s0 s1 HER HL5 hu5 hBw
        go_wp2_with fail
        refine wp_region_held_drew (S := fun W => Below w5.heap.size w5 W) (by kernel_rfl) ((Below.refl _ _).drew) (fun s0 => ?_)
        obtain ⟨v0, hv0⟩ : ∃ W, W = w5.drew := ⟨_, rfl⟩
        rw [← hv0] at s0 ⊢
        have t0 : Below w5.heap.size w5 v0 := s0
        clear hv0
        apply share7 (fun (X : Nat) (E0 : Option Addr) (m0 : Nat) (E1 : Option Addr) (m1 : Nat) (A5 : Option Addr) (c5 : Nat) (W : World) => Wait2 (fun q => KD q ∧ q ≠ B) w5 W X d' l5 E0 m0 E1 m1 A5 c5)
        · intro key
          have KEY := Lib.hid key
          clear key
          refine wpAnyH_take (i := 0) (v := .agg #[.slice A0 d.safe.length c0, .slice A2 d.wait.length c2, .int .i64 d.fuse, .bool d.off, .int .i64 d.reads, .int .i64 d.writes]) rfl (by kernel_rfl) (by kernel_rfl) (by kernel_rfl) (fun _ _ _ h => h) (Or.inl ⟨by rfl, fun w' h => by have hw1 := HS1.out.trans (Below.mono (h : Below w5.heap.size w5 w') HS1.out.size); obtain ⟨u0, u1, u2, u3, u4, _⟩ := KM.out _ hw1; obtain ⟨v0, v1, v2, v3⟩ := CE.out _ hw1; have hrB := (Below.block (h : Below w5.heap.size w5 w') B (HD5.out.lt B HKB.out)).trans HBL5.out; have x0 := cell_row hrB 0; have x1 := cell_row hrB 1; have x2 := cell_row hrB 2; have x3 := cell_row hrB 3; have x4 := cell_row hrB 4; have x5 := cell_row hrB 5; go_simp⟩) t0 ?_
          go_simp
          refine wpAnyH_take (i := 1) (v := .agg #[.int .i64 c.log, .int .i64 c.pages, .int .i64 c.entities, .int .i64 c.gens, .slice A c.comps.length cap]) rfl (by kernel_rfl) (by kernel_rfl) (by kernel_rfl) (fun _ _ _ h => h) (Or.inl ⟨by rfl, fun w' h => by have hw1 := HS1.out.trans (Below.mono (h : Below w5.heap.size w5 w') HS1.out.size); obtain ⟨u0, u1, u2, u3, u4, _⟩ := KM.out _ hw1; obtain ⟨v0, v1, v2, v3⟩ := CE.out _ hw1; have hrB := (Below.block (h : Below w5.heap.size w5 w') B (HD5.out.lt B HKB.out)).trans HBL5.out; have x0 := cell_row hrB 0; have x1 := cell_row hrB 1; have x2 := cell_row hrB 2; have x3 := cell_row hrB 3; have x4 := cell_row hrB 4; have x5 := cell_row hrB 5; go_simp⟩) t0 ?_
          go_simp
          refine wpAnyH_take (i := 2) (v := .slice (some ⟨b, off, none⟩) l.length cl) rfl (by kernel_rfl) (by kernel_rfl) (by kernel_rfl) (fun _ _ _ h => h) (Or.inl ⟨by rfl, fun w' _ => by go_simp⟩) t0 ?_
          go_simp
          refine wpAnyH_take (i := 3) (v := .int .i64 j) rfl (by kernel_rfl) (by kernel_rfl) (by kernel_rfl) (fun _ _ _ h => h) (Or.inl ⟨by rfl, fun w' _ => by go_simp⟩) t0 ?_
          go_simp
          refine wpAnyH_take (i := 4) (v := .pointer (some ⟨b, off + j * 4, none⟩)) rfl (by kernel_rfl) (by kernel_rfl) (by kernel_rfl) (fun _ _ _ h => h) (Or.inl ⟨by rfl, fun w' _ => by go_simp⟩) t0 ?_
          go_simp
          refine wpAnyH_take (i := 5) (v := .pointer (some ⟨b, off + j * 4 + 2, none⟩)) rfl (by kernel_rfl) (by kernel_rfl) (by kernel_rfl) (fun _ _ _ h => h) (Or.inl ⟨by rfl, fun w' _ => by go_simp⟩) t0 ?_
          go_simp
          refine wpAnyH_take (i := 6) (v := .int .i64 x.p) rfl (by kernel_rfl) (by kernel_rfl) (by kernel_rfl) (fun _ _ _ h => h) (Or.inl ⟨by rfl, fun w' h => by have hw1 := HS1.out.trans (Below.mono (h : Below w5.heap.size w5 w') HS1.out.size); obtain ⟨u0, u1, u2, u3, u4, _⟩ := KM.out _ hw1; obtain ⟨v0, v1, v2, v3⟩ := CE.out _ hw1; have hrB := (Below.block (h : Below w5.heap.size w5 w') B (HD5.out.lt B HKB.out)).trans HBL5.out; have x0 := cell_row hrB 0; have x1 := cell_row hrB 1; have x2 := cell_row hrB 2; have x3 := cell_row hrB 3; have x4 := cell_row hrB 4; have x5 := cell_row hrB 5; go_simp⟩) t0 ?_
          go_simp
          refine wpAnyH_all (rs := [7, 12]) (by kernel_rfl) (by simp) ?_
          intro i hi
          have hi2 : i = 7 ∨ i = 12 := by simpa using hi
          clear hi
          rcases hi2 with rfl | rfl
          · skip
            refine wpOp_step rfl (fun K hK => ?_)
            go_simp
            have hw1 := HS1.out.trans (Below.mono t0 HS1.out.size)
            refine (rpageRead_calls (Q := fun q => KD q ∧ q ≠ B) (HV5.out _ t0) (KM.out _ hw1).val  (fun q hq => Nat.lt_of_lt_of_le (HD5.out.lt q hq.1) (Below.size t0)) (by have := HWL.out; have := HLL.out; omega) (by have := HSL.out; have := HK6.out; omega) HKK.out).mono ?_
            rintro e v1 ⟨z, u, rfl, hz, hu, hb⟩
            rw [HMW.out] at hz hu ⊢
            dsimp only at hz hu ⊢
            obtain ⟨E0, m0, E1, m1, rfl⟩ := rdisk_fields hz
            obtain ⟨A5, c5, rfl, _, _, _⟩ := Rep.val_list hu
            have VZ := Lib.hid (Rep.val_mono (Q' := fun q => (KD q ∧ q ≠ B) ∨ w5.heap.size ≤ q) (fun q hq _ => hq.imp id (fun e => Nat.le_trans (Below.size t0) e)) hz)
            have VU := Lib.hid (Rep.val_mono (Q' := fun q => (KD q ∧ q ≠ B) ∨ w5.heap.size ≤ q) (fun q hq _ => hq.imp id (fun e => Nat.le_trans (Below.size t0) e)) hu)
            have t1 : Below w5.heap.size w5 v1 := Below.trans t0 (hb.mono (Below.size t0))
            refine hK _ _ ⟨t1, ?_⟩
            clear hb hz hw1 hu
            clear hK K
            refine wpAnyH_take (i := 8) (v := .tuple #[.agg #[.slice E0 d'.safe.length m0, .slice E1 d'.wait.length m1, .int .i64 d'.fuse, .bool d'.off, .int .i64 d'.reads, .int .i64 d'.writes], .slice A5 l5.length c5, .int .i64 er]) rfl (by kernel_rfl) (by kernel_rfl) (by kernel_rfl) (fun _ _ _ h => h) (Or.inl ⟨by rfl, fun w' _ => by go_simp⟩) t1 ?_
            go_simp
            refine wpAnyH_take (i := 9) (v := .agg #[.slice E0 d'.safe.length m0, .slice E1 d'.wait.length m1, .int .i64 d'.fuse, .bool d'.off, .int .i64 d'.reads, .int .i64 d'.writes]) rfl (by kernel_rfl) (by kernel_rfl) (by kernel_rfl) (fun _ _ _ h => h) (Or.inl ⟨by rfl, fun w' _ => by go_simp⟩) t1 ?_
            go_simp
            refine wpAnyH_take (i := 10) (v := .slice A5 l5.length c5) rfl (by kernel_rfl) (by kernel_rfl) (by kernel_rfl) (fun _ _ _ h => h) (Or.inl ⟨by rfl, fun w' _ => by go_simp⟩) t1 ?_
            go_simp
            refine wpAnyH_take (i := 11) (v := .int .i64 er) rfl (by kernel_rfl) (by kernel_rfl) (by kernel_rfl) (fun _ _ _ h => h) (Or.inl ⟨by rfl, fun w' _ => by go_simp⟩) t1 ?_
            go_simp
            refine wpAnyH_all (rs := [12]) (by kernel_rfl) (by simp) ?_
            intro i hi
            obtain rfl : i = 12 := by simpa using hi
            clear hi
            refine wpOp_step rfl (fun K hK => ?_)
            go_simp
            obtain ⟨X, hX⟩ : ∃ X, X = v1.heap.size := ⟨_, rfl⟩
            have hbx : Below v1.heap.size v1 (v1.alloc (.cells #[.slice none 0 0, .slice none 0 0, .int .i64 0, .bool false, .int .i64 0, .int .i64 0] 33)) := (Below.refl _ _).alloc (Nat.le_refl _) _
            have hrow : (v1.alloc (.cells #[.slice none 0 0, .slice none 0 0, .int .i64 0, .bool false, .int .i64 0, .int .i64 0] 33)).heap[X]? = some (.cells #[.slice none 0 0, .slice none 0 0, .int .i64 0, .bool false, .int .i64 0, .int .i64 0] 33 (0, 0)) := by rw [hX]; exact heap_alloc_new _ _
            have hXb : w5.heap.size ≤ X := by rw [hX]; exact Below.size t1
            have t2 : Below w5.heap.size w5 (v1.alloc (.cells #[.slice none 0 0, .slice none 0 0, .int .i64 0, .bool false, .int .i64 0, .int .i64 0] 33)) := Below.trans t1 (hbx.mono (Below.size t1))
            have VZ := Lib.hid (Rep.val_keep (Q' := fun q => ((KD q ∧ q ≠ B) ∨ w5.heap.size ≤ q) ∧ q ≠ X) (fun k hk hl => ⟨⟨hk, by rw [hX]; exact Nat.ne_of_lt hl.lt⟩, hbx.block k hl.lt⟩) VZ.out)
            have VU := Lib.hid (Rep.val_keep (Q' := fun q => ((KD q ∧ q ≠ B) ∨ w5.heap.size ≤ q) ∧ q ≠ X) (fun k hk hl => ⟨⟨hk, by rw [hX]; exact Nat.ne_of_lt hl.lt⟩, hbx.block k hl.lt⟩) VU.out)
            rw [← hX]
            clear hbx hX
            generalize v1.alloc (.cells #[.slice none 0 0, .slice none 0 0, .int .i64 0, .bool false, .int .i64 0, .int .i64 0] 33) = v2 at *
            refine hK _ _ ⟨t2, ?_⟩
            clear hK K
            exact KEY.out X E0 m0 E1 m1 A5 c5 v2 ⟨t2, hrow, hXb, VZ.out, VU.out⟩
          · skip
            refine wpOp_step rfl (fun K hK => ?_)
            go_simp
            obtain ⟨X, hX⟩ : ∃ X, X = v0.heap.size := ⟨_, rfl⟩
            have hbx : Below v0.heap.size v0 (v0.alloc (.cells #[.slice none 0 0, .slice none 0 0, .int .i64 0, .bool false, .int .i64 0, .int .i64 0] 33)) := (Below.refl _ _).alloc (Nat.le_refl _) _
            have hrow : (v0.alloc (.cells #[.slice none 0 0, .slice none 0 0, .int .i64 0, .bool false, .int .i64 0, .int .i64 0] 33)).heap[X]? = some (.cells #[.slice none 0 0, .slice none 0 0, .int .i64 0, .bool false, .int .i64 0, .int .i64 0] 33 (0, 0)) := by rw [hX]; exact heap_alloc_new _ _
            have hXb : w5.heap.size ≤ X := by rw [hX]; exact Below.size t0
            have t3 : Below w5.heap.size w5 (v0.alloc (.cells #[.slice none 0 0, .slice none 0 0, .int .i64 0, .bool false, .int .i64 0, .int .i64 0] 33)) := Below.trans t0 (hbx.mono (Below.size t0))
            rw [← hX]
            clear hbx hX
            generalize v0.alloc (.cells #[.slice none 0 0, .slice none 0 0, .int .i64 0, .bool false, .int .i64 0, .int .i64 0] 33) = v3 at *
            refine hK _ _ ⟨t3, ?_⟩
            clear hK K
            refine wpAnyH_all (rs := [7]) (by kernel_rfl) (by simp) ?_
            intro i hi
            obtain rfl : i = 7 := by simpa using hi
            clear hi
            refine wpOp_step rfl (fun K hK => ?_)
            go_simp
            have hw1 := HS1.out.trans (Below.mono t3 HS1.out.size)
            refine (rpageRead_calls (Q := fun q => KD q ∧ q ≠ B) (HV5.out _ t3) (KM.out _ hw1).val  (fun q hq => Nat.lt_of_lt_of_le (HD5.out.lt q hq.1) (Below.size t3)) (by have := HWL.out; have := HLL.out; omega) (by have := HSL.out; have := HK6.out; omega) HKK.out).mono ?_
            rintro e v4 ⟨z, u, rfl, hz, hu, hb⟩
            rw [HMW.out] at hz hu ⊢
            dsimp only at hz hu ⊢
            obtain ⟨E0, m0, E1, m1, rfl⟩ := rdisk_fields hz
            obtain ⟨A5, c5, rfl, _, _, _⟩ := Rep.val_list hu
            have hXlt : X < v3.heap.size := IsC.lt ⟨_, _, _, hrow⟩
            have VZ := Lib.hid (Rep.val_mono (Q' := fun q => ((KD q ∧ q ≠ B) ∨ w5.heap.size ≤ q) ∧ q ≠ X) (fun q hq _ => ⟨hq.imp id (fun e => Nat.le_trans (Below.size t3) e), fun e => by rcases hq with hq | hq; (· have := HD5.out.lt q hq.1; omega); (· omega)⟩) hz)
            have VU := Lib.hid (Rep.val_mono (Q' := fun q => ((KD q ∧ q ≠ B) ∨ w5.heap.size ≤ q) ∧ q ≠ X) (fun q hq _ => ⟨hq.imp id (fun e => Nat.le_trans (Below.size t3) e), fun e => by rcases hq with hq | hq; (· have := HD5.out.lt q hq.1; omega); (· omega)⟩) hu)
            clear hXlt
            have hrow := (hb.block X (IsC.lt ⟨_, _, _, hrow⟩)).trans hrow
            have t4 : Below w5.heap.size w5 v4 := Below.trans t3 (hb.mono (Below.size t3))
            refine hK _ _ ⟨t4, ?_⟩
            clear hb hz hw1 hu
            clear hK K
            refine wpAnyH_take (i := 8) (v := .tuple #[.agg #[.slice E0 d'.safe.length m0, .slice E1 d'.wait.length m1, .int .i64 d'.fuse, .bool d'.off, .int .i64 d'.reads, .int .i64 d'.writes], .slice A5 l5.length c5, .int .i64 er]) rfl (by kernel_rfl) (by kernel_rfl) (by kernel_rfl) (fun _ _ _ h => h) (Or.inl ⟨by rfl, fun w' _ => by go_simp⟩) t4 ?_
            go_simp
            refine wpAnyH_take (i := 9) (v := .agg #[.slice E0 d'.safe.length m0, .slice E1 d'.wait.length m1, .int .i64 d'.fuse, .bool d'.off, .int .i64 d'.reads, .int .i64 d'.writes]) rfl (by kernel_rfl) (by kernel_rfl) (by kernel_rfl) (fun _ _ _ h => h) (Or.inl ⟨by rfl, fun w' _ => by go_simp⟩) t4 ?_
            go_simp
            refine wpAnyH_take (i := 10) (v := .slice A5 l5.length c5) rfl (by kernel_rfl) (by kernel_rfl) (by kernel_rfl) (fun _ _ _ h => h) (Or.inl ⟨by rfl, fun w' _ => by go_simp⟩) t4 ?_
            go_simp
            refine wpAnyH_take (i := 11) (v := .int .i64 er) rfl (by kernel_rfl) (by kernel_rfl) (by kernel_rfl) (fun _ _ _ h => h) (Or.inl ⟨by rfl, fun w' _ => by go_simp⟩) t4 ?_
            go_simp
            exact KEY.out X E0 m0 E1 m1 A5 c5 v4 ⟨t4, hrow, hXb, VZ.out, VU.out⟩
        · rintro X E0 m0 E1 m1 A5 c5 W hW
          have HW := Lib.hid hW
          refine wpAnyH_all (rs := [13]) (by kernel_rfl) (by simp) ?_
          intro i hi
          obtain rfl : i = 13 := by simpa using hi
          clear hi
          have hx := hW.row
          clear hW
          have z0 := frozen_row hx 0
          have z1 := frozen_row hx 1
          have z2 := frozen_row hx 2
          have z3 := frozen_row hx 3
          have z4 := frozen_row hx 4
          have z5 := frozen_row hx 5
          have e0 := cell_row hx 0
          have e1 := cell_row hx 1
          have e2 := cell_row hx 2
          have e3 := cell_row hx 3
          have e4 := cell_row hx 4
          have e5 := cell_row hx 5
          refine wpOp_step rfl (fun K hK => ?_)
          go_simp
          clear hx e0 e1 e2 e3 e4 e5 z0 z1 z2 z3 z4 z5
          obtain ⟨WE, hWE⟩ : ∃ WE, WE = set6 W X (.slice E0 d'.safe.length m0) (.slice E1 d'.wait.length m1) (.int .i64 d'.fuse) (.bool d'.off) (.int .i64 d'.reads) (.int .i64 d'.writes) := ⟨_, rfl⟩
          have hk2 : ∀ k, k ≠ X → WE.heap[k]? = W.heap[k]? := fun k hk => by rw [hWE]; exact set6_keep hk
          have HROW := Lib.hid (show WE.heap[X]? = some (.cells #[.slice E0 d'.safe.length m0, .slice E1 d'.wait.length m1, .int .i64 d'.fuse, .bool d'.off, .int .i64 d'.reads, .int .i64 d'.writes] 33 (0, 0)) by rw [hWE]; exact row6_set HW.out.row)
          have HBE := Lib.hid (show Below w5.heap.size w5 WE by rw [hWE]; exact set6_below HW.out.bel HW.out.big)
          have HVE := Lib.hid (show rDisk.val (fun b => (KD b ∧ b ≠ B) ∨ w5.heap.size ≤ b) WE (.agg #[.slice E0 d'.safe.length m0, .slice E1 d'.wait.length m1, .int .i64 d'.fuse, .bool d'.off, .int .i64 d'.reads, .int .i64 d'.writes]) d' from Rep.val_keep (fun k hk _ => ⟨hk.1, hk2 k hk.2⟩) HW.out.val)
          have HUE := Lib.hid (show Rep.byte.list.val (fun b => (KD b ∧ b ≠ B) ∨ w5.heap.size ≤ b) WE (.slice A5 l5.length c5) l5 from Rep.val_keep (fun k hk _ => ⟨hk.1, hk2 k hk.2⟩) HW.out.out)
          unfold set6 at hWE
          rw [← hWE]
          clear hk2 hWE
          refine hK _ _ ⟨HBE.out, ?_⟩
          clear hK K s0 t0
          refine wpAnyH_take (i := 14) (v := .slice A5 l5.length c5) rfl (by kernel_rfl) (by kernel_rfl) (by kernel_rfl) (fun _ _ _ h => h) (Or.inl ⟨by rfl, fun w' _ => by go_simp⟩) HBE.out ?_
          go_simp
          refine wpAnyH_take (i := 15) (v := .int .i64 er) rfl (by kernel_rfl) (by kernel_rfl) (by kernel_rfl) (fun _ _ _ h => h) (Or.inl ⟨by rfl, fun w' _ => by go_simp⟩) HBE.out ?_
          go_simp
          refine wpAnyH_done (by kernel_rfl) ?_ _
          have hBlt : B < w5.heap.size := HD5.out.lt B HKB.out
          have HBB := Lib.hid hBlt
          have hBe : WE.heap[B]? = some (.cells #[.slice A0 d.safe.length c0, .slice A2 d.wait.length c2, .int .i64 d.fuse, .bool d.off, .int .i64 d.reads, .int .i64 d.writes] 33 (0, 0)) := (HBE.out.block B hBlt).trans HBL5.out
          have z0 := frozen_row hBe 0
          have z1 := frozen_row hBe 1
          have z2 := frozen_row hBe 2
          have z3 := frozen_row hBe 3
          have z4 := frozen_row hBe 4
          have z5 := frozen_row hBe 5
          have e0 := cell_row hBe 0
          have e1 := cell_row hBe 1
          have e2 := cell_row hBe 2
          have e3 := cell_row hBe 3
          have e4 := cell_row hBe 4
          have e5 := cell_row hBe 5
          have y0 := cell_row HROW.out 0
          have y1 := cell_row HROW.out 1
          have y2 := cell_row HROW.out 2
          have y3 := cell_row HROW.out 3
          have y4 := cell_row HROW.out 4
          have y5 := cell_row HROW.out 5
          clear hBe hBlt
          have HUB := Lib.hid (show Rep.byte.list.val (fun _ => True) (set6 WE B (.slice E0 d'.safe.length m0) (.slice E1 d'.wait.length m1) (.int .i64 d'.fuse) (.bool d'.off) (.int .i64 d'.reads) (.int .i64 d'.writes)) (.slice A4 l5.length c4) l5 from Rep.val_keep (fun q hq _ => ⟨trivial, set6_keep hq⟩) (Rep.val_below HU5.out HBE.out (fun _ _ h => h.lt)))
          have HUF := Lib.hid (show Rep.byte.list.val (fun _ => True) (set6 WE B (.slice E0 d'.safe.length m0) (.slice E1 d'.wait.length m1) (.int .i64 d'.fuse) (.bool d'.off) (.int .i64 d'.reads) (.int .i64 d'.writes)) (.slice A5 l5.length c5) l5 from Rep.val_keep (fun q hq _ => ⟨trivial, set6_keep (by rcases hq with hq | hq; (· exact hq.2); (· have := HBB.out; omega))⟩) HUE.out)
          have HTN := Lib.hid (twin_store (w := W1) HKD.out HKB.out HWB.out HD5.out HBE.out HBL5.out HVE.out HM5.out (by have := HRW.out.1; have := HWL.out; omega) (HRW.out.2.trans HSL.out) HS1.out)
          go_wp2_with fail
          unfold set6 at HTN HUB HUF
          refine (sameBytes HUB.out HUF.out).mono ?_
          rintro e w9 ⟨rfl, hw9⟩
          subst hw9
          rw [show decide (l5 = l5) = true from decide_eq_true rfl]
          go_wp2_with (go_at_call 16; refine (code20_calls _ _).mono ?_; rintro e w' ⟨rfl, rfl⟩)
          exact ⟨⟨j + 1, st', d', E0, m0, E1, m1, by go_num, by omega, HSD5.out, HTN.out⟩, by simp [intOf]; omega⟩
    · obtain rfl : j = l.length := by omega
      obtain ⟨KD, hKw, hKB, hwB, hd, hblk, hv, hmir, hwl, hsl, hb⟩ := HTW.out
      have HBW := Lib.hid hb
      have HMD := Lib.hid (mirror_dirty hmir)
      have HMR := Lib.hid (show st.reads = d.reads from hmir.reads)
      have HMX := Lib.hid (show st.writes = d.writes from hmir.writes)
      have HD5 := Lib.hid hd
      have HV5 := Lib.hid hv
      have HWL := Lib.hid hwl
      have HSL := Lib.hid hsl
      have HBLT := Lib.hid (hd.lt B hKB)
      have HBLK := Lib.hid hblk
      have C8 := Lib.hid (show ∀ W, Below wr.heap.size wr W → InBox W w.heap.size c A cap from fun W h => KM.out W (hb.trans (h.mono hb.size)))
      clear hKw hKB hwB hd hblk hv hmir hwl hsl hb HTW HSD
      obtain ⟨a0, a1, a2, a3, a4, _⟩ := C8.out wr (Below.refl _ _)
      go_wp2_with fail
      refine (pageRead_nil (C8.out wr (Below.refl _ _)).val).mono ?_
      rintro e w2 ⟨rfl, hb2⟩
      have HB2 := Lib.hid hb2
      clear a0 a1 a2 a3 a4 hb2
      have C7 : ∀ W', Below w2.heap.size w2 W' → W'.cell? ⟨B, 0, none⟩ = some (.slice A0 d.safe.length c0) ∧ W'.cell? ⟨B, 1, none⟩ = some (.slice A2 d.wait.length c2) ∧ W'.cell? ⟨B, 2, none⟩ = some (.int .i64 d.fuse) ∧ W'.cell? ⟨B, 3, none⟩ = some (.bool d.off) ∧ W'.cell? ⟨B, 4, none⟩ = some (.int .i64 d.reads) ∧ W'.cell? ⟨B, 5, none⟩ = some (.int .i64 d.writes) := fun W' hb => by
        have h := ((HB2.out.trans (hb.mono HB2.out.size)).block B HBLT.out).trans HBLK.out
        exact ⟨cell_row h 0, cell_row h 1, cell_row h 2, cell_row h 3, cell_row h 4, cell_row h 5⟩
      have C9 : ∀ W', Below w2.heap.size w2 W' → W'.cell? ⟨w.heap.size, 0, none⟩ = some (.int .i64 c.log) ∧ W'.cell? ⟨w.heap.size, 1, none⟩ = some (.int .i64 c.pages) ∧ W'.cell? ⟨w.heap.size, 2, none⟩ = some (.int .i64 c.entities) ∧ W'.cell? ⟨w.heap.size, 3, none⟩ = some (.int .i64 c.gens) ∧ W'.cell? ⟨w.heap.size, 4, none⟩ = some (.slice A c.comps.length cap) := fun W' hb => by
        obtain ⟨a0, a1, a2, a3, a4, _⟩ := C8.out W' (HB2.out.trans (hb.mono HB2.out.size))
        exact ⟨a0, a1, a2, a3, a4⟩
      have HDZ := Lib.hid (HD5.out.below HB2.out)
      have HVZ := Lib.hid (show rDisk.val (fun q => KD q ∧ q ≠ B) w2 (.agg #[.slice A0 d.safe.length c0, .slice A2 d.wait.length c2, .int .i64 d.fuse, .bool d.off, .int .i64 d.reads, .int .i64 d.writes]) d from Rep.val_below HV5.out HB2.out (fun b hb _ => HD5.out.lt b hb.1))
      have HCV := Lib.hid (show ∀ W', Below w2.heap.size w2 W' → rConf.val (fun _ => True) W' (.agg #[.int .i64 c.log, .int .i64 c.pages, .int .i64 c.entities, .int .i64 c.gens, .slice A c.comps.length cap]) c from fun W' hb => Rep.val_mono (fun _ _ _ => trivial) (C8.out W' (HB2.out.trans (hb.mono HB2.out.size))).val)
      have HBZ := Lib.hid (HBW.out.trans (HB2.out.mono HBW.out.size))
      clear HD5 HV5 HBLK HBLT C8 HB2
      have hbd := (Below.refl w2.heap.size w2).drew
      go_wp2_with fail
      go_region_held3 (fun W' => Below w2.heap.size w2 W')
        ((first | with_reducible assumption | with_reducible exact D6.out | with_reducible exact D7.out | with_reducible exact D8.out | with_reducible exact D9.out | with_reducible exact DA.out))
        (first
          | (go_at_call 16; refine (code20_calls _ _).mono ?_; rintro e w6 ⟨rfl, hw⟩; subst hw)
          | (go_at_call 25; refine (dev_reads (HDZ.out.below ‹Below w2.heap.size w2 _›)).mono ?_; rintro e w6 ⟨rfl, hw⟩; subst hw; rw [HMR.out])
          | (go_at_call 26; refine (dev_writes (HDZ.out.below ‹Below w2.heap.size w2 _›)).mono ?_; rintro e w6 ⟨rfl, hw⟩; subst hw; rw [HMX.out])
          | (go_at_call 23; refine (dev_dirty (HDZ.out.below ‹Below w2.heap.size w2 _›) (by have := HLL.out; omega)).mono ?_; rintro e w6 ⟨u6, rfl, hu6, hb6⟩; rw [HMD.out] at hu6; have HU6 := Lib.hid hu6; have D6 := Lib.hid (Below.trans ‹Below w2.heap.size w2 _› (hb6.mono (Below.size ‹Below w2.heap.size w2 _›))); have d6 := D6.out; obtain ⟨A8, c8, rfl, _, _⟩ := Rep.acc_form hu6; clear hu6 hb6)
          | (go_at_call 24; refine (rdirty_calls (Rep.val_below (B := w2.heap.size) HVZ.out D6.out (fun b hb _ => HDZ.out.lt b hb.1)) (fun b hb => Nat.lt_of_lt_of_le (HDZ.out.lt b hb.1) D6.out.size) (by have := HWL.out; have := HLL.out; omega) (by have := HSL.out; have := HK6.out; omega)).mono ?_; rintro e w7 ⟨u7, rfl, hu7, hb7⟩; have HU7 := Lib.hid hu7; have HB7 := Lib.hid hb7; have D7 := Lib.hid (D6.out.trans (hb7.mono D6.out.size)); have d7 := D7.out; obtain ⟨A9, c9, rfl, _, _⟩ := Rep.acc_form hu7; clear hu7 hb7)
          | (go_at_call 22; refine (sameList (Rep.acc_val (Rep.acc_later HU6.out HB7.out)) (Rep.acc_val HU7.out)).mono ?_; rintro e w8 ⟨rfl, nq, rfl⟩; rw [show decide (dirtyW d = dirtyW d) = true from decide_eq_true rfl]; have D8 := Lib.hid (below_drewN D7.out nq); have d8 := D8.out)
          | (go_at_call 17; refine (pageWrite_nil (HCV.out _ ‹Below w2.heap.size w2 _›)).mono ?_; rintro e w8 ⟨rfl, hb8⟩; have D9 := Lib.hid (Below.trans ‹Below w2.heap.size w2 _› (hb8.mono (Below.size ‹Below w2.heap.size w2 _›))); have d9 := D9.out; clear hb8)
          | (go_at_call 11; refine (live20 _).mono ?_; rintro e w8 ⟨rfl, hb8⟩; have DA := Lib.hid (Below.trans ‹Below w2.heap.size w2 _› (hb8.mono (Below.size ‹Below w2.heap.size w2 _›))); clear hb8))
      go_wp2_with fail
      go_ret
      exact ⟨rfl, HB.out.trans ((HBZ.out.trans (DA.out.mono HBZ.out.size)).mono HB.out.size)⟩
end Go.Proofs.Ytfpmkenobphfnaa
