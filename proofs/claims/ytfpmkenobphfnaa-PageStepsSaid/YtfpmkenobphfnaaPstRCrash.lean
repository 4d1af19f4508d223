/- Walk of what a failure of the power makes of the reference's device. -/
import Derived.Test.YtfpmkenobphfnaaPstG20
import Derived.Test.YtfpmkenobphfnaaPstRDisk
namespace Go.Proofs.Ytfpmkenobphfnaa
open Go.RowKit

theorem row2_set {W : World} {n t : Nat} {a b x y : Value} (h : W.heap[n]? = some (.cells #[a, b] t (0, 0))) :
    ((W.setCell ⟨n, 0, none⟩ x).setCell ⟨n, 1, none⟩ y).heap[n]? = some (.cells #[x, y] t (0, 0)) :=
  heap_setRow (i := 1) (v := y) (heap_setRow (i := 0) (v := x) h)
theorem crashTail_next {d : DDisk} {fates : List DFate} {k p : Nat} (h : (dirtyW d)[k]? = some (p : Int)) :
    crashTail d fates (k + 1) = (crashTail d fates k).set p (settleOf (d.safe.getD p []) (ofW d.wait p) (fates.getD k ⟨0, 0⟩)) := by
  have e : (dirtyW d).getD k 0 = (p : Int) := by rw [List.getD_eq_getElem?_getD, h]; rfl
  rw [crashTail, e, Int.toNat_natCast]
theorem dirtyW_lt {d : DDisk} {k : Nat} {z : Int} (h : (dirtyW d)[k]? = some z) : ∃ p : Nat, z = p ∧ p < d.safe.length := by
  have hm := List.mem_of_getElem? h
  unfold dirtyW at hm
  obtain ⟨i, hi, rfl⟩ := List.mem_map.1 hm
  exact ⟨i, rfl, List.mem_range.1 (List.mem_filter.1 hi).1⟩
theorem kept_stop {f : DFate} {n m : Nat} (hm : m ≤ keptOf f n) (h : ¬ ((m : Int) < n ∧ (m : Int) < f.kept)) : keptOf f n = m := by unfold keptOf at *; omega
theorem kept_more {f : DFate} {n m : Nat} (h1 : (m : Int) < n) (h2 : (m : Int) < f.kept) : m + 1 ≤ keptOf f n := by unfold keptOf; omega
theorem settle_was {s : List UInt8} {l : List (List UInt8)} {f : DFate} {m : Nat} (hk : keptOf f l.length = m) (h : ¬ m < l.length) : settleOf s l f = (s :: l).getD m [] := by
  unfold settleOf; rw [hk, if_neg h]
theorem settle_tear {s : List UInt8} {l : List (List UInt8)} {f : DFate} {m : Nat} {y : List UInt8} (hk : keptOf f l.length = m) (hy : l[m]? = some y) : settleOf s l f = tearOf ((s :: l).getD m []) y f.torn := by
  have hm := (List.getElem?_eq_some_iff.1 hy).1
  unfold settleOf
  rw [hk, if_pos hm, List.getD_eq_getElem?_getD (l := s :: l) (i := m + 1), List.getElem?_cons_succ, hy]; rfl

/-- Behind the stores into one block. -/
def EndAt (w wo : World) (n : Nat) (W : World) : Prop := Below w.heap.size w W ∧ ∀ b, b ≠ n → W.heap[b]? = wo.heap[b]?
theorem EndAt.set {w wo W : World} {n i : Nat} {v : Value} (hn : w.heap.size ≤ n) (h : EndAt w wo n W) : EndAt w wo n (W.setCell ⟨n, i, none⟩ v) := ⟨h.1.setCell hn _, fun b hb => (Below.heap_setCell _ _ _ _ hb).trans (h.2 b hb)⟩

set_option maxRecDepth 100000 in
set_option maxHeartbeats 4000000 in
/-- ref04.crash -/
theorem rcrash_calls {Q Q' : Nat → Prop} {w : World} {v u : Value} {d : DDisk} {fates : List DFate} (hx : rDisk.val Q w v d) (hf : rFate.list.val Q' w u fates) (hq : ∀ b, Q b → b < w.heap.size) (hn : d.wait.length ≤ 1000000000) (hs : d.safe.length ≤ 1000000000) :
    Calls Try.prog 85 #[v, u] w fun e w' => ∃ z, e = .returned z ∧ rDisk.val (fun b => Q b ∨ w.heap.size ≤ b) w' z (crashW d fates) ∧ Below w.heap.size w w' := by
  obtain ⟨A0, c0, A1, c1, rfl, hbox, f2, f3, f4⟩ := DBox.start hx
  obtain ⟨hbk, hrk, hbel, hsz⟩ := two_boxes w #[.slice A0 d.safe.length c0, .slice A1 d.wait.length c1, .int .i64 d.fuse, .bool d.off, .int .i64 d.reads, .int .i64 d.writes] #[.slice none 0 0, .slice none 0 0, .int .i64 0, .bool false, .int .i64 0, .int .i64 0] 33 33
  have hstep : Below (w.heap.size + 1) (w.alloc (.cells #[.slice A0 d.safe.length c0, .slice A1 d.wait.length c1, .int .i64 d.fuse, .bool d.off, .int .i64 d.reads, .int .i64 d.writes] 33)) ((w.alloc (.cells #[.slice A0 d.safe.length c0, .slice A1 d.wait.length c1, .int .i64 d.fuse, .bool d.off, .int .i64 d.reads, .int .i64 d.writes] 33)).alloc (.cells #[.slice none 0 0, .slice none 0 0, .int .i64 0, .bool false, .int .i64 0, .int .i64 0] 33)) := (Below.refl _ _).alloc (by simp) _
  have HBX := Lib.hid (fun W' (hb : Below (w.heap.size + 2) _ W') => hbox.below (hstep.trans (hb.mono (by omega))) hq)
  obtain ⟨Af, cf, rfl, hf1, hf2, hfa⟩ := Rep.val_list hf
  unfold maxLen at hf2
  have HFT := Lib.hid (show ∀ W', Below w.heap.size w W' → rFate.At Q' W' Af fates from fun W' hb => hfa.keep fun b hb' hl => ⟨hb', hb.block b hl.lt⟩)
  have HQ := Lib.hid hq
  have HN := Lib.hid hn
  have HSL := Lib.hid hs
  have F2 := Lib.hid f2
  have F3 := Lib.hid f3
  have F4 := Lib.hid f4
  clear hx hf hfa hbox f2 f3 f4 hq hn hs hstep
  generalize hl1 : d.wait.length = len1 at *
  generalize hl0 : d.safe.length = len0 at *
  have HL0 := Lib.hid hl0
  have HL1 := Lib.hid hl1
  clear hl0 hl1
  generalize hW1 : (w.alloc (.cells #[.slice A0 len0 c0, .slice A1 len1 c1, .int .i64 d.fuse, .bool d.off, .int .i64 d.reads, .int .i64 d.writes] 33)).alloc (.cells #[.slice none 0 0, .slice none 0 0, .int .i64 0, .bool false, .int .i64 0, .int .i64 0] 33) = W1 at *
  have HS := Lib.hid hsz
  have HRK := Lib.hid hrk
  have HBK := Lib.hid hbk
  have HBE := Lib.hid hbel
  have HV := Lib.hid (show ∀ W', Below (w.heap.size + 2) W1 W' → rDisk.val Q W' (.agg #[.slice A0 len0 c0, .slice A1 len1 c1, .int .i64 d.fuse, .bool d.off, .int .i64 d.reads, .int .i64 d.writes]) d from fun W' hb => by
    have h := (HBX.out W' hb).val F2.out F3.out F4.out
    rw [HL0.out, HL1.out] at h
    exact h)
  have HQW := Lib.hid (show ∀ W', Below (w.heap.size + 2) W1 W' → ∀ b, Q b → b < W'.heap.size from fun W' hb b hb' => by have := HQ.out b hb'; have := hb.size; omega)
  have HCAP := Lib.hid (show (len0 : Int) ≤ c0 ∧ (c0 : Int) ≤ 9223372036854775807 by
    have h := (HBX.out _ (Below.refl _ _)).safe
    have h1 := h.1
    have h2 := h.2.1
    rw [HL0.out] at h1
    unfold maxLen at h2
    omega)
  clear hsz hrk hbel
  have e0 := cell_row hbk 0
  have e1 := cell_row hbk 1
  have e2 := cell_row hbk 2
  have e3 := cell_row hbk 3
  have e4 := cell_row hbk 4
  have e5 := cell_row hbk 5
  clear hbk
  go_enter Try.func85, Try.ntmps85
  go_wp2_with fail
  try rw [hW1]
  clear hW1
  go_wp2_with fail
  refine (rdirty_calls (HV.out _ (Below.refl _ _)) (HQW.out _ (Below.refl _ _)) (by rw [HL1.out]; exact HN.out) (by rw [HL0.out]; exact HSL.out)).mono ?_
  rintro e w2 ⟨u5, rfl, hu5, hb2⟩
  have HU5 := Lib.hid hu5
  have HB2 := Lib.hid (hb2.mono (Nat.le_of_eq HS.out.symm))
  have HS2 := Lib.hid (show w.heap.size + 2 ≤ w2.heap.size by rw [← HS.out]; exact hb2.size)
  obtain ⟨A5, c5, rfl, hc5, hm5⟩ := Rep.acc_form hu5
  have HDL := Lib.hid (show (dirtyW d).length ≤ len0 by rw [← dirtyTo_all, ← HL0.out]; exact dirtyTo_length d _)
  have HDZ := Lib.hid (fun k z (h : (dirtyW d)[k]? = some z) => dirtyW_lt h)
  have HTN := Lib.hid (fun k p (h : (dirtyW d)[k]? = some ((p : Nat) : Int)) => crashTail_next (fates := fates) h)
  have HT0 := Lib.hid (show crashTail d fates 0 = d.safe from rfl)
  have HTL := Lib.hid (fun k => crashTail_length d fates k)
  have HFIN := Lib.hid (show crashW d fates = ⟨crashTail d fates (dirtyW d).length, [], -1, false, d.reads, d.writes⟩ from rfl)
  have hT : ∃ T : Nat → List (List UInt8), T = crashTail d fates := ⟨_, rfl⟩
  obtain ⟨T, hT⟩ := hT
  rw [← hT] at HTN HT0 HTL HFIN
  clear hT
  generalize dirtyW d = D at *
  unfold maxLen at hm5
  clear hu5 hb2 e0 e1 e2 e3 e4 e5
  have hnb : Below w2.heap.size w2 (w2.alloc (.cells #[] 36)) := (Below.refl _ _).alloc (Nat.le_refl _) _
  have HA0 := Lib.hid (show Rep.byte.list.acc 36 w2.heap.size (fun b => Q b ∨ w2.heap.size ≤ b) (w2.alloc (.cells #[] 36)) (.slice (some ⟨w2.heap.size, 0, none⟩) 0 0) [] from Rep.acc_made w2 #[] 0 (Nat.le_refl _) (by simp [maxLen]) (by simp))
  have HX0 := Lib.hid (show Rep.byte.list.list.val Q (w2.alloc (.cells #[] 36)) (.slice A0 len0 c0) d.safe from by
    have h := (HBX.out _ (HB2.out.trans (hnb.mono HS2.out))).safe.val
    rw [HL0.out] at h
    exact h)
  have hb2k := (HBX.out _ (HB2.out.trans (hnb.mono HS2.out))).blk
  rw [HL0.out, HL1.out] at hb2k
  have e0 := cell_row hb2k 0
  clear hb2k
  have HNB := Lib.hid hnb
  have HL2 := Lib.hid (show ([] : List (List UInt8)).length + d.safe.length ≤ maxLen ∧ (([] : List (List UInt8)).length + d.safe.length) * 24 ≤ 140737488355328 by rw [HL0.out]; have := HSL.out; simp [maxLen]; omega)
  have HQN := Lib.hid (show ∀ b, Q b → IsC (w2.alloc (.cells #[] 36)) b → (Q b ∨ w2.heap.size ≤ b) ∧ (Value.slice (some ⟨w2.heap.size, 0, none⟩) 0 0).ownBlock ≠ some b from fun b hb _ => ⟨.inl hb, fun e => by have e2 : w2.heap.size = b := Option.some.inj e; have := HQ.out b hb; have := HS2.out; omega⟩)
  clear hnb
  go_wp2_with (refine wpList_spread (e := 36) (base := w2.heap.size) (Q := fun b => Q b ∨ w2.heap.size ≤ b) (r := Rep.byte.list) rfl _ _ 30 rfl (.slice none 0 0) 1 24 Try.underlying30 info22 rfl (by decide) rfl _ [] (by exact rfl) HA0.out _ d.safe (by exact rfl) HX0.out HQN.out HL2.out.1 HL2.out.2 HNB.out.size ?_; intro v6 w3 hacc3 hgr3 hat3)
  rw [List.nil_append] at hacc3
  have HB3 := Lib.hid (Rep.acc_below HA0.out HNB.out hgr3 HNB.out.size)
  obtain ⟨A6, c6, rfl, hc6, hm6⟩ := Rep.acc_form hacc3
  rw [HL0.out] at hacc3 hc6
  have HA3 := Lib.hid hacc3
  unfold maxLen at hm6
  clear hacc3 hgr3 hat3 e0
  rw [HL0.out]
  go_loopw [7] (fun kk wr => ∃ k : Nat, kk = .int .i64 k ∧ k ≤ D.length ∧ Rep.byte.list.acc 36 w2.heap.size (fun b => Q b ∨ w2.heap.size ≤ b) wr (.slice A6 len0 c6) (T k) ∧ Below w2.heap.size w2 wr) (fun kk _ => D.length - (intOf kk).toNat)
  case atStart => exact ⟨0, rfl, Nat.zero_le _, by rw [HT0.out]; exact HA3.out, HB3.out⟩
  case round =>
    rename World => wo
    obtain ⟨k, rfl, hk, hacc, hb⟩ := hrel
    have HACC := Lib.hid hacc
    have HB := Lib.hid hb
    have HBW := Lib.hid (HB2.out.trans (hb.mono HS2.out))
    have HSW := Lib.hid hb.size
    clear hacc hb
    by_cases hlt : (k : Int) < D.length
    · obtain ⟨z, hz⟩ : ∃ z, D[k]? = some z := ⟨_, List.getElem?_eq_getElem (by omega)⟩
      obtain ⟨p, rfl, hp⟩ := HDZ.out k z hz
      rw [HL0.out] at hp
      have HTS := Lib.hid (HTN.out k p hz)
      have HWA := Lib.hid (show Below wo.heap.size wo (wo.alloc (.cells #[.int .i64 0, .int .i64 0] 219)) from (Below.refl _ _).alloc (Nat.le_refl _) _)
      have HWS := Lib.hid (show (wo.alloc (.cells #[.int .i64 0, .int .i64 0] 219)).heap.size = wo.heap.size + 1 by simp)
      have HWK := Lib.hid (heap_alloc_new wo (.cells #[.int .i64 0, .int .i64 0] 219))
      generalize hWA : wo.alloc (.cells #[.int .i64 0, .int .i64 0] 219) = WA at *
      have hbwa := HBW.out.trans (HWA.out.mono (by have := HSW.out; have := HS2.out; omega))
      have hbx := HBX.out _ hbwa
      have hblk := hbx.blk
      rw [HL0.out, HL1.out] at hblk
      obtain ⟨b0, o0, rfl⟩ := hbx.safe.2.2.addr (by rw [HL0.out]; omega)
      have e0 := cell_row hblk 0
      have e1 := cell_row hblk 1
      have e2 := cell_row hblk 2
      have e3 := cell_row hblk 3
      have e4 := cell_row hblk 4
      have e5 := cell_row hblk 5
      have a0 := cell_row HWK.out 0
      have a1 := cell_row HWK.out 1
      have y0 := frozen_row HWK.out 0
      have y1 := frozen_row HWK.out 1
      have hd5 := Rep.acc_at rfl HU5.out hz
      obtain ⟨g5, cap5, u5, he5, hd0, _, hg5, _, hrd5⟩ := hd5
      cases he5
      have hu5 : u5 = .int .i64 (p : Int) := by obtain ⟨h, _⟩ := hrd5; cases h; rfl
      subst hu5
      replace hd0 : WA.cell? ⟨g5, k, none⟩ = some (.int .i64 (p : Int)) := ((HB.out.trans (HWA.out.mono HSW.out)).cell (p := ⟨g5, k, none⟩) hg5).trans hd0
      have n5 : ¬ g5 = wo.heap.size := by have := HSW.out; omega
      have n5' : ¬ wo.heap.size = g5 := fun e => n5 e.symm
      have n6 : ¬ w.heap.size = wo.heap.size := by have := HSW.out; have := HS2.out; omega
      have n6' : ¬ wo.heap.size = w.heap.size := fun e => n6 e.symm
      clear hz hbwa hbx hblk hg5 hrd5
      by_cases hkf : (k : Int) < fates.length
      · obtain ⟨f, hf⟩ : ∃ f, fates[k]? = some f := ⟨_, List.getElem?_eq_getElem (by omega)⟩
        have HFE := Lib.hid (show fates.getD k ⟨0, 0⟩ = f by rw [List.getD_eq_getElem?_getD, hf]; rfl)
        have hbw := HBE.out.trans ((HBW.out.trans (HWA.out.mono (by have := HSW.out; have := HS2.out; omega))).mono (by omega))
        obtain ⟨bf, of, rfl, hbf, _, _, k0, k1⟩ := rFate_at (HFT.out _ (Below.refl _ _)) hf
        obtain ⟨_, _, he, _, g0, g1, _, _⟩ := rFate_at (HFT.out _ hbw) hf
        cases he
        have hne : ¬ bf = wo.heap.size := by have := hbf.lt; have := HSW.out; have := HS2.out; omega
        have hne2 : ¬ wo.heap.size = bf := fun e => hne e.symm
        have KT := Lib.hid k1
        clear hbw hbf hf k0 k1
        go_wp2_with fail
        obtain ⟨WB, hWB⟩ : ∃ WB, (((WA.setCell ⟨wo.heap.size, 0, none⟩ (.int .i64 0)).setCell ⟨wo.heap.size, 1, none⟩ (.int .i64 0)).setCell ⟨wo.heap.size, 0, none⟩ (.int .i64 f.kept)).setCell ⟨wo.heap.size, 1, none⟩ (.int .i64 f.torn) = WB := ⟨_, rfl⟩
        have hwk : WB.heap[wo.heap.size]? = some (.cells #[.int .i64 f.kept, .int .i64 f.torn] 219 (0, 0)) := by rw [← hWB]; exact row2_set (row2_set HWK.out)
        have hwb : Below wo.heap.size wo WB := by
          rw [← hWB]
          repeat (refine below_set ?_ (Nat.le_refl _))
          exact HWA.out
        have hws : WB.heap.size = wo.heap.size + 1 := by rw [← hWB, ← HWS.out]; simp
        rw [hWB]
        clear hWB
        have HWK2 := Lib.hid hwk
        have HBWB := Lib.hid (HBW.out.trans (hwb.mono (by have := HSW.out; have := HS2.out; omega)))
        have HSB := Lib.hid hws
        have HWB := Lib.hid hwb
        clear hwk hwb hws a0 a1 y0 y1 e0 e1 e2 e3 e4 e5 hd0
        refine (rof_calls (HV.out _ HBWB.out) (HQW.out _ HBWB.out) (by rw [HL1.out]; exact HN.out)).mono ?_
        rintro e w10 ⟨u10, rfl, hu10, hb10⟩
        have HU10 := Lib.hid hu10
        have HB10 := Lib.hid (HBWB.out.trans (hb10.mono (by have := HSB.out; have := HSW.out; have := HS2.out; omega)))
        have HWK10 := Lib.hid ((hb10.block _ (show wo.heap.size < WB.heap.size by rw [HSB.out]; exact Nat.lt_succ_self _)).trans HWK2.out)
        have HBR10 := Lib.hid (HWB.out.trans (hb10.mono (by rw [HSB.out]; exact Nat.le_succ _)))
        obtain ⟨A10, c10, rfl, hc10, hm10⟩ := Rep.acc_form hu10
        unfold maxLen at hm10
        clear hu10 hb10
        have hbx := HBX.out _ HB10.out
        have hblk := hbx.blk
        rw [HL0.out, HL1.out] at hblk
        have e0 := cell_row hblk 0
        have a0 := cell_row HWK10.out 0
        have a1 := cell_row HWK10.out 1
        obtain ⟨x, hx⟩ : ∃ x, d.safe[p]? = some x := ⟨_, List.getElem?_eq_getElem (by rw [HL0.out]; exact hp)⟩
        have hsl := hbx.safe
        obtain ⟨b0', o0', Bx, cx, he, hcell, hcx, hmx, hatx⟩ := Rep.At.list hsl.2.2 hx
        cases he
        have HXV := Lib.hid (show Rep.byte.list.val Q w10 (.slice Bx x.length cx) x from Rep.list_val rfl hcx hmx hatx)
        have HSG := Lib.hid (show d.safe.getD p [] = x by rw [List.getD_eq_getElem?_getD, hx]; rfl)
        clear hbx hblk hsl hx hcx hmx hatx
        generalize ofW d.wait (p : Int) = l at *
        have hp2 : (p : Int) < len0 := by omega
        have hcap1 := HCAP.out
        go_wp2_with fail
        go_loopw [11, 12] (fun was nn wr => ∃ m : Nat, nn = .int .i64 m ∧ Hid (m ≤ keptOf f l.length) ∧ Rep.byte.list.val Q w10 was ((x :: l).getD m []) ∧ wr = w10) (fun _ nn _ => l.length - (intOf nn).toNat)
        case atStart => exact ⟨0, rfl, Nat.zero_le _, HXV.out, rfl⟩
        case round =>
          obtain ⟨m, rfl, hm, hwas, rfl⟩ := hrel
          have hml := kept_le f l.length
          have HWAS := Lib.hid hwas
          obtain ⟨Aw, cw', rfl, _, _, _⟩ := Rep.val_list hwas
          have hml2 : m ≤ l.length := Nat.le_trans hm.out hml
          clear hml
          by_cases hgo : (m : Int) < l.length ∧ (m : Int) < f.kept
          · obtain ⟨h1, h2⟩ := hgo
            obtain ⟨y, hy⟩ : ∃ y, l[m]? = some y := ⟨_, List.getElem?_eq_getElem (by omega)⟩
            obtain ⟨g, By, cy, cap, he, hcy, _, _, hval⟩ := Rep.acc_elem HU10.out hy
            cases he
            have HM := Lib.hid (kept_more (f := f) h1 h2)
            have HY := Lib.hid (show Rep.byte.list.val Q wr (.slice By y.length cy) ((x :: l).getD (m + 1) []) by
              rw [List.getD_eq_getElem?_getD, List.getElem?_cons_succ, hy]
              exact Rep.val_mono (fun b hb _ => hb.1) hval)
            clear hm hwas hval hy hcell e0 a1
            go_wp2_with fail
            exact ⟨⟨m + 1, by go_num, HM.out, HY.out, trivial⟩, by simp [intOf]; omega⟩
          · have HKE := Lib.hid (kept_stop (f := f) hm.out (n := l.length) (show ¬ ((m : Int) < l.length ∧ (m : Int) < (f : DFate).kept) from hgo))
            obtain ⟨o, ho⟩ : ∃ o, (T k)[p]? = some o := ⟨_, List.getElem?_eq_getElem (by rw [HTL.out, HL0.out]; exact hp)⟩
            have HACW := Lib.hid (show ∀ W', Below wo.heap.size wo W' → Rep.byte.list.acc 36 w2.heap.size (fun b => Q b ∨ w2.heap.size ≤ b) W' (.slice A6 len0 c6) (T k) from fun W' hb => Rep.acc_later HACC.out hb)
            have hstop : ((decide ((m : Int) < l.length)) && (decide ((m : Int) < f.kept))) = false := by
              cases h1 : decide ((m : Int) < l.length) with
              | false => rfl
              | true => cases h2 : decide ((m : Int) < f.kept) with
                | false => rfl
                | true => exact absurd ⟨of_decide_eq_true h1, of_decide_eq_true h2⟩ hgo
            have HOWN := Lib.hid (fun b (e : (Value.slice A6 len0 c6).ownBlock = some b) => Rep.acc_own HACC.out b e)
            clear hm hwas hcell e0
            by_cases h1 : (m : Int) < l.length
            · obtain ⟨y, hy⟩ : ∃ y, l[m]? = some y := ⟨_, List.getElem?_eq_getElem (by omega)⟩
              obtain ⟨g, By, cy, cap, he, hcy, _, _, hval⟩ := Rep.acc_elem HU10.out hy
              cases he
              have h2 : ¬ (m : Int) < f.kept := fun e => hgo ⟨h1, e⟩
              have HST := Lib.hid (settle_tear (s := x) HKE.out hy)
              have HY := Lib.hid (Rep.val_mono (Q' := Q) (fun b hb _ => hb.1) hval)
              have KS := Lib.hid (show ∀ W', Below wr.heap.size wr W' → W'.cell? ⟨g, m, none⟩ = some (.slice By y.length cy) ∧ W'.cell? ⟨wo.heap.size, 1, none⟩ = some (.int .i64 f.torn) from fun W' hb => ⟨(hb.cell (p := ⟨g, m, none⟩) (by have := (Rep.acc_own HU10.out g rfl).2; exact this)).trans hcy, (hb.cell (p := ⟨wo.heap.size, 1, none⟩) (IsC.lt ⟨_, _, _, HWK10.out⟩)).trans ((cell_row HWK10.out 1).trans rfl)⟩)
              clear hgo hstop hy hval
              go_wp2_with fail
              go_region_held3 (fun W' => W'.cell? ⟨g, m, none⟩ = some (.slice By y.length cy) ∧ W'.cell? ⟨wo.heap.size, 1, none⟩ = some (.int .i64 f.torn))
                (first
                  | exact KS.out _ (Below.refl _ _).drew
                  | exact KS.out _ D9.out)
                (first | (go_at_call 146; refine (rtear_calls (Rep.val_drewN HWAS.out 1) (Rep.val_drewN HY.out 1) KT.out).mono ?_; rintro e w9 ⟨u9, rfl, hu9, hb9⟩; have D9 := Lib.hid ((Below.refl wr.heap.size wr).drew.trans hb9); have HU9 := Lib.hid hu9; obtain ⟨A9, c9, rfl, _, _⟩ := Rep.acc_form hu9; clear hb9 hu9))
              have hb9 := D9.out
              have HBR9 := Lib.hid (HBR10.out.trans (hb9.mono HBR10.out.size))
              have hu9 := Rep.acc_fresh HU9.out
              obtain ⟨cs9, he9, hrd9⟩ := hu9
              have hcs9 := Rep.byte.list.back hrd9
              rw [← he9] at hcs9
              have hcs9' : cs9 = [.slice A9 (tearOf ((x :: l).getD m []) y f.torn).length c9] := hcs9.symm
              subst hcs9'
              obtain ⟨g6, cap6, hv6, _, hput⟩ := Rep.acc_put (u := .slice A9 (tearOf ((x :: l).getD m []) y f.torn).length c9) rfl (HACW.out _ HBR9.out) (show p < (T k).length by rw [HTL.out, HL0.out]; exact hp) (Rep.byte.list.mono (fun b hb _ => ⟨.inr (by have h1 : wr.heap.size ≤ b := hb; have := HBR10.out.size; have := HSW.out; omega), fun e => by have := (HOWN.out b e).2; have h1 : wr.heap.size ≤ b := hb; have := HBR10.out.size; omega⟩) hrd9) rfl
              obtain ⟨g7, cap7, u7, hv7, hcell7, hfr7, _, _, _⟩ := Rep.acc_at rfl (HACW.out _ HBR9.out) ho
              rw [HTL.out, HL0.out] at hv6 hv7
              cases hv6
              cases hv7
              have HPUT := Lib.hid hput
              have HG6 := Lib.hid (HOWN.out g6 rfl)
              clear hrd9 he9 hcs9 hb9 hcy a0 a1 ho
              go_wp2_with fail
              exact ⟨⟨k + 1, by go_num, by omega, by rw [HTS.out, HSG.out, HFE.out, HST.out]; exact HPUT.out, (HB.out.trans (HBR9.out.mono HSW.out)).setCell HG6.out.1 _⟩, by simp [intOf]; omega⟩
            · have HST := Lib.hid (settle_was (s := x) HKE.out (show ¬ m < l.length by omega))
              have hwas := HWAS.out
              obtain ⟨cs9, he9, hrd9⟩ := hwas
              have hcs9 := Rep.byte.list.back hrd9
              rw [← he9] at hcs9
              have hcs9' : cs9 = [.slice Aw ((x :: l).getD m []).length cw'] := hcs9.symm
              subst hcs9'
              obtain ⟨g6, cap6, hv6, _, hput⟩ := Rep.acc_put (u := .slice Aw ((x :: l).getD m []).length cw') rfl (HACW.out _ HBR10.out) (show p < (T k).length by rw [HTL.out, HL0.out]; exact hp) (Rep.byte.list.mono (fun b hb _ => ⟨.inl hb, fun e => by have := (HOWN.out b e).1; have := HQ.out b hb; have := HS2.out; omega⟩) hrd9) rfl
              obtain ⟨g7, cap7, u7, hv7, hcell7, hfr7, _, _, _⟩ := Rep.acc_at rfl (HACW.out _ HBR10.out) ho
              rw [HTL.out, HL0.out] at hv6 hv7
              cases hv6
              cases hv7
              have HPUT := Lib.hid hput
              have HG6 := Lib.hid (HOWN.out g6 rfl)
              clear hrd9 he9 hcs9 a0 a1 ho hgo hstop
              go_wp2_with fail
              exact ⟨⟨k + 1, by go_num, by omega, by rw [HTS.out, HSG.out, HFE.out, HST.out]; exact HPUT.out, (HB.out.trans (HBR10.out.mono HSW.out)).setCell HG6.out.1 _⟩, by simp [intOf]; omega⟩
      · have HFE := Lib.hid (show fates.getD k ⟨0, 0⟩ = (⟨0, 0⟩ : DFate) by rw [List.getD_eq_getElem?_getD, List.getElem?_eq_none (by omega)]; rfl)
        have KT := Lib.hid (show (Lit.int .i64 0).wf = true from rfl)
        go_wp2_with fail
        obtain ⟨WB, hWB⟩ : ∃ WB, ((WA.setCell ⟨wo.heap.size, 0, none⟩ (.int .i64 0)).setCell ⟨wo.heap.size, 1, none⟩ (.int .i64 0)) = WB := ⟨_, rfl⟩
        have hwk : WB.heap[wo.heap.size]? = some (.cells #[.int .i64 0, .int .i64 0] 219 (0, 0)) := by rw [← hWB]; exact row2_set HWK.out
        have hwb : Below wo.heap.size wo WB := by
          rw [← hWB]
          repeat (refine below_set ?_ (Nat.le_refl _))
          exact HWA.out
        have hws : WB.heap.size = wo.heap.size + 1 := by rw [← hWB, ← HWS.out]; simp
        rw [hWB]
        clear hWB
        have HWK2 := Lib.hid hwk
        have HBWB := Lib.hid (HBW.out.trans (hwb.mono (by have := HSW.out; have := HS2.out; omega)))
        have HSB := Lib.hid hws
        have HWB := Lib.hid hwb
        clear hwk hwb hws a0 a1 y0 y1 e0 e1 e2 e3 e4 e5 hd0
        refine (rof_calls (HV.out _ HBWB.out) (HQW.out _ HBWB.out) (by rw [HL1.out]; exact HN.out)).mono ?_
        rintro e w10 ⟨u10, rfl, hu10, hb10⟩
        have HU10 := Lib.hid hu10
        have HB10 := Lib.hid (HBWB.out.trans (hb10.mono (by have := HSB.out; have := HSW.out; have := HS2.out; omega)))
        have HWK10 := Lib.hid ((hb10.block _ (show wo.heap.size < WB.heap.size by rw [HSB.out]; exact Nat.lt_succ_self _)).trans HWK2.out)
        have HBR10 := Lib.hid (HWB.out.trans (hb10.mono (by rw [HSB.out]; exact Nat.le_succ _)))
        obtain ⟨A10, c10, rfl, hc10, hm10⟩ := Rep.acc_form hu10
        unfold maxLen at hm10
        clear hu10 hb10
        have hbx := HBX.out _ HB10.out
        have hblk := hbx.blk
        rw [HL0.out, HL1.out] at hblk
        have e0 := cell_row hblk 0
        have a0 := cell_row HWK10.out 0
        have a1 := cell_row HWK10.out 1
        obtain ⟨x, hx⟩ : ∃ x, d.safe[p]? = some x := ⟨_, List.getElem?_eq_getElem (by rw [HL0.out]; exact hp)⟩
        have hsl := hbx.safe
        obtain ⟨b0', o0', Bx, cx, he, hcell, hcx, hmx, hatx⟩ := Rep.At.list hsl.2.2 hx
        cases he
        have HXV := Lib.hid (show Rep.byte.list.val Q w10 (.slice Bx x.length cx) x from Rep.list_val rfl hcx hmx hatx)
        have HSG := Lib.hid (show d.safe.getD p [] = x by rw [List.getD_eq_getElem?_getD, hx]; rfl)
        clear hbx hblk hsl hx hcx hmx hatx
        generalize ofW d.wait (p : Int) = l at *
        have hp2 : (p : Int) < len0 := by omega
        have hcap1 := HCAP.out
        go_wp2_with fail
        go_loopw [11, 12] (fun was nn wr => ∃ m : Nat, nn = .int .i64 m ∧ Hid (m ≤ keptOf (⟨0, 0⟩ : DFate) l.length) ∧ Rep.byte.list.val Q w10 was ((x :: l).getD m []) ∧ wr = w10) (fun _ nn _ => l.length - (intOf nn).toNat)
        case atStart => exact ⟨0, rfl, Nat.zero_le _, HXV.out, rfl⟩
        case round =>
          obtain ⟨m, rfl, hm, hwas, rfl⟩ := hrel
          have hml := kept_le (⟨0, 0⟩ : DFate) l.length
          have HWAS := Lib.hid hwas
          obtain ⟨Aw, cw', rfl, _, _, _⟩ := Rep.val_list hwas
          have hml2 : m ≤ l.length := Nat.le_trans hm.out hml
          clear hml
          by_cases hgo : (m : Int) < l.length ∧ (m : Int) < 0
          · exact absurd hgo.2 (by omega)
          · have HKE := Lib.hid (kept_stop (f := (⟨0, 0⟩ : DFate)) hm.out (n := l.length) (show ¬ ((m : Int) < l.length ∧ (m : Int) < ((⟨0, 0⟩ : DFate) : DFate).kept) from hgo))
            obtain ⟨o, ho⟩ : ∃ o, (T k)[p]? = some o := ⟨_, List.getElem?_eq_getElem (by rw [HTL.out, HL0.out]; exact hp)⟩
            have HACW := Lib.hid (show ∀ W', Below wo.heap.size wo W' → Rep.byte.list.acc 36 w2.heap.size (fun b => Q b ∨ w2.heap.size ≤ b) W' (.slice A6 len0 c6) (T k) from fun W' hb => Rep.acc_later HACC.out hb)
            have hstop : ((decide ((m : Int) < l.length)) && (decide ((m : Int) < 0))) = false := by
              cases h1 : decide ((m : Int) < l.length) with
              | false => rfl
              | true => cases h2 : decide ((m : Int) < 0) with
                | false => rfl
                | true => exact absurd ⟨of_decide_eq_true h1, of_decide_eq_true h2⟩ hgo
            have HOWN := Lib.hid (fun b (e : (Value.slice A6 len0 c6).ownBlock = some b) => Rep.acc_own HACC.out b e)
            clear hm hwas hcell e0
            by_cases h1 : (m : Int) < l.length
            · obtain ⟨y, hy⟩ : ∃ y, l[m]? = some y := ⟨_, List.getElem?_eq_getElem (by omega)⟩
              obtain ⟨g, By, cy, cap, he, hcy, _, _, hval⟩ := Rep.acc_elem HU10.out hy
              cases he
              have h2 : ¬ (m : Int) < 0 := fun e => hgo ⟨h1, e⟩
              have HST := Lib.hid (settle_tear (s := x) HKE.out hy)
              have HY := Lib.hid (Rep.val_mono (Q' := Q) (fun b hb _ => hb.1) hval)
              have KS := Lib.hid (show ∀ W', Below wr.heap.size wr W' → W'.cell? ⟨g, m, none⟩ = some (.slice By y.length cy) ∧ W'.cell? ⟨wo.heap.size, 1, none⟩ = some (.int .i64 0) from fun W' hb => ⟨(hb.cell (p := ⟨g, m, none⟩) (by have := (Rep.acc_own HU10.out g rfl).2; exact this)).trans hcy, (hb.cell (p := ⟨wo.heap.size, 1, none⟩) (IsC.lt ⟨_, _, _, HWK10.out⟩)).trans ((cell_row HWK10.out 1).trans rfl)⟩)
              clear hgo hstop hy hval
              go_wp2_with fail
              go_region_held3 (fun W' => W'.cell? ⟨g, m, none⟩ = some (.slice By y.length cy) ∧ W'.cell? ⟨wo.heap.size, 1, none⟩ = some (.int .i64 0))
                (first
                  | exact KS.out _ (Below.refl _ _).drew
                  | exact KS.out _ D9.out)
                (first | (go_at_call 146; refine (rtear_calls (Rep.val_drewN HWAS.out 1) (Rep.val_drewN HY.out 1) KT.out).mono ?_; rintro e w9 ⟨u9, rfl, hu9, hb9⟩; have D9 := Lib.hid ((Below.refl wr.heap.size wr).drew.trans hb9); have HU9 := Lib.hid hu9; obtain ⟨A9, c9, rfl, _, _⟩ := Rep.acc_form hu9; clear hb9 hu9))
              have hb9 := D9.out
              have HBR9 := Lib.hid (HBR10.out.trans (hb9.mono HBR10.out.size))
              have hu9 := Rep.acc_fresh HU9.out
              obtain ⟨cs9, he9, hrd9⟩ := hu9
              have hcs9 := Rep.byte.list.back hrd9
              rw [← he9] at hcs9
              have hcs9' : cs9 = [.slice A9 (tearOf ((x :: l).getD m []) y 0).length c9] := hcs9.symm
              subst hcs9'
              obtain ⟨g6, cap6, hv6, _, hput⟩ := Rep.acc_put (u := .slice A9 (tearOf ((x :: l).getD m []) y 0).length c9) rfl (HACW.out _ HBR9.out) (show p < (T k).length by rw [HTL.out, HL0.out]; exact hp) (Rep.byte.list.mono (fun b hb _ => ⟨.inr (by have h1 : wr.heap.size ≤ b := hb; have := HBR10.out.size; have := HSW.out; omega), fun e => by have := (HOWN.out b e).2; have h1 : wr.heap.size ≤ b := hb; have := HBR10.out.size; omega⟩) hrd9) rfl
              obtain ⟨g7, cap7, u7, hv7, hcell7, hfr7, _, _, _⟩ := Rep.acc_at rfl (HACW.out _ HBR9.out) ho
              rw [HTL.out, HL0.out] at hv6 hv7
              cases hv6
              cases hv7
              have HPUT := Lib.hid hput
              have HG6 := Lib.hid (HOWN.out g6 rfl)
              clear hrd9 he9 hcs9 hb9 hcy a0 a1 ho
              go_wp2_with fail
              exact ⟨⟨k + 1, by go_num, by omega, by rw [HTS.out, HSG.out, HFE.out, HST.out]; exact HPUT.out, (HB.out.trans (HBR9.out.mono HSW.out)).setCell HG6.out.1 _⟩, by simp [intOf]; omega⟩
            · have HST := Lib.hid (settle_was (s := x) HKE.out (show ¬ m < l.length by omega))
              have hwas := HWAS.out
              obtain ⟨cs9, he9, hrd9⟩ := hwas
              have hcs9 := Rep.byte.list.back hrd9
              rw [← he9] at hcs9
              have hcs9' : cs9 = [.slice Aw ((x :: l).getD m []).length cw'] := hcs9.symm
              subst hcs9'
              obtain ⟨g6, cap6, hv6, _, hput⟩ := Rep.acc_put (u := .slice Aw ((x :: l).getD m []).length cw') rfl (HACW.out _ HBR10.out) (show p < (T k).length by rw [HTL.out, HL0.out]; exact hp) (Rep.byte.list.mono (fun b hb _ => ⟨.inl hb, fun e => by have := (HOWN.out b e).1; have := HQ.out b hb; have := HS2.out; omega⟩) hrd9) rfl
              obtain ⟨g7, cap7, u7, hv7, hcell7, hfr7, _, _, _⟩ := Rep.acc_at rfl (HACW.out _ HBR10.out) ho
              rw [HTL.out, HL0.out] at hv6 hv7
              cases hv6
              cases hv7
              have HPUT := Lib.hid hput
              have HG6 := Lib.hid (HOWN.out g6 rfl)
              clear hrd9 he9 hcs9 a0 a1 ho hgo hstop
              go_wp2_with fail
              exact ⟨⟨k + 1, by go_num, by omega, by rw [HTS.out, HSG.out, HFE.out, HST.out]; exact HPUT.out, (HB.out.trans (HBR10.out.mono HSW.out)).setCell HG6.out.1 _⟩, by simp [intOf]; omega⟩
    · obtain rfl : k = D.length := by omega
      have hbx := HBX.out _ HBW.out
      have hblk := hbx.blk
      rw [HL0.out, HL1.out] at hblk
      have hrk := (HBW.out.block (w.heap.size + 1) (Nat.lt_succ_self _)).trans HRK.out
      have e4 := cell_row hblk 4
      have e5 := cell_row hblk 5
      have d0 := cell_row hrk 0
      have d1 := cell_row hrk 1
      have d2 := cell_row hrk 2
      have d3 := cell_row hrk 3
      have d4 := cell_row hrk 4
      have d5 := cell_row hrk 5
      have y0 := frozen_row hrk 0
      have y1 := frozen_row hrk 1
      have y2 := frozen_row hrk 2
      have y3 := frozen_row hrk 3
      have y4 := frozen_row hrk 4
      have y5 := frozen_row hrk 5
      have HBEL := Lib.hid hbx.bel
      have HSV := Lib.hid (show ∀ W', (∀ b, b ≠ w.heap.size + 1 → W'.heap[b]? = wo.heap[b]?) → Rep.byte.list.Sl (fun b => Q b ∨ w.heap.size ≤ b) W' A6 c6 (T D.length) from fun W' hk => by
        obtain ⟨A', c', he, h1, h2, h3⟩ := Rep.val_list (Rep.acc_val HACC.out)
        simp only [Value.slice.injEq] at he
        obtain ⟨rfl, _, rfl⟩ := he
        have hown := Rep.acc_own HACC.out
        refine ⟨h1, h2, h3.keep fun b hb' hl => ?_⟩
        rcases hb' with (hb' | hb') | hb'
        · exact ⟨.inl hb', hk b (by have := HQ.out b hb'; omega)⟩
        · exact ⟨.inr (by have := HS2.out; omega), hk b (by have := HS2.out; omega)⟩
        · exact ⟨.inr (by have := (hown b hb').1; have := HS2.out; omega), hk b (by have := (hown b hb').1; have := HS2.out; omega)⟩)
      have hfr : Try.f85.results = #[.cell 4 33] := rfl
      have HTLD := Lib.hid (show (T D.length).length = len0 by rw [HTL.out, HL0.out])
      clear hbx hblk hrk
      go_wp2_with fail
      refine (fun (hb : EndAt w wo (w.heap.size + 1) _) => ⟨rfl, .agg #[.slice A6 len0 c6, .slice none 0 0, .int .i64 (-1), .bool false, .int .i64 d.reads, .int .i64 d.writes], ?_, ⟨_, rfl, ?_, hb.1⟩⟩) ?_
      · repeat (refine EndAt.set (Nat.le_succ _) ?_)
        exact ⟨HBEL.out, fun _ _ => rfl⟩
      · simp only [results, hfr]
        go_simp
      · have h := rDisk_agg (x := ⟨T D.length, [], -1, false, d.reads, d.writes⟩) (HSV.out _ hb.2) (A_wait := none) (c_wait := 0) ⟨Nat.zero_le _, Nat.zero_le _, [], rfl, fun h => absurd h (by simp)⟩ rfl F3.out F4.out
        dsimp only at h
        rw [HTLD.out, ← HFIN.out] at h
        exact h
end Go.Proofs.Ytfpmkenobphfnaa
