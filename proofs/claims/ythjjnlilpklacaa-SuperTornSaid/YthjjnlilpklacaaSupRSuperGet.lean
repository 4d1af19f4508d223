/- Walk of the reading of a superblock: ref26. Printed by gen_rsuperget.py. -/
import Derived.Test.YthjjnlilpklacaaSupRSealGet
import Derived.Test.YthjjnlilpklacaaSupRSuperPut
import Derived.Test.YthjjnlilpklacaaSupRSuperRight
import Derived.Test.YthjjnlilpklacaaSupSuperGet
namespace Go.Proofs.Ythjjnlilpklacaa
open Go.RowKit

set_option maxRecDepth 100000 in
set_option maxHeartbeats 4000000 in
/-- ref26.Get -/
theorem rsuperGet_calls {Q : Nat → Prop} {w : World} {v : Value} {l : List UInt8} (hx : Rep.byte.list.val Q w v l) :
    Calls Try.prog 74 #[v] w (SuperGot w l) := by
  have HX := Lib.hid hx
  obtain ⟨A0, c0, rfl, _, _, _⟩ := Rep.val_list hx
  obtain ⟨W1, hW1⟩ : ∃ W1, w.alloc (.cells #[.int .i64 0, .int .i64 0, .int .i64 0, .int .i64 0, .int .i64 0, .int .i64 0, .int .i64 0, .slice none 0 0] 114) = W1 := ⟨_, rfl⟩
  have hb1 : Below w.heap.size w W1 := by rw [← hW1]; exact (Below.refl _ _).alloc (Nat.le_refl _) _
  have hr1 : W1.heap[w.heap.size]? = some (.cells #[.int .i64 0, .int .i64 0, .int .i64 0, .int .i64 0, .int .i64 0, .int .i64 0, .int .i64 0, .slice none 0 0] 114 (0, 0)) := by rw [← hW1]; exact heap_alloc_new _ _
  have hz1 : W1.heap.size = w.heap.size + 1 := by rw [← hW1]; simp
  have HB1 := Lib.hid hb1
  have HZ1 := Lib.hid hz1
  have KR := Lib.hid (show ∀ W, Below W1.heap.size W1 W → W.heap[w.heap.size]? = some (.cells #[.int .i64 0, .int .i64 0, .int .i64 0, .int .i64 0, .int .i64 0, .int .i64 0, .int .i64 0, .slice none 0 0] 114 (0, 0)) from fun W h => (h.block _ (by omega)).trans hr1)
  have HX1 := Lib.hid (Rep.val_below (B := w.heap.size) (Rep.val_any HX.out) HB1.out fun _ h _ => h)
  have hfr : Try.f74.results = #[.cell 2 114, .tmp 3] := rfl
  clear hx hb1 hr1 hz1
  go_enter Try.func74, Try.ntmps74
  go_wp2_with fail
  try rw [hW1]
  clear hW1
  go_wp2_with fail
  refine (rsealGet_calls HX1.out).mono ?_
  rintro e w2 ⟨u, rfl, hu, hb2⟩
  have HS := Lib.hid (show sealGet l = sealGet l from rfl)
  obtain ⟨g, hg⟩ : ∃ g, g = sealGet l := ⟨_, rfl⟩
  rw [← hg] at hu ⊢
  have HG := Lib.hid hg
  obtain ⟨y, hy⟩ : ∃ y, y = g.getD seal0 := ⟨_, rfl⟩
  rw [← hy] at hu
  obtain ⟨A2, c2, rfl, f0, f1, f2, hs2⟩ := rSeal_val hu
  have F0 := Lib.hid f0
  have F1 := Lib.hid f1
  have HS2 := Lib.hid hs2
  have D2 := Lib.hid hb2
  obtain ⟨W3, hW3⟩ : ∃ W3, w2.alloc (.cells #[.int .i64 y.epoch, .int .i64 y.no, .int .i64 y.kind, .slice A2 y.body.length c2] 182) = W3 := ⟨_, rfl⟩
  have hb3 : Below w2.heap.size w2 W3 := by rw [← hW3]; exact (Below.refl _ _).alloc (Nat.le_refl _) _
  have hq3 : W3.heap[w2.heap.size]? = some (.cells #[.int .i64 y.epoch, .int .i64 y.no, .int .i64 y.kind, .slice A2 y.body.length c2] 182 (0, 0)) := by rw [← hW3]; exact heap_alloc_new _ _
  have HZ3 := Lib.hid (show W3.heap.size = w2.heap.size + 1 by rw [← hW3]; simp)
  have D3 := Lib.hid (D2.out.trans (hb3.mono D2.out.size))
  have HB3 := Lib.hid hb3
  have HQ3 := Lib.hid hq3
  have k0 := cell_row hq3 0
  have k1 := cell_row hq3 1
  have k2 := cell_row hq3 2
  have k3 := cell_row hq3 3
  clear hu hg hb2 hb3 hq3 f0 f1 f2 hs2 HS
  cases g with
  | none =>
    have HF := Lib.hid (show superGet l = none by unfold superGet; rw [← HG.out])
    clear hy
    have e0 := cell_row (KR.out W3 D3.out) 0
    have e1 := cell_row (KR.out W3 D3.out) 1
    have e2 := cell_row (KR.out W3 D3.out) 2
    have e3 := cell_row (KR.out W3 D3.out) 3
    have e4 := cell_row (KR.out W3 D3.out) 4
    have e5 := cell_row (KR.out W3 D3.out) 5
    have e6 := cell_row (KR.out W3 D3.out) 6
    have e7 := cell_row (KR.out W3 D3.out) 7
    have z0 := frozen_row (KR.out W3 D3.out) 0
    have z1 := frozen_row (KR.out W3 D3.out) 1
    have z2 := frozen_row (KR.out W3 D3.out) 2
    have z3 := frozen_row (KR.out W3 D3.out) 3
    have z4 := frozen_row (KR.out W3 D3.out) 4
    have z5 := frozen_row (KR.out W3 D3.out) 5
    have z6 := frozen_row (KR.out W3 D3.out) 6
    have z7 := frozen_row (KR.out W3 D3.out) 7
    go_wp2_with fail
    try rw [hW3]
    try go_wp2_with fail
    refine ⟨rfl, .tuple #[.agg #[.int .i64 0, .int .i64 0, .int .i64 0, .int .i64 0, .int .i64 0, .int .i64 0, .int .i64 0, .slice none 0 0], .bool false], ?_, ⟨_, by rw [HF.out]; rfl, by rw [HF.out]; exact superNone_val, set8_below (HB1.out.trans (D3.out.mono HB1.out.size)) (Nat.le_refl _)⟩⟩
    simp only [results, hfr]
    go_simp
  | some y' =>
  obtain rfl : y = y' := hy
  have HGS := Lib.hid (show sealGet l = some y from HG.out.symm)
  clear HG
  by_cases hk : y.kind = 3
  case neg =>
    have HF := Lib.hid (show superGet l = none by unfold superGet; rw [HGS.out]; exact if_neg (fun h => hk h.1))
    have hkb : (y.kind != 3) = true := by simpa using hk
    clear hk
    have e0 := cell_row (KR.out W3 D3.out) 0
    have e1 := cell_row (KR.out W3 D3.out) 1
    have e2 := cell_row (KR.out W3 D3.out) 2
    have e3 := cell_row (KR.out W3 D3.out) 3
    have e4 := cell_row (KR.out W3 D3.out) 4
    have e5 := cell_row (KR.out W3 D3.out) 5
    have e6 := cell_row (KR.out W3 D3.out) 6
    have e7 := cell_row (KR.out W3 D3.out) 7
    have z0 := frozen_row (KR.out W3 D3.out) 0
    have z1 := frozen_row (KR.out W3 D3.out) 1
    have z2 := frozen_row (KR.out W3 D3.out) 2
    have z3 := frozen_row (KR.out W3 D3.out) 3
    have z4 := frozen_row (KR.out W3 D3.out) 4
    have z5 := frozen_row (KR.out W3 D3.out) 5
    have z6 := frozen_row (KR.out W3 D3.out) 6
    have z7 := frozen_row (KR.out W3 D3.out) 7
    go_wp2_with fail
    try rw [hW3]
    try go_wp2_with fail
    refine ⟨rfl, .tuple #[.agg #[.int .i64 0, .int .i64 0, .int .i64 0, .int .i64 0, .int .i64 0, .int .i64 0, .int .i64 0, .slice none 0 0], .bool false], ?_, ⟨_, by rw [HF.out]; rfl, by rw [HF.out]; exact superNone_val, set8_below (HB1.out.trans (D3.out.mono HB1.out.size)) (Nat.le_refl _)⟩⟩
    simp only [results, hfr]
    go_simp
  have HKD := Lib.hid hk
  have hkb : (y.kind != 3) = false := by simpa using hk
  clear hk
  have HBL := Lib.hid (show y.body.length ≤ 472 from (seal_body_length HGS.out).2)
  have HSG := Lib.hid (show superGet l = if 28 ≤ y.body.length ∧ y.body.length % 2 = 0 ∧ superRight (superRead y.epoch y.no y.body) = true then some (superRead y.epoch y.no y.body) else none by
    unfold superGet; rw [HGS.out]
    by_cases h : 28 ≤ y.body.length ∧ y.body.length % 2 = 0 ∧ superRight (superRead y.epoch y.no y.body) = true
    · rw [if_pos h]; exact if_pos ⟨HKD.out, h⟩
    · rw [if_neg h]; exact if_neg (fun hh => h hh.2))
  by_cases h28 : (y.body.length : Int) < 28
  case pos =>
    have HF := Lib.hid (show superGet l = none by rw [HSG.out]; exact if_neg (fun h => by have := h.1; omega))
    have h28b : decide ((y.body.length : Int) < 28) = true := decide_eq_true h28
    have e0 := cell_row (KR.out W3 D3.out) 0
    have e1 := cell_row (KR.out W3 D3.out) 1
    have e2 := cell_row (KR.out W3 D3.out) 2
    have e3 := cell_row (KR.out W3 D3.out) 3
    have e4 := cell_row (KR.out W3 D3.out) 4
    have e5 := cell_row (KR.out W3 D3.out) 5
    have e6 := cell_row (KR.out W3 D3.out) 6
    have e7 := cell_row (KR.out W3 D3.out) 7
    have z0 := frozen_row (KR.out W3 D3.out) 0
    have z1 := frozen_row (KR.out W3 D3.out) 1
    have z2 := frozen_row (KR.out W3 D3.out) 2
    have z3 := frozen_row (KR.out W3 D3.out) 3
    have z4 := frozen_row (KR.out W3 D3.out) 4
    have z5 := frozen_row (KR.out W3 D3.out) 5
    have z6 := frozen_row (KR.out W3 D3.out) 6
    have z7 := frozen_row (KR.out W3 D3.out) 7
    go_wp2_with fail
    try rw [hW3]
    try go_wp2_with fail
    refine ⟨rfl, .tuple #[.agg #[.int .i64 0, .int .i64 0, .int .i64 0, .int .i64 0, .int .i64 0, .int .i64 0, .int .i64 0, .slice none 0 0], .bool false], ?_, ⟨_, by rw [HF.out]; rfl, by rw [HF.out]; exact superNone_val, set8_below (HB1.out.trans (D3.out.mono HB1.out.size)) (Nat.le_refl _)⟩⟩
    simp only [results, hfr]
    go_simp
  have h28b : decide ((y.body.length : Int) < 28) = false := decide_eq_false h28
  have H28 := Lib.hid (show 28 ≤ y.body.length by omega)
  have HAG := Lib.hid (fun hr => super_again HGS.out HKD.out H28.out hr)
  have HV := Lib.hid (show Rep.byte.list.val (fun _ => True) W3 (.slice A2 y.body.length c2) y.body from (HS2.out.keep (w' := W3) (Q' := fun _ => True) fun x _ hl => ⟨trivial, HB3.out.block x hl.lt⟩).val)
  go_wp2_with fail
  try rw [hW3]
  try go_wp2_with fail
  clear hW3
  obtain ⟨b, hbe⟩ : ∃ b, b = y.body := ⟨_, rfl⟩
  have HBE := Lib.hid hbe
  rw [← hbe] at HV HBL HSG k3 HQ3 H28 HAG ⊢
  have KQ := Lib.hid (show ∀ W, Below W3.heap.size W3 W → W.heap[w2.heap.size]? = some (.cells #[.int .i64 y.epoch, .int .i64 y.no, .int .i64 y.kind, .slice A2 b.length c2] 182 (0, 0)) from fun W h => (h.block _ (by have := HZ3.out; omega)).trans HQ3.out)
  have DD := Lib.hid (show ∀ W, Below W3.heap.size W3 W → Below W1.heap.size W1 W from fun W h => D3.out.trans (h.mono D3.out.size))
  have GA := Lib.hid (show getNum b 0 4 = some (natAt b 0 4 : Int) by rw [← i64of_natAt b 0 4 (by decide)]; exact getNum_at (w := 4) (a := 0) (by decide) (by decide) (by have := H28.out; omega))
  have GB := Lib.hid (show getNum b 4 4 = some (natAt b 4 4 : Int) by rw [← i64of_natAt b 4 4 (by decide)]; exact getNum_at (w := 4) (a := 4) (by decide) (by decide) (by have := H28.out; omega))
  have GC := Lib.hid (show getNum b 8 8 = some (i64of (natAt b 8 8)) from getNum_at (w := 8) (a := 8) (by decide) (by decide) (by have := H28.out; omega))
  have GD := Lib.hid (show getNum b 16 8 = some (i64of (natAt b 16 8)) from getNum_at (w := 8) (a := 16) (by decide) (by decide) (by have := H28.out; omega))
  have GE := Lib.hid (show getNum b 24 4 = some (natAt b 24 4 : Int) by rw [← i64of_natAt b 24 4 (by decide)]; exact getNum_at (w := 4) (a := 24) (by decide) (by decide) (by have := H28.out; omega))
  have XR := Lib.hid (show superRead y.epoch y.no b = ⟨y.epoch, y.no, (natAt b 0 4 : Int), (natAt b 4 4 : Int), i64of (natAt b 8 8), i64of (natAt b 16 8), (natAt b 24 4 : Int), pagesAt b 28 ((b.length - 28) / 2)⟩ from rfl)
  have NW1 := Lib.hid (natAt_wf b 0 4 (by decide))
  have NW2 := Lib.hid (natAt_wf b 4 4 (by decide))
  have NW3 := Lib.hid (i64of_wf (natAt b 8 8))
  have NW4 := Lib.hid (i64of_wf (natAt b 16 8))
  have NW5 := Lib.hid (natAt_wf b 24 4 (by decide))
  generalize i64of (natAt b 8 8) = n3 at *
  generalize i64of (natAt b 16 8) = n4 at *
  generalize natAt b 0 4 = n1 at *
  generalize natAt b 4 4 = n2 at *
  generalize natAt b 24 4 = n5 at *
  clear hkb hbe h28 h28b k0 k1 k2 k3
  go_loopw [6, 7] (fun s i wr => ∃ (k : Nat) (q : List Int), i = .int .i64 k ∧ k ≤ 2 ∧ Hid (q = [(n1 : Int), (n2 : Int)].take k) ∧ (Rep.int .i64).acc 3 W3.heap.size (fun _ => False) wr s q ∧ Below W3.heap.size W3 wr)
    (fun _ i _ => 2 - (intOf i).toNat)
  case atStart => exact ⟨0, [], rfl, by omega, rfl, Rep.acc_nil, Below.refl _ _⟩
  case round =>
    obtain ⟨k, q, rfl, hk, hq, hacc, hbr⟩ := hrel
    have HA := Lib.hid hacc
    have HBR := Lib.hid hbr
    have HQ := Lib.hid hq.out
    obtain ⟨A6, c6, rfl, _, _⟩ := Rep.acc_form hacc
    have HVr := Lib.hid (Rep.val_below HV.out hbr fun _ _ hb => hb.lt)
    have hqr := KQ.out _ hbr
    have k0 := cell_row hqr 0
    have k1 := cell_row hqr 1
    have k3 := cell_row hqr 3
    clear hacc hbr hqr hq
    by_cases hlt : (k : Int) < 2
    · have hk2 : k = 0 ∨ k = 1 := by omega
      rcases hk2 with rfl | rfl
      · have hqe : q = [] := HQ.out
        have L := Lib.hid (show q.length + 1 ≤ maxLen ∧ (q.length + 1) * 8 ≤ 140737488355328 by rw [hqe]; simp [maxLen])
        have QX := Lib.hid (show q ++ [(n1 : Int)] = [(n1 : Int)] by rw [hqe]; rfl)
        clear hqe
        go_wp2_with fail
        refine (rget_calls (at_ := 0) (width := 4) HVr.out rfl).mono ?_
        rintro e w6 ⟨rfl, hw⟩
        have hw2 := hw.symm
        subst hw2
        clear hw
        rw [GA.out]
        simp only [Option.getD_some, Option.isSome_some]
        go_wp2_with (refine wpList_snoc (e := 3) (base := W3.heap.size) (Q := fun _ => False) (r := Rep.int .i64) rfl rfl _ _ 30 _ rfl rfl rfl (.int .i64 0) 1 8 Try.underlying30 info3 rfl (by decide) rfl _ q HA.out (n1 : Int) _ (by exact rfl) ⟨_, rfl, rfl, NW1.out⟩ (by exact rfl) (by exact rfl) L.out.1 L.out.2 HBR.out.size ?_; intro s7 w7 hacc7 hgr7 hat7)
        exact ⟨⟨1, q ++ [(n1 : Int)], by go_num, by omega, Lib.hid (by rw [QX.out]; rfl), hacc7, Rep.acc_below HA.out HBR.out hgr7 HBR.out.size⟩, by simp [intOf]⟩
      · have hqe : q = [(n1 : Int)] := HQ.out
        have L := Lib.hid (show q.length + 1 ≤ maxLen ∧ (q.length + 1) * 8 ≤ 140737488355328 by rw [hqe]; simp [maxLen])
        have QX := Lib.hid (show q ++ [(n2 : Int)] = [(n1 : Int), (n2 : Int)] by rw [hqe]; rfl)
        clear hqe
        go_wp2_with fail
        refine (rget_calls (at_ := 4) (width := 4) HVr.out rfl).mono ?_
        rintro e w6 ⟨rfl, hw⟩
        have hw2 := hw.symm
        subst hw2
        clear hw
        rw [GB.out]
        simp only [Option.getD_some, Option.isSome_some]
        go_wp2_with (refine wpList_snoc (e := 3) (base := W3.heap.size) (Q := fun _ => False) (r := Rep.int .i64) rfl rfl _ _ 30 _ rfl rfl rfl (.int .i64 0) 1 8 Try.underlying30 info3 rfl (by decide) rfl _ q HA.out (n2 : Int) _ (by exact rfl) ⟨_, rfl, rfl, NW2.out⟩ (by exact rfl) (by exact rfl) L.out.1 L.out.2 HBR.out.size ?_; intro s7 w7 hacc7 hgr7 hat7)
        exact ⟨⟨2, q ++ [(n2 : Int)], by go_num, by omega, Lib.hid (by rw [QX.out]; rfl), hacc7, Rep.acc_below HA.out HBR.out hgr7 HBR.out.size⟩, by simp [intOf]⟩
    · obtain rfl : k = 2 := by omega
      have hqe : q = [(n1 : Int), (n2 : Int)] := HQ.out
      subst hqe
      clear hlt hk
      go_wp2_with fail
      refine (rget_calls (at_ := 8) (width := 8) HVr.out rfl).mono ?_
      rintro e w6 ⟨rfl, hw⟩
      have hw2 := hw.symm
      subst hw2
      clear hw
      rw [GC.out]
      simp only [Option.getD_some, Option.isSome_some]
      go_wp2_with fail
      refine (rget_calls (at_ := 16) (width := 8) HVr.out rfl).mono ?_
      rintro e w6 ⟨rfl, hw⟩
      have hw2 := hw.symm
      subst hw2
      clear hw
      rw [GD.out]
      simp only [Option.getD_some, Option.isSome_some]
      go_wp2_with fail
      refine (rget_calls (at_ := 24) (width := 4) HVr.out rfl).mono ?_
      rintro e w6 ⟨rfl, hw⟩
      have hw2 := hw.symm
      subst hw2
      clear hw
      rw [GE.out]
      simp only [Option.getD_some, Option.isSome_some]
      go_wp2_with fail
      obtain ⟨A7, c7, he, _, _, hat7⟩ := Rep.val_list (Rep.acc_val HA.out)
      cases he
      obtain ⟨lb, lo, hla, p0, _⟩ := hat7.int (show [(n1 : Int), (n2 : Int)][0]? = some (n1 : Int) from rfl)
      obtain ⟨lb2, lo2, hla2, p1, _⟩ := hat7.int (show [(n1 : Int), (n2 : Int)][1]? = some (n2 : Int) from rfl)
      subst hla
      cases hla2
      clear hat7
      have p00 : wr.cell? ⟨lb, lo, none⟩ = some (.int .i64 (n1 : Int)) := p0
      go_region_held3 (fun w' => w'.cell? ⟨w2.heap.size, 0, none⟩ = some (.int .i64 y.epoch) ∧ w'.cell? ⟨w2.heap.size, 1, none⟩ = some (.int .i64 y.no) ∧ w'.cell? ⟨lb, lo, none⟩ = some (.int .i64 (n1 : Int)) ∧ w'.cell? ⟨lb, lo + 1, none⟩ = some (.int .i64 (n2 : Int)))
        (go_keep) (fail)
      rename_i hHeld
      clear hHeld k0 k1 k3 p0 p00 p1
      go_wp2_with fail
      obtain ⟨W4, hW4⟩ : ∃ W4, (wr.alloc (.cells #[.int .i64 y.epoch, .int .i64 y.no, .int .i64 (n1 : Int), .int .i64 (n2 : Int), .int .i64 n3, .int .i64 n4, .int .i64 (n5 : Int), .slice none 0 0] 114)).drew = W4 := ⟨_, rfl⟩
      obtain ⟨X, hX⟩ : ∃ X, X = wr.heap.size := ⟨_, rfl⟩
      have HBX := Lib.hid (show W4.heap[X]? = some (.cells #[.int .i64 y.epoch, .int .i64 y.no, .int .i64 (n1 : Int), .int .i64 (n2 : Int), .int .i64 n3, .int .i64 n4, .int .i64 (n5 : Int), .slice none 0 0] 114 (0, 0)) by rw [← hW4, hX]; exact heap_alloc_new wr _)
      have B4 := Lib.hid (show Below W3.heap.size W3 W4 by rw [← hW4]; exact (HBR.out.alloc HBR.out.size _).drew)
      have HX3 := Lib.hid (show W3.heap.size ≤ X by rw [hX]; exact HBR.out.size)
      have HXS := Lib.hid (show W4.heap.size = X + 1 by rw [← hW4, hX]; simp)
      rw [hW4, ← hX]
      clear hW4 hX HA HBR HVr HQ
      have HBL2 := HBL.out
      have H282 := H28.out
      go_loopw [17] (fun i wr => ∃ (j : Nat) (q : List Int) (u : Value), i = .int .i64 ((28 + 2 * j : Nat) : Int) ∧ j ≤ (b.length - 28) / 2 ∧ Hid (q = pagesAt b 28 j) ∧ wr.heap[X]? = some (.cells #[.int .i64 y.epoch, .int .i64 y.no, .int .i64 (n1 : Int), .int .i64 (n2 : Int), .int .i64 n3, .int .i64 n4, .int .i64 (n5 : Int), u] 114 (0, 0)) ∧ (Rep.int .i64).acc 3 (X + 1) (fun _ => False) wr u q ∧ Below W3.heap.size W3 wr ∧ X + 1 ≤ wr.heap.size)
        (fun i _ => 600 - (intOf i).toNat)
      case atStart => exact ⟨0, [], .slice none 0 0, rfl, by omega, rfl, HBX.out, Rep.acc_nil, B4.out, by rw [HXS.out]; exact Nat.le_refl _⟩
      case round =>
        obtain ⟨j, q, u, rfl, hj, hq, hbx, hacc, hbr, hsz⟩ := hrel
        have HQ := Lib.hid hq.out
        have HBX6 := Lib.hid hbx
        have HA6 := Lib.hid hacc
        have HB6 := Lib.hid hbr
        obtain ⟨A6, c6, rfl, _, _⟩ := Rep.acc_form hacc
        have HVr := Lib.hid (Rep.val_below HV.out hbr fun _ _ hb => hb.lt)
        have k3 := cell_row (KQ.out _ hbr) 3
        have s1 : IntKind.i64.wrap (((28 + 2 * j : Nat) : Int) + 1) = ((28 + 2 * j : Nat) : Int) + 1 := IntWalk.i64_in _ ⟨by omega, by omega⟩
        have HSZ := Lib.hid hsz
        clear hq hacc hbr hsz
        obtain ⟨at6, hat6⟩ : ∃ a, a = 28 + 2 * j := ⟨_, rfl⟩
        rw [← hat6] at s1 ⊢
        have HAT := Lib.hid hat6
        by_cases hlt : (at6 : Int) + 1 < b.length
        · have hat7 : at6 ≤ 600 := by omega
          have e7 := cell_row hbx 7
          have QL := Lib.hid (show q.length = j by rw [HQ.out, pagesAt_length])
          have L := Lib.hid (show q.length + 1 ≤ maxLen ∧ (q.length + 1) * 8 ≤ 140737488355328 by rw [QL.out]; unfold maxLen; omega)
          have G4 := Lib.hid (show getNum b (at6 : Int) 2 = some ((natAt b at6 2 : Nat) : Int) from ((getNum_nat b at6 (w := 2) (by decide) (by decide)).trans (if_pos (by omega))).trans (congrArg some (i64of_natAt b _ 2 (by decide))))
          have hpw := Lib.hid (natAt_wf b at6 2 (by decide))
          have T := Lib.hid (show q ++ [(natAt b at6 2 : Int)] = pagesAt b 28 (j + 1) by rw [pagesAt_succ, HQ.out, HAT.out])
          have HJ := Lib.hid (show j + 1 ≤ (b.length - 28) / 2 by omega)
          generalize natAt b at6 2 = pn at *
          obtain ⟨q7, hq7⟩ : ∃ z, z = q ++ [(pn : Int)] := ⟨_, rfl⟩
          have QE := Lib.hid hq7
          rw [← hq7] at T
          clear hbx hat6 hq7
          go_wp2_with fail
          refine (rget_calls (at_ := (at6 : Int)) (width := 2) HVr.out (wf_i64 (by omega) (by omega))).mono ?_
          rintro e w6 ⟨rfl, hw⟩
          have hw2 := hw.symm
          subst hw2
          clear hw
          rw [G4.out]
          simp only [Option.getD_some, Option.isSome_some]
          go_wp2_with (refine wpList_snoc (e := 3) (base := X + 1) (Q := fun _ => False) (r := Rep.int .i64) rfl rfl _ _ 30 _ rfl rfl rfl (.int .i64 0) 1 8 Try.underlying30 info3 rfl (by decide) rfl _ q HA6.out (pn : Int) _ (by exact rfl) ⟨_, rfl, rfl, hpw.out⟩ (by exact rfl) (by exact rfl) L.out.1 L.out.2 HSZ.out ?_; intro s7 w7 hacc7 hgr7 hat7; rw [← QE.out] at hacc7; have HA7 := Lib.hid hacc7; have HG7 := Lib.hid hgr7; obtain ⟨A7, c7, rfl, _, _⟩ := Rep.acc_form hacc7; have HBX7 := Lib.hid ((hgr7.block X (by have := HSZ.out; omega) (fun e => by have := (Rep.acc_own HA6.out _ e.symm).1; omega)).trans HBX6.out); clear hacc7 hgr7 hat7; have e7 := cell_row HBX7.out 7; have z7 := frozen_row HBX7.out 7)
          have hown7 := Rep.acc_own HA7.out
          exact ⟨⟨j + 1, q7, _, by have := HAT.out; go_num, HJ.out, Lib.hid (by rw [T.out]), (heap_setRow HBX7.out).trans rfl,
            by exact Rep.acc_keep (fun b hb _ => Below.heap_setCell _ _ _ _ (by rcases hb with hb | hb; exact hb.elim; have := (hown7 b hb).1; show b ≠ X; omega)) (fun _ h _ => h) HA7.out,
            (HB6.out.grown HG7.out HB6.out.size (fun k hk => by have := (Rep.acc_own HA6.out k hk).1; have := HX3.out; omega)).setCell (p := ⟨X, 7, none⟩) HX3.out _, by have := HG7.out.size; have := HSZ.out; simp; omega⟩, by have := HAT.out; simp [intOf]; omega⟩
        · have HJ := Lib.hid (show j = (b.length - 28) / 2 by omega)
          have HV9 := Lib.hid (show rSuper.val (fun k => w.heap.size < k) wr (.agg #[.int .i64 y.epoch, .int .i64 y.no, .int .i64 (n1 : Int), .int .i64 (n2 : Int), .int .i64 n3, .int .i64 n4, .int .i64 (n5 : Int), .slice A6 q.length c6]) ⟨y.epoch, y.no, (n1 : Int), (n2 : Int), n3, n4, (n5 : Int), q⟩ by
            obtain ⟨A8, c8, he, h8⟩ := Rep.val_sl (Rep.acc_fresh HA6.out)
            cases he
            exact rSuper_agg (x := ⟨y.epoch, y.no, (n1 : Int), (n2 : Int), n3, n4, (n5 : Int), q⟩) F0.out F1.out NW1.out NW2.out NW3.out NW4.out NW5.out (h8.keep fun k hk _ => ⟨by have := HX3.out; have := D3.out.size; have := HZ1.out; show w.heap.size < k; have hk2 : X + 1 ≤ k := hk; omega, rfl⟩))
          have HXR := Lib.hid (show superRead y.epoch y.no b = ⟨y.epoch, y.no, (n1 : Int), (n2 : Int), n3, n4, (n5 : Int), q⟩ by rw [XR.out, HQ.out, HJ.out])
          have KRr := Lib.hid (KR.out _ (DD.out _ HB6.out))
          have BWr := Lib.hid (HB1.out.trans ((DD.out _ HB6.out).mono HB1.out.size))
          have HLr := Lib.hid (Rep.val_below HX.out BWr.out fun _ _ hb => hb.lt)
          have QL := Lib.hid (show q.length ≤ 1000000 by rw [HQ.out, pagesAt_length]; omega)
          clear hbx hat6 hj
          have x0 := cell_row (HBX6.out) 0
          have x1 := cell_row (HBX6.out) 1
          have x2 := cell_row (HBX6.out) 2
          have x3 := cell_row (HBX6.out) 3
          have x4 := cell_row (HBX6.out) 4
          have x5 := cell_row (HBX6.out) 5
          have x6 := cell_row (HBX6.out) 6
          have x7 := cell_row (HBX6.out) 7
          go_wp2_with fail
          refine (rsuperRight_calls HV9.out).mono ?_
          rintro e w10 ⟨rfl, hb10⟩
          have HX10 := Lib.hid ((hb10.block X (IsC.lt ⟨_, _, _, HBX6.out⟩)).trans HBX6.out)
          have KR10 := Lib.hid ((hb10.block w.heap.size (IsC.lt ⟨_, _, _, KRr.out⟩)).trans KRr.out)
          have BW10 := Lib.hid (BWr.out.trans (hb10.mono BWr.out.size))
          have HV10 := Lib.hid (Rep.val_keep (Q' := fun k => w.heap.size < k) (fun k hk hl => ⟨hk, hb10.block k hl.lt⟩) HV9.out)
          have HL10 := Lib.hid (Rep.val_below HLr.out hb10 fun _ _ hb => hb.lt)
          clear x0 x1 x2 x3 x4 x5 x6 x7 hb10
          cases hr : superRight ⟨y.epoch, y.no, (n1 : Int), (n2 : Int), n3, n4, (n5 : Int), q⟩ with
          | false =>
            have HF := Lib.hid (show superGet l = none by rw [HSG.out]; exact if_neg (fun h => by have := h.2.2; rw [HXR.out, hr] at this; cases this))
            clear hr
            have e0 := cell_row (KR10.out) 0
            have e1 := cell_row (KR10.out) 1
            have e2 := cell_row (KR10.out) 2
            have e3 := cell_row (KR10.out) 3
            have e4 := cell_row (KR10.out) 4
            have e5 := cell_row (KR10.out) 5
            have e6 := cell_row (KR10.out) 6
            have e7 := cell_row (KR10.out) 7
            have z0 := frozen_row (KR10.out) 0
            have z1 := frozen_row (KR10.out) 1
            have z2 := frozen_row (KR10.out) 2
            have z3 := frozen_row (KR10.out) 3
            have z4 := frozen_row (KR10.out) 4
            have z5 := frozen_row (KR10.out) 5
            have z6 := frozen_row (KR10.out) 6
            have z7 := frozen_row (KR10.out) 7
            go_wp2_with fail
            refine ⟨rfl, .tuple #[.agg #[.int .i64 0, .int .i64 0, .int .i64 0, .int .i64 0, .int .i64 0, .int .i64 0, .int .i64 0, .slice none 0 0], .bool false], ?_, ⟨_, by rw [HF.out]; rfl, by rw [HF.out]; exact superNone_val, set8_below (BW10.out) (Nat.le_refl _)⟩⟩
            simp only [results, hfr]
            go_simp
          | true =>
            have HIF := Lib.hid (show superBytes ⟨y.epoch, y.no, (n1 : Int), (n2 : Int), n3, n4, (n5 : Int), q⟩ = l ↔ b.length % 2 = 0 by have := HAG.out (by rw [HXR.out]; exact hr); rwa [HXR.out] at this)
            have HRT := Lib.hid hr
            clear hr
            have x0 := cell_row (HX10.out) 0
            have x1 := cell_row (HX10.out) 1
            have x2 := cell_row (HX10.out) 2
            have x3 := cell_row (HX10.out) 3
            have x4 := cell_row (HX10.out) 4
            have x5 := cell_row (HX10.out) 5
            have x6 := cell_row (HX10.out) 6
            have x7 := cell_row (HX10.out) 7
            go_wp2_with fail
            refine (rsuperPut_calls HV10.out QL.out).mono ?_
            rintro e w11 ⟨u11, rfl, hu11, hb11⟩
            have HX11 := Lib.hid ((hb11.block X (IsC.lt ⟨_, _, _, HX10.out⟩)).trans HX10.out)
            have KR11 := Lib.hid ((hb11.block w.heap.size (IsC.lt ⟨_, _, _, KR10.out⟩)).trans KR10.out)
            have BW11 := Lib.hid (BW10.out.trans (hb11.mono BW10.out.size))
            have HV11 := Lib.hid (Rep.val_keep (Q' := fun k => w.heap.size < k) (fun k hk hl => ⟨hk, hb11.block k hl.lt⟩) HV10.out)
            have HL11 := Lib.hid (Rep.val_below HL10.out hb11 fun _ _ hb => hb.lt)
            have HU11 := Lib.hid hu11
            obtain ⟨A11, c11, rfl, _, _, _⟩ := Rep.val_list hu11
            clear x0 x1 x2 x3 x4 x5 x6 x7 hb11 hu11
            go_wp2_with fail
            refine (sameBytes HU11.out HL11.out).mono ?_
            rintro e w12 ⟨rfl, hw⟩
            have hw2 := hw.symm
            subst hw2
            clear hw
            by_cases hev : b.length % 2 = 0
            · have HF := Lib.hid (show superGet l = some ⟨y.epoch, y.no, (n1 : Int), (n2 : Int), n3, n4, (n5 : Int), q⟩ by rw [HSG.out, HXR.out]; exact if_pos ⟨H28.out, hev, HRT.out⟩)
              rw [decide_eq_true (HIF.out.2 hev)]
              clear hev
              have e0 := cell_row (KR11.out) 0
              have e1 := cell_row (KR11.out) 1
              have e2 := cell_row (KR11.out) 2
              have e3 := cell_row (KR11.out) 3
              have e4 := cell_row (KR11.out) 4
              have e5 := cell_row (KR11.out) 5
              have e6 := cell_row (KR11.out) 6
              have e7 := cell_row (KR11.out) 7
              have z0 := frozen_row (KR11.out) 0
              have z1 := frozen_row (KR11.out) 1
              have z2 := frozen_row (KR11.out) 2
              have z3 := frozen_row (KR11.out) 3
              have z4 := frozen_row (KR11.out) 4
              have z5 := frozen_row (KR11.out) 5
              have z6 := frozen_row (KR11.out) 6
              have z7 := frozen_row (KR11.out) 7
              have x0 := cell_row (HX11.out) 0
              have x1 := cell_row (HX11.out) 1
              have x2 := cell_row (HX11.out) 2
              have x3 := cell_row (HX11.out) 3
              have x4 := cell_row (HX11.out) 4
              have x5 := cell_row (HX11.out) 5
              have x6 := cell_row (HX11.out) 6
              have x7 := cell_row (HX11.out) 7
              go_wp2_with fail
              refine ⟨rfl, .tuple #[.agg #[.int .i64 y.epoch, .int .i64 y.no, .int .i64 (n1 : Int), .int .i64 (n2 : Int), .int .i64 n3, .int .i64 n4, .int .i64 (n5 : Int), .slice A6 q.length c6], .bool true], ?_, ⟨_, by rw [HF.out]; rfl, by rw [HF.out]; exact Rep.val_keep (fun k hk _ => ⟨Nat.le_of_lt hk, set8_keep (Nat.ne_of_gt hk)⟩) HV11.out, set8_below (BW11.out) (Nat.le_refl _)⟩⟩
              simp only [results, hfr]
              go_simp
            · have HF := Lib.hid (show superGet l = none by rw [HSG.out]; exact if_neg (fun h => hev h.2.1))
              rw [decide_eq_false (fun h => hev (HIF.out.1 h))]
              clear hev
              have e0 := cell_row (KR11.out) 0
              have e1 := cell_row (KR11.out) 1
              have e2 := cell_row (KR11.out) 2
              have e3 := cell_row (KR11.out) 3
              have e4 := cell_row (KR11.out) 4
              have e5 := cell_row (KR11.out) 5
              have e6 := cell_row (KR11.out) 6
              have e7 := cell_row (KR11.out) 7
              have z0 := frozen_row (KR11.out) 0
              have z1 := frozen_row (KR11.out) 1
              have z2 := frozen_row (KR11.out) 2
              have z3 := frozen_row (KR11.out) 3
              have z4 := frozen_row (KR11.out) 4
              have z5 := frozen_row (KR11.out) 5
              have z6 := frozen_row (KR11.out) 6
              have z7 := frozen_row (KR11.out) 7
              go_wp2_with fail
              refine ⟨rfl, .tuple #[.agg #[.int .i64 0, .int .i64 0, .int .i64 0, .int .i64 0, .int .i64 0, .int .i64 0, .int .i64 0, .slice none 0 0], .bool false], ?_, ⟨_, by rw [HF.out]; rfl, by rw [HF.out]; exact superNone_val, set8_below (BW11.out) (Nat.le_refl _)⟩⟩
              simp only [results, hfr]
              go_simp
end Go.Proofs.Ythjjnlilpklacaa
