/- Walk of the seal of a sector: the reference's. -/
import Derived.Test.YtfpmkenobphfnaaPstRSeal
import Derived.Test.YtfpmkenobphfnaaPstSealGet
namespace Go.Proofs.Ytfpmkenobphfnaa
open Go.RowKit
open Extern.Stop (cell)

/-- A seal in a box, its body of the call's own. -/
structure Got (w W : World) (X : Nat) (n1 n2 n3 : Int) (A5 : Option Addr) (c5 : Nat) (Y : List UInt8) : Prop where
  xb : W.heap[X]? = some (.cells #[.int .i64 n1, .int .i64 n2, .int .i64 n3, .slice A5 Y.length c5] 224 (0, 0))
  rb : W.heap[w.heap.size]? = some (.cells #[.int .i64 0, .int .i64 0, .int .i64 0, .slice none 0 0] 224 (0, 0))
  bel : Below w.heap.size w W
  sl : Rep.byte.Sl (fun k => w.heap.size < k) W A5 c5 Y
  ok : w.heap.size < X
theorem acc_sl {w W : World} {B : Nat} {A5 : Option Addr} {c5 : Nat} {Y : List UInt8} (hB : w.heap.size < B) (h : Rep.byte.acc 5 B (fun _ => False) W (.slice A5 Y.length c5) Y) {W' : World} (hk : ∀ k, (Value.slice A5 Y.length c5).ownBlock = some k → k < W.heap.size → W'.heap[k]? = W.heap[k]?) : Rep.byte.Sl (fun k => w.heap.size < k) W' A5 c5 Y := by
  obtain ⟨A', c', he, hs⟩ := Rep.val_sl (Rep.acc_val h)
  cases he
  refine hs.keep fun k hk2 hl => ?_
  rcases hk2 with hk2 | hk2
  · exact hk2.elim
  · have := Rep.acc_own h k hk2
    exact ⟨by show w.heap.size < k; omega, hk k hk2 hl.lt⟩
theorem got_new {w W1 w4 : World} {n1 n2 n3 : Int} {A5 : Option Addr} {c5 : Nat} {Y : List UInt8} (hz : W1.heap.size = w.heap.size + 1) (hb1 : Below w.heap.size w W1) (hr1 : W1.heap[w.heap.size]? = some (.cells #[.int .i64 0, .int .i64 0, .int .i64 0, .slice none 0 0] 224 (0, 0)))
    (hb : Below W1.heap.size W1 w4) (h : Rep.byte.acc 5 W1.heap.size (fun _ => False) w4 (.slice A5 Y.length c5) Y) : Got w (w4.alloc (.cells #[.int .i64 n1, .int .i64 n2, .int .i64 n3, .slice A5 Y.length c5] 224)) w4.heap.size n1 n2 n3 A5 c5 Y := by
  have hs := hb.size
  exact ⟨heap_alloc_new _ _, (heap_alloc_old _ _ (by omega)).trans ((hb.block _ (by omega)).trans hr1), (hb1.trans (hb.mono hb1.size)).alloc (by omega) _, acc_sl (by omega) h fun k _ hk => heap_alloc_old _ _ hk, by omega⟩
theorem got_set {w W1 w4 : World} {X : Nat} {n1 n2 n3 : Int} {A5 : Option Addr} {c5 : Nat} {Y : List UInt8} (hz : W1.heap.size = w.heap.size + 1) (hb1 : Below w.heap.size w W1) (hr1 : W1.heap[w.heap.size]? = some (.cells #[.int .i64 0, .int .i64 0, .int .i64 0, .slice none 0 0] 224 (0, 0)))
    (hb : Below W1.heap.size W1 w4) (h : Rep.byte.acc 5 W1.heap.size (fun _ => False) w4 (.slice A5 Y.length c5) Y) (hX : W1.heap.size ≤ X) (hxb : w4.heap[X]? = some (.cells #[.int .i64 0, .int .i64 0, .int .i64 0, .slice none 0 0] 224 (0, 0))) (ho : (Value.slice A5 Y.length c5).ownBlock ≠ some X) :
    Got w ((((w4.setCell ⟨X, 0, none⟩ (.int .i64 n1)).setCell ⟨X, 1, none⟩ (.int .i64 n2)).setCell ⟨X, 2, none⟩ (.int .i64 n3)).setCell ⟨X, 3, none⟩ (.slice A5 Y.length c5)) X n1 n2 n3 A5 c5 Y := by
  have hb4 := hb1.trans (hb.mono hb1.size)
  exact ⟨heap_setRow (heap_setRow (heap_setRow (heap_setRow hxb))), (set4_keep (by omega)).trans ((hb.block _ (by omega)).trans hr1), below_set (below_set (below_set (below_set hb4 (by omega)) (by omega)) (by omega)) (by omega),
    acc_sl (by omega) h fun k hk _ => set4_keep (fun e => ho (by rw [hk, e])), by omega⟩

theorem getNum_at {b : List UInt8} {a w : Nat} (h1 : 1 ≤ w) (h8 : w ≤ 8) (h : a + w ≤ b.length) : getNum b a (w : Int) = some (i64of (natAt b a w)) := by
  rw [getNum_nat b a h1 h8, if_pos h]

set_option maxRecDepth 100000 in
set_option maxHeartbeats 4000000 in
/-- ref03.Get -/
theorem rsealGet_calls {Q : Nat → Prop} {w : World} {v : Value} {b : List UInt8} (hx : Rep.byte.list.val Q w v b) :
    Calls Try.prog 154 #[v] w (SealRes w b) := by
  have HX := Lib.hid hx
  obtain ⟨A0, c0, rfl, hc1, hc2, hA⟩ := Rep.val_list hx
  have HA := Lib.hid hA
  unfold maxLen at hc2
  obtain ⟨W1, hW1⟩ : ∃ W1, w.alloc (.cells #[.int .i64 0, .int .i64 0, .int .i64 0, .slice none 0 0] 224) = W1 := ⟨_, rfl⟩
  have hb1 : Below w.heap.size w W1 := by rw [← hW1]; exact (Below.refl _ _).alloc (Nat.le_refl _) _
  have hr1 : W1.heap[w.heap.size]? = some (.cells #[.int .i64 0, .int .i64 0, .int .i64 0, .slice none 0 0] 224 (0, 0)) := by rw [← hW1]; exact heap_alloc_new _ _
  have hz1 : W1.heap.size = w.heap.size + 1 := by rw [← hW1]; simp
  have HB1 := Lib.hid hb1
  have HR1 := Lib.hid hr1
  have HZ1 := Lib.hid hz1
  have HX1 := Lib.hid (Rep.val_below (B := w.heap.size) (Rep.val_any HX.out) HB1.out fun _ h _ => h)
  have hfr : Try.f154.results = #[.cell 2 224, .tmp 3] := rfl
  have e0 := cell_row hr1 0
  have e1 := cell_row hr1 1
  have e2 := cell_row hr1 2
  have e3 := cell_row hr1 3
  have z0 := frozen_row hr1 0
  have z1 := frozen_row hr1 1
  have z2 := frozen_row hr1 2
  have z3 := frozen_row hr1 3
  clear hx hA hb1 hr1 hz1
  by_cases hlen : (b.length : Int) = 512
  case neg =>
    have HF := Lib.hid (show sealGet b = none by unfold sealGet; rw [if_neg (fun h => hlen (by omega))])
    have hne : ((b.length : Int) == 512) = false := by simpa using hlen
    clear hlen
    go_enter Try.func154, Try.ntmps154
    go_wp2_with fail
    try rw [hW1]
    clear hW1
    go_wp2_with fail
    refine ⟨rfl, .tuple #[.agg #[.int .i64 0, .int .i64 0, .int .i64 0, .slice none 0 0], .bool false], ?_, ⟨_, by rw [HF.out]; rfl, by rw [HF.out]; exact seal0_val, below_set (below_set (below_set (below_set HB1.out (Nat.le_refl _)) (Nat.le_refl _)) (Nat.le_refl _)) (Nat.le_refl _)⟩⟩
    simp only [results, hfr]
    go_simp
  case pos =>
    have HL := Lib.hid (show b.length = 512 by omega)
    have HG1 := Lib.hid (show getNum b 0 8 = some (i64of (natAt b 0 8)) from getNum_at (w := 8) (a := 0) (by decide) (by decide) (by have := HL.out; omega))
    have HG2 := Lib.hid (show getNum b 8 8 = some (i64of (natAt b 8 8)) from getNum_at (w := 8) (a := 8) (by decide) (by decide) (by have := HL.out; omega))
    have HG3 := Lib.hid (show getNum b 22 2 = some (natAt b 22 2 : Int) by rw [← i64of_natAt b 22 2 (by decide)]; exact getNum_at (w := 2) (a := 22) (by decide) (by decide) (by have := HL.out; omega))
    have HN1 := Lib.hid (i64of_wf (natAt b 0 8))
    have HN2 := Lib.hid (i64of_wf (natAt b 8 8))
    have hk3 := natAt_lt b 20 1
    have HW3 := Lib.hid (show (Lit.int .i64 (natAt b 20 1 : Int)).wf = true from wf_i64 (by omega) (by omega))
    clear hk3
    by_cases h4 : (472 : Int) < natAt b 22 2
    · have HF := Lib.hid (show sealGet b = none by unfold sealGet; rw [if_neg (fun h => by have := h.2.1; omega)])
      generalize i64of (natAt b 0 8) = n1 at *
      generalize i64of (natAt b 8 8) = n2 at *
      generalize natAt b 22 2 = n4 at *
      go_enter Try.func154, Try.ntmps154
      go_wp2_with fail
      try rw [hW1]
      clear hW1
      go_wp2_with fail
      refine (rget_calls HX1.out rfl).mono ?_
      rintro e w' ⟨rfl, hw⟩
      have hw2 := hw.symm
      subst hw2
      clear hw
      rw [HG1.out]
      simp only [Option.getD_some, Option.isSome_some]
      go_wp2_with fail
      refine (rget_calls HX1.out rfl).mono ?_
      rintro e w' ⟨rfl, hw⟩
      have hw2 := hw.symm
      subst hw2
      clear hw
      rw [HG2.out]
      simp only [Option.getD_some, Option.isSome_some]
      go_wp2_with fail
      refine (rget_calls HX1.out rfl).mono ?_
      rintro e w' ⟨rfl, hw⟩
      have hw2 := hw.symm
      subst hw2
      clear hw
      rw [HG3.out]
      simp only [Option.getD_some, Option.isSome_some]
      go_wp2_with fail
      refine ⟨rfl, .tuple #[.agg #[.int .i64 0, .int .i64 0, .int .i64 0, .slice none 0 0], .bool false], ?_, ⟨_, by rw [HF.out]; rfl, by rw [HF.out]; exact seal0_val, below_set (below_set (below_set (below_set HB1.out (Nat.le_refl _)) (Nat.le_refl _)) (Nat.le_refl _)) (Nat.le_refl _)⟩⟩
      simp only [results, hfr]
      go_simp
    · have HS := Lib.hid (show sealRead b = ⟨i64of (natAt b 0 8), i64of (natAt b 8 8), natAt b 20 1, (b.drop 24).take (natAt b 22 2)⟩ from rfl)
      have HNO := Lib.hid (natAt_one (b := b) (at_ := 20) (by have := HL.out; omega))
      obtain ⟨bb, off, hA0⟩ := Rep.At.addr HA.out (by have := HL.out; omega)
      subst hA0
      have h20 : 20 < b.length := by omega
      obtain ⟨bb', off', he, d20⟩ := Rep.At.byte (Rep.At.keep (w := w) (w' := W1) (Q' := fun _ => True) (fun x _ hl => ⟨trivial, HB1.out.block x hl.lt⟩) HA.out) (List.getElem?_eq_getElem h20)
      cases he
      rw [← HNO.out] at d20
      have h24 : (natAt b 22 2 : Int) ≤ 472 := by omega
      have HVB := Lib.hid (show ∀ W, Below w.heap.size w W → Rep.byte.list.val (fun k => k < w.heap.size) W (.slice (some ⟨bb, off + 24, none⟩) (natAt b 22 2) (c0 - 24)) ((b.drop 24).take (natAt b 22 2)) from fun W h => by
        have hl := HL.out
        refine Rep.list_val (by rw [List.length_take, List.length_drop]; omega) (by omega) (by unfold maxLen; omega) (Rep.At.take (by have := Rep.At.drop (Rep.At.keep (w := w) (w' := W) (Q' := fun k => k < w.heap.size) (fun x _ hx => ⟨hx.lt, h.block x hx.lt⟩) HA.out) (n := 24) (by omega); simpa [Rep.byte] using this) _)
        )
      generalize i64of (natAt b 0 8) = n1 at *
      generalize i64of (natAt b 8 8) = n2 at *
      have H472 := Lib.hid (show natAt b 22 2 ≤ 472 by omega)
      obtain ⟨n4, hn4⟩ : ∃ n, n = natAt b 22 2 := ⟨_, rfl⟩
      rw [← hn4] at HG3 h24 HVB HS h4
      clear hn4
      generalize natAt b 20 1 = n3 at *
      go_enter Try.func154, Try.ntmps154
      go_wp2_with fail
      try rw [hW1]
      clear hW1
      go_wp2_with fail
      refine (rget_calls HX1.out rfl).mono ?_
      rintro e w' ⟨rfl, hw⟩
      have hw2 := hw.symm
      subst hw2
      clear hw
      rw [HG1.out]
      simp only [Option.getD_some, Option.isSome_some]
      go_wp2_with fail
      refine (rget_calls HX1.out rfl).mono ?_
      rintro e w' ⟨rfl, hw⟩
      have hw2 := hw.symm
      subst hw2
      clear hw
      rw [HG2.out]
      simp only [Option.getD_some, Option.isSome_some]
      go_wp2_with fail
      refine (rget_calls HX1.out rfl).mono ?_
      rintro e w' ⟨rfl, hw⟩
      have hw2 := hw.symm
      subst hw2
      clear hw
      rw [HG3.out]
      simp only [Option.getD_some, Option.isSome_some]
      go_wp2_with fail
      have k0 : (24 : Int) + n4 ≤ c0 := by have := HL.out; omega
      have k1 : (24 : Int) ≤ 24 + n4 := by omega
      have k2 : IntKind.i64.wrap ((24 : Int) + n4) = 24 + n4 := IntWalk.i64_in _ ⟨by omega, by omega⟩
      have k3 : ¬ c0 = 24 := by have := HL.out; omega
      have k4 : ((24 : Int) + n4).toNat - 24 = n4 := by omega
      have k5 : IntKind.i64.wrap (n3 : Int) = n3 := IntWalk.i64_in _ (by have := HW3.out; simp [Lit.wf, IntKind.min, IntKind.max, IntKind.signed, IntKind.bits] at this; omega)
      have k6 : (20 : Int) < b.length := by omega
      have k7 : (0 : Int) ≤ 24 + n4 := by omega
      clear e0 e1 e2 e3 z0 z1 z2 z3
      have HYL := Lib.hid (show ((b.drop 24).take n4).length = n4 by have := HL.out; rw [List.length_take, List.length_drop]; omega)
      generalize (b.drop 24).take n4 = Y at *
      have LY := Lib.hid (show ([] : List UInt8).length + Y.length ≤ maxLen ∧ (([] : List UInt8).length + Y.length) * 1 ≤ 140737488355328 by have := HYL.out; simp only [List.length_nil]; unfold maxLen; omega)
      have BA := Lib.hid (show Below W1.heap.size W1 (W1.drew.alloc (.cells #[] 5)) from (Below.refl W1.heap.size W1).drew.alloc (Nat.le_refl _) _)
      have BZ := Lib.hid (show Below W1.heap.size W1 (W1.drew.alloc (.cells #[.int .i64 0, .int .i64 0, .int .i64 0, .slice none 0 0] 224)) from (Below.refl W1.heap.size W1).drew.alloc (Nat.le_refl _) _)
      have BB := Lib.hid (show Below W1.heap.size W1 ((W1.drew.alloc (.cells #[.int .i64 0, .int .i64 0, .int .i64 0, .slice none 0 0] 224)).alloc (.cells #[] 5)) from BZ.out.alloc BZ.out.size _)
      have BC := Lib.hid (show Below W1.heap.size W1 ((W1.drew.alloc (.cells #[] 5)).alloc (.cells #[.int .i64 0, .int .i64 0, .int .i64 0, .slice none 0 0] 224)) from BA.out.alloc BA.out.size _)
      have SA := Lib.hid BA.out.size
      have SB := Lib.hid BB.out.size
      have SC := Lib.hid BC.out.size
      have VA := Lib.hid (HB1.out.trans (BA.out.mono HB1.out.size))
      have VB := Lib.hid (HB1.out.trans (BB.out.mono HB1.out.size))
      have VC := Lib.hid (HB1.out.trans (BC.out.mono HB1.out.size))
      have AA := Lib.hid (show Rep.byte.acc 5 W1.heap.size (fun _ => False) (W1.drew.alloc (.cells #[] 5)) (.slice (some ⟨W1.heap.size, 0, none⟩) 0 0) [] from Rep.acc_made (r := Rep.byte) W1.drew #[] 0 (Nat.le_refl _) (by decide) rfl)
      have AB := Lib.hid (show Rep.byte.acc 5 W1.heap.size (fun _ => False) ((W1.drew.alloc (.cells #[.int .i64 0, .int .i64 0, .int .i64 0, .slice none 0 0] 224)).alloc (.cells #[] 5)) (.slice (some ⟨W1.heap.size + 1, 0, none⟩) 0 0) [] from by
        have h := Rep.acc_made (r := Rep.byte) (e := 5) (base := W1.heap.size) (Q := fun _ => False) (W1.drew.alloc (.cells #[.int .i64 0, .int .i64 0, .int .i64 0, .slice none 0 0] 224)) #[] 0 BZ.out.size (by decide) rfl
        simpa using h)
      have AC := Lib.hid (show Rep.byte.acc 5 W1.heap.size (fun _ => False) ((W1.drew.alloc (.cells #[] 5)).alloc (.cells #[.int .i64 0, .int .i64 0, .int .i64 0, .slice none 0 0] 224)) (.slice (some ⟨W1.heap.size, 0, none⟩) 0 0) [] from Rep.acc_later AA.out ((Below.refl _ _).alloc (Nat.le_refl _) _))
      have XXB := Lib.hid (show W1.heap.size < ((W1.drew.alloc (.cells #[.int .i64 0, .int .i64 0, .int .i64 0, .slice none 0 0] 224)).alloc (.cells #[] 5)).heap.size ∧ (Value.slice (some ⟨W1.heap.size + 1, 0, none⟩) 0 0).ownBlock ≠ some W1.heap.size ∧ ((W1.drew.alloc (.cells #[.int .i64 0, .int .i64 0, .int .i64 0, .slice none 0 0] 224)).alloc (.cells #[] 5)).heap[W1.heap.size]? = some (.cells #[.int .i64 0, .int .i64 0, .int .i64 0, .slice none 0 0] 224 (0, 0)) from
        ⟨by simp; omega, by simp [Value.ownBlock], (heap_alloc_old _ _ (by simp)).trans (heap_alloc_new W1.drew (.cells #[.int .i64 0, .int .i64 0, .int .i64 0, .slice none 0 0] 224))⟩)
      have XXC := Lib.hid (show W1.heap.size + 1 < ((W1.drew.alloc (.cells #[] 5)).alloc (.cells #[.int .i64 0, .int .i64 0, .int .i64 0, .slice none 0 0] 224)).heap.size ∧ (Value.slice (some ⟨W1.heap.size, 0, none⟩) 0 0).ownBlock ≠ some (W1.heap.size + 1) ∧ ((W1.drew.alloc (.cells #[] 5)).alloc (.cells #[.int .i64 0, .int .i64 0, .int .i64 0, .slice none 0 0] 224)).heap[W1.heap.size + 1]? = some (.cells #[.int .i64 0, .int .i64 0, .int .i64 0, .slice none 0 0] 224 (0, 0)) from
        ⟨by simp, by simp [Value.ownBlock], by have h := heap_alloc_new (W1.drew.alloc (.cells #[] 5)) (.cells #[.int .i64 0, .int .i64 0, .int .i64 0, .slice none 0 0] 224); simpa using h⟩)
      have hbb : bb < w.heap.size := by
        obtain ⟨es, hrow, hc⟩ := HA.out
        obtain ⟨b', o', he, _, hic, _⟩ := hc (by have := HL.out; omega)
        cases he; exact hic.lt
      have KS := Lib.hid (show ∀ W, Below W1.heap.size W1 W → W.cell? ⟨bb, off + 20, none⟩ = some (.int .u8 n3) from fun W h => (h.cell (p := ⟨bb, off + 20, none⟩) (Nat.lt_of_lt_of_le hbb HB1.out.size)).trans d20)
      go_region_held3 (fun W => W.cell? ⟨bb, off + 20, none⟩ = some (.int .u8 n3))
        (first
          | exact KS.out _ (Below.refl W1.heap.size W1).drew
          | exact KS.out _ BA.out
          | exact KS.out _ BZ.out
          | exact KS.out _ BB.out
          | exact KS.out _ BC.out
          | exact KS.out _ HB4.out
          | exact KS.out _ (HB4.out.alloc HB4.out.size _)
          | exact KS.out _ (below_set (below_set (below_set (below_set HB4.out (Nat.le_refl _)) (Nat.le_refl _)) (Nat.le_refl _)) (Nat.le_refl _))
          | exact KS.out _ (below_set (below_set (below_set (below_set HB4.out (Nat.le_succ _)) (Nat.le_succ _)) (Nat.le_succ _)) (Nat.le_succ _))
          | (trace_state; fail)) (first
        | (refine step_spread_leaf (e := 5) (base := W1.heap.size) (Q := fun _ => False) Rep.leaf_byte rfl _ _ 36 rfl (.int .u8 0) 1 1 Try.underlying36 info5 rfl (by decide) rfl _ [] (by rfl) AA.out _ Y (by rfl) (HVB.out _ VA.out) LY.out.1 LY.out.2 SA.out ?_; intro v4 w4 hacc hgr hat; rw [List.nil_append] at hacc; have HF4 := Lib.hid hacc; have HB4 := Lib.hid (Rep.acc_below AA.out BA.out hgr SA.out); obtain ⟨A5, c5, rfl, _, _⟩ := Rep.acc_form hacc; clear hacc hgr hat)
        | (refine step_spread_leaf (e := 5) (base := W1.heap.size) (Q := fun _ => False) Rep.leaf_byte rfl _ _ 36 rfl (.int .u8 0) 1 1 Try.underlying36 info5 rfl (by decide) rfl _ [] (by rfl) AB.out _ Y (by rfl) (HVB.out _ VB.out) LY.out.1 LY.out.2 SB.out ?_; intro v4 w4 hacc hgr hat; rw [List.nil_append] at hacc; have HF4 := Lib.hid hacc; have HB4 := Lib.hid (Rep.acc_below AB.out BB.out hgr SB.out); have XB := Lib.hid (show w4.heap[W1.heap.size]? = some (.cells #[.int .i64 0, .int .i64 0, .int .i64 0, .slice none 0 0] 224 (0, 0)) from (hgr.block _ XXB.out.1 (fun e => XXB.out.2.1 e.symm)).trans XXB.out.2.2); have XO := Lib.hid (show v4.ownBlock ≠ some W1.heap.size from by rcases hat with h | h; exact fun e => XXB.out.2.1 (h.symm.trans e); exact fun e => absurd (Option.some.inj (h.symm.trans e)) (Nat.ne_of_gt XXB.out.1)); have e0 := cell_row XB.out 0; have e1 := cell_row XB.out 1; have e2 := cell_row XB.out 2; have e3 := cell_row XB.out 3; have z0 := frozen_row XB.out 0; have z1 := frozen_row XB.out 1; have z2 := frozen_row XB.out 2; have z3 := frozen_row XB.out 3; obtain ⟨A5, c5, rfl, _, _⟩ := Rep.acc_form hacc; clear hacc hgr hat)
        | (refine step_spread_leaf (e := 5) (base := W1.heap.size) (Q := fun _ => False) Rep.leaf_byte rfl _ _ 36 rfl (.int .u8 0) 1 1 Try.underlying36 info5 rfl (by decide) rfl _ [] (by rfl) AC.out _ Y (by rfl) (HVB.out _ VC.out) LY.out.1 LY.out.2 SC.out ?_; intro v4 w4 hacc hgr hat; rw [List.nil_append] at hacc; have HF4 := Lib.hid hacc; have HB4 := Lib.hid (Rep.acc_below AC.out BC.out hgr SC.out); have XB := Lib.hid (show w4.heap[W1.heap.size + 1]? = some (.cells #[.int .i64 0, .int .i64 0, .int .i64 0, .slice none 0 0] 224 (0, 0)) from (hgr.block _ XXC.out.1 (fun e => XXC.out.2.1 e.symm)).trans XXC.out.2.2); have XO := Lib.hid (show v4.ownBlock ≠ some (W1.heap.size + 1) from by rcases hat with h | h; exact fun e => XXC.out.2.1 (h.symm.trans e); exact fun e => absurd (Option.some.inj (h.symm.trans e)) (Nat.ne_of_gt XXC.out.1)); have e0 := cell_row XB.out 0; have e1 := cell_row XB.out 1; have e2 := cell_row XB.out 2; have e3 := cell_row XB.out 3; have z0 := frozen_row XB.out 0; have z1 := frozen_row XB.out 1; have z2 := frozen_row XB.out 2; have z3 := frozen_row XB.out 3; obtain ⟨A5, c5, rfl, _, _⟩ := Rep.acc_form hacc; clear hacc hgr hat))
      all_goals
        first
          | (have HG := Lib.hid (got_set (n1 := n1) (n2 := n2) (n3 := n3) (X := W1.heap.size) HZ1.out HB1.out HR1.out HB4.out HF4.out (Nat.le_refl _) XB.out XO.out)
             generalize (((w4.setCell ⟨W1.heap.size, 0, none⟩ (.int .i64 n1)).setCell ⟨W1.heap.size, 1, none⟩ (.int .i64 n2)).setCell ⟨W1.heap.size, 2, none⟩ (.int .i64 n3)).setCell ⟨W1.heap.size, 3, none⟩ (.slice A5 Y.length c5) = Wf at *
             generalize hXX : W1.heap.size = X at HG ⊢)
          | (have HG := Lib.hid (got_set (n1 := n1) (n2 := n2) (n3 := n3) (X := W1.heap.size + 1) HZ1.out HB1.out HR1.out HB4.out HF4.out (Nat.le_succ _) XB.out XO.out)
             generalize (((w4.setCell ⟨W1.heap.size + 1, 0, none⟩ (.int .i64 n1)).setCell ⟨W1.heap.size + 1, 1, none⟩ (.int .i64 n2)).setCell ⟨W1.heap.size + 1, 2, none⟩ (.int .i64 n3)).setCell ⟨W1.heap.size + 1, 3, none⟩ (.slice A5 Y.length c5) = Wf at *
             generalize hXX : W1.heap.size + 1 = X at HG ⊢)
          | (have HG := Lib.hid (got_new (n1 := n1) (n2 := n2) (n3 := n3) HZ1.out HB1.out HR1.out HB4.out HF4.out)
             generalize w4.alloc (.cells #[.int .i64 n1, .int .i64 n2, .int .i64 n3, .slice A5 Y.length c5] 224) = Wf at *
             generalize hXX : w4.heap.size = X at HG ⊢)
        have HXX := Lib.hid hXX
        clear hXX
        try clear e0 e1 e2 e3 z0 z1 z2 z3
        have HV := Lib.hid (show rSeal.val (fun k => w.heap.size < k) Wf (.agg #[.int .i64 n1, .int .i64 n2, .int .i64 n3, .slice A5 Y.length c5]) (sealRead b) by rw [HS.out]; exact rSeal_agg (x := ⟨n1, n2, n3, Y⟩) HN1.out HN2.out HW3.out HG.out.sl)
        have hXR := HG.out.ok
        have e0 := cell_row HG.out.xb 0
        have e1 := cell_row HG.out.xb 1
        have e2 := cell_row HG.out.xb 2
        have e3 := cell_row HG.out.xb 3
        go_wp2_with fail
        refine (rsealPut_calls HV.out).mono ?_
        rintro e w6 ⟨u, rfl, hu, hb6⟩
        have HU := Lib.hid hu
        have HB6 := Lib.hid hb6
        have HX6 := Lib.hid (Rep.val_below (B := w.heap.size) (Rep.val_any HX.out) (HG.out.bel.trans (hb6.mono HG.out.bel.size)) fun _ h _ => h)
        clear hu hb6 e0 e1 e2 e3
        go_wp2_with fail
        refine (sameBytes HU.out HX6.out).mono ?_
        rintro e w7 ⟨rfl, hw⟩
        have hw2 := hw.symm
        subst hw2
        clear hw
        have xb := (HB6.out.block X (IsC.lt ⟨_, _, _, HG.out.xb⟩)).trans HG.out.xb
        have rb := (HB6.out.block _ (IsC.lt ⟨_, _, _, HG.out.rb⟩)).trans HG.out.rb
        have HBw := Lib.hid (HG.out.bel.trans (HB6.out.mono HG.out.bel.size))
        have HV7 := Lib.hid (Rep.val_below (B := Wf.heap.size) HV.out HB6.out fun _ _ h => h.lt)
        have e0 := cell_row xb 0
        have e1 := cell_row xb 1
        have e2 := cell_row xb 2
        have e3 := cell_row xb 3
        have r0 := cell_row rb 0
        have r1 := cell_row rb 1
        have r2 := cell_row rb 2
        have r3 := cell_row rb 3
        have z0 := frozen_row rb 0
        have z1 := frozen_row rb 1
        have z2 := frozen_row rb 2
        have z3 := frozen_row rb 3
        clear xb rb
        by_cases heq : sealBytes (sealRead b) = b
        · have HF := Lib.hid (show sealGet b = some (sealRead b) by unfold sealGet; rw [if_pos ⟨HL.out, H472.out, heq⟩])
          rw [decide_eq_true heq]
          clear heq
          go_wp2_with fail
          refine ⟨rfl, .tuple #[.agg #[.int .i64 n1, .int .i64 n2, .int .i64 n3, .slice A5 Y.length c5], .bool true], ?_, ⟨_, by rw [HF.out]; rfl, by rw [HF.out]; exact Rep.val_keep (fun k hk _ => ⟨Nat.le_of_lt hk, set4_keep (Nat.ne_of_gt hk)⟩) HV7.out, below_set (below_set (below_set (below_set HBw.out (Nat.le_refl _)) (Nat.le_refl _)) (Nat.le_refl _)) (Nat.le_refl _)⟩⟩
          simp only [results, hfr]
          go_simp
        · have HF := Lib.hid (show sealGet b = none by unfold sealGet; rw [if_neg (fun h => heq h.2.2)])
          rw [decide_eq_false heq]
          clear heq
          go_wp2_with fail
          refine ⟨rfl, .tuple #[.agg #[.int .i64 0, .int .i64 0, .int .i64 0, .slice none 0 0], .bool false], ?_, ⟨_, by rw [HF.out]; rfl, by rw [HF.out]; exact seal0_val, below_set (below_set (below_set (below_set HBw.out (Nat.le_refl _)) (Nat.le_refl _)) (Nat.le_refl _)) (Nat.le_refl _)⟩⟩
          simp only [results, hfr]
          go_simp
end Go.Proofs.Ytfpmkenobphfnaa
