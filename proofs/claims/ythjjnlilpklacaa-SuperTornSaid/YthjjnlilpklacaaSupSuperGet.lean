/- Walk of super.Get. Printed by gen_superget.py. -/
import Derived.Test.YthjjnlilpklacaaSupSealGet
import Derived.Test.YthjjnlilpklacaaSupSuperChoose
import Derived.Test.YthjjnlilpklacaaSupSuperHead
import Derived.Test.YthjjnlilpklacaaSupSuperRight
namespace Go.Proofs.Ythjjnlilpklacaa
open Go.RowKit

theorem share {α β : Type} {G : Prop} (S : α → β → Prop) {Q : α → β → Prop} (leaf : (∀ x y, S x y → Q x y) → G) (main : ∀ x y, S x y → Q x y) : G := leaf main

theorem superNone_val {Q : Nat → Prop} {w : World} : rSuper.val Q w (.agg #[.int .i64 0, .int .i64 0, .int .i64 0, .int .i64 0, .int .i64 0, .int .i64 0, .int .i64 0, .slice none 0 0]) superNone :=
  rSuper_agg (x := superNone) rfl rfl rfl rfl rfl rfl rfl ⟨Nat.le_refl _, by simp [maxLen], [], rfl, fun h => absurd h (by simp [superNone])⟩
def set8 (W : World) (R : Nat) (v0 v1 v2 v3 v4 v5 v6 v7 : Value) : World := (((((((W.setCell ⟨R, 0, none⟩ v0).setCell ⟨R, 1, none⟩ v1).setCell ⟨R, 2, none⟩ v2).setCell ⟨R, 3, none⟩ v3).setCell ⟨R, 4, none⟩ v4).setCell ⟨R, 5, none⟩ v5).setCell ⟨R, 6, none⟩ v6).setCell ⟨R, 7, none⟩ v7
theorem set8_keep {W : World} {R k : Nat} {v0 v1 v2 v3 v4 v5 v6 v7 : Value} (h : k ≠ R) : (set8 W R v0 v1 v2 v3 v4 v5 v6 v7).heap[k]? = W.heap[k]? := by
  unfold set8
  rw [Below.heap_setCell _ _ _ _ h, Below.heap_setCell _ _ _ _ h, Below.heap_setCell _ _ _ _ h, Below.heap_setCell _ _ _ _ h, Below.heap_setCell _ _ _ _ h, Below.heap_setCell _ _ _ _ h, Below.heap_setCell _ _ _ _ h, Below.heap_setCell _ _ _ _ h]
theorem set8_below {B k : Nat} {w W : World} {v0 v1 v2 v3 v4 v5 v6 v7 : Value} (h : Below B w W) (hk : B ≤ k) : Below B w (set8 W k v0 v1 v2 v3 v4 v5 v6 v7) :=
  below_set (below_set (below_set (below_set (below_set (below_set (below_set (below_set h hk) hk) hk) hk) hk) hk) hk) hk
/-- A reader that has moved on; nothing else that was there has changed. -/
structure PreS (w0 : World) (p : Nat) (A : Option Addr) (c : Nat) (b : List UInt8) (w : World) (at_ : Nat) (bad : Bool) : Prop where
  g : w0.grownBy w (some p)
  r : RdrAt w p A c b at_ bad
theorem PreS.num {w0 : World} {p : Nat} {A : Option Addr} {c : Nat} {b : List UInt8} {w : World} {at_ : Nat} {bad : Bool} (h : PreS w0 p A c b w at_ bad) {r : Int × Nat × Bool} {w' : World}
    (h1 : RdrAt w' p A c b r.2.1 r.2.2) (h2 : w.grownBy w' (some p)) : PreS w0 p A c b w' r.2.1 r.2.2 := ⟨h.g.trans h2, h1⟩
/-- .. and a superblock of the call's own in the box bx. -/
structure MidS (w0 : World) (p bx : Nat) (A : Option Addr) (c : Nat) (b : List UInt8) (w : World) (at_ : Nat) (bad : Bool) (cs : Array Value) : Prop where
  g : w0.grownBy w (some p)
  x : w.heap[bx]? = some (.cells cs 114 (0, 0))
  r : RdrAt w p A c b at_ bad
theorem PreS.box {w0 : World} {p : Nat} {A : Option Addr} {c : Nat} {b : List UInt8} {w : World} {at_ : Nat} {bad : Bool} (h : PreS w0 p A c b w at_ bad) (cs : Array Value) : MidS w0 p w.heap.size A c b (w.alloc (.cells cs 114)) at_ bad cs :=
  ⟨h.g.trans (World.grownBy_alloc _ _ _), heap_alloc_new _ _, h.r.keep fun _ hl => Below.heap_alloc _ _ _ hl.lt⟩
theorem MidS.num {w0 : World} {p bx : Nat} {A : Option Addr} {c : Nat} {b : List UInt8} {w : World} {at_ : Nat} {bad : Bool} {cs : Array Value} (h : MidS w0 p bx A c b w at_ bad cs) (hne : bx ≠ p) {r : Int × Nat × Bool} {w' : World}
    (h1 : RdrAt w' p A c b r.2.1 r.2.2) (h2 : w.grownBy w' (some p)) : MidS w0 p bx A c b w' r.2.1 r.2.2 cs :=
  ⟨h.g.trans h2, (h2.block bx (IsC.lt ⟨_, _, _, h.x⟩) (fun e => hne (Option.some.inj e))).trans h.x, h1⟩
theorem MidS.drewN {w0 : World} {p bx : Nat} {A : Option Addr} {c : Nat} {b : List UInt8} {w : World} {at_ : Nat} {bad : Bool} {cs : Array Value} (h : MidS w0 p bx A c b w at_ bad cs) (n : Nat) : MidS w0 p bx A c b (w.drewN n) at_ bad cs :=
  ⟨h.g.trans (grownBy_drewN w n _), h.x, h.r.drewN n⟩
theorem MidS.put {w0 : World} {p bx : Nat} {A : Option Addr} {c : Nat} {b : List UInt8} {w : World} {at_ : Nat} {bad : Bool} {cs : Array Value} (h : MidS w0 p bx A c b w at_ bad cs) (hne : bx ≠ p) (hbx : w0.heap.size ≤ bx) (hs : Rep.byte.Sl (fun x => x < p) w0 A c b) (i : Nat) (v : Value) : MidS w0 p bx A c b (w.setCell ⟨bx, i, none⟩ v) at_ bad (cs.setIfInBounds i v) :=
  ⟨⟨h.g.os, h.g.tape, h.g.output, by simpa using h.g.size, fun k hk hr => (Below.heap_setCell _ _ _ _ (show k ≠ bx by omega)).trans (h.g.block k hk hr)⟩, heap_setRow h.x,
   ⟨(Below.heap_setCell _ _ _ _ (show p ≠ bx from fun e => hne e.symm)).trans h.r.blk, hs.keep fun x hx hl => ⟨hx, (Below.heap_setCell _ _ _ _ (show x ≠ bx by have := hl.lt; omega)).trans (h.g.block x hl.lt (fun e => Nat.ne_of_lt hx (Option.some.inj e)))⟩, h.r.le⟩⟩
theorem MidS.grown {w0 : World} {p bx : Nat} {A : Option Addr} {c : Nat} {b : List UInt8} {w w' : World} {at_ : Nat} {bad : Bool} {cs : Array Value} {row : Option Nat} (h : MidS w0 p bx A c b w at_ bad cs) (hg : w.grownBy w' row) (hr : ∀ k, row = some k → bx < k) (hp : p < bx) (hbx : w0.heap.size ≤ bx) (hs : Rep.byte.Sl (fun x => x < p) w0 A c b) : MidS w0 p bx A c b w' at_ bad cs := by
  have hk : ∀ k, k ≤ bx → k < w.heap.size → w'.heap[k]? = w.heap[k]? := fun k h1 h2 => hg.block k h2 (fun e => by have := hr k e.symm; omega)
  have hxl : bx < w.heap.size := IsC.lt ⟨_, _, _, h.x⟩
  refine ⟨⟨hg.os.trans h.g.os, hg.tape.trans h.g.tape, hg.output.trans h.g.output, Nat.le_trans h.g.size hg.size, fun k hl hne => (hk k (by omega) (by have := h.g.size; omega)).trans (h.g.block k hl hne)⟩, (hk bx (Nat.le_refl _) hxl).trans h.x, ⟨(hk p (by omega) (by omega)).trans h.r.blk, hs.keep fun x hx hl => ⟨hx, (hk x (by have := hl.lt; omega) (by have := hl.lt; omega)).trans (h.g.block x hl.lt (fun e => Nat.ne_of_lt hx (Option.some.inj e)))⟩, h.r.le⟩⟩
/-- What is known of the reader and the directory at the head of a round. -/
def SupRel (b : List UInt8) (q : List Int) (at_ : Nat) (bad : Bool) : Prop :=
  (bad = false → 28 ≤ b.length ∧ at_ = 28 + 2 * q.length ∧ q = pagesAt b 28 q.length ∧ at_ ≤ b.length) ∧ (bad = true → ¬ 28 ≤ b.length)
theorem supRel_step {b : List UInt8} {a : Nat} {q : List Int} (h : SupRel b q a false) (hl : a + 2 ≤ b.length) {r : Int × Nat × Bool} (e : r = rdNum b a false 2) : SupRel b (q ++ [r.1]) r.2.1 r.2.2 ∧ r.2.1 = a + 2 ∧ r.2.2 = false := by
  have hn : rdNum b a false 2 = _ := rdNum_false b a 2 (by decide) (by decide)
  obtain ⟨h16, ha, hq2, h4⟩ := h.1 rfl
  rw [hn, if_pos hl] at e
  subst e
  refine ⟨⟨fun _ => ⟨h16, ?_, ?_, hl⟩, fun hh => by cases hh⟩, rfl, rfl⟩
  · rw [List.length_append, List.length_singleton, ha]; show 28 + 2 * q.length + 2 = _; omega
  · rw [List.length_append, List.length_singleton, pagesAt_succ, ← hq2, ha, i64of_natAt b _ 2 (by decide)]

set_option maxRecDepth 100000 in
set_option maxHeartbeats 4000000 in
/-- super.Get -/
theorem superGet_calls {Q : Nat → Prop} {w : World} {v : Value} {l : List UInt8} (hx : Rep.byte.list.val Q w v l) :
    Calls Try.prog 71 #[v] w (SuperGot w l) := by
  have HX := Lib.hid hx
  obtain ⟨A0, c0, rfl, _, _, _⟩ := Rep.val_list hx
  obtain ⟨W1, hW1⟩ : ∃ W1, w.alloc (.cells #[.int .i64 0, .int .i64 0, .int .i64 0, .int .i64 0, .int .i64 0, .int .i64 0, .int .i64 0, .slice none 0 0] 114) = W1 := ⟨_, rfl⟩
  have hb1 : Below w.heap.size w W1 := by rw [← hW1]; exact (Below.refl _ _).alloc (Nat.le_refl _) _
  have hr1 : W1.heap[w.heap.size]? = some (.cells #[.int .i64 0, .int .i64 0, .int .i64 0, .int .i64 0, .int .i64 0, .int .i64 0, .int .i64 0, .slice none 0 0] 114 (0, 0)) := by rw [← hW1]; exact heap_alloc_new _ _
  have hz1 : W1.heap.size = w.heap.size + 1 := by rw [← hW1]; simp
  have HB1 := Lib.hid hb1
  have HZ1 := Lib.hid hz1
  have KR := Lib.hid (show ∀ W, Below W1.heap.size W1 W → W.heap[w.heap.size]? = some (.cells #[.int .i64 0, .int .i64 0, .int .i64 0, .int .i64 0, .int .i64 0, .int .i64 0, .int .i64 0, .slice none 0 0] 114 (0, 0)) from fun W h => (h.block _ (by omega)).trans hr1)
  have HX1 := Lib.hid (Rep.val_below (B := w.heap.size) (Rep.val_any HX.out) HB1.out fun _ h _ => h)
  have hfr : Try.f71.results = #[.cell 2 114, .tmp 3] := rfl
  clear hx hb1 hr1 hz1
  go_enter Try.func71, Try.ntmps71
  go_wp2_with fail
  try rw [hW1]
  clear hW1
  go_wp2_with fail
  refine (sealGet_calls HX1.out).mono ?_
  rintro e w2 ⟨u, rfl, hu, hb2⟩
  have HS := Lib.hid (show sealGet l = sealGet l from rfl)
  obtain ⟨g, hg⟩ : ∃ g, g = sealGet l := ⟨_, rfl⟩
  rw [← hg] at hu ⊢
  have HG := Lib.hid hg
  obtain ⟨y, hy⟩ : ∃ y, y = g.getD seal0 := ⟨_, rfl⟩
  rw [← hy] at hu
  obtain ⟨A2, c2, rfl, f0, f1, f2, hs2⟩ := rSeal_val hu
  have F0 := Lib.hid f0
  have F1 := Lib.hid f1
  have HS2 := Lib.hid hs2
  have D2 := Lib.hid hb2
  obtain ⟨W3, hW3⟩ : ∃ W3, w2.alloc (.cells #[.int .i64 y.epoch, .int .i64 y.no, .int .i64 y.kind, .slice A2 y.body.length c2] 182) = W3 := ⟨_, rfl⟩
  have hb3 : Below w2.heap.size w2 W3 := by rw [← hW3]; exact (Below.refl _ _).alloc (Nat.le_refl _) _
  have hq3 : W3.heap[w2.heap.size]? = some (.cells #[.int .i64 y.epoch, .int .i64 y.no, .int .i64 y.kind, .slice A2 y.body.length c2] 182 (0, 0)) := by rw [← hW3]; exact heap_alloc_new _ _
  have HZ3 := Lib.hid (show W3.heap.size = w2.heap.size + 1 by rw [← hW3]; simp)
  have D3 := Lib.hid (D2.out.trans (hb3.mono D2.out.size))
  have HB3 := Lib.hid hb3
  have HQ3 := Lib.hid hq3
  have k0 := cell_row hq3 0
  have k1 := cell_row hq3 1
  have k2 := cell_row hq3 2
  have k3 := cell_row hq3 3
  clear hu hg hb2 hb3 hq3 f0 f1 f2 hs2 HS
  cases g with
  | none =>
    have HF := Lib.hid (show superGet l = none by unfold superGet; rw [← HG.out])
    clear hy
    have e0 := cell_row (KR.out W3 D3.out) 0
    have e1 := cell_row (KR.out W3 D3.out) 1
    have e2 := cell_row (KR.out W3 D3.out) 2
    have e3 := cell_row (KR.out W3 D3.out) 3
    have e4 := cell_row (KR.out W3 D3.out) 4
    have e5 := cell_row (KR.out W3 D3.out) 5
    have e6 := cell_row (KR.out W3 D3.out) 6
    have e7 := cell_row (KR.out W3 D3.out) 7
    have z0 := frozen_row (KR.out W3 D3.out) 0
    have z1 := frozen_row (KR.out W3 D3.out) 1
    have z2 := frozen_row (KR.out W3 D3.out) 2
    have z3 := frozen_row (KR.out W3 D3.out) 3
    have z4 := frozen_row (KR.out W3 D3.out) 4
    have z5 := frozen_row (KR.out W3 D3.out) 5
    have z6 := frozen_row (KR.out W3 D3.out) 6
    have z7 := frozen_row (KR.out W3 D3.out) 7
    go_wp2_with fail
    try rw [hW3]
    try go_wp2_with fail
    refine ⟨rfl, .tuple #[.agg #[.int .i64 0, .int .i64 0, .int .i64 0, .int .i64 0, .int .i64 0, .int .i64 0, .int .i64 0, .slice none 0 0], .bool false], ?_, ⟨_, by rw [HF.out]; rfl, by rw [HF.out]; exact superNone_val, set8_below (HB1.out.trans (D3.out.mono HB1.out.size)) (Nat.le_refl _)⟩⟩
    simp only [results, hfr]
    go_simp
  | some y' =>
  obtain rfl : y = y' := hy
  have HGS := Lib.hid (show sealGet l = some y from HG.out.symm)
  clear HG
  by_cases hk : y.kind = 3
  case neg =>
    have HF := Lib.hid (show superGet l = none by unfold superGet; rw [HGS.out]; exact if_neg (fun h => hk h.1))
    have hkb : (y.kind != 3) = true := by simpa using hk
    clear hk
    have e0 := cell_row (KR.out W3 D3.out) 0
    have e1 := cell_row (KR.out W3 D3.out) 1
    have e2 := cell_row (KR.out W3 D3.out) 2
    have e3 := cell_row (KR.out W3 D3.out) 3
    have e4 := cell_row (KR.out W3 D3.out) 4
    have e5 := cell_row (KR.out W3 D3.out) 5
    have e6 := cell_row (KR.out W3 D3.out) 6
    have e7 := cell_row (KR.out W3 D3.out) 7
    have z0 := frozen_row (KR.out W3 D3.out) 0
    have z1 := frozen_row (KR.out W3 D3.out) 1
    have z2 := frozen_row (KR.out W3 D3.out) 2
    have z3 := frozen_row (KR.out W3 D3.out) 3
    have z4 := frozen_row (KR.out W3 D3.out) 4
    have z5 := frozen_row (KR.out W3 D3.out) 5
    have z6 := frozen_row (KR.out W3 D3.out) 6
    have z7 := frozen_row (KR.out W3 D3.out) 7
    go_wp2_with fail
    try rw [hW3]
    try go_wp2_with fail
    refine ⟨rfl, .tuple #[.agg #[.int .i64 0, .int .i64 0, .int .i64 0, .int .i64 0, .int .i64 0, .int .i64 0, .int .i64 0, .slice none 0 0], .bool false], ?_, ⟨_, by rw [HF.out]; rfl, by rw [HF.out]; exact superNone_val, set8_below (HB1.out.trans (D3.out.mono HB1.out.size)) (Nat.le_refl _)⟩⟩
    simp only [results, hfr]
    go_simp
  have HKD := Lib.hid hk
  have hkb : (y.kind != 3) = false := by simpa using hk
  clear hk
  have HBL := Lib.hid (show y.body.length ≤ 472 from (seal_body_length HGS.out).2)
  have HSG := Lib.hid (show superGet l = if 28 ≤ y.body.length ∧ y.body.length % 2 = 0 ∧ superRight (superRead y.epoch y.no y.body) = true then some (superRead y.epoch y.no y.body) else none by
    unfold superGet; rw [HGS.out]
    by_cases h : 28 ≤ y.body.length ∧ y.body.length % 2 = 0 ∧ superRight (superRead y.epoch y.no y.body) = true
    · rw [if_pos h]; exact if_pos ⟨HKD.out, h⟩
    · rw [if_neg h]; exact if_neg (fun hh => h hh.2))
  have HV := Lib.hid (show Rep.byte.list.val (fun _ => True) W3 (.slice A2 y.body.length c2) y.body from (HS2.out.keep (w' := W3) (Q' := fun _ => True) fun x _ hl => ⟨trivial, HB3.out.block x hl.lt⟩).val)
  go_wp2_with fail
  try rw [hW3]
  try go_wp2_with fail
  clear hW3
  obtain ⟨b, hbe⟩ : ∃ b, b = y.body := ⟨_, rfl⟩
  rw [← hbe] at HV HBL HSG k3 HQ3 ⊢
  refine (read_calls HV.out (by have := HBL.out; omega)).mono ?_
  rintro e w4 ⟨p, A, c, rfl, hr, hp, hb4, hsl⟩
  clear hkb hbe hsl k0 k1 k2 k3
  have D4 := Lib.hid (D3.out.trans (hb4.mono D3.out.size))
  have HP := Lib.hid (show w2.heap.size + 1 ≤ p by have := HZ3.out; omega)
  have HS0 := Lib.hid hr.sl
  have HI := Lib.hid (show PreS w4 p A c b w4.drew 0 false from ⟨grownBy_drewN w4 1 _, hr.drewN 1⟩)
  have HPS := Lib.hid (show p < w4.heap.size from hr.lt)
  have KQ := Lib.hid (show ∀ W, w4.grownBy W (some p) → W.heap[w2.heap.size]? = some (.cells #[.int .i64 y.epoch, .int .i64 y.no, .int .i64 y.kind, .slice A2 b.length c2] 182 (0, 0)) from fun W h =>
    (h.block _ (by have := HPS.out; have := HP.out; omega) (fun e => by have := Option.some.inj e; have := HP.out; omega)).trans ((hb4.block _ (by have := HZ3.out; omega)).trans HQ3.out))
  have DG := Lib.hid (show ∀ W, w4.grownBy W (some p) → Below W1.heap.size W1 W from fun W h => D4.out.grown h D4.out.size (fun k hk => by have := HP.out; have := D2.out.size; have := Option.some.inj hk; omega))
  clear hr hp hb4
  obtain ⟨⟨n1, a1, d1⟩, e1⟩ : ∃ r, r = rdNum b 0 false 4 := ⟨_, rfl⟩
  have E1 := Lib.hid e1
  have NW1 := Lib.hid (show (Lit.int .i64 n1).wf = true by have := rdNum_wf b 0 false 4; rw [← e1] at this; exact this)
  obtain ⟨⟨n2, a2, d2⟩, e2⟩ : ∃ r, r = rdNum b a1 d1 4 := ⟨_, rfl⟩
  have E2 := Lib.hid e2
  have NW2 := Lib.hid (show (Lit.int .i64 n2).wf = true by have := rdNum_wf b a1 d1 4; rw [← e2] at this; exact this)
  obtain ⟨⟨n3, a3, d3⟩, e3⟩ : ∃ r, r = rdNum b a2 d2 8 := ⟨_, rfl⟩
  have E3 := Lib.hid e3
  have NW3 := Lib.hid (show (Lit.int .i64 n3).wf = true by have := rdNum_wf b a2 d2 8; rw [← e3] at this; exact this)
  obtain ⟨⟨n4, a4, d4⟩, e4⟩ : ∃ r, r = rdNum b a3 d3 8 := ⟨_, rfl⟩
  have E4 := Lib.hid e4
  have NW4 := Lib.hid (show (Lit.int .i64 n4).wf = true by have := rdNum_wf b a3 d3 8; rw [← e4] at this; exact this)
  obtain ⟨⟨n5, a5, d5⟩, e5⟩ : ∃ r, r = rdNum b a4 d4 4 := ⟨_, rfl⟩
  have E5 := Lib.hid e5
  have NW5 := Lib.hid (show (Lit.int .i64 n5).wf = true by have := rdNum_wf b a4 d4 4; rw [← e5] at this; exact this)
  have ER := Lib.hid (super_header e1 e2 e3 e4 e5)
  clear e1 e2 e3 e4 e5
  go_wp2_with fail
  refine wp_region_held_drew (S := fun W => w4.grownBy W (some p)) (by kernel_rfl) HI.out.g (fun s0 => ?_)
  obtain ⟨wk0, hwk0⟩ : ∃ W, W = w4.drew := ⟨_, rfl⟩
  rw [← hwk0] at s0 ⊢
  have H0 := Lib.hid (show PreS w4 p A c b wk0 0 false by rw [hwk0]; exact HI.out)
  clear hwk0

  refine wpAnyH_take (i := 0) (v := .pointer (some ⟨w2.heap.size, 0, none⟩)) rfl (by kernel_rfl) (by kernel_rfl) (by kernel_rfl) (fun _ _ _ h => h) (Or.inl ⟨by rfl, fun w' _ => by go_simp⟩) s0 ?_
  go_simp
  refine wpAnyH_take (i := 1) (v := .int .i64 y.epoch) rfl (by kernel_rfl) (by kernel_rfl) (by kernel_rfl) (fun _ _ _ h => h) (Or.inl ⟨by rfl, fun w' h => by have x0 := cell_row (KQ.out _ (h : w4.grownBy w' (some p))) 0; go_simp⟩) s0 ?_
  go_simp
  refine wpAnyH_take (i := 2) (v := .pointer (some ⟨w2.heap.size, 1, none⟩)) rfl (by kernel_rfl) (by kernel_rfl) (by kernel_rfl) (fun _ _ _ h => h) (Or.inl ⟨by rfl, fun w' _ => by go_simp⟩) s0 ?_
  go_simp
  refine wpAnyH_take (i := 3) (v := .int .i64 y.no) rfl (by kernel_rfl) (by kernel_rfl) (by kernel_rfl) (fun _ _ _ h => h) (Or.inl ⟨by rfl, fun w' h => by have x0 := cell_row (KQ.out _ (h : w4.grownBy w' (some p))) 1; go_simp⟩) s0 ?_
  go_simp
  refine wpAnyH_take (i := 4) (v := .pointer (some ⟨p, 0, none⟩)) rfl (by kernel_rfl) (by kernel_rfl) (by kernel_rfl) (fun _ _ _ h => h) (Or.inl ⟨by rfl, fun w' _ => by go_simp⟩) s0 ?_
  go_simp
  refine wpAnyH_take (i := 6) (v := .pointer (some ⟨p, 0, none⟩)) rfl (by kernel_rfl) (by kernel_rfl) (by kernel_rfl) (fun _ _ _ h => h) (Or.inl ⟨by rfl, fun w' _ => by go_simp⟩) s0 ?_
  go_simp
  refine wpAnyH_take (i := 8) (v := .pointer (some ⟨p, 0, none⟩)) rfl (by kernel_rfl) (by kernel_rfl) (by kernel_rfl) (fun _ _ _ h => h) (Or.inl ⟨by rfl, fun w' _ => by go_simp⟩) s0 ?_
  go_simp
  refine wpAnyH_take (i := 10) (v := .pointer (some ⟨p, 0, none⟩)) rfl (by kernel_rfl) (by kernel_rfl) (by kernel_rfl) (fun _ _ _ h => h) (Or.inl ⟨by rfl, fun w' _ => by go_simp⟩) s0 ?_
  go_simp
  refine wpAnyH_take (i := 12) (v := .pointer (some ⟨p, 0, none⟩)) rfl (by kernel_rfl) (by kernel_rfl) (by kernel_rfl) (fun _ _ _ h => h) (Or.inl ⟨by rfl, fun w' _ => by go_simp⟩) s0 ?_
  go_simp
  apply share (fun (X : Nat) (W : World) => MidS w4 p X A c b W a5 d5 #[.int .i64 0, .int .i64 0, .int .i64 0, .int .i64 0, .int .i64 0, .int .i64 0, .int .i64 0, .slice none 0 0] ∧ w4.heap.size ≤ X)
  · intro key
    have KEY := Lib.hid key
    clear key
    refine wpAnyH_all (rs := [5, 15]) (by kernel_rfl) (by simp) ?_
    intro i hi
    have hi2 : i = 5 ∨ i = 15 := by simpa using hi
    clear hi
    rcases hi2 with rfl | rfl
    · skip
      refine wpOp_step rfl (fun K hK => ?_)
      go_simp
      refine (rdnum_calls (width := 4) (H0).out.r (by have := HBL.out; omega)).mono ?_
      rintro e wk1 ⟨rfl, h1, h2⟩
      rw [← E1.out] at h1 ⊢
      dsimp only at h1 ⊢
      have H1 := Lib.hid (show PreS w4 p A c b wk1 a1 d1 from (H0).out.num (r := (n1, a1, d1)) h1 h2)
      refine hK _ _ ⟨H1.out.g, ?_⟩
      clear hK K h1 h2
      refine wpAnyH_all (rs := [7, 15]) (by kernel_rfl) (by simp) ?_
      intro i hi
      have hi2 : i = 7 ∨ i = 15 := by simpa using hi
      clear hi
      rcases hi2 with rfl | rfl
      · skip
        refine wpOp_step rfl (fun K hK => ?_)
        go_simp
        refine (rdnum_calls (width := 4) (H1).out.r (by have := HBL.out; omega)).mono ?_
        rintro e wk2 ⟨rfl, h1, h2⟩
        rw [← E2.out] at h1 ⊢
        dsimp only at h1 ⊢
        have H2 := Lib.hid (show PreS w4 p A c b wk2 a2 d2 from (H1).out.num (r := (n2, a2, d2)) h1 h2)
        refine hK _ _ ⟨H2.out.g, ?_⟩
        clear hK K h1 h2
        refine wpAnyH_all (rs := [9, 15]) (by kernel_rfl) (by simp) ?_
        intro i hi
        have hi2 : i = 9 ∨ i = 15 := by simpa using hi
        clear hi
        rcases hi2 with rfl | rfl
        · skip
          refine wpOp_step rfl (fun K hK => ?_)
          go_simp
          refine (rdnum_calls (width := 8) (H2).out.r (by have := HBL.out; omega)).mono ?_
          rintro e wk3 ⟨rfl, h1, h2⟩
          rw [← E3.out] at h1 ⊢
          dsimp only at h1 ⊢
          have H3 := Lib.hid (show PreS w4 p A c b wk3 a3 d3 from (H2).out.num (r := (n3, a3, d3)) h1 h2)
          refine hK _ _ ⟨H3.out.g, ?_⟩
          clear hK K h1 h2
          refine wpAnyH_all (rs := [11, 15]) (by kernel_rfl) (by simp) ?_
          intro i hi
          have hi2 : i = 11 ∨ i = 15 := by simpa using hi
          clear hi
          rcases hi2 with rfl | rfl
          · skip
            refine wpOp_step rfl (fun K hK => ?_)
            go_simp
            refine (rdnum_calls (width := 8) (H3).out.r (by have := HBL.out; omega)).mono ?_
            rintro e wk4 ⟨rfl, h1, h2⟩
            rw [← E4.out] at h1 ⊢
            dsimp only at h1 ⊢
            have H4 := Lib.hid (show PreS w4 p A c b wk4 a4 d4 from (H3).out.num (r := (n4, a4, d4)) h1 h2)
            refine hK _ _ ⟨H4.out.g, ?_⟩
            clear hK K h1 h2
            refine wpAnyH_all (rs := [13, 15]) (by kernel_rfl) (by simp) ?_
            intro i hi
            have hi2 : i = 13 ∨ i = 15 := by simpa using hi
            clear hi
            rcases hi2 with rfl | rfl
            · skip
              refine wpOp_step rfl (fun K hK => ?_)
              go_simp
              refine (rdnum_calls (width := 4) (H4).out.r (by have := HBL.out; omega)).mono ?_
              rintro e wk5 ⟨rfl, h1, h2⟩
              rw [← E5.out] at h1 ⊢
              dsimp only at h1 ⊢
              have H5 := Lib.hid (show PreS w4 p A c b wk5 a5 d5 from (H4).out.num (r := (n5, a5, d5)) h1 h2)
              refine hK _ _ ⟨H5.out.g, ?_⟩
              clear hK K h1 h2
              refine wpAnyH_take (i := 14) (v := .agg #[.int .i64 y.epoch, .int .i64 y.no, .int .i64 n1, .int .i64 n2, .int .i64 n3, .int .i64 n4, .int .i64 n5, .slice none 0 0]) rfl (by kernel_rfl) (by kernel_rfl) (by kernel_rfl) (fun _ _ _ h => h) (Or.inl ⟨by rfl, fun w' _ => by go_simp⟩) (H5).out.g ?_
              go_simp
              refine wpAnyH_all (rs := [15]) (by kernel_rfl) (by simp) ?_
              intro i hi
              obtain rfl : i = 15 := by simpa using hi
              refine wpOp_step rfl (fun K hK => ?_)
              go_simp
              obtain ⟨X, hX⟩ : ∃ X, X = wk5.heap.size := ⟨_, rfl⟩
              have HX := Lib.hid (show w4.heap.size ≤ X by have := (H5).out.g.size; rw [hX]; first | exact this | exact Nat.le_refl _)
              have M5' := Lib.hid (show MidS w4 p X A c b (wk5.alloc (.cells #[.int .i64 0, .int .i64 0, .int .i64 0, .int .i64 0, .int .i64 0, .int .i64 0, .int .i64 0, .slice none 0 0] 114)) _ _ #[.int .i64 0, .int .i64 0, .int .i64 0, .int .i64 0, .int .i64 0, .int .i64 0, .int .i64 0, .slice none 0 0] by rw [hX]; exact (H5).out.box #[.int .i64 0, .int .i64 0, .int .i64 0, .int .i64 0, .int .i64 0, .int .i64 0, .int .i64 0, .slice none 0 0])
              try simp only [World.drew_heap]
              rw [← hX]
              have M5 := M5'
              clear M5'
              clear hX
              generalize wk5.alloc (.cells #[.int .i64 0, .int .i64 0, .int .i64 0, .int .i64 0, .int .i64 0, .int .i64 0, .int .i64 0, .slice none 0 0] 114) = wb5 at *
              refine hK _ _ ⟨M5.out.g, ?_⟩
              clear hK K
              exact KEY.out _ _ ⟨(M5).out, HX.out⟩
            · skip
              refine wpOp_step rfl (fun K hK => ?_)
              go_simp
              obtain ⟨X, hX⟩ : ∃ X, X = wk4.heap.size := ⟨_, rfl⟩
              have HX := Lib.hid (show w4.heap.size ≤ X by have := (H4).out.g.size; rw [hX]; first | exact this | exact Nat.le_refl _)
              have M4' := Lib.hid (show MidS w4 p X A c b (wk4.alloc (.cells #[.int .i64 0, .int .i64 0, .int .i64 0, .int .i64 0, .int .i64 0, .int .i64 0, .int .i64 0, .slice none 0 0] 114)) _ _ #[.int .i64 0, .int .i64 0, .int .i64 0, .int .i64 0, .int .i64 0, .int .i64 0, .int .i64 0, .slice none 0 0] by rw [hX]; exact (H4).out.box #[.int .i64 0, .int .i64 0, .int .i64 0, .int .i64 0, .int .i64 0, .int .i64 0, .int .i64 0, .slice none 0 0])
              try simp only [World.drew_heap]
              rw [← hX]
              have M4 := M4'
              clear M4'
              clear hX
              generalize wk4.alloc (.cells #[.int .i64 0, .int .i64 0, .int .i64 0, .int .i64 0, .int .i64 0, .int .i64 0, .int .i64 0, .slice none 0 0] 114) = wb4 at *
              refine hK _ _ ⟨M4.out.g, ?_⟩
              clear hK K
              refine wpAnyH_all (rs := [13]) (by kernel_rfl) (by simp) ?_
              intro i hi
              obtain rfl : i = 13 := by simpa using hi
              refine wpOp_step rfl (fun K hK => ?_)
              go_simp
              refine (rdnum_calls (width := 4) (M4).out.r (by have := HBL.out; omega)).mono ?_
              rintro e wk5 ⟨rfl, h1, h2⟩
              rw [← E5.out] at h1 ⊢
              dsimp only at h1 ⊢
              have M5 := Lib.hid (show MidS w4 p X A c b wk5 a5 d5 #[.int .i64 0, .int .i64 0, .int .i64 0, .int .i64 0, .int .i64 0, .int .i64 0, .int .i64 0, .slice none 0 0] from (M4).out.num (by have := HX.out; have := HPS.out; omega) (r := (n5, a5, d5)) h1 h2)
              refine hK _ _ ⟨M5.out.g, ?_⟩
              clear hK K h1 h2
              refine wpAnyH_take (i := 14) (v := .agg #[.int .i64 y.epoch, .int .i64 y.no, .int .i64 n1, .int .i64 n2, .int .i64 n3, .int .i64 n4, .int .i64 n5, .slice none 0 0]) rfl (by kernel_rfl) (by kernel_rfl) (by kernel_rfl) (fun _ _ _ h => h) (Or.inl ⟨by rfl, fun w' _ => by go_simp⟩) (M5).out.g ?_
              go_simp
              exact KEY.out _ _ ⟨(M5).out, HX.out⟩
          · skip
            refine wpOp_step rfl (fun K hK => ?_)
            go_simp
            obtain ⟨X, hX⟩ : ∃ X, X = wk3.heap.size := ⟨_, rfl⟩
            have HX := Lib.hid (show w4.heap.size ≤ X by have := (H3).out.g.size; rw [hX]; first | exact this | exact Nat.le_refl _)
            have M3' := Lib.hid (show MidS w4 p X A c b (wk3.alloc (.cells #[.int .i64 0, .int .i64 0, .int .i64 0, .int .i64 0, .int .i64 0, .int .i64 0, .int .i64 0, .slice none 0 0] 114)) _ _ #[.int .i64 0, .int .i64 0, .int .i64 0, .int .i64 0, .int .i64 0, .int .i64 0, .int .i64 0, .slice none 0 0] by rw [hX]; exact (H3).out.box #[.int .i64 0, .int .i64 0, .int .i64 0, .int .i64 0, .int .i64 0, .int .i64 0, .int .i64 0, .slice none 0 0])
            try simp only [World.drew_heap]
            rw [← hX]
            have M3 := M3'
            clear M3'
            clear hX
            generalize wk3.alloc (.cells #[.int .i64 0, .int .i64 0, .int .i64 0, .int .i64 0, .int .i64 0, .int .i64 0, .int .i64 0, .slice none 0 0] 114) = wb3 at *
            refine hK _ _ ⟨M3.out.g, ?_⟩
            clear hK K
            refine wpAnyH_all (rs := [11]) (by kernel_rfl) (by simp) ?_
            intro i hi
            obtain rfl : i = 11 := by simpa using hi
            refine wpOp_step rfl (fun K hK => ?_)
            go_simp
            refine (rdnum_calls (width := 8) (M3).out.r (by have := HBL.out; omega)).mono ?_
            rintro e wk4 ⟨rfl, h1, h2⟩
            rw [← E4.out] at h1 ⊢
            dsimp only at h1 ⊢
            have M4 := Lib.hid (show MidS w4 p X A c b wk4 a4 d4 #[.int .i64 0, .int .i64 0, .int .i64 0, .int .i64 0, .int .i64 0, .int .i64 0, .int .i64 0, .slice none 0 0] from (M3).out.num (by have := HX.out; have := HPS.out; omega) (r := (n4, a4, d4)) h1 h2)
            refine hK _ _ ⟨M4.out.g, ?_⟩
            clear hK K h1 h2
            refine wpAnyH_all (rs := [13]) (by kernel_rfl) (by simp) ?_
            intro i hi
            obtain rfl : i = 13 := by simpa using hi
            refine wpOp_step rfl (fun K hK => ?_)
            go_simp
            refine (rdnum_calls (width := 4) (M4).out.r (by have := HBL.out; omega)).mono ?_
            rintro e wk5 ⟨rfl, h1, h2⟩
            rw [← E5.out] at h1 ⊢
            dsimp only at h1 ⊢
            have M5 := Lib.hid (show MidS w4 p X A c b wk5 a5 d5 #[.int .i64 0, .int .i64 0, .int .i64 0, .int .i64 0, .int .i64 0, .int .i64 0, .int .i64 0, .slice none 0 0] from (M4).out.num (by have := HX.out; have := HPS.out; omega) (r := (n5, a5, d5)) h1 h2)
            refine hK _ _ ⟨M5.out.g, ?_⟩
            clear hK K h1 h2
            refine wpAnyH_take (i := 14) (v := .agg #[.int .i64 y.epoch, .int .i64 y.no, .int .i64 n1, .int .i64 n2, .int .i64 n3, .int .i64 n4, .int .i64 n5, .slice none 0 0]) rfl (by kernel_rfl) (by kernel_rfl) (by kernel_rfl) (fun _ _ _ h => h) (Or.inl ⟨by rfl, fun w' _ => by go_simp⟩) (M5).out.g ?_
            go_simp
            exact KEY.out _ _ ⟨(M5).out, HX.out⟩
        · skip
          refine wpOp_step rfl (fun K hK => ?_)
          go_simp
          obtain ⟨X, hX⟩ : ∃ X, X = wk2.heap.size := ⟨_, rfl⟩
          have HX := Lib.hid (show w4.heap.size ≤ X by have := (H2).out.g.size; rw [hX]; first | exact this | exact Nat.le_refl _)
          have M2' := Lib.hid (show MidS w4 p X A c b (wk2.alloc (.cells #[.int .i64 0, .int .i64 0, .int .i64 0, .int .i64 0, .int .i64 0, .int .i64 0, .int .i64 0, .slice none 0 0] 114)) _ _ #[.int .i64 0, .int .i64 0, .int .i64 0, .int .i64 0, .int .i64 0, .int .i64 0, .int .i64 0, .slice none 0 0] by rw [hX]; exact (H2).out.box #[.int .i64 0, .int .i64 0, .int .i64 0, .int .i64 0, .int .i64 0, .int .i64 0, .int .i64 0, .slice none 0 0])
          try simp only [World.drew_heap]
          rw [← hX]
          have M2 := M2'
          clear M2'
          clear hX
          generalize wk2.alloc (.cells #[.int .i64 0, .int .i64 0, .int .i64 0, .int .i64 0, .int .i64 0, .int .i64 0, .int .i64 0, .slice none 0 0] 114) = wb2 at *
          refine hK _ _ ⟨M2.out.g, ?_⟩
          clear hK K
          refine wpAnyH_all (rs := [9]) (by kernel_rfl) (by simp) ?_
          intro i hi
          obtain rfl : i = 9 := by simpa using hi
          refine wpOp_step rfl (fun K hK => ?_)
          go_simp
          refine (rdnum_calls (width := 8) (M2).out.r (by have := HBL.out; omega)).mono ?_
          rintro e wk3 ⟨rfl, h1, h2⟩
          rw [← E3.out] at h1 ⊢
          dsimp only at h1 ⊢
          have M3 := Lib.hid (show MidS w4 p X A c b wk3 a3 d3 #[.int .i64 0, .int .i64 0, .int .i64 0, .int .i64 0, .int .i64 0, .int .i64 0, .int .i64 0, .slice none 0 0] from (M2).out.num (by have := HX.out; have := HPS.out; omega) (r := (n3, a3, d3)) h1 h2)
          refine hK _ _ ⟨M3.out.g, ?_⟩
          clear hK K h1 h2
          refine wpAnyH_all (rs := [11]) (by kernel_rfl) (by simp) ?_
          intro i hi
          obtain rfl : i = 11 := by simpa using hi
          refine wpOp_step rfl (fun K hK => ?_)
          go_simp
          refine (rdnum_calls (width := 8) (M3).out.r (by have := HBL.out; omega)).mono ?_
          rintro e wk4 ⟨rfl, h1, h2⟩
          rw [← E4.out] at h1 ⊢
          dsimp only at h1 ⊢
          have M4 := Lib.hid (show MidS w4 p X A c b wk4 a4 d4 #[.int .i64 0, .int .i64 0, .int .i64 0, .int .i64 0, .int .i64 0, .int .i64 0, .int .i64 0, .slice none 0 0] from (M3).out.num (by have := HX.out; have := HPS.out; omega) (r := (n4, a4, d4)) h1 h2)
          refine hK _ _ ⟨M4.out.g, ?_⟩
          clear hK K h1 h2
          refine wpAnyH_all (rs := [13]) (by kernel_rfl) (by simp) ?_
          intro i hi
          obtain rfl : i = 13 := by simpa using hi
          refine wpOp_step rfl (fun K hK => ?_)
          go_simp
          refine (rdnum_calls (width := 4) (M4).out.r (by have := HBL.out; omega)).mono ?_
          rintro e wk5 ⟨rfl, h1, h2⟩
          rw [← E5.out] at h1 ⊢
          dsimp only at h1 ⊢
          have M5 := Lib.hid (show MidS w4 p X A c b wk5 a5 d5 #[.int .i64 0, .int .i64 0, .int .i64 0, .int .i64 0, .int .i64 0, .int .i64 0, .int .i64 0, .slice none 0 0] from (M4).out.num (by have := HX.out; have := HPS.out; omega) (r := (n5, a5, d5)) h1 h2)
          refine hK _ _ ⟨M5.out.g, ?_⟩
          clear hK K h1 h2
          refine wpAnyH_take (i := 14) (v := .agg #[.int .i64 y.epoch, .int .i64 y.no, .int .i64 n1, .int .i64 n2, .int .i64 n3, .int .i64 n4, .int .i64 n5, .slice none 0 0]) rfl (by kernel_rfl) (by kernel_rfl) (by kernel_rfl) (fun _ _ _ h => h) (Or.inl ⟨by rfl, fun w' _ => by go_simp⟩) (M5).out.g ?_
          go_simp
          exact KEY.out _ _ ⟨(M5).out, HX.out⟩
      · skip
        refine wpOp_step rfl (fun K hK => ?_)
        go_simp
        obtain ⟨X, hX⟩ : ∃ X, X = wk1.heap.size := ⟨_, rfl⟩
        have HX := Lib.hid (show w4.heap.size ≤ X by have := (H1).out.g.size; rw [hX]; first | exact this | exact Nat.le_refl _)
        have M1' := Lib.hid (show MidS w4 p X A c b (wk1.alloc (.cells #[.int .i64 0, .int .i64 0, .int .i64 0, .int .i64 0, .int .i64 0, .int .i64 0, .int .i64 0, .slice none 0 0] 114)) _ _ #[.int .i64 0, .int .i64 0, .int .i64 0, .int .i64 0, .int .i64 0, .int .i64 0, .int .i64 0, .slice none 0 0] by rw [hX]; exact (H1).out.box #[.int .i64 0, .int .i64 0, .int .i64 0, .int .i64 0, .int .i64 0, .int .i64 0, .int .i64 0, .slice none 0 0])
        try simp only [World.drew_heap]
        rw [← hX]
        have M1 := M1'
        clear M1'
        clear hX
        generalize wk1.alloc (.cells #[.int .i64 0, .int .i64 0, .int .i64 0, .int .i64 0, .int .i64 0, .int .i64 0, .int .i64 0, .slice none 0 0] 114) = wb1 at *
        refine hK _ _ ⟨M1.out.g, ?_⟩
        clear hK K
        refine wpAnyH_all (rs := [7]) (by kernel_rfl) (by simp) ?_
        intro i hi
        obtain rfl : i = 7 := by simpa using hi
        refine wpOp_step rfl (fun K hK => ?_)
        go_simp
        refine (rdnum_calls (width := 4) (M1).out.r (by have := HBL.out; omega)).mono ?_
        rintro e wk2 ⟨rfl, h1, h2⟩
        rw [← E2.out] at h1 ⊢
        dsimp only at h1 ⊢
        have M2 := Lib.hid (show MidS w4 p X A c b wk2 a2 d2 #[.int .i64 0, .int .i64 0, .int .i64 0, .int .i64 0, .int .i64 0, .int .i64 0, .int .i64 0, .slice none 0 0] from (M1).out.num (by have := HX.out; have := HPS.out; omega) (r := (n2, a2, d2)) h1 h2)
        refine hK _ _ ⟨M2.out.g, ?_⟩
        clear hK K h1 h2
        refine wpAnyH_all (rs := [9]) (by kernel_rfl) (by simp) ?_
        intro i hi
        obtain rfl : i = 9 := by simpa using hi
        refine wpOp_step rfl (fun K hK => ?_)
        go_simp
        refine (rdnum_calls (width := 8) (M2).out.r (by have := HBL.out; omega)).mono ?_
        rintro e wk3 ⟨rfl, h1, h2⟩
        rw [← E3.out] at h1 ⊢
        dsimp only at h1 ⊢
        have M3 := Lib.hid (show MidS w4 p X A c b wk3 a3 d3 #[.int .i64 0, .int .i64 0, .int .i64 0, .int .i64 0, .int .i64 0, .int .i64 0, .int .i64 0, .slice none 0 0] from (M2).out.num (by have := HX.out; have := HPS.out; omega) (r := (n3, a3, d3)) h1 h2)
        refine hK _ _ ⟨M3.out.g, ?_⟩
        clear hK K h1 h2
        refine wpAnyH_all (rs := [11]) (by kernel_rfl) (by simp) ?_
        intro i hi
        obtain rfl : i = 11 := by simpa using hi
        refine wpOp_step rfl (fun K hK => ?_)
        go_simp
        refine (rdnum_calls (width := 8) (M3).out.r (by have := HBL.out; omega)).mono ?_
        rintro e wk4 ⟨rfl, h1, h2⟩
        rw [← E4.out] at h1 ⊢
        dsimp only at h1 ⊢
        have M4 := Lib.hid (show MidS w4 p X A c b wk4 a4 d4 #[.int .i64 0, .int .i64 0, .int .i64 0, .int .i64 0, .int .i64 0, .int .i64 0, .int .i64 0, .slice none 0 0] from (M3).out.num (by have := HX.out; have := HPS.out; omega) (r := (n4, a4, d4)) h1 h2)
        refine hK _ _ ⟨M4.out.g, ?_⟩
        clear hK K h1 h2
        refine wpAnyH_all (rs := [13]) (by kernel_rfl) (by simp) ?_
        intro i hi
        obtain rfl : i = 13 := by simpa using hi
        refine wpOp_step rfl (fun K hK => ?_)
        go_simp
        refine (rdnum_calls (width := 4) (M4).out.r (by have := HBL.out; omega)).mono ?_
        rintro e wk5 ⟨rfl, h1, h2⟩
        rw [← E5.out] at h1 ⊢
        dsimp only at h1 ⊢
        have M5 := Lib.hid (show MidS w4 p X A c b wk5 a5 d5 #[.int .i64 0, .int .i64 0, .int .i64 0, .int .i64 0, .int .i64 0, .int .i64 0, .int .i64 0, .slice none 0 0] from (M4).out.num (by have := HX.out; have := HPS.out; omega) (r := (n5, a5, d5)) h1 h2)
        refine hK _ _ ⟨M5.out.g, ?_⟩
        clear hK K h1 h2
        refine wpAnyH_take (i := 14) (v := .agg #[.int .i64 y.epoch, .int .i64 y.no, .int .i64 n1, .int .i64 n2, .int .i64 n3, .int .i64 n4, .int .i64 n5, .slice none 0 0]) rfl (by kernel_rfl) (by kernel_rfl) (by kernel_rfl) (fun _ _ _ h => h) (Or.inl ⟨by rfl, fun w' _ => by go_simp⟩) (M5).out.g ?_
        go_simp
        exact KEY.out _ _ ⟨(M5).out, HX.out⟩
    · skip
      refine wpOp_step rfl (fun K hK => ?_)
      go_simp
      obtain ⟨X, hX⟩ : ∃ X, X = wk0.heap.size := ⟨_, rfl⟩
      have HX := Lib.hid (show w4.heap.size ≤ X by have := (H0).out.g.size; rw [hX]; first | exact this | exact Nat.le_refl _)
      have M0' := Lib.hid (show MidS w4 p X A c b (wk0.alloc (.cells #[.int .i64 0, .int .i64 0, .int .i64 0, .int .i64 0, .int .i64 0, .int .i64 0, .int .i64 0, .slice none 0 0] 114)) _ _ #[.int .i64 0, .int .i64 0, .int .i64 0, .int .i64 0, .int .i64 0, .int .i64 0, .int .i64 0, .slice none 0 0] by rw [hX]; exact (H0).out.box #[.int .i64 0, .int .i64 0, .int .i64 0, .int .i64 0, .int .i64 0, .int .i64 0, .int .i64 0, .slice none 0 0])
      try simp only [World.drew_heap]
      rw [← hX]
      have M0 := M0'
      clear M0'
      clear hX
      generalize wk0.alloc (.cells #[.int .i64 0, .int .i64 0, .int .i64 0, .int .i64 0, .int .i64 0, .int .i64 0, .int .i64 0, .slice none 0 0] 114) = wb0 at *
      refine hK _ _ ⟨M0.out.g, ?_⟩
      clear hK K
      refine wpAnyH_all (rs := [5]) (by kernel_rfl) (by simp) ?_
      intro i hi
      obtain rfl : i = 5 := by simpa using hi
      refine wpOp_step rfl (fun K hK => ?_)
      go_simp
      refine (rdnum_calls (width := 4) (M0).out.r (by have := HBL.out; omega)).mono ?_
      rintro e wk1 ⟨rfl, h1, h2⟩
      rw [← E1.out] at h1 ⊢
      dsimp only at h1 ⊢
      have M1 := Lib.hid (show MidS w4 p X A c b wk1 a1 d1 #[.int .i64 0, .int .i64 0, .int .i64 0, .int .i64 0, .int .i64 0, .int .i64 0, .int .i64 0, .slice none 0 0] from (M0).out.num (by have := HX.out; have := HPS.out; omega) (r := (n1, a1, d1)) h1 h2)
      refine hK _ _ ⟨M1.out.g, ?_⟩
      clear hK K h1 h2
      refine wpAnyH_all (rs := [7]) (by kernel_rfl) (by simp) ?_
      intro i hi
      obtain rfl : i = 7 := by simpa using hi
      refine wpOp_step rfl (fun K hK => ?_)
      go_simp
      refine (rdnum_calls (width := 4) (M1).out.r (by have := HBL.out; omega)).mono ?_
      rintro e wk2 ⟨rfl, h1, h2⟩
      rw [← E2.out] at h1 ⊢
      dsimp only at h1 ⊢
      have M2 := Lib.hid (show MidS w4 p X A c b wk2 a2 d2 #[.int .i64 0, .int .i64 0, .int .i64 0, .int .i64 0, .int .i64 0, .int .i64 0, .int .i64 0, .slice none 0 0] from (M1).out.num (by have := HX.out; have := HPS.out; omega) (r := (n2, a2, d2)) h1 h2)
      refine hK _ _ ⟨M2.out.g, ?_⟩
      clear hK K h1 h2
      refine wpAnyH_all (rs := [9]) (by kernel_rfl) (by simp) ?_
      intro i hi
      obtain rfl : i = 9 := by simpa using hi
      refine wpOp_step rfl (fun K hK => ?_)
      go_simp
      refine (rdnum_calls (width := 8) (M2).out.r (by have := HBL.out; omega)).mono ?_
      rintro e wk3 ⟨rfl, h1, h2⟩
      rw [← E3.out] at h1 ⊢
      dsimp only at h1 ⊢
      have M3 := Lib.hid (show MidS w4 p X A c b wk3 a3 d3 #[.int .i64 0, .int .i64 0, .int .i64 0, .int .i64 0, .int .i64 0, .int .i64 0, .int .i64 0, .slice none 0 0] from (M2).out.num (by have := HX.out; have := HPS.out; omega) (r := (n3, a3, d3)) h1 h2)
      refine hK _ _ ⟨M3.out.g, ?_⟩
      clear hK K h1 h2
      refine wpAnyH_all (rs := [11]) (by kernel_rfl) (by simp) ?_
      intro i hi
      obtain rfl : i = 11 := by simpa using hi
      refine wpOp_step rfl (fun K hK => ?_)
      go_simp
      refine (rdnum_calls (width := 8) (M3).out.r (by have := HBL.out; omega)).mono ?_
      rintro e wk4 ⟨rfl, h1, h2⟩
      rw [← E4.out] at h1 ⊢
      dsimp only at h1 ⊢
      have M4 := Lib.hid (show MidS w4 p X A c b wk4 a4 d4 #[.int .i64 0, .int .i64 0, .int .i64 0, .int .i64 0, .int .i64 0, .int .i64 0, .int .i64 0, .slice none 0 0] from (M3).out.num (by have := HX.out; have := HPS.out; omega) (r := (n4, a4, d4)) h1 h2)
      refine hK _ _ ⟨M4.out.g, ?_⟩
      clear hK K h1 h2
      refine wpAnyH_all (rs := [13]) (by kernel_rfl) (by simp) ?_
      intro i hi
      obtain rfl : i = 13 := by simpa using hi
      refine wpOp_step rfl (fun K hK => ?_)
      go_simp
      refine (rdnum_calls (width := 4) (M4).out.r (by have := HBL.out; omega)).mono ?_
      rintro e wk5 ⟨rfl, h1, h2⟩
      rw [← E5.out] at h1 ⊢
      dsimp only at h1 ⊢
      have M5 := Lib.hid (show MidS w4 p X A c b wk5 a5 d5 #[.int .i64 0, .int .i64 0, .int .i64 0, .int .i64 0, .int .i64 0, .int .i64 0, .int .i64 0, .slice none 0 0] from (M4).out.num (by have := HX.out; have := HPS.out; omega) (r := (n5, a5, d5)) h1 h2)
      refine hK _ _ ⟨M5.out.g, ?_⟩
      clear hK K h1 h2
      refine wpAnyH_take (i := 14) (v := .agg #[.int .i64 y.epoch, .int .i64 y.no, .int .i64 n1, .int .i64 n2, .int .i64 n3, .int .i64 n4, .int .i64 n5, .slice none 0 0]) rfl (by kernel_rfl) (by kernel_rfl) (by kernel_rfl) (fun _ _ _ h => h) (Or.inl ⟨by rfl, fun w' _ => by go_simp⟩) (M5).out.g ?_
      go_simp
      exact KEY.out _ _ ⟨(M5).out, HX.out⟩
  · rintro X W ⟨hM, hX⟩
    have HX := Lib.hid hX
    have MM := Lib.hid hM
    refine wpAnyH_all (rs := [16]) (by kernel_rfl) (by simp) ?_
    intro i hi
    obtain rfl : i = 16 := by simpa using hi
    clear hi hX
    have hx := hM.x
    clear hM
    have z0 := frozen_row hx 0
    have z1 := frozen_row hx 1
    have z2 := frozen_row hx 2
    have z3 := frozen_row hx 3
    have z4 := frozen_row hx 4
    have z5 := frozen_row hx 5
    have z6 := frozen_row hx 6
    have z7 := frozen_row hx 7
    have e0 := cell_row hx 0
    have e1 := cell_row hx 1
    have e2 := cell_row hx 2
    have e3 := cell_row hx 3
    have e4 := cell_row hx 4
    have e5 := cell_row hx 5
    have e6 := cell_row hx 6
    have e7 := cell_row hx 7
    clear hx
    refine wpOp_step rfl (fun K hK => ?_)
    go_simp
    clear e0 e1 e2 e3 e4 e5 e6 e7 z0 z1 z2 z3 z4 z5 z6 z7
    have HM0 := Lib.hid (show MidS w4 p X A c b ((((((((W.setCell ⟨X, 0, none⟩ (.int .i64 y.epoch)).setCell ⟨X, 1, none⟩ (.int .i64 y.no)).setCell ⟨X, 2, none⟩ (.int .i64 n1)).setCell ⟨X, 3, none⟩ (.int .i64 n2)).setCell ⟨X, 4, none⟩ (.int .i64 n3)).setCell ⟨X, 5, none⟩ (.int .i64 n4)).setCell ⟨X, 6, none⟩ (.int .i64 n5)).setCell ⟨X, 7, none⟩ (.slice none 0 0)) a5 d5 #[.int .i64 y.epoch, .int .i64 y.no, .int .i64 n1, .int .i64 n2, .int .i64 n3, .int .i64 n4, .int .i64 n5, .slice none 0 0] from ((((((((MM.out.put (by have := HX.out; have := HPS.out; omega) HX.out HS0.out 0 (.int .i64 y.epoch)).put (by have := HX.out; have := HPS.out; omega) HX.out HS0.out 1 (.int .i64 y.no)).put (by have := HX.out; have := HPS.out; omega) HX.out HS0.out 2 (.int .i64 n1)).put (by have := HX.out; have := HPS.out; omega) HX.out HS0.out 3 (.int .i64 n2)).put (by have := HX.out; have := HPS.out; omega) HX.out HS0.out 4 (.int .i64 n3)).put (by have := HX.out; have := HPS.out; omega) HX.out HS0.out 5 (.int .i64 n4)).put (by have := HX.out; have := HPS.out; omega) HX.out HS0.out 6 (.int .i64 n5)).put (by have := HX.out; have := HPS.out; omega) HX.out HS0.out 7 (.slice none 0 0)))
    generalize ((((((((W.setCell ⟨X, 0, none⟩ (.int .i64 y.epoch)).setCell ⟨X, 1, none⟩ (.int .i64 y.no)).setCell ⟨X, 2, none⟩ (.int .i64 n1)).setCell ⟨X, 3, none⟩ (.int .i64 n2)).setCell ⟨X, 4, none⟩ (.int .i64 n3)).setCell ⟨X, 5, none⟩ (.int .i64 n4)).setCell ⟨X, 6, none⟩ (.int .i64 n5)).setCell ⟨X, 7, none⟩ (.slice none 0 0)) = WE at *
    refine hK _ _ ⟨HM0.out.g, ?_⟩
    clear hK K MM
    refine wpAnyH_done (by kernel_rfl) ?_ _
    go_wp2_with fail
    go_loopw [] (fun wr => ∃ (q : List Int) (a : Nat) (d : Bool) (u : Value), Hid (SupRel b q a d) ∧ MidS w4 p X A c b wr a d #[.int .i64 y.epoch, .int .i64 y.no, .int .i64 n1, .int .i64 n2, .int .i64 n3, .int .i64 n4, .int .i64 n5, u] ∧ (Rep.int .i64).acc 3 (X + 1) (fun _ => False) wr u q) (fun wr => b.length - (intOf ((wr.cell? ⟨p, 1, none⟩).getD undef)).toNat)
    case atStart =>
      refine ⟨[], a5, d5, .slice none 0 0, ?_, HM0.out, Rep.acc_nil⟩
      have hr : SupRel b [] a5 d5 := by
        rcases ER.out with ⟨h, _, _, _, _, h5⟩ | ⟨h, h5⟩
        · cases h5; exact ⟨fun _ => ⟨h, rfl, by simp [pagesAt], h⟩, fun hh => by cases hh⟩
        · subst h5; exact ⟨fun hh => (by cases hh), fun _ => h⟩
      exact hr
    case round =>
      obtain ⟨q, a, d, u, hsr, hmid, hacc⟩ := hrel
      have HM6 := Lib.hid hmid
      have HA6 := Lib.hid hacc
      have SR := Lib.hid hsr.out
      obtain ⟨A6, c6, rfl, _, _⟩ := Rep.acc_form hacc
      have HME := Lib.hid (show b.length - (intOf ((wr.cell? ⟨p, 1, none⟩).getD undef)).toNat = b.length - a by rw [hmid.r.c1]; rfl)
      have KRW := Lib.hid (KR.out _ (DG.out _ hmid.g))
      have BW := Lib.hid (HB1.out.trans ((DG.out _ hmid.g).mono HB1.out.size))
      clear hmid hacc hsr
      cases d with
      | true =>
        have HF := Lib.hid (show superGet l = none by rw [HSG.out]; exact if_neg (fun h => SR.out.2 rfl h.1))

        have e0 := cell_row (KRW.out) 0
        have e1 := cell_row (KRW.out) 1
        have e2 := cell_row (KRW.out) 2
        have e3 := cell_row (KRW.out) 3
        have e4 := cell_row (KRW.out) 4
        have e5 := cell_row (KRW.out) 5
        have e6 := cell_row (KRW.out) 6
        have e7 := cell_row (KRW.out) 7
        have z0 := frozen_row (KRW.out) 0
        have z1 := frozen_row (KRW.out) 1
        have z2 := frozen_row (KRW.out) 2
        have z3 := frozen_row (KRW.out) 3
        have z4 := frozen_row (KRW.out) 4
        have z5 := frozen_row (KRW.out) 5
        have z6 := frozen_row (KRW.out) 6
        have z7 := frozen_row (KRW.out) 7
        go_wp2_with fail
        refine (ok_calls HM6.out.r).mono ?_
        rintro e w6 ⟨rfl, hw⟩
        have hw2 := hw.symm
        subst hw2
        clear hw
        go_wp2_with fail
        refine (ok_calls HM6.out.r).mono ?_
        rintro e w7 ⟨rfl, hw⟩
        have hw2 := hw.symm
        subst hw2
        clear hw
        go_wp2_with fail
        refine ⟨rfl, .tuple #[.agg #[.int .i64 0, .int .i64 0, .int .i64 0, .int .i64 0, .int .i64 0, .int .i64 0, .int .i64 0, .slice none 0 0], .bool false], ?_, ⟨_, by rw [HF.out]; rfl, by rw [HF.out]; exact superNone_val, set8_below (BW.out) (Nat.le_refl _)⟩⟩
        simp only [results, hfr]
        go_simp
      | false =>
        obtain ⟨h28, ha, hq, hal⟩ := SR.out.1 rfl
        have HQE := Lib.hid hq
        clear hq
        by_cases h2 : 2 ≤ b.length - a
        case pos =>
          have g1 : (2 : Int) ≤ (b.length : Int) - a := by omega
          have HG2 := Lib.hid (show a + 2 ≤ b.length by omega)
          obtain ⟨⟨n6, a6, d6⟩, e6⟩ : ∃ r, r = rdNum b a false 2 := ⟨_, rfl⟩
          have NW6 := Lib.hid (show (Lit.int .i64 n6).wf = true by have := rdNum_wf b a false 2; rw [← e6] at this; exact this)
          have ES := Lib.hid (supRel_step SR.out (by omega) e6)
          have E6 := Lib.hid e6
          have L := Lib.hid (show q.length + 1 ≤ maxLen ∧ (q.length + 1) * 8 ≤ 140737488355328 by have := HBL.out; unfold maxLen; omega)
          obtain ⟨q7, hq7⟩ : ∃ z, z = q ++ [n6] := ⟨_, rfl⟩
          have QE := Lib.hid hq7
          clear e6 hq7 h2 h28 ha hal
          go_wp2_with fail
          refine (ok_calls HM6.out.r).mono ?_
          rintro e w6 ⟨rfl, hw⟩
          have hw2 := hw.symm
          subst hw2
          clear hw
          go_wp2_with fail
          refine (left_calls HM6.out.r (by have := HBL.out; omega)).mono ?_
          rintro e w7 ⟨rfl, hw7⟩
          have HM7 := Lib.hid (show MidS w4 p X A c b w7 a false #[.int .i64 y.epoch, .int .i64 y.no, .int .i64 n1, .int .i64 n2, .int .i64 n3, .int .i64 n4, .int .i64 n5, .slice A6 q.length c6] by obtain ⟨n7, rfl⟩ := hw7; exact HM6.out.drewN n7)
          have HA7a := Lib.hid (show (Rep.int .i64).acc 3 (X + 1) (fun _ => False) w7 (.slice A6 q.length c6) q by obtain ⟨n7, rfl⟩ := hw7; exact Rep.acc_keep (w := wr) (w' := wr.drewN n7) (fun _ _ _ => rfl) (fun _ h _ => h) HA6.out)
          clear hw7
          go_wp2_with fail
          have cx := cell_row HM7.out.x 7
          have HMd := Lib.hid (show MidS w4 p X A c b w7.drew a false #[.int .i64 y.epoch, .int .i64 y.no, .int .i64 n1, .int .i64 n2, .int .i64 n3, .int .i64 n4, .int .i64 n5, .slice A6 q.length c6] from HM7.out.drewN 1)
          have HAd := Lib.hid (show (Rep.int .i64).acc 3 (X + 1) (fun _ => False) w7.drew (.slice A6 q.length c6) q from Rep.acc_keep (w := w7) (w' := w7.drew) (fun _ _ _ => rfl) (fun _ h _ => h) HA7a.out)
          have HOWN := Lib.hid (show ∀ x, (Value.slice A6 q.length c6).ownBlock = some x → X + 1 ≤ x from fun x hx => (Rep.acc_own HA7a.out x hx).1)
          have HGO := Lib.hid (show ∀ w8, w7.drew.grownBy w8 (some p) → (Rep.int .i64).acc 3 (X + 1) (fun _ => False) w8 (.slice A6 q.length c6) q from fun w8 hg => Rep.acc_keep (fun x hx hl => hg.block x hl.lt (fun e => by rcases hx with hx | hx; exact hx.elim; have := HOWN.out x hx; have := HPS.out; have := HX.out; have := Option.some.inj e; omega)) (fun _ h _ => h) HAd.out)
          have HNE := Lib.hid (show X ≠ p by have := HPS.out; have := HX.out; omega)
          have HPX := Lib.hid (show p < X by have := HPS.out; have := HX.out; omega)
          go_region_law (first
            | (go_simp; go_at_call 116; refine (rdnum_calls (width := 2) HMd.out.r (by have := HBL.out; omega)).mono ?_; rintro e v6 ⟨rfl, h1, h2⟩; rw [← E6.out] at h1 ⊢; (try dsimp only at h1); (try dsimp only); have K6 := Lib.hid (show MidS w4 p X A c b v6 a6 d6 #[.int .i64 y.epoch, .int .i64 y.no, .int .i64 n1, .int .i64 n2, .int .i64 n3, .int .i64 n4, .int .i64 n5, .slice A6 q.length c6] from HMd.out.num (r := (n6, a6, d6)) HNE.out h1 h2); have HA7 := Lib.hid (HGO.out v6 h2); have HZ7 := Lib.hid (show X + 1 ≤ v6.heap.size from IsC.lt ⟨_, _, _, K6.out.x⟩); clear h1 h2; have cx6 := cell_row K6.out.x 7; have cy6 := (fun o => (World.cell?_of_block (w := v6) (w' := v6.alloc o) (a := ⟨X, 7, none⟩) (Below.heap_alloc v6 o X HZ7.out)).trans cx6))
            | (refine step_snoc (e := 3) (base := X + 1) (Q := fun _ => False) (r := Rep.int .i64) rfl _ _ 30 rfl (.int .i64 0) 1 8 Try.underlying30 info3 rfl (by decide) rfl _ q (by rfl) HA7.out n6 _ ⟨_, rfl, rfl, NW6.out⟩ (by rfl) L.out.1 L.out.2 HZ7.out ?_; intro s7 w8 hacc7 hgr7; rw [← QE.out] at hacc7; have HA8 := Lib.hid hacc7; obtain ⟨A7, c7, rfl, _, _⟩ := Rep.acc_form hacc7; have K7 := Lib.hid (K6.out.grown hgr7 (fun x hx => by have := HOWN.out x hx; omega) HPX.out HX.out HS0.out); clear hacc7 hgr7; have cx7 := cell_row K7.out.x 7; have cz7 := frozen_row K7.out.x 7))
          all_goals
            go_wp2_with fail
            have hown8 := Rep.acc_own HA8.out
            have KF := Lib.hid (K7.out.put HNE.out HX.out HS0.out 7 (.slice A7 q7.length c7))
            refine ⟨⟨q7, a6, d6, _, Lib.hid (by rw [QE.out]; exact ES.out.1), KF.out, Rep.acc_keep (fun x hx _ => Below.heap_setCell _ _ _ _ (by rcases hx with hx | hx; exact hx.elim; have := (hown8 x hx).1; show x ≠ X; omega)) (fun _ h _ => h) HA8.out⟩, ?_⟩
            have e1 := KF.out.r.c1
            have e2 := HM6.out.r.c1
            have e3 := ES.out.2.1
            try dsimp only at e3
            first
              | (rw [e1, HME.out]; show b.length - (intOf (.int .i64 (a6 : Int))).toNat < b.length - a; rw [e3]; simp only [intOf, Int.toNat_natCast]; have := HG2.out; omega)
              | (rw [e1, e2]; show b.length - (intOf (.int .i64 (a6 : Int))).toNat < b.length - (intOf (.int .i64 (a : Int))).toNat; rw [e3]; simp only [intOf, Int.toNat_natCast]; have := HG2.out; omega)

        case neg =>
          have g1 : ¬ (2 : Int) ≤ (b.length : Int) - a := by omega
          have HAL := Lib.hid (show a = 28 + 2 * q.length from ha)
          have HL2 := Lib.hid (show b.length - a < 2 by omega)
          have HLE := Lib.hid hal
          have H28 := Lib.hid h28
          clear h2 h28 ha hal
          go_wp2_with fail
          refine (ok_calls HM6.out.r).mono ?_
          rintro e w6 ⟨rfl, hw⟩
          have hw2 := hw.symm
          subst hw2
          clear hw
          go_wp2_with fail
          refine (left_calls HM6.out.r (by have := HBL.out; omega)).mono ?_
          rintro e w7 ⟨rfl, hw7⟩
          have HM7 := Lib.hid (show MidS w4 p X A c b w7 a false #[.int .i64 y.epoch, .int .i64 y.no, .int .i64 n1, .int .i64 n2, .int .i64 n3, .int .i64 n4, .int .i64 n5, .slice A6 q.length c6] from by obtain ⟨n7, rfl⟩ := hw7; exact HM6.out.drewN n7)
          have HA7 := Lib.hid (show (Rep.int .i64).acc 3 (X + 1) (fun _ => False) w7 (.slice A6 q.length c6) q by obtain ⟨n7, rfl⟩ := hw7; exact Rep.acc_keep (w := wr) (w' := wr.drewN n7) (fun _ _ _ => rfl) (fun _ h _ => h) HA6.out)
          clear hw7
          go_wp2_with fail
          refine (ok_calls HM7.out.r).mono ?_
          rintro e w8 ⟨rfl, hw⟩
          have hw2 := hw.symm
          subst hw2
          clear hw
          go_wp2_with fail
          refine (left_calls HM7.out.r (by have := HBL.out; omega)).mono ?_
          rintro e w9 ⟨rfl, hw9⟩
          have HM9 := Lib.hid (show MidS w4 p X A c b w9 a false #[.int .i64 y.epoch, .int .i64 y.no, .int .i64 n1, .int .i64 n2, .int .i64 n3, .int .i64 n4, .int .i64 n5, .slice A6 q.length c6] from by obtain ⟨n7, rfl⟩ := hw9; exact HM7.out.drewN n7)
          have HA9 := Lib.hid (show (Rep.int .i64).acc 3 (X + 1) (fun _ => False) w9 (.slice A6 q.length c6) q by obtain ⟨n7, rfl⟩ := hw9; exact Rep.acc_keep (w := w7) (w' := w7.drewN n7) (fun _ _ _ => rfl) (fun _ h _ => h) HA7.out)
          have KR9 := Lib.hid (KR.out _ (DG.out _ HM9.out.g))
          have BW9 := Lib.hid (HB1.out.trans ((DG.out _ HM9.out.g).mono HB1.out.size))
          clear hw9
          by_cases h0 : (0 : Int) < (b.length : Int) - a
          case pos =>
            have HF := Lib.hid (show superGet l = none by rw [HSG.out]; exact if_neg (fun h => by have := h.2.1; have := HAL.out; have := HL2.out; omega))

            have e0 := cell_row (KR9.out) 0
            have e1 := cell_row (KR9.out) 1
            have e2 := cell_row (KR9.out) 2
            have e3 := cell_row (KR9.out) 3
            have e4 := cell_row (KR9.out) 4
            have e5 := cell_row (KR9.out) 5
            have e6 := cell_row (KR9.out) 6
            have e7 := cell_row (KR9.out) 7
            have z0 := frozen_row (KR9.out) 0
            have z1 := frozen_row (KR9.out) 1
            have z2 := frozen_row (KR9.out) 2
            have z3 := frozen_row (KR9.out) 3
            have z4 := frozen_row (KR9.out) 4
            have z5 := frozen_row (KR9.out) 5
            have z6 := frozen_row (KR9.out) 6
            have z7 := frozen_row (KR9.out) 7
            go_wp2_with fail
            refine ⟨rfl, .tuple #[.agg #[.int .i64 0, .int .i64 0, .int .i64 0, .int .i64 0, .int .i64 0, .int .i64 0, .int .i64 0, .slice none 0 0], .bool false], ?_, ⟨_, by rw [HF.out]; rfl, by rw [HF.out]; exact superNone_val, set8_below (BW9.out) (Nat.le_refl _)⟩⟩
            simp only [results, hfr]
            go_simp
          case neg =>
            have hq2 : q.length = (b.length - 28) / 2 := by have := HAL.out; have := HLE.out; omega
            have HXR := Lib.hid (show superRead y.epoch y.no b = ⟨y.epoch, y.no, n1, n2, n3, n4, n5, q⟩ by
              rcases ER.out with ⟨_, g1, g2, g3, g4, g5⟩ | ⟨h, _⟩
              · cases g5
                have hqe := HQE.out
                rw [hq2] at hqe
                unfold superRead
                rw [← g1, ← g2, ← g3, ← g4, ← hqe]
              · exact absurd H28.out h)
            have HEV := Lib.hid (show b.length % 2 = 0 by have := HAL.out; have := HLE.out; omega)
            have HV9 := Lib.hid (show rSuper.val (fun k => w.heap.size < k) w9 (.agg #[.int .i64 y.epoch, .int .i64 y.no, .int .i64 n1, .int .i64 n2, .int .i64 n3, .int .i64 n4, .int .i64 n5, .slice A6 q.length c6]) ⟨y.epoch, y.no, n1, n2, n3, n4, n5, q⟩ by
              obtain ⟨A8, c8, he, h8⟩ := Rep.val_sl (Rep.acc_fresh HA9.out)
              cases he
              exact rSuper_agg (x := ⟨y.epoch, y.no, n1, n2, n3, n4, n5, q⟩) F0.out F1.out NW1.out NW2.out NW3.out NW4.out NW5.out (h8.keep fun k hk _ => ⟨by have := HX.out; have := D4.out.size; have := HZ1.out; show w.heap.size < k; have hk2 : X + 1 ≤ k := hk; omega, rfl⟩))
            clear hq2
            have HX9 := Lib.hid HM9.out.x
            have x0 := cell_row (HX9.out) 0
            have x1 := cell_row (HX9.out) 1
            have x2 := cell_row (HX9.out) 2
            have x3 := cell_row (HX9.out) 3
            have x4 := cell_row (HX9.out) 4
            have x5 := cell_row (HX9.out) 5
            have x6 := cell_row (HX9.out) 6
            have x7 := cell_row (HX9.out) 7
            go_wp2_with fail
            refine (superRight_calls HV9.out).mono ?_
            rintro e w10 ⟨rfl, hb10⟩
            have HX10 := Lib.hid ((hb10.block X (IsC.lt ⟨_, _, _, HX9.out⟩)).trans HX9.out)
            have KR10 := Lib.hid ((hb10.block w.heap.size (IsC.lt ⟨_, _, _, KR9.out⟩)).trans KR9.out)
            have BW10 := Lib.hid (BW9.out.trans (hb10.mono BW9.out.size))
            have HV10 := Lib.hid (Rep.val_keep (Q' := fun k => w.heap.size < k) (fun k hk hl => ⟨hk, hb10.block k hl.lt⟩) HV9.out)
            clear x0 x1 x2 x3 x4 x5 x6 x7 hb10
            cases hr : superRight ⟨y.epoch, y.no, n1, n2, n3, n4, n5, q⟩ with
            | false =>
              have HF := Lib.hid (show superGet l = none by rw [HSG.out]; exact if_neg (fun h => by have := h.2.2; rw [HXR.out, hr] at this; cases this))
              clear hr
              have e0 := cell_row (KR10.out) 0
              have e1 := cell_row (KR10.out) 1
              have e2 := cell_row (KR10.out) 2
              have e3 := cell_row (KR10.out) 3
              have e4 := cell_row (KR10.out) 4
              have e5 := cell_row (KR10.out) 5
              have e6 := cell_row (KR10.out) 6
              have e7 := cell_row (KR10.out) 7
              have z0 := frozen_row (KR10.out) 0
              have z1 := frozen_row (KR10.out) 1
              have z2 := frozen_row (KR10.out) 2
              have z3 := frozen_row (KR10.out) 3
              have z4 := frozen_row (KR10.out) 4
              have z5 := frozen_row (KR10.out) 5
              have z6 := frozen_row (KR10.out) 6
              have z7 := frozen_row (KR10.out) 7
              go_wp2_with fail
              refine ⟨rfl, .tuple #[.agg #[.int .i64 0, .int .i64 0, .int .i64 0, .int .i64 0, .int .i64 0, .int .i64 0, .int .i64 0, .slice none 0 0], .bool false], ?_, ⟨_, by rw [HF.out]; rfl, by rw [HF.out]; exact superNone_val, set8_below (BW10.out) (Nat.le_refl _)⟩⟩
              simp only [results, hfr]
              go_simp
            | true =>
              have HF := Lib.hid (show superGet l = some ⟨y.epoch, y.no, n1, n2, n3, n4, n5, q⟩ by rw [HSG.out, HXR.out]; exact if_pos ⟨H28.out, HEV.out, hr⟩)
              clear hr
              have e0 := cell_row (KR10.out) 0
              have e1 := cell_row (KR10.out) 1
              have e2 := cell_row (KR10.out) 2
              have e3 := cell_row (KR10.out) 3
              have e4 := cell_row (KR10.out) 4
              have e5 := cell_row (KR10.out) 5
              have e6 := cell_row (KR10.out) 6
              have e7 := cell_row (KR10.out) 7
              have z0 := frozen_row (KR10.out) 0
              have z1 := frozen_row (KR10.out) 1
              have z2 := frozen_row (KR10.out) 2
              have z3 := frozen_row (KR10.out) 3
              have z4 := frozen_row (KR10.out) 4
              have z5 := frozen_row (KR10.out) 5
              have z6 := frozen_row (KR10.out) 6
              have z7 := frozen_row (KR10.out) 7
              have x0 := cell_row (HX10.out) 0
              have x1 := cell_row (HX10.out) 1
              have x2 := cell_row (HX10.out) 2
              have x3 := cell_row (HX10.out) 3
              have x4 := cell_row (HX10.out) 4
              have x5 := cell_row (HX10.out) 5
              have x6 := cell_row (HX10.out) 6
              have x7 := cell_row (HX10.out) 7
              go_wp2_with fail
              refine ⟨rfl, .tuple #[.agg #[.int .i64 y.epoch, .int .i64 y.no, .int .i64 n1, .int .i64 n2, .int .i64 n3, .int .i64 n4, .int .i64 n5, .slice A6 q.length c6], .bool true], ?_, ⟨_, by rw [HF.out]; rfl, by rw [HF.out]; exact Rep.val_keep (fun k hk _ => ⟨Nat.le_of_lt hk, set8_keep (Nat.ne_of_gt hk)⟩) HV10.out, set8_below (BW10.out) (Nat.le_refl _)⟩⟩
              simp only [results, hfr]
              go_simp
end Go.Proofs.Ythjjnlilpklacaa
