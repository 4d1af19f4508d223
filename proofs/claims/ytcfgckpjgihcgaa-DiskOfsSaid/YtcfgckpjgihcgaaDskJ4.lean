/- Texts on which the proofs stand, part 4: DirGet, SealGet, Disk, DiskRead, LeCut, Region, Chunk, Cut. No condition is laid on any input. -/
import Derived.Test.YtcfgckpjgihcgaaDskJ3
import Derived.Deep.RegionLaw
import Derived.Deep.RegionHeld
import Derived.Laws.Cover3
import Derived.Maps.OwnSet
import Derived.Maps.OwnOps
import Derived.RangeFuncNested
import Derived.RangeFuncBound
import Derived.RangeFuncCalls
import Derived.RangeFuncLeaves
import Derived.RangeFuncBox
import Derived.Orders
import Derived.OrdersIn
import Derived.Shelf.Abstract
import Derived.Shelf.RegionOpen
import Derived.OwnWalkIn
import Derived.TacticsInMore
import Derived.LoopNIn
import Derived.LoopIn
/- Walk of dir.Get. -/
namespace Go.Proofs.Ytcfgckpjgihcgaa
open Go.RowKit

theorem u64_wrap_wf (n : Int) : (Lit.int .u64 (IntKind.u64.wrap n)).wf = true := by
  rw [wrap_u64]; simp [Lit.wf, IntKind.min, IntKind.max, IntKind.signed, IntKind.bits]; omega
theorem RdrAt.grown {w w' : World} {p : Nat} {A : Option Addr} {c : Nat} {b : List UInt8} {at_ : Nat} {bad : Bool} {row : Option Nat} (h : RdrAt w p A c b at_ bad) (hg : w.grownBy w' row) (hr : ∀ x, row = some x → p < x) : RdrAt w' p A c b at_ bad :=
  ⟨(hg.block p h.lt (fun e => by have := hr p e.symm; omega)).trans h.blk, h.sl.keep fun x hx hl => ⟨hx, hg.block x hl.lt (fun e => by have := hr x e.symm; omega)⟩, h.le⟩

/-- In the midst of a round: since the world w0 only the reader's block and new ones have changed; the entry lies in block bx. -/
structure Mid (w0 : World) (p bx : Nat) (A : Option Addr) (c : Nat) (b : List UInt8) (w : World) (at_ : Nat) (bad : Bool) (cs : Array Value) : Prop where
  g : w0.grownBy w (some p)
  x : w.heap[bx]? = some (.cells cs 142 (0, 0))
  r : RdrAt w p A c b at_ bad
theorem Mid.num {w0 : World} {p bx : Nat} {A : Option Addr} {c : Nat} {b : List UInt8} {w : World} {at_ : Nat} {bad : Bool} {cs : Array Value} (h : Mid w0 p bx A c b w at_ bad cs) (hne : bx ≠ p) {r : Int × Nat × Bool} {w' : World}
    (h1 : RdrAt w' p A c b r.2.1 r.2.2) (h2 : w.grownBy w' (some p)) : Mid w0 p bx A c b w' r.2.1 r.2.2 cs :=
  ⟨h.g.trans h2, (h2.block bx (IsC.lt ⟨_, _, _, h.x⟩) (fun e => hne (Option.some.inj e))).trans h.x, h1⟩
theorem Mid.put {w0 : World} {p bx : Nat} {A : Option Addr} {c : Nat} {b : List UInt8} {w : World} {at_ : Nat} {bad : Bool} {cs : Array Value} (h : Mid w0 p bx A c b w at_ bad cs) (hne : bx ≠ p) (hbx : w0.heap.size ≤ bx) (hs : Rep.byte.Sl (fun x => x < p) w0 A c b) (i : Nat) (v : Value) : Mid w0 p bx A c b (w.setCell ⟨bx, i, none⟩ v) at_ bad (cs.setIfInBounds i v) :=
  ⟨⟨h.g.os, h.g.tape, h.g.output, by simpa using h.g.size, fun k hk hr => (Below.heap_setCell _ _ _ _ (show k ≠ bx by omega)).trans (h.g.block k hk hr)⟩, heap_setRow h.x,
   ⟨(Below.heap_setCell _ _ _ _ (show p ≠ bx from fun e => hne e.symm)).trans h.r.blk, hs.keep fun x hx hl => ⟨hx, (Below.heap_setCell _ _ _ _ (show x ≠ bx by have := hl.lt; omega)).trans (h.g.block x hl.lt (fun e => Nat.ne_of_lt hx (Option.some.inj e)))⟩, h.r.le⟩⟩
/-- An entry's parts, as0 so far read. -/
theorem Mid.grown {w0 : World} {p bx : Nat} {A : Option Addr} {c : Nat} {b : List UInt8} {w w' : World} {at_ : Nat} {bad : Bool} {cs : Array Value} {row : Option Nat} (h : Mid w0 p bx A c b w at_ bad cs) (hg : w.grownBy w' row) (hr : ∀ k, row = some k → bx < k) (hp : p < bx) (hbx : w0.heap.size ≤ bx) (hs : Rep.byte.Sl (fun x => x < p) w0 A c b) : Mid w0 p bx A c b w' at_ bad cs := by
  have hk : ∀ k, k ≤ bx → k < w.heap.size → w'.heap[k]? = w.heap[k]? := fun k h1 h2 => hg.block k h2 (fun e => by have := hr k e.symm; omega)
  have hxl : bx < w.heap.size := IsC.lt ⟨_, _, _, h.x⟩
  refine ⟨⟨hg.os.trans h.g.os, hg.tape.trans h.g.tape, hg.output.trans h.g.output, Nat.le_trans h.g.size hg.size, fun k hl hne => (hk k (by omega) (by have := h.g.size; omega)).trans (h.g.block k hl hne)⟩, (hk bx (Nat.le_refl _) hxl).trans h.x, ⟨(hk p (by omega) (by omega)).trans h.r.blk, hs.keep fun x hx hl => ⟨hx, (hk x (by have := hl.lt; omega) (by have := hl.lt; omega)).trans (h.g.block x hl.lt (fun e => Nat.ne_of_lt hx (Option.some.inj e)))⟩, h.r.le⟩⟩

/-- What is known of the reader and the entries at the head of a round. -/
def DirRel (b : List UInt8) (N : Nat) (l : List DEntry) (at_ : Nat) (bad : Bool) : Prop :=
  (bad = false → ¬ b.length < 2 ∧ N = natAt b 0 2 ∧ parseDir b l.length = some (l, at_)) ∧ (bad = true → dirGet b = ([], 12))
/-- .. and in the midst of an entry, behind its head. -/
def EntRel (b : List UInt8) (at0 : Nat) (C : Nat) (q : List Int) (at_ : Nat) (bad : Bool) : Prop :=
  (bad = false → at0 + 16 ≤ b.length ∧ C = countAt b at0 ∧ q = pagesAt b (at0 + 16) q.length ∧ at_ = at0 + 16 + 2 * q.length) ∧ (bad = true → parseEnt b at0 = none)

theorem rdNum_false (b : List UInt8) (a w : Nat) (h1 : 1 ≤ w) (h8 : w ≤ 8) : rdNum b a false (w : Int) = if a + w ≤ b.length then (i64of (natAt b a w), a + w, false) else (0, a, true) := by
  unfold rdNum
  rw [getNum_nat b a h1 h8, wide_small h1 h8]
  by_cases h : a + w ≤ b.length
  · rw [if_pos h, if_pos h]; rfl
  · rw [if_neg h, if_neg h]; rfl
theorem rdNum_wf (b : List UInt8) (a : Nat) (d : Bool) (w : Int) : (Lit.int .i64 (rdNum b a d w).1).wf = true := by
  unfold rdNum
  split
  · rfl
  · have := getNum_wf b a w
    split
    · rfl
    · rename_i h; rw [h] at this; exact this
theorem dirRel_start (b : List UInt8) : ∃ N : Nat, (rdNum b 0 false 2).1 = N ∧ N < 65536 ∧ DirRel b N [] (rdNum b 0 false 2).2.1 (rdNum b 0 false 2).2.2 := by
  have h : rdNum b 0 false 2 = _ := rdNum_false b 0 2 (by decide) (by decide)
  rw [h]
  by_cases hl : 0 + 2 ≤ b.length
  · rw [if_pos hl]
    exact ⟨natAt b 0 2, i64of_natAt b 0 2 (by decide), natAt_lt b 0 2, ⟨fun _ => ⟨by omega, rfl, rfl⟩, fun h => (by cases h)⟩⟩
  · rw [if_neg hl]
    exact ⟨0, rfl, by decide, ⟨fun h => (by cases h), fun _ => dirGet_short (by omega)⟩⟩
theorem entRel_start {b : List UInt8} {at_ : Nat} {r1 r2 r3 r4 r5 : Int × Nat × Bool} (e1 : r1 = rdNum b at_ false 1) (e2 : r2 = rdNum b r1.2.1 r1.2.2 8) (e3 : r3 = rdNum b r2.2.1 r2.2.2 1) (e4 : r4 = rdNum b r3.2.1 r3.2.2 4) (e5 : r5 = rdNum b r4.2.1 r4.2.2 2) :
    ∃ C : Nat, r5.1 = C ∧ C < 65536 ∧ EntRel b at_ C [] r5.2.1 r5.2.2 ∧ (r5.2.2 = false → (⟨r1.1, IntKind.u64.wrap r2.1, r3.1⟩ : DKey) = keyAt b at_ ∧ r4.1 = natAt b (at_ + 10) 4) := by
  rcases header e1 e2 e3 e4 e5 with ⟨h, h1, h2, h3, h4, h5⟩ | ⟨h, h5, hd⟩
  · refine ⟨countAt b at_, by rw [h5], natAt_lt b (at_ + 14) 2, ⟨fun _ => ⟨h, rfl, by simp [pagesAt], by rw [h5]; rfl⟩, fun hh => by rw [h5] at hh; cases hh⟩, fun _ => ⟨?_, h4⟩⟩
    rw [h1, h2, h3, u64_i64of _ (natAt8_lt b (at_ + 1))]; rfl
  · exact ⟨0, h5, by decide, ⟨fun hh => (by rw [hd] at hh; cases hh), fun _ => parseEnt_none (fun hh => h hh.1)⟩, fun hh => (by rw [hd] at hh; cases hh)⟩
theorem entRel_step {b : List UInt8} {at0 C a : Nat} {q : List Int} (h : EntRel b at0 C q a false) (hq : q.length < C) {r : Int × Nat × Bool} (e : r = rdNum b a false 2) : EntRel b at0 C (q ++ [r.1]) r.2.1 r.2.2 := by
  have hn : rdNum b a false 2 = _ := rdNum_false b a 2 (by decide) (by decide)
  obtain ⟨h16, hC, hq2, ha⟩ := h.1 rfl
  rw [hn] at e
  by_cases hl : a + 2 ≤ b.length
  · rw [if_pos hl] at e
    subst e
    refine ⟨fun _ => ⟨h16, hC, ?_, ?_⟩, fun hh => by cases hh⟩
    · rw [List.length_append, List.length_singleton, pagesAt_succ, ← hq2, ha, i64of_natAt b _ 2 (by decide)]
    · rw [List.length_append, List.length_singleton, ha]; show at0 + 16 + 2 * q.length + 2 = _; omega
  · rw [if_neg hl] at e
    subst e
    exact ⟨fun hh => (by cases hh), fun _ => parseEnt_none (fun hh => by have := hh.2; omega)⟩
theorem dirRel_step {b : List UInt8} {N at0 C a : Nat} {l : List DEntry} {q : List Int} {d : Bool} {k : DKey} {n : Int} (h : DirRel b N l at0 false) (hl : l.length < N) (he : EntRel b at0 C q a d) (hk : d = false → k = keyAt b at0 ∧ n = natAt b (at0 + 10) 4) (hq : d = false → q.length = C) (ha : a ≤ b.length) : DirRel b N (l ++ [⟨k, n, q⟩]) a d := by
  obtain ⟨h2, hN, hp⟩ := h.1 rfl
  cases d with
  | false =>
    obtain ⟨h16, hC, hq2, ha2⟩ := he.1 rfl
    obtain ⟨rfl, rfl⟩ := hk rfl
    have hqc := hq rfl
    rw [hqc] at hq2 ha2
    refine ⟨fun _ => ⟨h2, hN, ?_⟩, fun hh => by cases hh⟩
    rw [List.length_append, List.length_singleton, parse_step hp h16 (by omega), ← hC, ha2, hq2, hC]
    rfl
  | true => exact ⟨fun hh => (by cases hh), fun _ => dirGet_none h2 (by rw [← hN]; exact parse_fail hl hp (he.2 rfl))⟩

set_option maxRecDepth 100000 in
set_option maxHeartbeats 1000000 in
/-- dir.Get -/
theorem dget_calls {Q : Nat → Prop} {w : World} {v : Value} {b : List UInt8} (hx : Rep.byte.list.val Q w v b) (hb : b.length ≤ 1000000000) :
    Calls Try.prog 101 #[v] w (ResN rEntry.list (fun b => w.heap.size ≤ b) w (dirGet b).1 (dirGet b).2) := by
  have HX := Lib.hid hx
  obtain ⟨A0, c0, rfl, hc1, hc2, hA⟩ := Rep.val_list hx
  have G0 := Lib.hid (getNum_nat b 0 (w := 2) (by decide) (by decide))
  have HBL := Lib.hid hb
  clear hx hA hc1 hc2 hb
  go_enter Try.func101, Try.ntmps101
  go_wp2_with fail
  refine (read_calls HX.out HBL.out).mono ?_
  rintro e w1 ⟨p, A, c, rfl, hr, hp, hb1, hsl⟩
  have HR := Lib.hid hr
  have B1 := Lib.hid hb1
  have HP0 := Lib.hid hp
  clear hr hb1 hsl hp
  go_wp2_with fail
  refine (rdnum_calls (width := 2) HR.out HBL.out).mono ?_
  rintro e w2 ⟨rfl, hr2, hg2⟩
  have B2 := Lib.hid (show Below w.heap.size w w2 from B1.out.grown hg2 B1.out.size (fun k hk => by have := HP0.out; have := Option.some.inj hk; omega))
  have HR2 := Lib.hid hr2
  clear hr2 hg2
  obtain ⟨N, hN, hN1, hrel0⟩ := dirRel_start b
  generalize rdNum b 0 false 2 = r0 at *
  obtain ⟨n0, a0, d0⟩ := r0
  dsimp only at *
  subst hN
  have HD0 := Lib.hid hrel0
  clear hrel0
  go_wp2_with fail
  go_loopw [6, 7] (fun s n wr => ∃ (m : Nat) (l : List DEntry) (at_ : Nat) (bad : Bool), n = .int .i64 m ∧ m + l.length = N ∧ Hid (DirRel b N l at_ bad) ∧ RdrAt wr p A c b at_ bad ∧ rEntry.acc 142 (p + 1) (fun x => w.heap.size ≤ x ∧ x ≠ p) wr s l ∧ Below w.heap.size w wr)
    (fun _ n _ => (intOf n).toNat)
  case atStart => exact ⟨N, [], a0, d0, rfl, rfl, HD0.out, HR2.out, Rep.acc_nil, B2.out⟩
  case round =>
    obtain ⟨m, l, at_, bad, rfl, hml, hdr, hr, hv, hbel⟩ := hrel
    have HR := Lib.hid hr
    have HB := Lib.hid hbel
    have HV := Lib.hid hv
    obtain ⟨A2, c2, rfl, _, _⟩ := Rep.acc_form hv
    have HML := Lib.hid hml
    clear hr hbel hv
    by_cases hm : 0 < m
    · cases bad with
      | true =>
        have F := Lib.hid (hdr.out.2 rfl)
        have hm1 : (0 : Int) < m := by omega
        clear hdr hml
        go_wp2_with (go_at_call 192; refine (ok_calls HR.out).mono ?_; rintro e w' ⟨rfl, rfl⟩)
        go_ret2
        rw [F.out]
        exact ⟨_, rfl, Rep.val_nil (by simp [maxLen]), HB.out⟩
      | false =>
        have hm1 : (0 : Int) < m := by omega
        have hm2 : (m : Int) ≤ 65535 := by omega
        have DR := Lib.hid hdr.out
        have HM := Lib.hid hm
        clear hdr hml hm
        obtain ⟨bx, hbx⟩ : ∃ bx, bx = wr.heap.size := ⟨_, rfl⟩
        have HBX := Lib.hid hbx
        have HNE := Lib.hid (show bx ≠ p by have := HR.out.lt; omega)
        have HPX := Lib.hid (show p < bx by have := HR.out.lt; omega)
        have HS0 := Lib.hid HR.out.sl
        obtain ⟨⟨n1, a1, d1⟩, e1⟩ : ∃ r, r = rdNum b at_ false 1 := ⟨_, rfl⟩
        have E1 := Lib.hid e1
        have NW1 := Lib.hid (show (Lit.int .i64 n1).wf = true by have := rdNum_wf b at_ false 1; rw [← e1] at this; exact this)
        obtain ⟨⟨n2, a2, d2⟩, e2⟩ : ∃ r, r = rdNum b a1 d1 8 := ⟨_, rfl⟩
        have E2 := Lib.hid e2
        have NW2 := Lib.hid (show (Lit.int .i64 n2).wf = true by have := rdNum_wf b a1 d1 8; rw [← e2] at this; exact this)
        obtain ⟨⟨n3, a3, d3⟩, e3⟩ : ∃ r, r = rdNum b a2 d2 1 := ⟨_, rfl⟩
        have E3 := Lib.hid e3
        have NW3 := Lib.hid (show (Lit.int .i64 n3).wf = true by have := rdNum_wf b a2 d2 1; rw [← e3] at this; exact this)
        obtain ⟨⟨n4, a4, d4⟩, e4⟩ : ∃ r, r = rdNum b a3 d3 4 := ⟨_, rfl⟩
        have E4 := Lib.hid e4
        have NW4 := Lib.hid (show (Lit.int .i64 n4).wf = true by have := rdNum_wf b a3 d3 4; rw [← e4] at this; exact this)
        obtain ⟨⟨n5, a5, d5⟩, e5⟩ : ∃ r, r = rdNum b a4 d4 2 := ⟨_, rfl⟩
        have E5 := Lib.hid e5
        have NW5 := Lib.hid (show (Lit.int .i64 n5).wf = true by have := rdNum_wf b a4 d4 2; rw [← e5] at this; exact this)
        have ER := Lib.hid (entRel_start e1 e2 e3 e4 e5)
        clear e1 e2 e3 e4 e5 hbx
        go_wp2_with (go_at_call 192; refine (ok_calls HR.out).mono ?_; rintro e w' ⟨rfl, rfl⟩)
        obtain ⟨W0, hW0⟩ : ∃ W0, w'.alloc (.cells #[.int .i64 0, .int .u64 0, .int .i64 0, .int .i64 0, .slice none 0 0] 142) = W0 := ⟨_, rfl⟩
        have M0 := Lib.hid (show Mid w' p bx A c b W0 at_ false #[.int .i64 0, .int .u64 0, .int .i64 0, .int .i64 0, .slice none 0 0] by
          rw [← hW0, HBX.out]
          exact ⟨World.grownBy_alloc _ _ _, heap_alloc_new _ _, HR.out.keep fun x hl => Below.heap_alloc _ _ _ hl.lt⟩)
        rw [hW0, ← HBX.out]
        clear hW0
        refine (rdnum_calls (width := 1) M0.out.r HBL.out).mono ?_
        rintro e v1 ⟨rfl, h1, h2⟩
        rw [← E1.out] at h1 ⊢
        dsimp only at h1 ⊢
        have K1 := Lib.hid (show Mid w' p bx A c b v1 a1 d1 #[.int .i64 0, .int .u64 0, .int .i64 0, .int .i64 0, .slice none 0 0] from M0.out.num (r := (n1, a1, d1)) HNE.out h1 h2)
        clear h1 h2
        have cx := cell_row K1.out.x 0
        have zx := frozen_row K1.out.x 0
        go_wp2_with fail
        clear cx zx
        have M1 := Lib.hid (show Mid w' p bx A c b (v1.setCell ⟨bx, 0, none⟩ (.int .i64 n1)) a1 d1 #[.int .i64 n1, .int .u64 0, .int .i64 0, .int .i64 0, .slice none 0 0] from K1.out.put HNE.out (Nat.le_of_eq HBX.out.symm) HS0.out 0 _)
        generalize v1.setCell ⟨bx, 0, none⟩ (.int .i64 n1) = V1 at *
        refine (rdnum_calls (width := 8) M1.out.r HBL.out).mono ?_
        rintro e v2 ⟨rfl, h1, h2⟩
        rw [← E2.out] at h1 ⊢
        dsimp only at h1 ⊢
        have K2 := Lib.hid (show Mid w' p bx A c b v2 a2 d2 #[.int .i64 n1, .int .u64 0, .int .i64 0, .int .i64 0, .slice none 0 0] from M1.out.num (r := (n2, a2, d2)) HNE.out h1 h2)
        clear h1 h2
        have cx := cell_row K2.out.x 1
        have zx := frozen_row K2.out.x 1
        go_wp2_with fail
        clear cx zx
        have M2 := Lib.hid (show Mid w' p bx A c b (v2.setCell ⟨bx, 1, none⟩ (.int .u64 (IntKind.u64.wrap n2))) a2 d2 #[.int .i64 n1, .int .u64 (IntKind.u64.wrap n2), .int .i64 0, .int .i64 0, .slice none 0 0] from K2.out.put HNE.out (Nat.le_of_eq HBX.out.symm) HS0.out 1 _)
        generalize v2.setCell ⟨bx, 1, none⟩ (.int .u64 (IntKind.u64.wrap n2)) = V2 at *
        refine (rdnum_calls (width := 1) M2.out.r HBL.out).mono ?_
        rintro e v3 ⟨rfl, h1, h2⟩
        rw [← E3.out] at h1 ⊢
        dsimp only at h1 ⊢
        have K3 := Lib.hid (show Mid w' p bx A c b v3 a3 d3 #[.int .i64 n1, .int .u64 (IntKind.u64.wrap n2), .int .i64 0, .int .i64 0, .slice none 0 0] from M2.out.num (r := (n3, a3, d3)) HNE.out h1 h2)
        clear h1 h2
        have cx := cell_row K3.out.x 2
        have zx := frozen_row K3.out.x 2
        go_wp2_with fail
        clear cx zx
        have M3 := Lib.hid (show Mid w' p bx A c b (v3.setCell ⟨bx, 2, none⟩ (.int .i64 n3)) a3 d3 #[.int .i64 n1, .int .u64 (IntKind.u64.wrap n2), .int .i64 n3, .int .i64 0, .slice none 0 0] from K3.out.put HNE.out (Nat.le_of_eq HBX.out.symm) HS0.out 2 _)
        generalize v3.setCell ⟨bx, 2, none⟩ (.int .i64 n3) = V3 at *
        refine (rdnum_calls (width := 4) M3.out.r HBL.out).mono ?_
        rintro e v4 ⟨rfl, h1, h2⟩
        rw [← E4.out] at h1 ⊢
        dsimp only at h1 ⊢
        have K4 := Lib.hid (show Mid w' p bx A c b v4 a4 d4 #[.int .i64 n1, .int .u64 (IntKind.u64.wrap n2), .int .i64 n3, .int .i64 0, .slice none 0 0] from M3.out.num (r := (n4, a4, d4)) HNE.out h1 h2)
        clear h1 h2
        have cx := cell_row K4.out.x 3
        have zx := frozen_row K4.out.x 3
        go_wp2_with fail
        clear cx zx
        have M4 := Lib.hid (show Mid w' p bx A c b (v4.setCell ⟨bx, 3, none⟩ (.int .i64 n4)) a4 d4 #[.int .i64 n1, .int .u64 (IntKind.u64.wrap n2), .int .i64 n3, .int .i64 n4, .slice none 0 0] from K4.out.put HNE.out (Nat.le_of_eq HBX.out.symm) HS0.out 3 _)
        generalize v4.setCell ⟨bx, 3, none⟩ (.int .i64 n4) = V4 at *
        refine (rdnum_calls (width := 2) M4.out.r HBL.out).mono ?_
        rintro e v5 ⟨rfl, h1, h2⟩
        rw [← E5.out] at h1 ⊢
        dsimp only at h1 ⊢
        have K5 := Lib.hid (show Mid w' p bx A c b v5 a5 d5 #[.int .i64 n1, .int .u64 (IntKind.u64.wrap n2), .int .i64 n3, .int .i64 n4, .slice none 0 0] from M4.out.num (r := (n5, a5, d5)) HNE.out h1 h2)
        clear h1 h2
        obtain ⟨C, hC, hC1, her, hkv⟩ := ER.out
        (try dsimp only at hC); (try dsimp only at her); (try dsimp only at hkv)
        subst hC
        have HER := Lib.hid her
        have HKV := Lib.hid hkv
        clear her hkv
        go_wp2_with fail
        go_loopw [9] (fun kv wr => ∃ (k : Nat) (q : List Int) (a : Nat) (d : Bool) (u : Value), kv = .int .i64 k ∧ k + q.length = C ∧ Hid (EntRel b at_ C q a d) ∧ Hid (d = false → (⟨n1, IntKind.u64.wrap n2, n3⟩ : DKey) = keyAt b at_ ∧ n4 = natAt b (at_ + 10) 4) ∧ Mid w' p bx A c b wr a d #[.int .i64 n1, .int .u64 (IntKind.u64.wrap n2), .int .i64 n3, .int .i64 n4, u] ∧ (Rep.int .i64).acc 3 (bx + 1) (fun _ => False) wr u q)
          (fun kv _ => (intOf kv).toNat)
        case atStart => exact ⟨C, [], a5, d5, .slice none 0 0, rfl, rfl, HER.out, HKV.out, K5.out, Rep.acc_nil⟩
        case round =>
          obtain ⟨k, q, a, d, u, rfl, hkq, her6, hkv6, hmid, hacc⟩ := hrel
          have HM6 := Lib.hid hmid
          have HA6 := Lib.hid hacc
          have HKQ := Lib.hid hkq
          obtain ⟨A6, c6, rfl, _, _⟩ := Rep.acc_form hacc
          clear hmid hacc hkq
          have hk6 : (k : Int) ≤ 65535 := by have := HKQ.out; omega
          by_cases hk : 0 < k
          · have hk1 : (0 : Int) < k := by omega
            cases d with
            | true =>
              have e0 := cell_row HM6.out.x 0
              have e1 := cell_row HM6.out.x 1
              have e2 := cell_row HM6.out.x 2
              have e3 := cell_row HM6.out.x 3
              have e4 := cell_row HM6.out.x 4
              have HVx := Lib.hid (show rEntry.acc 142 (p + 1) (fun x => w.heap.size ≤ x ∧ x ≠ p) wr (.slice A2 l.length c2) l from Rep.acc_keep (fun x hx hl => HM6.out.g.block x hl.lt (fun e => by rcases hx with hx | hx; exact hx.2 (Option.some.inj e); have := (Rep.acc_own HV.out x hx).1; have := Option.some.inj e; omega)) (fun _ h _ => h) HV.out)
              have HY := Lib.hid (show rEntry.val (fun x => (w.heap.size ≤ x ∧ x ≠ p) ∧ (Value.slice A2 l.length c2).ownBlock ≠ some x) wr (.agg #[.int .i64 n1, .int .u64 (IntKind.u64.wrap n2), .int .i64 n3, .int .i64 n4, .slice A6 q.length c6]) ⟨⟨n1, IntKind.u64.wrap n2, n3⟩, n4, q⟩ by
                obtain ⟨A8, c8, he, h8⟩ := Rep.val_sl (Rep.acc_fresh HA6.out)
                cases he
                refine rEntry_agg (x := ⟨⟨n1, IntKind.u64.wrap n2, n3⟩, n4, q⟩) NW1.out (u64_wrap_wf n2) NW3.out NW4.out (h8.keep fun x hx _ => ⟨⟨⟨?_, ?_⟩, fun e => ?_⟩, rfl⟩)
                · have := HB.out.size; have := HBX.out; omega
                · have := HPX.out; omega
                · have := (Rep.acc_own HV.out x e).2; have := HBX.out; omega)
              have L2 := Lib.hid (show l.length + 1 ≤ maxLen ∧ (l.length + 1) * 56 ≤ 140737488355328 by have := HML.out; unfold maxLen; omega)
              have HZ := Lib.hid (show p + 1 ≤ wr.heap.size by have := HM6.out.g.size; have := HPX.out; have := HBX.out; omega)
              have DR2 := Lib.hid (show DirRel b N (l ++ [⟨⟨n1, IntKind.u64.wrap n2, n3⟩, n4, q⟩]) a true from dirRel_step DR.out (by have := HML.out; have := HM.out; omega) her6.out hkv6.out (fun h => by cases h) HM6.out.r.le)
              obtain ⟨m', hm'⟩ : ∃ m', m = m' + 1 := ⟨m - 1, by have := HM.out; omega⟩
              have HMM := Lib.hid hm'
              have HB6 := Lib.hid (HB.out.grown HM6.out.g HB.out.size (fun x hx => by have := Option.some.inj hx; have := HP0.out; omega))
              clear hm' her6 hkv6
              go_wp2_with (first | (go_at_call 192; refine (ok_calls HM6.out.r).mono ?_; rintro e w6 ⟨rfl, rfl⟩) | (refine wpList_snoc (e := 142) (base := p + 1) (Q := fun x => w.heap.size ≤ x ∧ x ≠ p) (r := rEntry) rfl rfl _ _ 135 _ rfl rfl rfl (.agg #[.int .i64 0, .int .u64 0, .int .i64 0, .int .i64 0, .slice none 0 0]) 5 56 Try.underlying135 infoEntry rfl (by decide) rfl _ l HVx.out ⟨⟨n1, IntKind.u64.wrap n2, n3⟩, n4, q⟩ _ (by exact rfl) HY.out (by exact rfl) (by exact rfl) L2.out.1 L2.out.2 HZ.out ?_; intro s8 w8 hacc8 hgr8 hat8))
              have HML' := HML.out
              rw [HMM.out] at HML'
              exact ⟨⟨m', l ++ [⟨⟨n1, IntKind.u64.wrap n2, n3⟩, n4, q⟩], a, true, by rw [HMM.out]; congr 1; omega, by rw [List.length_append, List.length_singleton]; omega, DR2, RdrAt.grown HM6.out.r hgr8 (fun x hx => by have := (Rep.acc_own HVx.out x hx).1; omega), hacc8, HB6.out.grown hgr8 HB6.out.size (fun x hx => by have := (Rep.acc_own HVx.out x hx).1; have := HP0.out; omega)⟩, by simp only [intOf]; rw [HMM.out]; omega⟩
            | false =>
              obtain ⟨⟨n6, a6, d6⟩, e6⟩ : ∃ r, r = rdNum b a false 2 := ⟨_, rfl⟩
              have NW6 := Lib.hid (show (Lit.int .i64 n6).wf = true by have := rdNum_wf b a false 2; rw [← e6] at this; exact this)
              have ES := Lib.hid (entRel_step her6.out (by have := HKQ.out; omega) e6)
              have KD := Lib.hid (show d6 = false → (⟨n1, IntKind.u64.wrap n2, n3⟩ : DKey) = keyAt b at_ ∧ n4 = natAt b (at_ + 10) 4 from fun _ => hkv6.out rfl)
              have E6 := Lib.hid e6
              have L := Lib.hid (show q.length + 1 ≤ maxLen ∧ (q.length + 1) * 8 ≤ 140737488355328 by have := HKQ.out; unfold maxLen; omega)
              obtain ⟨q7, hq7⟩ : ∃ z, z = q ++ [n6] := ⟨_, rfl⟩
              have QE := Lib.hid hq7
              clear e6 her6 hkv6 hq7
              go_wp2_with (go_at_call 192; refine (ok_calls HM6.out.r).mono ?_; rintro e w6 ⟨rfl, rfl⟩)
              have cx := cell_row HM6.out.x 4
              have HMd := Lib.hid (show Mid w' p bx A c b w6.drew a false #[.int .i64 n1, .int .u64 (IntKind.u64.wrap n2), .int .i64 n3, .int .i64 n4, .slice A6 q.length c6] from ⟨HM6.out.g.trans (grownBy_drewN w6 1 _), HM6.out.x, HM6.out.r.drewN 1⟩)
              have HAd := Lib.hid (show (Rep.int .i64).acc 3 (bx + 1) (fun _ => False) w6.drew (.slice A6 q.length c6) q from Rep.acc_keep (w := w6) (w' := w6.drew) (fun _ _ _ => rfl) (fun _ h _ => h) HA6.out)
              have HOWN := Lib.hid (show ∀ x, (Value.slice A6 q.length c6).ownBlock = some x → bx + 1 ≤ x from fun x hx => (Rep.acc_own HA6.out x hx).1)
              have HGO := Lib.hid (show ∀ w7, w6.drew.grownBy w7 (some p) → (Rep.int .i64).acc 3 (bx + 1) (fun _ => False) w7 (.slice A6 q.length c6) q from fun w7 hg => Rep.acc_keep (fun x hx hl => hg.block x hl.lt (fun e => by rcases hx with hx | hx; exact hx.elim; have := HOWN.out x hx; have := HPX.out; have := Option.some.inj e; omega)) (fun _ h _ => h) HAd.out)
              go_region_law (first
                | (go_simp; go_at_call 191; refine (rdnum_calls (width := 2) HMd.out.r HBL.out).mono ?_; rintro e v6 ⟨rfl, h1, h2⟩; rw [← E6.out] at h1 ⊢; (try dsimp only at h1); (try dsimp only); have K6 := Lib.hid (show Mid w' p bx A c b v6 a6 d6 #[.int .i64 n1, .int .u64 (IntKind.u64.wrap n2), .int .i64 n3, .int .i64 n4, .slice A6 q.length c6] from HMd.out.num (r := (n6, a6, d6)) HNE.out h1 h2); have HA7 := Lib.hid (HGO.out v6 h2); have HZ7 := Lib.hid (show bx + 1 ≤ v6.heap.size from IsC.lt ⟨_, _, _, K6.out.x⟩); clear h1 h2; have cx6 := cell_row K6.out.x 4; have cy6 := (fun o => (World.cell?_of_block (w := v6) (w' := v6.alloc o) (a := ⟨bx, 4, none⟩) (Below.heap_alloc v6 o bx HZ7.out)).trans cx6))
                | (refine step_snoc (e := 3) (base := bx + 1) (Q := fun _ => False) (r := Rep.int .i64) rfl _ _ 30 rfl (.int .i64 0) 1 8 Try.underlying30 info3 rfl (by decide) rfl _ q (by rfl) HA7.out n6 _ ⟨_, rfl, rfl, NW6.out⟩ (by rfl) L.out.1 L.out.2 HZ7.out ?_; intro s7 w7 hacc7 hgr7; rw [← QE.out] at hacc7; have HA8 := Lib.hid hacc7; obtain ⟨A7, c7, rfl, _, _⟩ := Rep.acc_form hacc7; have K7 := Lib.hid (K6.out.grown hgr7 (fun x hx => by have := HOWN.out x hx; omega) HPX.out (Nat.le_of_eq HBX.out.symm) HS0.out); clear hacc7 hgr7; have cx7 := cell_row K7.out.x 4; have cz7 := frozen_row K7.out.x 4))
              all_goals
                go_wp2_with fail
                have hown8 := Rep.acc_own HA8.out
                exact ⟨⟨k - 1, q7, a6, d6, _, by congr 1; omega, by have := HKQ.out; rw [QE.out, List.length_append, List.length_singleton]; omega, Lib.hid (by rw [QE.out]; exact ES.out), KD, K7.out.put HNE.out (Nat.le_of_eq HBX.out.symm) HS0.out 4 _, Rep.acc_keep (fun x hx _ => Below.heap_setCell _ _ _ _ (by rcases hx with hx | hx; exact hx.elim; have := (hown8 x hx).1; show x ≠ bx; omega)) (fun _ h _ => h) HA8.out⟩, by simp only [intOf]; omega⟩
          · obtain rfl : k = 0 := by omega
            cases d with
            | true =>
              have e0 := cell_row HM6.out.x 0
              have e1 := cell_row HM6.out.x 1
              have e2 := cell_row HM6.out.x 2
              have e3 := cell_row HM6.out.x 3
              have e4 := cell_row HM6.out.x 4
              have HVx := Lib.hid (show rEntry.acc 142 (p + 1) (fun x => w.heap.size ≤ x ∧ x ≠ p) wr (.slice A2 l.length c2) l from Rep.acc_keep (fun x hx hl => HM6.out.g.block x hl.lt (fun e => by rcases hx with hx | hx; exact hx.2 (Option.some.inj e); have := (Rep.acc_own HV.out x hx).1; have := Option.some.inj e; omega)) (fun _ h _ => h) HV.out)
              have HY := Lib.hid (show rEntry.val (fun x => (w.heap.size ≤ x ∧ x ≠ p) ∧ (Value.slice A2 l.length c2).ownBlock ≠ some x) wr (.agg #[.int .i64 n1, .int .u64 (IntKind.u64.wrap n2), .int .i64 n3, .int .i64 n4, .slice A6 q.length c6]) ⟨⟨n1, IntKind.u64.wrap n2, n3⟩, n4, q⟩ by
                obtain ⟨A8, c8, he, h8⟩ := Rep.val_sl (Rep.acc_fresh HA6.out)
                cases he
                refine rEntry_agg (x := ⟨⟨n1, IntKind.u64.wrap n2, n3⟩, n4, q⟩) NW1.out (u64_wrap_wf n2) NW3.out NW4.out (h8.keep fun x hx _ => ⟨⟨⟨?_, ?_⟩, fun e => ?_⟩, rfl⟩)
                · have := HB.out.size; have := HBX.out; omega
                · have := HPX.out; omega
                · have := (Rep.acc_own HV.out x e).2; have := HBX.out; omega)
              have L2 := Lib.hid (show l.length + 1 ≤ maxLen ∧ (l.length + 1) * 56 ≤ 140737488355328 by have := HML.out; unfold maxLen; omega)
              have HZ := Lib.hid (show p + 1 ≤ wr.heap.size by have := HM6.out.g.size; have := HPX.out; have := HBX.out; omega)
              have DR2 := Lib.hid (show DirRel b N (l ++ [⟨⟨n1, IntKind.u64.wrap n2, n3⟩, n4, q⟩]) a true from dirRel_step DR.out (by have := HML.out; have := HM.out; omega) her6.out hkv6.out (fun h => by cases h) HM6.out.r.le)
              obtain ⟨m', hm'⟩ : ∃ m', m = m' + 1 := ⟨m - 1, by have := HM.out; omega⟩
              have HMM := Lib.hid hm'
              have HB6 := Lib.hid (HB.out.grown HM6.out.g HB.out.size (fun x hx => by have := Option.some.inj hx; have := HP0.out; omega))
              clear hm' her6 hkv6
              go_wp2_with (first | (go_at_call 192; refine (ok_calls HM6.out.r).mono ?_; rintro e w6 ⟨rfl, rfl⟩) | (refine wpList_snoc (e := 142) (base := p + 1) (Q := fun x => w.heap.size ≤ x ∧ x ≠ p) (r := rEntry) rfl rfl _ _ 135 _ rfl rfl rfl (.agg #[.int .i64 0, .int .u64 0, .int .i64 0, .int .i64 0, .slice none 0 0]) 5 56 Try.underlying135 infoEntry rfl (by decide) rfl _ l HVx.out ⟨⟨n1, IntKind.u64.wrap n2, n3⟩, n4, q⟩ _ (by exact rfl) HY.out (by exact rfl) (by exact rfl) L2.out.1 L2.out.2 HZ.out ?_; intro s8 w8 hacc8 hgr8 hat8))
              have HML' := HML.out
              rw [HMM.out] at HML'
              exact ⟨⟨m', l ++ [⟨⟨n1, IntKind.u64.wrap n2, n3⟩, n4, q⟩], a, true, by rw [HMM.out]; congr 1; omega, by rw [List.length_append, List.length_singleton]; omega, DR2, RdrAt.grown HM6.out.r hgr8 (fun x hx => by have := (Rep.acc_own HVx.out x hx).1; omega), hacc8, HB6.out.grown hgr8 HB6.out.size (fun x hx => by have := (Rep.acc_own HVx.out x hx).1; have := HP0.out; omega)⟩, by simp only [intOf]; rw [HMM.out]; omega⟩
            | false =>
              have e0 := cell_row HM6.out.x 0
              have e1 := cell_row HM6.out.x 1
              have e2 := cell_row HM6.out.x 2
              have e3 := cell_row HM6.out.x 3
              have e4 := cell_row HM6.out.x 4
              have HVx := Lib.hid (show rEntry.acc 142 (p + 1) (fun x => w.heap.size ≤ x ∧ x ≠ p) wr (.slice A2 l.length c2) l from Rep.acc_keep (fun x hx hl => HM6.out.g.block x hl.lt (fun e => by rcases hx with hx | hx; exact hx.2 (Option.some.inj e); have := (Rep.acc_own HV.out x hx).1; have := Option.some.inj e; omega)) (fun _ h _ => h) HV.out)
              have HY := Lib.hid (show rEntry.val (fun x => (w.heap.size ≤ x ∧ x ≠ p) ∧ (Value.slice A2 l.length c2).ownBlock ≠ some x) wr (.agg #[.int .i64 n1, .int .u64 (IntKind.u64.wrap n2), .int .i64 n3, .int .i64 n4, .slice A6 q.length c6]) ⟨⟨n1, IntKind.u64.wrap n2, n3⟩, n4, q⟩ by
                obtain ⟨A8, c8, he, h8⟩ := Rep.val_sl (Rep.acc_fresh HA6.out)
                cases he
                refine rEntry_agg (x := ⟨⟨n1, IntKind.u64.wrap n2, n3⟩, n4, q⟩) NW1.out (u64_wrap_wf n2) NW3.out NW4.out (h8.keep fun x hx _ => ⟨⟨⟨?_, ?_⟩, fun e => ?_⟩, rfl⟩)
                · have := HB.out.size; have := HBX.out; omega
                · have := HPX.out; omega
                · have := (Rep.acc_own HV.out x e).2; have := HBX.out; omega)
              have L2 := Lib.hid (show l.length + 1 ≤ maxLen ∧ (l.length + 1) * 56 ≤ 140737488355328 by have := HML.out; unfold maxLen; omega)
              have HZ := Lib.hid (show p + 1 ≤ wr.heap.size by have := HM6.out.g.size; have := HPX.out; have := HBX.out; omega)
              have DR2 := Lib.hid (show DirRel b N (l ++ [⟨⟨n1, IntKind.u64.wrap n2, n3⟩, n4, q⟩]) a false from dirRel_step DR.out (by have := HML.out; have := HM.out; omega) her6.out hkv6.out (fun _ => by have := HKQ.out; omega) HM6.out.r.le)
              obtain ⟨m', hm'⟩ : ∃ m', m = m' + 1 := ⟨m - 1, by have := HM.out; omega⟩
              have HMM := Lib.hid hm'
              have HB6 := Lib.hid (HB.out.grown HM6.out.g HB.out.size (fun x hx => by have := Option.some.inj hx; have := HP0.out; omega))
              clear hm' her6 hkv6
              go_wp2_with (first | (go_at_call 192; refine (ok_calls HM6.out.r).mono ?_; rintro e w6 ⟨rfl, rfl⟩) | (refine wpList_snoc (e := 142) (base := p + 1) (Q := fun x => w.heap.size ≤ x ∧ x ≠ p) (r := rEntry) rfl rfl _ _ 135 _ rfl rfl rfl (.agg #[.int .i64 0, .int .u64 0, .int .i64 0, .int .i64 0, .slice none 0 0]) 5 56 Try.underlying135 infoEntry rfl (by decide) rfl _ l HVx.out ⟨⟨n1, IntKind.u64.wrap n2, n3⟩, n4, q⟩ _ (by exact rfl) HY.out (by exact rfl) (by exact rfl) L2.out.1 L2.out.2 HZ.out ?_; intro s8 w8 hacc8 hgr8 hat8))
              have HML' := HML.out
              rw [HMM.out] at HML'
              exact ⟨⟨m', l ++ [⟨⟨n1, IntKind.u64.wrap n2, n3⟩, n4, q⟩], a, false, by rw [HMM.out]; congr 1; omega, by rw [List.length_append, List.length_singleton]; omega, DR2, RdrAt.grown HM6.out.r hgr8 (fun x hx => by have := (Rep.acc_own HVx.out x hx).1; omega), hacc8, HB6.out.grown hgr8 HB6.out.size (fun x hx => by have := (Rep.acc_own HVx.out x hx).1; have := HP0.out; omega)⟩, by simp only [intOf]; rw [HMM.out]; omega⟩
    · obtain rfl : m = 0 := by omega
      cases bad with
      | true =>
        have F := Lib.hid (hdr.out.2 rfl)
        clear hdr hml hm
        go_wp2_with (go_at_call 192; refine (ok_calls HR.out).mono ?_; rintro e w' ⟨rfl, rfl⟩)
        go_ret2
        rw [F.out]
        exact ⟨_, rfl, Rep.val_nil (by simp [maxLen]), HB.out⟩
      | false =>
        obtain ⟨hl2, hN, hp⟩ := hdr.out.1 rfl
        have hlN : l.length = natAt b 0 2 := by omega
        rw [hlN] at hp
        by_cases he : at_ = b.length
        · have F := Lib.hid (dirGet_ok hl2 hp he)
          have n1 : ¬ (0 : Int) < (b.length : Int) - at_ := by omega
          clear hdr hml hm hlN hp hl2 hN he
          go_wp2_with (first | (go_at_call 192; refine (ok_calls HR.out).mono ?_; rintro e w' ⟨rfl, rfl⟩) | (go_at_call 193; refine (left_calls HR.out HBL.out).mono ?_; rintro e w3 ⟨rfl, nq, rfl⟩))
          go_ret2
          rw [F.out]
          refine ⟨_, rfl, Rep.val_drewN ?_ nq, below_drewN HB.out nq⟩
          refine Rep.val_mono (fun b hb _ => ?_) (Rep.acc_val HV.out)
          rcases hb with hb | hb
          · exact hb.1
          · have := (Rep.acc_own HV.out b hb).1; have := HP0.out; omega
        · have F := Lib.hid (dirGet_form hl2 hp he)
          have hle := HR.out.le
          have n1 : (0 : Int) < (b.length : Int) - at_ := by omega
          clear hdr hml hm hlN hp hl2 hN he hle
          go_wp2_with (first | (go_at_call 192; refine (ok_calls HR.out).mono ?_; rintro e w' ⟨rfl, rfl⟩) | (go_at_call 193; refine (left_calls HR.out HBL.out).mono ?_; rintro e w3 ⟨rfl, nq, rfl⟩))
          go_ret2
          rw [F.out]
          exact ⟨_, rfl, Rep.val_nil (by simp [maxLen]), below_drewN HB.out nq⟩
end Go.Proofs.Ytcfgckpjgihcgaa
/- Walk of the seal of a sector. -/
namespace Go.Proofs.Ytcfgckpjgihcgaa
open Go.RowKit
open Extern.Stop (cell)

def seal0 : DSeal := ⟨0, 0, 0, []⟩
def zeroCells : Array Value := #[.int .i64 0, .int .i64 0, .int .i64 0, .slice none 0 0]
theorem seal0_val {Q : Nat → Prop} {w : World} : rSeal.val Q w (.agg #[.int .i64 0, .int .i64 0, .int .i64 0, .slice none 0 0]) seal0 :=
  rSeal_agg (x := seal0) rfl rfl rfl ⟨Nat.le_refl _, by simp [maxLen], [], rfl, fun h => absurd h (by simp [seal0])⟩

/-- What stands while a sector is read: the reader p, the seal's box X, the result's R. -/
structure GetAt (w W : World) (R p X : Nat) (A : Option Addr) (c : Nat) (b : List UInt8) (a : Nat) (cs : Array Value) : Prop where
  bel : Below w.heap.size w W
  rdr : RdrAt W p A c b a false
  xb : W.heap[X]? = some (.cells cs 258 (0, 0))
  rb : W.heap[R]? = some (.cells #[.int .i64 0, .int .i64 0, .int .i64 0, .slice none 0 0] 258 (0, 0))
  ok : w.heap.size ≤ R ∧ R < p ∧ p < X
theorem GetAt.num {w W W' : World} {R p X : Nat} {A : Option Addr} {c : Nat} {b : List UInt8} {a a' : Nat} {cs : Array Value} (h : GetAt w W R p X A c b a cs) (r : RdrAt W' p A c b a' false) (g : W.grownBy W' (some p)) : GetAt w W' R p X A c b a' cs :=
  ⟨h.bel.grown g h.bel.size (fun k hk => by have := Option.some.inj hk; have := h.ok; omega), r,
   (g.block X (IsC.lt ⟨_, _, _, h.xb⟩) (fun e => by have := Option.some.inj e; have := h.ok; omega)).trans h.xb,
   (g.block R (IsC.lt ⟨_, _, _, h.rb⟩) (fun e => by have := Option.some.inj e; have := h.ok; omega)).trans h.rb, h.ok⟩
theorem GetAt.put {w W : World} {R p X : Nat} {A : Option Addr} {c : Nat} {b : List UInt8} {a : Nat} {cs : Array Value} (h : GetAt w W R p X A c b a cs) (i : Nat) (v : Value) : GetAt w (W.setCell ⟨X, i, none⟩ v) R p X A c b a (cs.setIfInBounds i v) := by
  have ok := h.ok
  refine ⟨⟨h.bel.os, h.bel.tape, h.bel.output, by simpa using h.bel.size, fun k hk => (Below.heap_setCell _ _ _ _ (show k ≠ X by omega)).trans (h.bel.block k hk)⟩,
    ⟨(Below.heap_setCell _ _ _ _ (show p ≠ X by omega)).trans h.rdr.blk, h.rdr.sl.keep fun x hx _ => ⟨hx, Below.heap_setCell _ _ _ _ (show x ≠ X by have : x < p := hx; omega)⟩, h.rdr.le⟩,
    heap_setRow h.xb, (Below.heap_setCell _ _ _ _ (show R ≠ X by omega)).trans h.rb, ok⟩
theorem rdNum_at {b : List UInt8} {a w : Nat} (h1 : 1 ≤ w) (h8 : w ≤ 8) (h : a + w ≤ b.length) : rdNum b a false (w : Int) = (i64of (natAt b a w), a + w, false) := by
  rw [rdNum_false b a w h1 h8, if_pos h]
theorem rdBytes_at {b : List UInt8} {a n : Nat} (h : a + n ≤ b.length) : rdBytes b a false (n : Int) = ((b.drop a).take n, a + n, false) := by
  unfold rdBytes
  rw [if_neg (by decide), if_neg (by omega), if_neg (by omega)]; simp

theorem below_set {B k : Nat} {w W : World} (h : Below B w W) (hk : B ≤ k) {i : Nat} {v : Value} : Below B w (W.setCell ⟨k, i, none⟩ v) :=
  ⟨h.os, h.tape, h.output, by simpa using h.size, fun x hx => (Below.heap_setCell _ _ _ _ (show x ≠ k by omega)).trans (h.block x hx)⟩
theorem set4_keep {W : World} {R k : Nat} {a b c d : Value} (h : k ≠ R) : ((((W.setCell ⟨R, 0, none⟩ a).setCell ⟨R, 1, none⟩ b).setCell ⟨R, 2, none⟩ c).setCell ⟨R, 3, none⟩ d).heap[k]? = W.heap[k]? := by
  rw [Below.heap_setCell _ _ _ _ h, Below.heap_setCell _ _ _ _ h, Below.heap_setCell _ _ _ _ h, Below.heap_setCell _ _ _ _ h]
theorem sizeOf5 (w : World) : (sizeOf 5).run Try.prog w = .ok 1 w := by
  have h := size5
  cases hq : Try.prog.info? 5 with
  | none => simp [hq] at h
  | some i => simp [hq] at h; simp [sizeOf, typeInfo, hq, h]
theorem guard_sector : Try.prog.eqGuardType Try.prog.depth 315 = false := by kernel_rfl
theorem yieldsIf_neq_sector {ops : Array Oper} {S : World → Prop} {op : Oper} {a : Act} (hw : Region.wanted op (yielded ops a.tmps) = true) (x y : Operand) (t2 : TypeId) (ho : op.op = .binOp .neq 315 x y t2)
    (xs ys : List UInt8) (hx : a.eval x = .agg (xs.map cell).toArray) (hy : a.eval y = .agg (ys.map cell).toArray) (hlx : xs.length = 512) (hly : ys.length = 512) : YieldsIf Try.prog ops S op (.bool (!(xs == ys))) a :=
  .inl ⟨hw, fun w _ => by
    unfold execOp
    simp only [ho, hx, hy, Sem.run_bind, run_eqGuard_agg w _ _ _ _ _ _ guard_sector, Result.andThen_ok, run_neq_struct, run_equalIn_bytes w 9998 315 5 512 Try.underlying315 Try.underlying5 sizeOf5 xs ys hlx hly, Sem.run_pure]⟩
/-- What is got of a sector. -/
def SealRes (w : World) (b : List UInt8) (e : Ending) (w' : World) : Prop :=
  ∃ v, e = .returned (.tuple #[v, .bool (sealGet b).isSome]) ∧ rSeal.val (fun k => w.heap.size ≤ k) w' v ((sealGet b).getD seal0) ∧ Below w.heap.size w w'

set_option maxRecDepth 100000 in
set_option maxHeartbeats 4000000 in
/-- seal.Get -/
theorem sealGet_calls {Q : Nat → Prop} {w : World} {v : Value} {b : List UInt8} (hx : Rep.byte.list.val Q w v b) :
    Calls Try.prog 198 #[v] w (SealRes w b) := by
  have HX := Lib.hid hx
  obtain ⟨A0, c0, rfl, hc1, hc2, hA⟩ := Rep.val_list hx
  have HA := Lib.hid hA
  unfold maxLen at hc2
  obtain ⟨W1, hW1⟩ : ∃ W1, w.alloc (.cells #[.int .i64 0, .int .i64 0, .int .i64 0, .slice none 0 0] 258) = W1 := ⟨_, rfl⟩
  have hb1 : Below w.heap.size w W1 := by rw [← hW1]; exact (Below.refl _ _).alloc (Nat.le_refl _) _
  have hr1 : W1.heap[w.heap.size]? = some (.cells #[.int .i64 0, .int .i64 0, .int .i64 0, .slice none 0 0] 258 (0, 0)) := by rw [← hW1]; exact heap_alloc_new _ _
  have hz1 : W1.heap.size = w.heap.size + 1 := by rw [← hW1]; simp
  have HB1 := Lib.hid hb1
  have HR1 := Lib.hid hr1
  have HZ1 := Lib.hid hz1
  clear hx hA hb1
  by_cases hlen : (b.length : Int) = 512
  case neg =>
    have HF := Lib.hid (show sealGet b = none by unfold sealGet; rw [if_neg (fun h => hlen (by omega))])
    have hne : ((b.length : Int) == 512) = false := by simpa using hlen
    have e0 := cell_row hr1 0
    have e1 := cell_row hr1 1
    have e2 := cell_row hr1 2
    have e3 := cell_row hr1 3
    have z0 := frozen_row hr1 0
    have z1 := frozen_row hr1 1
    have z2 := frozen_row hr1 2
    have z3 := frozen_row hr1 3
    clear hr1 hz1 hlen
    go_enter Try.func198, Try.ntmps198
    go_wp2_with fail
    try rw [hW1]
    clear hW1
    go_wp2_with fail
    have hfr : Try.f198.results = #[.cell 2 258, .tmp 3] := rfl
    refine ⟨rfl, .tuple #[.agg #[.int .i64 0, .int .i64 0, .int .i64 0, .slice none 0 0], .bool false], ?_, ⟨_, by rw [HF.out]; rfl, by rw [HF.out]; exact seal0_val, below_set (below_set (below_set (below_set HB1.out (Nat.le_refl _)) (Nat.le_refl _)) (Nat.le_refl _)) (Nat.le_refl _)⟩⟩
    simp only [results, hfr]
    go_simp
  case pos =>
    have HL := Lib.hid (show b.length = 512 by omega)
    clear hr1 hz1
    go_enter Try.func198, Try.ntmps198
    go_wp2_with fail
    try rw [hW1]
    clear hW1
    go_wp2_with fail
    refine (read_calls (Rep.val_below (B := w.heap.size) (Rep.val_any HX.out) HB1.out fun _ h _ => h) (by have := HL.out; omega)).mono ?_
    rintro e w1 ⟨p, A, c, rfl, hr, hp, hb, hs⟩
    have HP := Lib.hid hp
    have HRD1 := Lib.hid hr
    have HB2 := Lib.hid hb
    clear hr hp hb hs
    go_wp2_with fail
    refine (rdnum_calls (width := 8) HRD1.out (by have := HL.out; omega)).mono ?_
    rintro e w2 ⟨rfl, hr, hg⟩
    rw [show rdNum b 0 false 8 = (i64of (natAt b 0 8), 8, false) from rdNum_at (w := 8) (by decide) (by decide) (by have := HL.out; omega)] at hr ⊢
    have HRD2 := Lib.hid hr
    have HG2 := Lib.hid hg
    clear hr hg
    go_wp2_with fail
    refine (rdnum_calls (width := 8) HRD2.out (by have := HL.out; omega)).mono ?_
    rintro e w3 ⟨rfl, hr, hg⟩
    rw [show rdNum b 8 false 8 = (i64of (natAt b 8 8), 16, false) from rdNum_at (w := 8) (by decide) (by decide) (by have := HL.out; omega)] at hr ⊢
    have HRD3 := Lib.hid hr
    have HG3 := Lib.hid (HG2.out.trans hg)
    have HN1 := Lib.hid (i64of_wf (natAt b 0 8))
    have HN2 := Lib.hid (i64of_wf (natAt b 8 8))
    have HN3 := Lib.hid (show i64of (natAt b 20 1) = natAt b 20 1 from i64of_natAt b 20 1 (by decide))
    have HN4 := Lib.hid (show i64of (natAt b 22 2) = natAt b 22 2 from i64of_natAt b 22 2 (by decide))
    have HS' := Lib.hid (show sealRead' b = ⟨i64of (natAt b 0 8), i64of (natAt b 8 8), natAt b 20 1, (b.drop 24).take (min (natAt b 22 2) 472)⟩ from rfl)
    have hk3 := natAt_lt b 20 1
    have HW3 := Lib.hid (show (Lit.int .i64 (natAt b 20 1 : Int)).wf = true from wf_i64 (by omega) (by omega))
    clear hr hg hk3
    generalize i64of (natAt b 0 8) = n1 at *
    generalize i64of (natAt b 8 8) = n2 at *
    have G4 := Lib.hid (show GetAt w (w3.alloc (.cells #[.int .i64 n1, .int .i64 n2, .int .i64 0, .slice none 0 0] 258)) w.heap.size p w3.heap.size A c b 16 #[.int .i64 n1, .int .i64 n2, .int .i64 0, .slice none 0 0] from by
      have hP := HP.out
      have hZ := HZ1.out
      have q1 := HB2.out.size
      have q2 := HG3.out.size
      have hpl := HRD1.out.lt
      refine ⟨((HB1.out.trans (HB2.out.mono HB1.out.size)).grown HG3.out (by omega) (fun k hk => by have := Option.some.inj hk; omega)).alloc (by omega) _, ?_, heap_alloc_new _ _, ?_, ⟨Nat.le_refl _, by omega, by omega⟩⟩
      · exact HRD3.out.keep fun x hx => heap_alloc_old _ _ hx.lt
      · rw [heap_alloc_old _ _ (by omega), HG3.out.block _ (by omega) (fun e => by have := Option.some.inj e; omega), HB2.out.block _ (by omega)]
        exact HR1.out)
    have HX3 := Lib.hid (show w.heap.size < w3.heap.size by have := HG3.out.size; have := HB2.out.size; have := HZ1.out; omega)
    generalize hX : w3.heap.size = X at *
    clear HRD2 HG2 HRD3 HG3 HRD1 HB2 HR1 HZ1
    go_wp2_with fail
    try rw [hX]
    generalize w3.alloc (.cells #[.int .i64 n1, .int .i64 n2, .int .i64 0, .slice none 0 0] 258) = W4 at *
    refine (rdnum_calls (width := 4) G4.out.rdr (by have := HL.out; omega)).mono ?_
    rintro e w5 ⟨rfl, hr, hg⟩
    rw [show rdNum b 16 false 4 = (i64of (natAt b 16 4), 20, false) from rdNum_at (w := 4) (by decide) (by decide) (by have := HL.out; omega)] at hr ⊢
    have G5 := Lib.hid (G4.out.num hr hg)
    clear hr hg
    go_wp2_with fail
    refine (rdnum_calls (width := 1) G5.out.rdr (by have := HL.out; omega)).mono ?_
    rintro e w6 ⟨rfl, hr, hg⟩
    rw [show rdNum b 20 false 1 = (i64of (natAt b 20 1), 21, false) from rdNum_at (w := 1) (by decide) (by decide) (by have := HL.out; omega)] at hr ⊢
    have G6 := Lib.hid (G5.out.num hr hg)
    clear hr hg
    rw [HN3.out]
    have e2 := cell_row G6.out.xb 2
    have z2 := frozen_row G6.out.xb 2
    go_wp2_with fail
    have G7 := Lib.hid (show GetAt w (w6.setCell ⟨X, 2, none⟩ (.int .i64 (natAt b 20 1))) w.heap.size p X A c b 21 #[.int .i64 n1, .int .i64 n2, .int .i64 (natAt b 20 1), .slice none 0 0] from G6.out.put 2 _)
    clear e2 z2
    generalize natAt b 20 1 = n3 at *
    generalize w6.setCell ⟨X, 2, none⟩ (.int .i64 n3) = W7 at *
    refine (rdnum_calls (width := 1) G7.out.rdr (by have := HL.out; omega)).mono ?_
    rintro e w8 ⟨rfl, hr, hg⟩
    rw [show rdNum b 21 false 1 = (i64of (natAt b 21 1), 22, false) from rdNum_at (w := 1) (by decide) (by decide) (by have := HL.out; omega)] at hr ⊢
    have G8 := Lib.hid (G7.out.num hr hg)
    clear hr hg
    go_wp2_with fail
    refine (rdnum_calls (width := 2) G8.out.rdr (by have := HL.out; omega)).mono ?_
    rintro e w9 ⟨rfl, hr, hg⟩
    rw [show rdNum b 22 false 2 = (i64of (natAt b 22 2), 24, false) from rdNum_at (w := 2) (by decide) (by decide) (by have := HL.out; omega)] at hr ⊢
    have G9 := Lib.hid (G8.out.num hr hg)
    clear hr hg
    rw [HN4.out]
    generalize natAt b 22 2 = n4 at *
    by_cases h4 : (n4 : Int) ≤ 472
    · have HY := Lib.hid (show min n4 472 = n4 by omega)
      go_wp2_with fail
      refine (rdbytes_calls (n := ((n4 : Nat) : Int)) G9.out.rdr (by have := HL.out; omega)).mono ?_
      rintro e w10 ⟨u, rfl, hu, hr, hg⟩
      rw [rdBytes_at (by have := HL.out; omega)] at hu hr
      have G10 := Lib.hid (G9.out.num hr hg)
      have HX9 := Lib.hid (show X < w9.heap.size from IsC.lt ⟨_, _, _, G9.out.xb⟩)
      obtain ⟨A5, c5, rfl, hs5⟩ := Rep.val_sl hu
      dsimp only at hs5
      have HYL := Lib.hid (show ((b.drop 24).take n4).length = n4 by have := HL.out; rw [List.length_take, List.length_drop]; omega)
      have HS5 := Lib.hid hs5
      clear hu hr hg hs5
      rw [HYL.out]
      have e3 := cell_row G10.out.xb 3
      have z3 := frozen_row G10.out.xb 3
      go_wp2_with fail
      have G11 := Lib.hid (show GetAt w (w10.setCell ⟨X, 3, none⟩ (.slice A5 n4 c5)) w.heap.size p X A c b (24 + n4) #[.int .i64 n1, .int .i64 n2, .int .i64 n3, .slice A5 n4 c5] from G10.out.put 3 _)
      have HS11 := Lib.hid (show Rep.byte.Sl (fun x => w9.heap.size ≤ x) (w10.setCell ⟨X, 3, none⟩ (.slice A5 n4 c5)) A5 c5 ((b.drop 24).take n4) from HS5.out.keep fun x hx _ => ⟨hx, Below.heap_setCell _ _ _ _ (show x ≠ X by have := HX9.out; have hx' : w9.heap.size ≤ x := hx; omega)⟩)
      clear e3 z3
      generalize w10.setCell ⟨X, 3, none⟩ (.slice A5 n4 c5) = W11 at *
      have HXW := Lib.hid (show X < W11.heap.size from IsC.lt ⟨_, _, _, G11.out.xb⟩)
      obtain ⟨bb, off, hA0⟩ := Rep.At.addr HA.out (by have := HL.out; omega)
      subst hA0
      have KR := Lib.hid (show ∀ W, Below W11.heap.size W11 W → W.heap[X]? = some (.cells #[.int .i64 n1, .int .i64 n2, .int .i64 n3, .slice A5 n4 c5] 258 (0, 0)) ∧ W.heap[w.heap.size]? = some (.cells #[.int .i64 0, .int .i64 0, .int .i64 0, .slice none 0 0] 258 (0, 0)) ∧ W.rangeAt bb off (b.map cell) ∧ Below w.heap.size w W ∧ rSeal.val (fun k => w.heap.size < k) W (.agg #[.int .i64 n1, .int .i64 n2, .int .i64 n3, .slice A5 n4 c5]) (sealRead' b) from fun W h => by
        have hbw := G11.out.bel.trans (h.mono G11.out.bel.size)
        have hX3 := HX3.out
        have hXW := HXW.out
        refine ⟨(h.block X hXW).trans G11.out.xb, (h.block _ (by omega)).trans G11.out.rb, ?_, hbw, ?_⟩
        · obtain ⟨es, hrow, hc⟩ := HA.out
          obtain ⟨b', o', he, _, hic, hcells⟩ := hc (by have := HL.out; omega)
          cases he
          intro j v hj
          rw [hbw.cell (p := ⟨bb, off + j, none⟩) hic.lt]
          exact hcells j v (by rw [Rep.row_byte hrow]; exact hj)
        · rw [HS'.out, HY.out]
          have hs := HS11.out.keep (w' := W) (Q' := fun k => w.heap.size < k) fun x hx hl => ⟨by have hx' : w9.heap.size ≤ x := hx; have := HX9.out; show w.heap.size < x; omega, h.block x hl.lt⟩
          have := rSeal_agg (x := ⟨n1, n2, n3, (b.drop 24).take n4⟩) HN1.out HN2.out HW3.out hs
          rwa [HYL.out] at this)
      have s1 := KR.out W11.drew (Below.refl _ _).drew
      refine wp_region_held (S := fun W => W.heap[X]? = some (.cells #[.int .i64 n1, .int .i64 n2, .int .i64 n3, .slice A5 n4 c5] 258 (0, 0)) ∧ W.heap[w.heap.size]? = some (.cells #[.int .i64 0, .int .i64 0, .int .i64 0, .slice none 0 0] 258 (0, 0)) ∧ W.rangeAt bb off (b.map cell) ∧ Below w.heap.size w W ∧ rSeal.val (fun k => w.heap.size < k) W (.agg #[.int .i64 n1, .int .i64 n2, .int .i64 n3, .slice A5 n4 c5]) (sealRead' b)) (by kernel_rfl) ?_
      refine wpAnyH_take (i := 0) (v := .agg #[.int .i64 n1, .int .i64 n2, .int .i64 n3, .slice A5 n4 c5]) rfl (by kernel_rfl) (by kernel_rfl) (by kernel_rfl) (fun _ _ _ h => h) (Or.inl ⟨by rfl, fun w' h => by have x0 := cell_row h.1 0; have x1 := cell_row h.1 1; have x2 := cell_row h.1 2; have x3 := cell_row h.1 3; go_simp⟩) s1 ?_
      go_simp
      refine wpAnyH_take (i := 2) (v := .slice (some ⟨bb, off, none⟩) b.length c0) rfl (by kernel_rfl) (by kernel_rfl) (by kernel_rfl) (fun _ _ _ h => h) (Or.inl ⟨by rfl, fun w' _ => by go_simp⟩) s1 ?_
      go_simp
      refine wpAnyH_take (i := 3) (v := .pointer (some ⟨bb, off, none⟩)) rfl (by kernel_rfl) (by kernel_rfl) (by kernel_rfl) (fun _ _ _ h => h) (Or.inl ⟨by rfl, fun w' _ => by have hq := run_arrayAt (P := Try.prog) w' 315 5 512 (some ⟨bb, off, none⟩) b.length c0 Try.underlying315 (by have := HL.out; omega); go_simp⟩) s1 ?_
      go_simp
      refine wpAnyH_take (i := 4) (v := .agg (b.map cell).toArray) rfl (by kernel_rfl) (by kernel_rfl) (by kernel_rfl) (fun _ _ _ h => h) (yieldsIf_load_mid (by rfl) 315 (.tmp 33) rfl bb off (by rfl) (b.map cell) (.array 512 5) (fun w' h => h.2.2.1) Try.underlying315 rfl (by rw [List.length_map, HL.out]; exact size_sector)) s1 ?_
      go_simp
      refine wpAnyH_all (rs := [1]) (by kernel_rfl) (by simp) ?_
      intro i hi
      obtain rfl : i = 1 := by simpa using hi
      refine wpOp_step rfl (fun K hK => ?_)
      go_simp
      refine (made_calls s1.2.2.2.2).mono ?_
      rintro e w12 ⟨rfl, hb⟩
      have s2 := KR.out w12 ((Below.refl _ _).drew.trans hb)
      refine hK _ _ ⟨s2, ?_⟩
      clear hK K
      refine wpAnyH_take (i := 5) (v := .bool (!(sealBytes (sealRead' b) == b))) rfl (by kernel_rfl) (by kernel_rfl) (by kernel_rfl) (fun _ _ _ h => h) (yieldsIf_neq_sector (by rfl) (.tmp 31) (.tmp 34) _ rfl (sealBytes (sealRead' b)) b (by rfl) (by rfl) (sealBytes_length _) HL.out) s2 ?_
      go_simp
      refine wpAnyH_done (by kernel_rfl) ?_ _
      have e0 := cell_row s2.1 0
      have e1 := cell_row s2.1 1
      have e2 := cell_row s2.1 2
      have e3 := cell_row s2.1 3
      have r0 := cell_row s2.2.1 0
      have r1 := cell_row s2.2.1 1
      have r2 := cell_row s2.2.1 2
      have r3 := cell_row s2.2.1 3
      have z0 := frozen_row s2.2.1 0
      have z1 := frozen_row s2.2.1 1
      have z2 := frozen_row s2.2.1 2
      have z3 := frozen_row s2.2.1 3
      have HB12 := Lib.hid s2.2.2.2.1
      have HV12 := Lib.hid s2.2.2.2.2
      have hXR : w.heap.size < X := HX3.out
      have hfr : Try.f198.results = #[.cell 2 258, .tmp 3] := rfl
      clear s1 s2
      by_cases heq : sealBytes (sealRead' b) = b
      · have HF := Lib.hid (show sealGet b = some (sealRead' b) by rw [sealGet_alt HL.out, if_pos heq])
        have g0 : (sealBytes (sealRead' b) == b) = true := by simpa using heq
        rw [g0]
        clear heq g0
        go_wp2_with fail
        refine ⟨rfl, .tuple #[.agg #[.int .i64 n1, .int .i64 n2, .int .i64 n3, .slice A5 n4 c5], .bool true], ?_, ⟨_, by rw [HF.out]; rfl, by rw [HF.out]; exact Rep.val_keep (fun k hk _ => ⟨Nat.le_of_lt hk, set4_keep (Nat.ne_of_gt hk)⟩) HV12.out, below_set (below_set (below_set (below_set HB12.out (Nat.le_refl _)) (Nat.le_refl _)) (Nat.le_refl _)) (Nat.le_refl _)⟩⟩
        simp only [results, hfr]
        go_simp
      · have HF := Lib.hid (show sealGet b = none by rw [sealGet_alt HL.out, if_neg heq])
        have g0 : (sealBytes (sealRead' b) == b) = false := by simpa using heq
        rw [g0]
        clear heq g0
        go_wp2_with fail
        refine ⟨rfl, .tuple #[.agg #[.int .i64 0, .int .i64 0, .int .i64 0, .slice none 0 0], .bool false], ?_, ⟨_, by rw [HF.out]; rfl, by rw [HF.out]; exact seal0_val, below_set (below_set (below_set (below_set HB12.out (Nat.le_refl _)) (Nat.le_refl _)) (Nat.le_refl _)) (Nat.le_refl _)⟩⟩
        simp only [results, hfr]
        go_simp
    · have g4 : (472 : Int) ≤ n4 := by omega
      have HY := Lib.hid (show min n4 472 = 472 by omega)
      go_wp2_with fail
      refine (rdbytes_calls (n := ((472 : Nat) : Int)) G9.out.rdr (by have := HL.out; omega)).mono ?_
      rintro e w10 ⟨u, rfl, hu, hr, hg⟩
      rw [rdBytes_at (by have := HL.out; omega)] at hu hr
      have G10 := Lib.hid (G9.out.num hr hg)
      have HX9 := Lib.hid (show X < w9.heap.size from IsC.lt ⟨_, _, _, G9.out.xb⟩)
      obtain ⟨A5, c5, rfl, hs5⟩ := Rep.val_sl hu
      dsimp only at hs5
      have HYL := Lib.hid (show ((b.drop 24).take 472).length = 472 by have := HL.out; rw [List.length_take, List.length_drop]; omega)
      have HS5 := Lib.hid hs5
      clear hu hr hg hs5
      rw [HYL.out]
      have e3 := cell_row G10.out.xb 3
      have z3 := frozen_row G10.out.xb 3
      go_wp2_with fail
      have G11 := Lib.hid (show GetAt w (w10.setCell ⟨X, 3, none⟩ (.slice A5 472 c5)) w.heap.size p X A c b (24 + 472) #[.int .i64 n1, .int .i64 n2, .int .i64 n3, .slice A5 472 c5] from G10.out.put 3 _)
      have HS11 := Lib.hid (show Rep.byte.Sl (fun x => w9.heap.size ≤ x) (w10.setCell ⟨X, 3, none⟩ (.slice A5 472 c5)) A5 c5 ((b.drop 24).take 472) from HS5.out.keep fun x hx _ => ⟨hx, Below.heap_setCell _ _ _ _ (show x ≠ X by have := HX9.out; have hx' : w9.heap.size ≤ x := hx; omega)⟩)
      clear e3 z3
      generalize w10.setCell ⟨X, 3, none⟩ (.slice A5 472 c5) = W11 at *
      have HXW := Lib.hid (show X < W11.heap.size from IsC.lt ⟨_, _, _, G11.out.xb⟩)
      obtain ⟨bb, off, hA0⟩ := Rep.At.addr HA.out (by have := HL.out; omega)
      subst hA0
      have KR := Lib.hid (show ∀ W, Below W11.heap.size W11 W → W.heap[X]? = some (.cells #[.int .i64 n1, .int .i64 n2, .int .i64 n3, .slice A5 472 c5] 258 (0, 0)) ∧ W.heap[w.heap.size]? = some (.cells #[.int .i64 0, .int .i64 0, .int .i64 0, .slice none 0 0] 258 (0, 0)) ∧ W.rangeAt bb off (b.map cell) ∧ Below w.heap.size w W ∧ rSeal.val (fun k => w.heap.size < k) W (.agg #[.int .i64 n1, .int .i64 n2, .int .i64 n3, .slice A5 472 c5]) (sealRead' b) from fun W h => by
        have hbw := G11.out.bel.trans (h.mono G11.out.bel.size)
        have hX3 := HX3.out
        have hXW := HXW.out
        refine ⟨(h.block X hXW).trans G11.out.xb, (h.block _ (by omega)).trans G11.out.rb, ?_, hbw, ?_⟩
        · obtain ⟨es, hrow, hc⟩ := HA.out
          obtain ⟨b', o', he, _, hic, hcells⟩ := hc (by have := HL.out; omega)
          cases he
          intro j v hj
          rw [hbw.cell (p := ⟨bb, off + j, none⟩) hic.lt]
          exact hcells j v (by rw [Rep.row_byte hrow]; exact hj)
        · rw [HS'.out, HY.out]
          have hs := HS11.out.keep (w' := W) (Q' := fun k => w.heap.size < k) fun x hx hl => ⟨by have hx' : w9.heap.size ≤ x := hx; have := HX9.out; show w.heap.size < x; omega, h.block x hl.lt⟩
          have := rSeal_agg (x := ⟨n1, n2, n3, (b.drop 24).take 472⟩) HN1.out HN2.out HW3.out hs
          rwa [HYL.out] at this)
      have s1 := KR.out W11.drew (Below.refl _ _).drew
      refine wp_region_held (S := fun W => W.heap[X]? = some (.cells #[.int .i64 n1, .int .i64 n2, .int .i64 n3, .slice A5 472 c5] 258 (0, 0)) ∧ W.heap[w.heap.size]? = some (.cells #[.int .i64 0, .int .i64 0, .int .i64 0, .slice none 0 0] 258 (0, 0)) ∧ W.rangeAt bb off (b.map cell) ∧ Below w.heap.size w W ∧ rSeal.val (fun k => w.heap.size < k) W (.agg #[.int .i64 n1, .int .i64 n2, .int .i64 n3, .slice A5 472 c5]) (sealRead' b)) (by kernel_rfl) ?_
      refine wpAnyH_take (i := 0) (v := .agg #[.int .i64 n1, .int .i64 n2, .int .i64 n3, .slice A5 472 c5]) rfl (by kernel_rfl) (by kernel_rfl) (by kernel_rfl) (fun _ _ _ h => h) (Or.inl ⟨by rfl, fun w' h => by have x0 := cell_row h.1 0; have x1 := cell_row h.1 1; have x2 := cell_row h.1 2; have x3 := cell_row h.1 3; go_simp⟩) s1 ?_
      go_simp
      refine wpAnyH_take (i := 2) (v := .slice (some ⟨bb, off, none⟩) b.length c0) rfl (by kernel_rfl) (by kernel_rfl) (by kernel_rfl) (fun _ _ _ h => h) (Or.inl ⟨by rfl, fun w' _ => by go_simp⟩) s1 ?_
      go_simp
      refine wpAnyH_take (i := 3) (v := .pointer (some ⟨bb, off, none⟩)) rfl (by kernel_rfl) (by kernel_rfl) (by kernel_rfl) (fun _ _ _ h => h) (Or.inl ⟨by rfl, fun w' _ => by have hq := run_arrayAt (P := Try.prog) w' 315 5 512 (some ⟨bb, off, none⟩) b.length c0 Try.underlying315 (by have := HL.out; omega); go_simp⟩) s1 ?_
      go_simp
      refine wpAnyH_take (i := 4) (v := .agg (b.map cell).toArray) rfl (by kernel_rfl) (by kernel_rfl) (by kernel_rfl) (fun _ _ _ h => h) (yieldsIf_load_mid (by rfl) 315 (.tmp 33) rfl bb off (by rfl) (b.map cell) (.array 512 5) (fun w' h => h.2.2.1) Try.underlying315 rfl (by rw [List.length_map, HL.out]; exact size_sector)) s1 ?_
      go_simp
      refine wpAnyH_all (rs := [1]) (by kernel_rfl) (by simp) ?_
      intro i hi
      obtain rfl : i = 1 := by simpa using hi
      refine wpOp_step rfl (fun K hK => ?_)
      go_simp
      refine (made_calls s1.2.2.2.2).mono ?_
      rintro e w12 ⟨rfl, hb⟩
      have s2 := KR.out w12 ((Below.refl _ _).drew.trans hb)
      refine hK _ _ ⟨s2, ?_⟩
      clear hK K
      refine wpAnyH_take (i := 5) (v := .bool (!(sealBytes (sealRead' b) == b))) rfl (by kernel_rfl) (by kernel_rfl) (by kernel_rfl) (fun _ _ _ h => h) (yieldsIf_neq_sector (by rfl) (.tmp 31) (.tmp 34) _ rfl (sealBytes (sealRead' b)) b (by rfl) (by rfl) (sealBytes_length _) HL.out) s2 ?_
      go_simp
      refine wpAnyH_done (by kernel_rfl) ?_ _
      have e0 := cell_row s2.1 0
      have e1 := cell_row s2.1 1
      have e2 := cell_row s2.1 2
      have e3 := cell_row s2.1 3
      have r0 := cell_row s2.2.1 0
      have r1 := cell_row s2.2.1 1
      have r2 := cell_row s2.2.1 2
      have r3 := cell_row s2.2.1 3
      have z0 := frozen_row s2.2.1 0
      have z1 := frozen_row s2.2.1 1
      have z2 := frozen_row s2.2.1 2
      have z3 := frozen_row s2.2.1 3
      have HB12 := Lib.hid s2.2.2.2.1
      have HV12 := Lib.hid s2.2.2.2.2
      have hXR : w.heap.size < X := HX3.out
      have hfr : Try.f198.results = #[.cell 2 258, .tmp 3] := rfl
      clear s1 s2
      by_cases heq : sealBytes (sealRead' b) = b
      · have HF := Lib.hid (show sealGet b = some (sealRead' b) by rw [sealGet_alt HL.out, if_pos heq])
        have g0 : (sealBytes (sealRead' b) == b) = true := by simpa using heq
        rw [g0]
        clear heq g0
        go_wp2_with fail
        refine ⟨rfl, .tuple #[.agg #[.int .i64 n1, .int .i64 n2, .int .i64 n3, .slice A5 472 c5], .bool true], ?_, ⟨_, by rw [HF.out]; rfl, by rw [HF.out]; exact Rep.val_keep (fun k hk _ => ⟨Nat.le_of_lt hk, set4_keep (Nat.ne_of_gt hk)⟩) HV12.out, below_set (below_set (below_set (below_set HB12.out (Nat.le_refl _)) (Nat.le_refl _)) (Nat.le_refl _)) (Nat.le_refl _)⟩⟩
        simp only [results, hfr]
        go_simp
      · have HF := Lib.hid (show sealGet b = none by rw [sealGet_alt HL.out, if_neg heq])
        have g0 : (sealBytes (sealRead' b) == b) = false := by simpa using heq
        rw [g0]
        clear heq g0
        go_wp2_with fail
        refine ⟨rfl, .tuple #[.agg #[.int .i64 0, .int .i64 0, .int .i64 0, .slice none 0 0], .bool false], ?_, ⟨_, by rw [HF.out]; rfl, by rw [HF.out]; exact seal0_val, below_set (below_set (below_set (below_set HB12.out (Nat.le_refl _)) (Nat.le_refl _)) (Nat.le_refl _)) (Nat.le_refl _)⟩⟩
        simp only [results, hfr]
        go_simp
end Go.Proofs.Ytcfgckpjgihcgaa
/- The device: how it lies in memory; walks of its small functions. -/
namespace Go.Proofs.Ytcfgckpjgihcgaa
open Go.RowKit
open Go.Maps (Keyed)

/-- A device: what is safe, the writes that wait for each sector, the fuse, whether it is off, and what was done. -/
structure DiskSt where
  safe : List (List UInt8)
  wait : Int → List (List UInt8)
  fuse : Int
  off : Bool
  reads : Int
  writes : Int

def heldElem (v : Value) : Option (DataW Value × List MemPlace) := some (.held v, [])
def nilList : Value := .slice none 0 0
/-- What lies at a key of the map. -/
def valAt (D : DataW Value) (i : Int) : Value := match D.atKey (.int .i64 i) (.held nilList) with | .held v => v | _ => nilList
theorem int_law : Keyed Try.prog 3 := Go.Maps.int_keyed Try.underlying3
theorem zero24 (w : World) : (zeroValue 24).run Try.prog w = .ok nilList w := by kernel_rfl
theorem key_i64 {i : Int} (h : (Lit.int .i64 i).wf = true) : keyOf Try.prog 3 (.int .i64 i) = some (.int .i64 i)   := Go.Maps.keyOf_int_mk Try.underlying3 h
theorem key_lit (i : Int) : WideAt.IsKeyLit (.int .i64 i) := trivial

theorem lookup_held {w : World} {M n : Nat} {D : DataW Value} {i : Int} (h : w.ownsMap Try.prog 3 heldElem M n D) (hi : (Lit.int .i64 i).wf = true) :
    (Instr.lookup 209 (.map (some M)) (.int .i64 i) false).run Try.prog w = .ok (valAt D i) w := by
  obtain ⟨v, ps, hrun, hv⟩ := h.lookup int_law Try.underlying209 (zero24 w) (zd := .held nilList) (zp := []) rfl (key_i64 hi)
  have e : DataW.held v = D.atKey (.int .i64 i) (.held nilList) := by
    have := congrArg Prod.fst (Option.some.inj hv)
    exact this
  have : valAt D i = v := by unfold valAt; rw [← e]
  rw [this]; exact hrun
theorem valAt_put_same {D : DataW Value} (hD : Go.Maps.IsMap D) (i : Int) (v : Value) : valAt (D.put (.int .i64 i) (.held v)) i = v := by
  unfold valAt; rw [Go.Maps.atKey_put_same hD (key_lit i)]
theorem valAt_put_other {D : DataW Value} {i j : Int} (h : j ≠ i) (v : Value) : valAt (D.put (.int .i64 i) (.held v)) j = valAt D j := by
  unfold valAt; rw [Go.Maps.atKey_put_other (fun e => h (by cases e; rfl))]
theorem valAt_empty (i : Int) : valAt (.map []) i = nilList := rfl

theorem acc_block {α : Type} {r : Rep α} {e base : Nat} {Q : Nat → Prop} {w : World} {v : Value} {xs : List α} (h : r.acc e base Q w v xs) {g : Nat} (hg : v.ownBlock = some g) : ∃ cur, w.heap[g]? = some (.cells cur e (0, 0)) := by
  obtain ⟨cells, h1, _⟩ := h
  rcases h1.2 with ⟨rfl, _⟩ | ⟨g', cap, cur, rfl, _, hh, _⟩
  · cases hg
  · cases hg; exact ⟨cur, hh⟩

/-- A device lies in block P. F: the blocks that it writes; B: those of its sectors' bytes, which are never written. -/
structure DiskW (W : World) (P : Nat) (Sf : Option Addr) (cs M : Nat) (D : DataW Value) (F B : Nat → Prop) (n : Nat) (st : DiskSt) : Prop where
  blk : W.heap[P]? = some (.cells #[.slice Sf st.safe.length cs, .map (some M), .int .i64 st.fuse, .bool st.off, .int .i64 st.reads, .int .i64 st.writes] 211 (0, 0))
  safe : Rep.byte.list.acc 22 0 B W (.slice Sf st.safe.length cs) st.safe
  map : W.ownsMap Try.prog 3 heldElem M n D
  wt : ∀ i, Rep.byte.list.acc 22 0 B W (valAt D i) (st.wait i)
  len : ∀ i, (st.wait i).length ≤ n
  keys : ∀ i, st.wait i ≠ [] → 0 ≤ i ∧ i < st.safe.length
  wf : (Lit.int .i64 st.fuse).wf = true
  fP : F P
  fM : F M
  fS : ∀ b, (Value.slice Sf st.safe.length cs).ownBlock = some b → F b
  fW : ∀ i b, (valAt D i).ownBlock = some b → F b
  dSW : ∀ i b, (valAt D i).ownBlock = some b → (Value.slice Sf st.safe.length cs).ownBlock ≠ some b
  dWW : ∀ i j b, i ≠ j → (valAt D i).ownBlock = some b → (valAt D j).ownBlock ≠ some b
  apart : ∀ b, F b → ¬ B b
  lt : ∀ b, F b ∨ B b → b < W.heap.size
  has : ∀ i, Go.Maps.has D (.int .i64 i) = true → st.wait i ≠ []
def DiskAt (W : World) (P : Nat) (F B : Nat → Prop) (n : Nat) (st : DiskSt) : Prop := ∃ Sf cs M D, DiskW W P Sf cs M D F B n st
/-- Nothing that was there is written but blocks of F. -/
structure Only (F : Nat → Prop) (W W' : World) : Prop where
  os : W'.os = W.os
  tape : W'.tape = W.tape
  output : W'.output = W.output
  size : W.heap.size ≤ W'.heap.size
  block : ∀ b, b < W.heap.size → ¬ F b → W'.heap[b]? = W.heap[b]?
theorem Only.refl (F : Nat → Prop) (W : World) : Only F W W := ⟨rfl, rfl, rfl, Nat.le_refl _, fun _ _ _ => rfl⟩
theorem Only.trans {F : Nat → Prop} {X Y Z : World} (h : Only F X Y) (k : Only F Y Z) : Only F X Z :=
  ⟨k.os.trans h.os, k.tape.trans h.tape, k.output.trans h.output, Nat.le_trans h.size k.size, fun b hb hf => (k.block b (Nat.lt_of_lt_of_le hb h.size) hf).trans (h.block b hb hf)⟩
theorem Only.of_below {F : Nat → Prop} {X Y : World} (h : Below X.heap.size X Y) : Only F X Y := ⟨h.os, h.tape, h.output, h.size, fun b hb _ => h.block b hb⟩
theorem Only.set {F : Nat → Prop} {X : World} {P i : Nat} {v : Value} (h : F P) : Only F X (X.setCell ⟨P, i, none⟩ v) :=
  ⟨rfl, rfl, rfl, by simp, fun b _ hf => Below.heap_setCell _ _ _ _ (fun e => hf (by rw [e]; exact h))⟩
theorem Only.below {F : Nat → Prop} {X Y : World} {base : Nat} (h : Only F X Y) (hb : base ≤ X.heap.size) (hf : ∀ b, F b → base ≤ b) : Below base X Y :=
  ⟨h.os, h.tape, h.output, h.size, fun b hl => h.block b (by omega) (fun hF => by have := hf b hF; omega)⟩

namespace DiskW
variable {W W' : World} {P : Nat} {Sf : Option Addr} {cs M : Nat} {D : DataW Value} {F B : Nat → Prop} {n : Nat} {st : DiskSt}

theorem sP (h : DiskW W P Sf cs M D F B n st) {b : Nat} (hb : (Value.slice Sf st.safe.length cs).ownBlock = some b) : b ≠ P := by
  rintro rfl
  obtain ⟨cur, hc⟩ := acc_block h.safe hb
  rw [h.blk] at hc; cases hc
theorem wP (h : DiskW W P Sf cs M D F B n st) {i : Int} {b : Nat} (hb : (valAt D i).ownBlock = some b) : b ≠ P := by
  rintro rfl
  obtain ⟨cur, hc⟩ := acc_block (h.wt i) hb
  rw [h.blk] at hc; cases hc
theorem mP (h : DiskW W P Sf cs M D F B n st) : M ≠ P := by
  rintro rfl
  obtain ⟨es, clock, hb, _⟩ := h.map
  rw [h.blk] at hb; cases hb
theorem map_keep (h : DiskW W P Sf cs M D F B n st) (hk : W'.heap[M]? = W.heap[M]?) : W'.ownsMap Try.prog 3 heldElem M n D := by
  obtain ⟨es, clock, hb, r⟩ := h.map
  exact ⟨es, clock, hk.trans hb, r⟩

/-- Whatever leaves its blocks leaves the device. -/
theorem keep (h : DiskW W P Sf cs M D F B n st) (hs : W.heap.size ≤ W'.heap.size) (hk : ∀ b, F b ∨ B b → W'.heap[b]? = W.heap[b]?) : DiskW W' P Sf cs M D F B n st :=
  ⟨(hk P (.inl h.fP)).trans h.blk,
   Rep.acc_keep (fun b hb _ => hk b (hb.elim .inr fun e => .inl (h.fS b e))) (fun _ hb _ => hb) h.safe,
   h.map_keep (hk M (.inl h.fM)),
   fun i => Rep.acc_keep (fun b hb _ => hk b (hb.elim .inr fun e => .inl (h.fW i b e))) (fun _ hb _ => hb) (h.wt i),
   h.len, h.keys, h.wf, h.fP, h.fM, h.fS, h.fW, h.dSW, h.dWW, h.apart, fun b hb => Nat.lt_of_lt_of_le (h.lt b hb) hs, h.has⟩

/-- A field of numbers is written. -/
theorem scal (h : DiskW W P Sf cs M D F B n st) {st' : DiskSt} (hs : st'.safe = st.safe) (hw : st'.wait = st.wait) (hf : (Lit.int .i64 st'.fuse).wf = true)
    (hb : W'.heap[P]? = some (.cells #[.slice Sf st.safe.length cs, .map (some M), .int .i64 st'.fuse, .bool st'.off, .int .i64 st'.reads, .int .i64 st'.writes] 211 (0, 0)))
    (hz : W.heap.size ≤ W'.heap.size) (hk : ∀ b, b ≠ P → b < W.heap.size → W'.heap[b]? = W.heap[b]?) : DiskW W' P Sf cs M D F B n st' := by
  have hB : ∀ b, B b → b ≠ P := fun b hb e => h.apart P h.fP (e ▸ hb)
  refine ⟨by rw [hs]; exact hb, ?_, h.map_keep (hk M h.mP (h.lt M (.inl h.fM))), fun i => ?_, by rw [hw]; exact h.len, by rw [hw, hs]; exact h.keys, hf, h.fP, h.fM, by rw [hs]; exact h.fS, h.fW, by rw [hs]; exact h.dSW, h.dWW, h.apart, fun b hb => Nat.lt_of_lt_of_le (h.lt b hb) hz, by rw [hw]; exact h.has⟩
  · rw [hs]
    exact Rep.acc_keep (fun b hb _ => hk b (hb.elim (hB b) fun e => h.sP e) (h.lt b (hb.elim .inr fun e => .inl (h.fS b e)))) (fun _ hb _ => hb) h.safe
  · rw [hw]
    exact Rep.acc_keep (fun b hb _ => hk b (hb.elim (hB b) fun e => h.wP e) (h.lt b (hb.elim .inr fun e => .inl (h.fW i b e)))) (fun _ hb _ => hb) (h.wt i)
end DiskW
theorem DiskAt.keep {W W' : World} {P : Nat} {F B : Nat → Prop} {n : Nat} {st : DiskSt} (h : DiskAt W P F B n st) (hs : W.heap.size ≤ W'.heap.size) (hk : ∀ b, F b ∨ B b → W'.heap[b]? = W.heap[b]?) : DiskAt W' P F B n st := by
  obtain ⟨Sf, cs, M, D, h⟩ := h
  exact ⟨Sf, cs, M, D, h.keep hs hk⟩
theorem DiskAt.below {W W' : World} {P : Nat} {F B : Nat → Prop} {n : Nat} {st : DiskSt} (h : DiskAt W P F B n st) (hb : Below W.heap.size W W') : DiskAt W' P F B n st :=
  h.keep hb.size fun b hb' => hb.block b (by obtain ⟨_, _, _, _, h⟩ := h; exact h.lt b hb')

/-- What is left of the fuse; the error. -/
def burnSt (st : DiskSt) : DiskSt × Int :=
  if st.off then (st, 3) else if st.fuse = 0 then ({ st with off := true }, 3) else if 0 < st.fuse then ({ st with fuse := st.fuse - 1 }, 0) else (st, 0)
/-- May something be done to a sector? -/
def atSt (st : DiskSt) (i : Int) : DiskSt × Int := if i < 0 ∨ (st.safe.length : Int) ≤ i then (st, 2) else burnSt st
def StepPost (F B : Nat → Prop) (P n : Nat) (W : World) (r : DiskSt × Int) (e : Ending) (W' : World) : Prop := e = .returned (.int .i64 r.2) ∧ DiskAt W' P F B n r.1 ∧ Only F W W'

set_option maxRecDepth 100000 in
set_option maxHeartbeats 1000000 in
/-- (*disk.Disk).burn -/
theorem burn_calls {W : World} {P : Nat} {F B : Nat → Prop} {n : Nat} {st : DiskSt} (h : DiskAt W P F B n st) :
    Calls Try.prog 176 #[.pointer (some ⟨P, 0, none⟩)] W (StepPost F B P n W (burnSt st)) := by
  obtain ⟨Sf, cs, M, D, hd⟩ := h
  have e2 := cell_row hd.blk 2
  have e3 := cell_row hd.blk 3
  have z2 := frozen_row hd.blk 2
  have z3 := frozen_row hd.blk 3
  have hwf := hd.wf
  have hf1 : -9223372036854775808 ≤ st.fuse ∧ st.fuse ≤ 9223372036854775807 := by simpa [Lit.wf, IntKind.min, IntKind.max, IntKind.signed, IntKind.bits] using hwf
  have HD := Lib.hid hd
  have HP := Lib.hid hd.fP
  clear hd hwf
  obtain ⟨sf, wt, fuse, off, rd, wr⟩ := st
  dsimp only at *
  cases off with
  | true =>
    have HF := Lib.hid (show burnSt ⟨sf, wt, fuse, true, rd, wr⟩ = (⟨sf, wt, fuse, true, rd, wr⟩, 3) from rfl)
    go_enter Try.func176, Try.ntmps176
    go_wp2_with fail
    go_ret
    exact ⟨by rw [HF.out]; rfl, by rw [HF.out]; exact ⟨_, _, _, _, HD.out⟩, Only.refl _ _⟩
  | false =>
    by_cases h0 : fuse = 0
    · subst h0
      have HF := Lib.hid (show burnSt ⟨sf, wt, 0, false, rd, wr⟩ = (⟨sf, wt, 0, true, rd, wr⟩, 3) from rfl)
      go_enter Try.func176, Try.ntmps176
      go_wp2_with fail
      go_ret
      exact ⟨by rw [HF.out]; rfl, by rw [HF.out]; exact ⟨_, _, _, _, HD.out.scal rfl rfl HD.out.wf (heap_setRow HD.out.blk) (by simp) fun b hb _ => Below.heap_setCell _ _ _ _ hb⟩, Only.set HP.out⟩
    · have g0 : (fuse == 0) = false := by simpa using h0
      by_cases h1 : 0 < fuse
      · have HF := Lib.hid (show burnSt ⟨sf, wt, fuse, false, rd, wr⟩ = (⟨sf, wt, fuse - 1, false, rd, wr⟩, 0) by simp [burnSt, h0, h1])
        have HWF := Lib.hid (show (Lit.int .i64 (fuse - 1)).wf = true from wf_i64 (by omega) (by omega))
        clear h0
        go_enter Try.func176, Try.ntmps176
        go_wp2_with fail
        go_ret
        exact ⟨by rw [HF.out]; rfl, by rw [HF.out]; exact ⟨_, _, _, _, HD.out.scal rfl rfl HWF.out (heap_setRow HD.out.blk) (by simp) fun b hb _ => Below.heap_setCell _ _ _ _ hb⟩, Only.set HP.out⟩
      · have HF := Lib.hid (show burnSt ⟨sf, wt, fuse, false, rd, wr⟩ = (⟨sf, wt, fuse, false, rd, wr⟩, 0) by simp [burnSt, h0, h1])
        clear h0
        go_enter Try.func176, Try.ntmps176
        go_wp2_with fail
        go_ret
        exact ⟨by rw [HF.out]; rfl, by rw [HF.out]; exact ⟨_, _, _, _, HD.out⟩, Only.refl _ _⟩
end Go.Proofs.Ytcfgckpjgihcgaa
/- Walks of the device's small functions and of a read. -/
namespace Go.Proofs.Ytcfgckpjgihcgaa
open Go.RowKit

theorem DiskW.len_safe {W : World} {P : Nat} {Sf : Option Addr} {cs M : Nat} {D : DataW Value} {F B : Nat → Prop} {n : Nat} {st : DiskSt} (h : DiskW W P Sf cs M D F B n st) : st.safe.length ≤ cs ∧ cs ≤ maxLen := by
  obtain ⟨A, c, he, h1, h2⟩ := Rep.acc_form h.safe
  cases he; exact ⟨h1, h2⟩

set_option maxRecDepth 100000 in
set_option maxHeartbeats 1000000 in
/-- (*disk.Disk).Size -/
theorem dsize_disk {W : World} {P : Nat} {F B : Nat → Prop} {n : Nat} {st : DiskSt} (h : DiskAt W P F B n st) :
    Calls Try.prog 78 #[.pointer (some ⟨P, 0, none⟩)] W fun e W' => e = .returned (.int .i64 st.safe.length) ∧ W' = W := by
  obtain ⟨Sf, cs, M, D, hd⟩ := h
  have e0 := cell_row hd.blk 0
  clear hd
  generalize st.safe.length = k at *
  go_enter Try.func78, Try.ntmps78
  go_wp2_with fail
  go_ret
  exact ⟨rfl, rfl⟩

set_option maxRecDepth 100000 in
set_option maxHeartbeats 1000000 in
/-- (*disk.Disk).Off -/
theorem doff_disk {W : World} {P : Nat} {F B : Nat → Prop} {n : Nat} {st : DiskSt} (h : DiskAt W P F B n st) :
    Calls Try.prog 71 #[.pointer (some ⟨P, 0, none⟩)] W fun e W' => e = .returned (.bool st.off) ∧ W' = W := by
  obtain ⟨Sf, cs, M, D, hd⟩ := h
  have e3 := cell_row hd.blk 3
  clear hd
  go_enter Try.func71, Try.ntmps71
  go_wp2_with fail
  go_ret
  exact ⟨rfl, rfl⟩

def fuseSt (st : DiskSt) (k : Int) : DiskSt := { st with fuse := if k < -1 then -1 else k }
def VoidPost (F B : Nat → Prop) (P n : Nat) (W : World) (st : DiskSt) (e : Ending) (W' : World) : Prop := e = .returned (.tuple #[]) ∧ DiskAt W' P F B n st ∧ Only F W W'
set_option maxRecDepth 100000 in
set_option maxHeartbeats 1000000 in
/-- (*disk.Disk).Fuse -/
theorem fuse_calls {W : World} {P : Nat} {F B : Nat → Prop} {n : Nat} {st : DiskSt} {k : Int} (h : DiskAt W P F B n st) (hk : (Lit.int .i64 k).wf = true) :
    Calls Try.prog 82 #[.pointer (some ⟨P, 0, none⟩), .int .i64 k] W (VoidPost F B P n W (fuseSt st k)) := by
  obtain ⟨Sf, cs, M, D, hd⟩ := h
  have e2 := cell_row hd.blk 2
  have z2 := frozen_row hd.blk 2
  have HD := Lib.hid hd
  have HK := Lib.hid hk
  clear hd hk
  by_cases h1 : k < -1
  · have HF := Lib.hid (show fuseSt st k = { st with fuse := -1 } by unfold fuseSt; rw [if_pos h1])
    go_enter Try.func82, Try.ntmps82
    go_wp2_with fail
    all_goals
      refine ⟨rfl, .tuple #[], by simp [results], rfl, by rw [HF.out]; exact ⟨_, _, _, _, HD.out.scal rfl rfl rfl (heap_setRow HD.out.blk) (by simp) fun b hb _ => Below.heap_setCell _ _ _ _ hb⟩, Only.set HD.out.fP⟩
  · have HF := Lib.hid (show fuseSt st k = { st with fuse := k } by unfold fuseSt; rw [if_neg h1])
    go_enter Try.func82, Try.ntmps82
    go_wp2_with fail
    all_goals
      refine ⟨rfl, .tuple #[], by simp [results], rfl, by rw [HF.out]; exact ⟨_, _, _, _, HD.out.scal rfl rfl HK.out (by first | exact heap_setRow HD.out.blk | (have e : k = -1 := by omega; rw [e]; exact heap_setRow HD.out.blk)) (by simp) fun b hb _ => Below.heap_setCell _ _ _ _ hb⟩, Only.set HD.out.fP⟩

set_option maxRecDepth 100000 in
set_option maxHeartbeats 1000000 in
/-- (*disk.Disk).at -/
theorem dat_calls {W : World} {P : Nat} {F B : Nat → Prop} {n : Nat} {st : DiskSt} {i : Int} (h : DiskAt W P F B n st) :
    Calls Try.prog 172 #[.pointer (some ⟨P, 0, none⟩), .int .i64 i] W (StepPost F B P n W (atSt st i)) := by
  have HA := Lib.hid h
  obtain ⟨Sf, cs, M, D, hd⟩ := h
  have e0 := cell_row hd.blk 0
  clear hd
  by_cases h0 : i < 0
  · have HF := Lib.hid (show atSt st i = (st, 2) by unfold atSt; rw [if_pos (.inl h0)])
    go_enter Try.func172, Try.ntmps172
    go_wp2_with fail
    go_ret
    exact ⟨by rw [HF.out]; rfl, by rw [HF.out]; exact HA.out, Only.refl _ _⟩
  · by_cases h1 : (st.safe.length : Int) ≤ i
    · have HF := Lib.hid (show atSt st i = (st, 2) by unfold atSt; rw [if_pos (.inr h1)])
      go_enter Try.func172, Try.ntmps172
      go_wp2_with fail
      go_ret
      exact ⟨by rw [HF.out]; rfl, by rw [HF.out]; exact HA.out, Only.refl _ _⟩
    · have HF := Lib.hid (show atSt st i = burnSt st by unfold atSt; rw [if_neg (by omega)])
      go_enter Try.func172, Try.ntmps172
      go_wp2_with fail
      refine (burn_calls HA.out).mono ?_
      rintro e w1 ⟨rfl, hd1, ho⟩
      have HD1 := Lib.hid hd1
      have HO := Lib.hid ho
      clear hd1 ho
      go_wp2_with fail
      go_ret
      exact ⟨by rw [HF.out]; rfl, by rw [HF.out]; exact HD1.out, HO.out⟩

theorem wpList_lookup_held {w : World} {ops : Array Oper} {rest : List Oper} {o : Oper} {a : Act} {R : Exit → Act → World → Prop} (hg : o.guard = none) (m x : Operand) (hop : o.op = Op.lookup 209 m x false)
    {M n : Nat} {D : DataW Value} {i : Int} (hm : a.eval m = .map (some M)) (hx : a.eval x = .int .i64 i) (h : w.ownsMap Try.prog 3 heldElem M n D) (hi : (Lit.int .i64 i).wf = true)
    (hK : wpList Try.prog ops R rest (a.put o.dst (valAt D i)) w) : wpList Try.prog ops R (o :: rest) a w := by
  refine wpList_plain hg fun K' hK' => ?_
  have hrun := lookup_held h hi
  unfold Oper.wp
  simp [execOp, hop, hm, hx, hrun, Result.andThen]
  exact hK' _ _ hK
theorem last_nil {l : List (List UInt8)} {d : List UInt8} (h : l = []) : (l.getLast?).getD d = d := by subst h; rfl
theorem last_get {l : List (List UInt8)} {d : List UInt8} (h : 0 < l.length) : (l.getLast?).getD d = l[l.length - 1] := by
  rw [List.getLast?_eq_getElem?, List.getElem?_eq_getElem (by omega)]; rfl

/-- What a sector was written last. -/
def lastSt (st : DiskSt) (i : Int) : List UInt8 := ((st.wait i).getLast?).getD (st.safe.getD i.toNat [])
def readSt (st : DiskSt) (i : Int) : DiskSt × List UInt8 × Int :=
  if (atSt st i).2 = 0 then ({ (atSt st i).1 with reads := wrap64 ((atSt st i).1.reads + 1) }, lastSt st i, 0) else ((atSt st i).1, [], (atSt st i).2)
def ReadPost (F B : Nat → Prop) (P n : Nat) (W : World) (r : DiskSt × List UInt8 × Int) (e : Ending) (W' : World) : Prop :=
  ∃ u, e = .returned (.tuple #[u, .int .i64 r.2.2]) ∧ Rep.byte.list.val (fun b => W.heap.size ≤ b) W' u r.2.1 ∧ DiskAt W' P F B n r.1 ∧ Only F W W'

theorem burnSt_same (st : DiskSt) : (burnSt st).1.safe = st.safe ∧ (burnSt st).1.wait = st.wait := by
  unfold burnSt; split
  · exact ⟨rfl, rfl⟩
  · split
    · exact ⟨rfl, rfl⟩
    · split <;> exact ⟨rfl, rfl⟩
theorem atSt_same (st : DiskSt) (i : Int) : (atSt st i).1.safe = st.safe ∧ (atSt st i).1.wait = st.wait := by
  unfold atSt; split
  · exact ⟨rfl, rfl⟩
  · exact burnSt_same st
theorem atSt_range {st : DiskSt} {i : Int} (h : (atSt st i).2 = 0) : 0 ≤ i ∧ i < st.safe.length := by
  unfold atSt at h
  split at h
  · exact absurd (show (2 : Int) = 0 from h) (by decide)
  · omega

set_option maxRecDepth 100000 in
set_option maxHeartbeats 2000000 in
/-- (*disk.Disk).Read -/
theorem dread_calls {W : World} {P : Nat} {F B : Nat → Prop} {n : Nat} {st : DiskSt} {i : Int} (h : DiskAt W P F B n st) (hi : (Lit.int .i64 i).wf = true) (hl : ∀ x ∈ st.safe, x.length ≤ 100000) (hw : ∀ j, ∀ x ∈ st.wait j, x.length ≤ 100000) :
    Calls Try.prog 81 #[.pointer (some ⟨P, 0, none⟩), .int .i64 i] W (ReadPost F B P n W (readSt st i)) := by
  have HA := Lib.hid h
  have HI := Lib.hid hi
  have HZ := Lib.hid (show ∀ w' : World, Rep.byte.list.val (fun x => W.heap.size ≤ x) w' (.slice none 0 0) ([] : List UInt8) from fun w => Rep.val_nil (by simp [maxLen]))
  by_cases hc : (atSt st i).2 = 0
  case neg =>
    have HF := Lib.hid (show readSt st i = ((atSt st i).1, [], (atSt st i).2) by unfold readSt; rw [if_neg hc])
    have g0 : ((atSt st i).2 == 0) = false := by simpa using hc
    have HN := Lib.hid hc
    clear h hc
    go_enter Try.func81, Try.ntmps81
    go_wp2_with fail
    refine (dat_calls HA.out).mono ?_
    rintro e w1 ⟨rfl, hd1, ho⟩
    have HD1 := Lib.hid hd1
    have HO := Lib.hid ho
    clear hd1 ho
    go_wp2_with fail
    go_ret2
    exact ⟨_, by rw [HF.out]; rfl, by rw [HF.out]; exact HZ.out _, by rw [HF.out]; exact HD1.out, HO.out⟩
  case pos =>
    have HF := Lib.hid (show readSt st i = ({ (atSt st i).1 with reads := wrap64 ((atSt st i).1.reads + 1) }, lastSt st i, 0) by unfold readSt; rw [if_pos hc])
    have HC := Lib.hid hc
    have hr := atSt_range hc
    have hs := atSt_same st i
    have HL := Lib.hid (show ∀ x ∈ (atSt st i).1.safe, x.length ≤ 100000 by rw [hs.1]; exact hl)
    have HW := Lib.hid (show ∀ j, ∀ x ∈ (atSt st i).1.wait j, x.length ≤ 100000 by rw [hs.2]; exact hw)
    have HLS := Lib.hid (show lastSt st i = lastSt (atSt st i).1 i by unfold lastSt; rw [hs.1, hs.2])
    have HR := Lib.hid (show 0 ≤ i ∧ i < (atSt st i).1.safe.length by rw [hs.1]; exact hr)
    clear h hc hl hw hr hs
    go_enter Try.func81, Try.ntmps81
    go_wp2_with fail
    refine (dat_calls HA.out).mono ?_
    rintro e w1 ⟨rfl, hd1, ho⟩
    rw [HC.out]
    generalize (atSt st i).1 = s1 at *
    obtain ⟨k, rfl⟩ : ∃ k : Nat, i = k := ⟨i.toNat, by have := HR.out; omega⟩
    have hk : k < s1.safe.length := by have := HR.out; omega
    obtain ⟨Sf, cs, M, D, hd1⟩ := hd1
    have HD1 := Lib.hid hd1
    have HO1 := Lib.hid ho
    have e0 := cell_row hd1.blk 0
    have e1 := cell_row hd1.blk 1
    have e4 := cell_row hd1.blk 4
    have z4 := frozen_row hd1.blk 4
    obtain ⟨W2, hW2⟩ : ∃ W2, w1.setCell ⟨P, 4, none⟩ (.int .i64 (wrap64 (s1.reads + 1))) = W2 := ⟨_, rfl⟩
    have hd2 : DiskW W2 P Sf cs M D F B n { s1 with reads := wrap64 (s1.reads + 1) } := by
      rw [← hW2]; exact hd1.scal rfl rfl hd1.wf (heap_setRow hd1.blk) (by simp) fun b hb _ => Below.heap_setCell _ _ _ _ hb
    have HO2 := Lib.hid (show Only F W W2 from HO1.out.trans (by rw [← hW2]; exact Only.set hd1.fP))
    have HD2 := Lib.hid hd2
    have HW2 := Lib.hid hW2
    obtain ⟨AL, cL, hva, hcl, hcm⟩ := Rep.acc_form (hd2.wt k)
    have HVA := Lib.hid hva
    have hsl := hd1.len_safe
    clear hd1 ho hva hcl hcm hW2
    dsimp only at hd2 HVA HF
    by_cases hw0 : s1.wait k = []
    · have hl0 : (s1.wait k).length = 0 := by rw [hw0]; rfl
      rw [hl0] at HVA
      obtain ⟨bb, off, B5, c5, hSf, hcell, hc5, hm5, hat⟩ := Rep.At.list (by
        obtain ⟨A', c', he, h1, h2, h3⟩ := Rep.val_list (Rep.acc_val hd2.safe)
        cases he; exact h3) (List.getElem?_eq_getElem hk)
      subst hSf
      have HX := Lib.hid (show Rep.byte.list.val (fun _ => True) W2 (.slice B5 (s1.safe[k]).length c5) s1.safe[k] from Rep.val_mono (fun _ _ _ => trivial) (Rep.list_val rfl hc5 hm5 hat))
      have HXL := Lib.hid (HL.out _ (List.getElem_mem hk))
      have HLast := Lib.hid (show lastSt s1 k = s1.safe[k] by unfold lastSt; rw [last_nil hw0, List.getD_eq_getElem?_getD, Int.toNat_natCast, List.getElem?_eq_getElem hk]; rfl)
      generalize s1.safe[k] = x at *
      clear hat hd2
      rw [← HW2.out] at hcell
      go_wp2_with (at_lookup; refine wpList_lookup_held rfl (.tmp 24) (.tmp 25) rfl (M := M) (n := n) (D := D) (i := (k : Int)) (by exact rfl) (by exact rfl) (by rw [HW2.out]; exact HD2.out.map) HI.out ?_; rw [HVA.out])
      rw [HW2.out]
      refine (sliceClone HX.out (by have := HXL.out; omega)).mono ?_
      rintro e w3 ⟨u, rfl, hu, hb3⟩
      have HU := Lib.hid (Rep.acc_fresh hu)
      have HD3 := Lib.hid (show DiskAt w3 P F B n { s1 with reads := wrap64 (s1.reads + 1) } from DiskAt.below ⟨_, _, _, _, HD2.out⟩ hb3)
      have HO3 := Lib.hid (HO2.out.trans (Only.of_below hb3))
      have HSZ := Lib.hid HO2.out.size
      clear hu hb3
      go_wp2_with fail
      go_ret2
      exact ⟨_, by rw [HF.out]; rfl, by rw [HF.out]; show Rep.byte.list.val _ _ _ (lastSt st k); rw [HLS.out, HLast.out]; exact Rep.val_mono (fun b hb _ => Nat.le_trans HSZ.out hb) HU.out, by rw [HF.out]; exact HD3.out, HO3.out⟩
    · have hpos : 0 < (s1.wait k).length := by
        cases hq : s1.wait k with
        | nil => exact absurd hq hw0
        | cons _ _ => simp
      obtain ⟨m, hm⟩ : ∃ m, (s1.wait k).length = m + 1 := ⟨(s1.wait k).length - 1, by omega⟩
      have hlast : (s1.wait k).length - 1 = m := by omega
      have hmk : m < (s1.wait k).length := by omega
      obtain ⟨bb, off, B5, c5, hAL, hcell, hc5, hm5, hat⟩ := Rep.At.list (by
        obtain ⟨A', c', he, h1, h2, h3⟩ := Rep.val_list (Rep.acc_val (hd2.wt k))
        rw [HVA.out] at he
        cases he; exact h3) (List.getElem?_eq_getElem hmk)
      subst hAL
      have HX := Lib.hid (show Rep.byte.list.val (fun _ => True) W2 (.slice B5 ((s1.wait k)[m]).length c5) (s1.wait k)[m] from Rep.val_mono (fun _ _ _ => trivial) (Rep.list_val rfl hc5 hm5 hat))
      have HXL := Lib.hid (HW.out k _ (List.getElem_mem hmk))
      have HLast := Lib.hid (show lastSt s1 k = (s1.wait k)[m] by unfold lastSt; rw [last_get hpos]; congr 1)
      rw [hm] at HVA
      have hmx : (m : Int) + 1 ≤ 9223372036854775807 := by
        obtain ⟨A', c', he, h1, h2, _⟩ := Rep.val_list (Rep.acc_val (hd2.wt k))
        have h3 : (s1.wait k).length = m + 1 := hm
        have h1' : (s1.wait k).length ≤ c' := h1
        unfold maxLen at h2; omega
      generalize (s1.wait k)[m] = x at *
      clear hat hd2 hw0 hpos hm hlast hmk
      rw [← HW2.out] at hcell
      go_wp2_with (at_lookup; refine wpList_lookup_held rfl (.tmp 24) (.tmp 25) rfl (M := M) (n := n) (D := D) (i := (k : Int)) (by exact rfl) (by exact rfl) (by rw [HW2.out]; exact HD2.out.map) HI.out ?_; rw [HVA.out])
      rw [HW2.out]
      refine (sliceClone HX.out (by have := HXL.out; omega)).mono ?_
      rintro e w3 ⟨u, rfl, hu, hb3⟩
      have HU := Lib.hid (Rep.acc_fresh hu)
      have HD3 := Lib.hid (show DiskAt w3 P F B n { s1 with reads := wrap64 (s1.reads + 1) } from DiskAt.below ⟨_, _, _, _, HD2.out⟩ hb3)
      have HO3 := Lib.hid (HO2.out.trans (Only.of_below hb3))
      have HSZ := Lib.hid HO2.out.size
      clear hu hb3
      go_wp2_with fail
      go_ret2
      exact ⟨_, by rw [HF.out]; rfl, by rw [HF.out]; show Rep.byte.list.val _ _ _ (lastSt st k); rw [HLS.out, HLast.out]; exact Rep.val_mono (fun b hb _ => Nat.le_trans HSZ.out hb) HU.out, by rw [HF.out]; exact HD3.out, HO3.out⟩
end Go.Proofs.Ytcfgckpjgihcgaa
/- Walk of bytes cut to a length: the program's. -/
namespace Go.Proofs.Ytcfgckpjgihcgaa
open Go.RowKit
open Extern.Stop (cell)

theorem zeroBytes_is (n : Nat) : zeroBytes n = ((zeros n).map cell).toArray := by
  apply Array.ext'
  rw [zeroBytes, toList_madeCells_one]
  simp [zeros, cell]
theorem cut_splice (l : List UInt8) (n : Nat) : splice (zeros n) 0 (l.take n) = cutTo l n := by
  have hk : (l.take n).length ≤ n := by rw [List.length_take]; omega
  have hz : zeros n = zeros (l.take n).length ++ zeros (n - (l.take n).length) := by rw [← zeros_add]; congr 1; omega
  have h2 : n - (l.take n).length = n - l.length := by rw [List.length_take]; omega
  rw [hz, splice_here (zeros_length _), cutTo, h2]; rfl

set_option maxRecDepth 100000 in
set_option maxHeartbeats 1000000 in
/-- le.Cut -/
theorem lecut_calls {Q : Nat → Prop} {w : World} {v : Value} {l : List UInt8} {n : Nat} (hx : Rep.byte.list.val Q w v l) (hn : n ≤ 65535) :
    Calls Try.prog 175 #[v, .int .i64 n] w fun e w' => e = .returned (.slice (some ⟨w.heap.size, 0, none⟩) n n) ∧ w'.heap[w.heap.size]? = some (.cells ((cutTo l n).map cell).toArray 5 (0, 0)) ∧ Below w.heap.size w w' := by
  obtain ⟨A, c, rfl, hs⟩ := Rep.val_sl hx
  have hmk : ∀ w, (Instr.makeSlice 22 (.int .i64 (n : Int)) (.int .i64 (n : Int))).run Try.prog w = .ok (.slice (some ⟨w.heap.size, 0, none⟩) n n) (w.alloc (.cells (zeroBytes n) 5)) :=
    fun w => run_make_bytes Try.underlying22 info5 n (by omega) w
  have HG := Lib.hid (show (w.alloc (.cells (zeroBytes n) 5)).heap[w.heap.size]? = some (.cells ((zeros n).map cell).toArray 5 (0, 0)) by rw [heap_alloc_new, zeroBytes_is])
  have HB := Lib.hid (show Below w.heap.size w (w.alloc (.cells (zeroBytes n) 5)) from (Below.refl _ _).alloc (Nat.le_refl _) _)
  have HS := Lib.hid (hs.keep (w' := w.alloc (.cells (zeroBytes n) 5)) (Q' := fun _ => True) fun b hb hl => ⟨trivial, Below.heap_alloc _ _ _ hl.lt⟩)
  have HC := Lib.hid (copy_from (X := l.take n) (c := c) (A := A) (w := w.alloc (.cells (zeroBytes n) 5)) (Q := fun _ => True) (by have := HS.out; exact ⟨by rw [List.length_take]; have := this.1; omega, this.2.1, this.2.2.take n⟩))
  have HE := Lib.hid (cut_splice l n)
  have HL := Lib.hid (show ((l.take n).map cell).length = Nat.min l.length n by rw [List.length_map, List.length_take]; exact Nat.min_comm _ _)
  have HF := Lib.hid (show 0 + ((l.take n).map cell).length ≤ ((zeros n).map cell).length by rw [List.length_map, List.length_map, List.length_take, zeros_length]; omega)
  have n1 : (0 : Int) ≤ n := by omega
  have n2 : (n : Int) ≤ 65535 := by omega
  clear hx hs hn
  obtain ⟨Y, hY⟩ : ∃ Y, Y = l.take n := ⟨_, rfl⟩
  rw [← hY] at HC HE HL HF
  clear hY
  obtain ⟨Z, hZ⟩ : ∃ Z, Z = zeroBytes n := ⟨_, rfl⟩
  rw [← hZ] at hmk HG HB HC
  clear HS hZ
  go_enter Try.func175, Try.ntmps175
  go_wp2_with (refine wpList_copy_splice rfl (.tmp 10) (.tmp 11) 22 22 rfl 5 Try.underlying22 size5 (some ⟨w.heap.size, 0, none⟩) A n n l.length c (by exact rfl) (by exact rfl) w.heap.size 0 ((zeros n).map cell) 5 HG.out (Y.map cell) HL.out (fun h => ⟨rfl, HC.out h⟩) HF.out (copy_one Y) w.heap.size w HB.out (Nat.le_refl _) ?_; intro w5 hg5 hb5; have H5 := Lib.hid hg5.out; have D5 := Lib.hid hb5; clear hg5 hb5)
  go_ret
  exact ⟨rfl, by rw [H5.out, ← splice_map, HE.out], D5.out⟩
end Go.Proofs.Ytcfgckpjgihcgaa
/- A region that draws its order, in a round of a range over a function: what is shown of it as0 of any region serves there. No program is named here. -/
namespace Go.Proofs.Ytcfgckpjgihcgaa
open Go.RowKit

section
variable {n l : Nat} {P : Program} {ops : Array Oper} {Q : Exit → Act → World → Prop} {md : Region.Mode}

theorem rowsIn_wide {row : String} {args : Array Value} {w : World} {R : Value → World → Prop} (h : Rows P row args w R) : RowsIn (Fence.wide.inRound l) n P row args w R :=
  fun c cs _ => by
    obtain ⟨v, w', r, s⟩ := h c cs
    exact ⟨v, w', r, by rw [fenced_inRound]; exact stepsIn_wide.2 s⟩

theorem oper_round {o : Oper} {a : Act} {w : World} {K : Act → World → Prop} (hd : ∀ c, o.op ≠ .defer c) (h : o.wp P a w K Q) : o.wpIn (Fence.wide.inRound l) n P a w K Q := by
  unfold Oper.wp at h
  unfold Oper.wpIn
  refine ⟨fun _ _ => trivial, ?_⟩
  rw [Oper.semAt_eq _ _ _ hd]
  generalize (execOp a.eval o).run P w = r at *
  cases r with
  | ok x w' =>
    cases x <;> simp only [Oper.upon, Oper.uponIn] at h ⊢
    case value => exact h
    case skip => exact h
    case defer => exact h
    case enter f args => exact ⟨fun hh => by simp [Fence.inRound, Fence.wide] at hh, CallsIn.inRound l (callsIn_wide.2 h)⟩
    case row row args => exact ⟨fun hh => by simp [Fence.inRound, Fence.wide] at hh, rowsIn_wide h⟩
  | halt x w' => cases x <;> simp only [Oper.upon, Oper.uponIn] at h ⊢ <;> exact h

theorem wpOp_round {i : Nat} {a : Act} {w : World} {K : Act → World → Prop} (hd : ∀ (i : Nat) (o : Oper), ops[i]? = some o → ∀ c, o.op ≠ .defer c) (hout : ¬ LetsOut Q) (h : wpOp P ops Q i K a w) : wpOpIn (Fence.wide.inRound l) n P ops Q i K a w := by
  unfold wpOp at h
  unfold wpOpIn
  cases ho : ops[i]? with
  | none => simpa [ho] using h
  | some o =>
    simp only [ho] at h ⊢
    split
    · rename_i hw
      rw [if_pos hw] at h
      rcases h with h | ⟨_, h⟩
      · exact oper_round (hd i o ho) h
      · exact absurd h hout
    · rename_i hw
      rw [if_neg hw] at h
      exact ⟨fun _ _ => trivial, h⟩

theorem wpAny_round (hd : ∀ (i : Nat) (o : Oper), ops[i]? = some o → ∀ c, o.op ≠ .defer c) (hout : ¬ LetsOut Q) : ∀ (fuel : Nat) (listed : Array Bool) (a : Act) (w : World), wpAny P md ops Q fuel listed a w → wpAnyIn (Fence.wide.inRound l) n P md ops Q fuel listed a w
  | 0, _, _, _, h => h
  | fuel + 1, _, _, _, h => ⟨h.1, fun i hi => wpOpIn_mono (fun _ _ h => wpAny_round hd hout fuel _ _ _ h) (wpOp_round hd hout (h.2 i hi))⟩

/-- A region that draws its order, in a round. -/
theorem region_round {id : Nat} {a : Act} {w : World} (hm : P.follows .mixedOrders = true) (hd : ∀ (i : Nat) (o : Oper), ops[i]? = some o → ∀ c, o.op ≠ .defer c) (hout : ¬ LetsOut Q)
    (h : wpAny P .any ops Q ops.size (Array.replicate ops.size false) a w.drew) : (Code.region id ops true).wpIn (Fence.wide.inRound l) n P Q a w :=
  wpIn_region_any hm (wpAny_round hd hout _ _ _ _ h)

/-- One step: the operations that may come next, one by one. -/
theorem any_step {fuel : Nat} {listed : Array Bool} {a : Act} {w : World} (rs : List Nat) (hr : Region.ready md ops listed = rs) (hne : rs ≠ [])
    (h : ∀ i ∈ rs, wpOp P ops Q i (wpAny P md ops Q fuel (listed.setIfInBounds i true)) a w) : wpAny P md ops Q (fuel + 1) listed a w := wpAny_ready hr hne h

theorem op_value {i : Nat} {o : Oper} {a : Act} {w w' : World} {v : Value} {K : Act → World → Prop} (ho : ops[i]? = some o) (hg : o.guard = none) (hrun : (execOp a.eval o).run P w = .ok (.value v) w') (h : K (a.put o.dst v) w') : wpOp P ops Q i K a w := by
  unfold wpOp
  simp only [ho, Region.wanted, hg, if_true]
  refine .inl ?_
  unfold Oper.wp
  rw [hrun]
  exact h

theorem op_call {i f : Nat} {args : Array Value} {o : Oper} {a : Act} {w w' : World} {K : Act → World → Prop} {R : Ending → World → Prop} (ho : ops[i]? = some o) (hg : o.guard = none) (hrun : (execOp a.eval o).run P w = .ok (.enter f args) w') (hc : Calls P f args w' R)
    (hR : ∀ e w'', R e w'' → ∃ v, e = .returned v ∧ K (a.put o.dst v) w'') : wpOp P ops Q i K a w := by
  unfold wpOp
  simp only [ho, Region.wanted, hg, if_true]
  refine .inl ?_
  unfold Oper.wp
  rw [hrun]
  refine hc.mono fun e w'' hr => ?_
  obtain ⟨v, rfl, hk⟩ := hR e w'' hr
  exact hk

theorem op_skip {i : Nat} {o : Oper} {a : Act} {w w' : World} {K : Act → World → Prop} (ho : ops[i]? = some o) (hg : o.guard = none) (hrun : (execOp a.eval o).run P w = .ok .skip w') (h : K (a.put o.dst undef) w') : wpOp P ops Q i K a w := by
  unfold wpOp
  simp only [ho, Region.wanted, hg, if_true]
  refine .inl ?_
  unfold Oper.wp
  rw [hrun]
  exact h
end

def noDefer (ops : Array Oper) : Bool := ops.toList.all fun o => match o.op with | .defer _ => false | _ => true
theorem noDefer_spec {ops : Array Oper} (h : noDefer ops = true) : ∀ (i : Nat) (o : Oper), ops[i]? = some o → ∀ c, o.op ≠ .defer c := by
  intro i o ho c hc
  have hm : o ∈ ops.toList := by
    rw [← Array.getElem?_toList] at ho
    exact List.mem_of_getElem? ho
  have := List.all_eq_true.1 h o hm
  rw [hc] at this
  cases this

/-- 'append' as0 one operation. -/
theorem exec_append {P : Program} {o : Oper} {a : Act} {w w' : World} {s x : Operand} {t : TypeId} {v u v' : Value} (ho : o.op = .call { callee := .builtin .append, args := #[s, x], argTypes := #[t, t] })
    (hs : a.eval s = v) (hx : a.eval x = u) (h : (Builtin.append_ #[t, t] o.type #[v, u]).run P w = .ok v' w') : (execOp a.eval o).run P w = .ok (.value v') w' := by
  unfold execOp
  simp only [ho, resolve, invoke, builtin, Sem.run_bind, Sem.run_pure, Result.andThen_ok, List.map_toArray, List.map_cons, List.map_nil, hs, hx, h]

/-- '[]T{x}' as0 one operation. -/
theorem exec_buildSlice {P : Program} {o : Oper} {a : Act} {w : World} {x : Operand} {t e : TypeId} {vy : Value} (ho : o.op = .buildSlice t 1 #[(0, x)])
    (z : Value) (size : Nat) (ht : P.underlying t = some (.slice e)) (hi : (P.info? e).map (fun i => (i.zero, i.size)) = some (some z, size)) (hx : a.eval x = vy) (hc : vy.cells.size = size) (hsz : 0 < size ∧ size ≤ 1000) :
    (execOp a.eval o).run P w = .ok (.value (.slice (some ⟨w.heap.size, 0, none⟩) 1 1)) (w.alloc (.cells vy.cells e)) := by
  have hb := run_buildSlice_one (P := P) w t e z size ht hi vy hc hsz.1 hsz.2
  simp only [execOp, ho, List.map_toArray, List.map_cons, List.map_nil, hx]
  simp only [Sem.run_bind, hb, Result.andThen_ok, Sem.run_pure]


theorem KeepsOthers.of_below {W W' : World} (h : Below W.heap.size W W') : KeepsOthers W W' := ⟨h.size, fun k _ hk _ => (h.block k (Array.getElem?_eq_some_iff.1 hk).1).trans hk⟩

/-- 'out = append(out, y)', out in a box: what is so behind the append, and behind the store. -/
theorem box_collect {α : Type} {r : Rep α} {e t T ty : TypeId} {base B : Nat} {Q : Nat → Prop} {P : Program} {W Wm : World} {v : Value} {xs : List α} {z : Value} {size bytes : Nat}
    (ht : P.underlying T = some (.slice e)) (hi : (P.info? e).map (fun i => (i.zero, i.size, i.bytes)) = some (some z, size, bytes)) (hzs : z.cells.size = size) (hsz : 0 < size) (hr : r.size = size)
    (hv : Boxed W B t v) (hBb : B < base) (hbase : base ≤ W.heap.size) (hQ : ∀ b, Q b → b ≠ B) (hacc : r.acc e base Q W v xs) (hWm : Below W.heap.size W Wm)
    {y : α} {vy : Value} (hy : r.val (fun b => Q b ∧ v.ownBlock ≠ some b) Wm vy y) {g : Nat} (hg : Wm.heap[g]? = some (.cells vy.cells e (0, 0)))
    (h63 : xs.length + 1 ≤ maxLen) (hbytes : (xs.length + 1) * bytes ≤ 140737488355328) :
    ∃ v' w1, (Builtin.append_ #[T, T] ty #[v, .slice (some ⟨g, 0, none⟩) 1 1]).run P Wm = .ok v' w1 ∧ Boxed w1 B t v ∧ Boxed (w1.setCell ⟨B, 0, none⟩ v') B t v' ∧ r.acc e base Q (w1.setCell ⟨B, 0, none⟩ v') v' (xs ++ [y]) ∧
      KeepsOthers W (w1.setCell ⟨B, 0, none⟩ v') ∧ Below B W (w1.setCell ⟨B, 0, none⟩ v') ∧ (∀ k, k < base → k ≠ B → (w1.setCell ⟨B, 0, none⟩ v').heap[k]? = W.heap[k]?) ∧ v'.oneCell' = true := by
  have hacc' : r.acc e base Q Wm v xs := Rep.acc_keep (fun b _ hb => hWm.block b hb.lt) (fun _ hb _ => hb) hacc
  obtain ⟨cs, hvy, hrd⟩ := hy
  have hcells : vy.cells.toList = cs := by rw [hvy]; exact r.back hrd
  obtain ⟨v', w1, q1, q2, q3, q4⟩ := Rep.acc_more (P := P) (ty := ty) (ys := [y]) (A := some ⟨g, 0, none⟩) (m := 1) (c := 1) (es := cs) ht hi hzs hsz hr hacc' rfl (Rep.row_one_elem hrd)
    (fun _ => ⟨g, 0, rfl, fun j u hj => by rw [cell_of_row _ _ _ _ _ _ hg, Nat.zero_add, ← hj, ← hcells]; simp⟩) (by simpa using h63) (by simpa using hbytes) (Nat.le_trans hbase hWm.size)
  have hown := Rep.acc_own hacc'
  have hvm : Boxed Wm B t v := (hWm.block B (by omega)).trans hv
  have hv1 : Boxed w1 B t v := hvm.kept q3 (fun hh => by have := (hown B hh.symm).1; omega)
  have hown1 := Rep.acc_own q2
  have hs : ∀ k, k ≠ B → (w1.setCell ⟨B, 0, none⟩ v').heap[k]? = w1.heap[k]? := fun k hk => Below.heap_setCell _ _ _ _ hk
  obtain ⟨A', c', hform, _, _⟩ := Rep.acc_form q2
  refine ⟨v', w1, q1, hv1, hv1.set v', Rep.acc_keep (fun b hb _ => hs b ?_) (fun _ hb _ => hb) q2, ?_, ?_, ?_, by rw [hform]; rfl⟩
  · rcases hb with hb | hb
    · exact hQ b hb
    · have := (hown1 b hb).1; omega
  · refine ((KeepsOthers.of_below hWm).trans (KeepsOthers.of_grownBy q3 ?_)).trans (KeepsOthers.setCell _ _ _)
    intro j o hj ho
    obtain ⟨cells, h1, _⟩ := hacc'
    rcases h1.2 with ⟨rfl, _⟩ | ⟨g', cap, cur, rfl, _, hg', _⟩
    · simp [Value.ownBlock] at hj
    · simp only [Value.ownBlock, Option.some.injEq] at hj
      subst hj
      rw [hg'] at ho; cases ho; rfl
  · have hb1 : Below B W w1 := (hWm.mono (by omega)).grown q3 (Nat.le_trans (by omega) hWm.size) (fun k hk => by have := (hown k hk).1; omega)
    exact hb1.setCell (p := ⟨B, 0, none⟩) (Nat.le_refl _) _
  · intro k hk hne
    rw [hs k hne, q3.block k (Nat.lt_of_lt_of_le (by omega) hWm.size) (fun hh => by have := (hown k hh.symm).1; omega), hWm.block k (by omega)]


/-- A box that holds a slice, read. -/
theorem exec_load_box {P : Program} {o : Oper} {a : Act} {w : World} {x : Operand} {T t e : TypeId} {B : Nat} {v : Value} (ho : o.op = .load T x) (hx : a.eval x = .pointer (some ⟨B, 0, none⟩)) (ht : P.underlying T = some (.slice e)) (hv : Boxed w B t v) :
    (execOp a.eval o).run P w = .ok (.value v) w := by
  have hc := hv.cell
  have h : (loadVar T ⟨B, 0, none⟩).run P w = .ok v w := by unfold loadVar isAgg; simp [run_underlying ht, hc]
  simp only [execOp, ho, hx, Instr.loadAt, Instr.sureAddr, Sem.run_bind, Sem.run_pure, Result.andThen_ok, h]

/-- A box, written. -/
theorem exec_store_box {P : Program} {o : Oper} {a : Act} {w : World} {x y : Operand} {T t : TypeId} {B : Nat} {v v' : Value} (ho : o.op = .store T x y) (hx : a.eval x = .pointer (some ⟨B, 0, none⟩)) (hy : a.eval y = v') (hi : (P.info? T).map (·.size) = some 1) (hv : Boxed w B t v) (h2 : ∃ A n c, v' = .slice A n c) :
    (execOp a.eval o).run P w = .ok .skip (w.setCell ⟨B, 0, none⟩ v') := by
  have hc := hv.cell
  have hf := hv.frozen
  obtain ⟨A, n, c, rfl⟩ := h2
  have h : (storeVar T ⟨B, 0, none⟩ (.slice A n c)).run P w = .ok () (w.setCell ⟨B, 0, none⟩ (.slice A n c)) := by
    obtain ⟨i, h1, h2⟩ := Option.map_eq_some_iff.1 hi
    unfold storeVar sizeOf typeInfo
    simp only [run_program, Sem.run_bind, Result.andThen_ok, h1, Sem.run_pure, h2, Value.cells, storeCells]
    rw [Addr.add_zero', if_neg (by simp)]
    simp only [Sem.run_bind, run_store_slice, stored, hc, hf, Bool.false_eq_true, if_false, Result.andThen_ok, Sem.run_pure]
  simp only [execOp, ho, hx, hy, Instr.storeAt, Instr.sureAddr, Sem.run_bind, Sem.run_pure, Result.andThen_ok, h]


theorem step_run {P : Program} {ops : Array Oper} {o : Oper} {a : Act} {w w' : World} {v : Value} {K : Act → World → Prop} {Q : Exit → Act → World → Prop} {E : Prop} (hg : o.guard = none) (hrun : (execOp a.eval o).run P w = .ok (.value v) w') (h : K (a.put o.dst v) w') :
    if Region.wanted o (yielded ops a.tmps) = true then Oper.wp P o a w K Q else E := by
  have hw : Region.wanted o (yielded ops a.tmps) = true := by simp [Region.wanted, hg]
  rw [if_pos hw]
  unfold Oper.wp
  rw [hrun]
  exact h
theorem step_run_skip {P : Program} {ops : Array Oper} {o : Oper} {a : Act} {w w' : World} {K : Act → World → Prop} {Q : Exit → Act → World → Prop} {E : Prop} (hg : o.guard = none) (hrun : (execOp a.eval o).run P w = .ok .skip w') (h : K (a.put o.dst undef) w') :
    if Region.wanted o (yielded ops a.tmps) = true then Oper.wp P o a w K Q else E := by
  have hw : Region.wanted o (yielded ops a.tmps) = true := by simp [Region.wanted, hg]
  rw [if_pos hw]
  unfold Oper.wp
  rw [hrun]
  exact h

end Go.Proofs.Ytcfgckpjgihcgaa
/- page.Cut: a range over the library's slices.Chunk. -/
namespace Go.Proofs.Ytcfgckpjgihcgaa
open Go.RowKit Go.Shelf
attribute [local go_sem] Oper.semAt_some

/-- slices.Chunk: the slice and the number are boxed. -/
theorem chunk_in (n : Nat) (A : Option Addr) (len cap : Nat) (w : World) :
    CallsIn Fence.wide n Try.prog 128 #[.slice A len cap, .int .i64 472] w fun e w' => e = .returned (.func (.func 211) #[] #[.pointer (some ⟨w.heap.size, 0, none⟩), .pointer (some ⟨w.heap.size + 1, 0, none⟩)]) ∧ w' = (w.alloc (.cells #[.slice A len cap] 22)).alloc (.cells #[.int .i64 472] 3) := by
  refine callsIn_wide.2 ?_
  go_enter Try.func128, Try.ntmps128
  go_wp2_with fail
  go_ret
  exact ⟨rfl, rfl⟩

def chunkVal (b off len k : Nat) : Value := .slice (some ⟨b, off + 472 * k, none⟩) (min 472 (len - 472 * k)) (min 472 (len - 472 * k))

def firsts (N k : Nat) (h : k ≤ N) : List (Fin N) := (List.range k).attach.map fun i => ⟨i.1, by have := List.mem_range.1 i.2; omega⟩
theorem firsts_val (N k : Nat) (h : k ≤ N) : (firsts N k h).map Fin.val = List.range k := by simp [firsts]
theorem firsts_length (N k : Nat) (h : k ≤ N) : (firsts N k h).length = k := by simp [firsts]

/-- Two blocks lie as0 they lay. -/
def Both (b c : Nat) (W W' : World) : Prop := W'.heap[b]? = W.heap[b]? ∧ W'.heap[c]? = W.heap[c]?
theorem both_t {b c : Nat} {X Y Z : World} (h : Both b c X Y) (k : Both b c Y Z) : Both b c X Z := ⟨k.1.trans h.1, k.2.trans h.2⟩
theorem both_b {b c : Nat} {w : World} (hb : b < w.heap.size) (hc : c < w.heap.size) (W : World) (l : Nat) (o o' : Obj) (hl : w.heap.size ≤ l) (_ : W.heap[l]? = some o) (_ : o.isCells = false) (_ : o.isWalk = false) : Both b c W (W.putObj l o') :=
  ⟨World.putObj_heap_other (by omega), World.putObj_heap_other (by omega)⟩

set_option maxRecDepth 100000 in
set_option maxHeartbeats 2000000 in
/-- slices.Chunk's closure at a slice that has elements. -/
theorem chunk1_in (n l Bs Bn b off len cap N : Nat) (hn : 1 ≤ n) (hN : N = (len + 471) / 472) (hlen : len ≤ 100000000000000) (hcap : len ≤ cap) (J Jx : List (Fin N) → World → Prop) (hJd : ∀ s W m, J s W → J s (W.drewN m))
    (hY : ∀ pre x W, J pre W → pre.length < N → YieldAt Fence.wide (n - 1) Try.prog l #[chunkVal b off len x.1] W fun e W' =>
      (e = .returned (.bool true) ∧ J (pre ++ [x]) W' ∧ Both Bs Bn W W') ∨ (e = .returned (.bool false) ∧ Jx (pre ++ [x]) W'))
    (W : World) (hBs : W.cell? ⟨Bs, 0, none⟩ = some (.slice (some ⟨b, off, none⟩) len cap)) (hBn : W.cell? ⟨Bn, 0, none⟩ = some (.int .i64 472)) (h0 : J [] W) :
    CallsIn Fence.wide n Try.prog 211 #[.func (.yield l) #[] #[], .pointer (some ⟨Bs, 0, none⟩), .pointer (some ⟨Bn, 0, none⟩)] W fun e W' => (∃ v, e = .returned v) ∧
      ((∃ ys, ys.map Fin.val = List.range N ∧ J ys W') ∨ (∃ pre, True ∧ Jx pre W')) := by
  refine callsIn_of_wp Try.func211 rfl trivial ?_ rfl
  simp only [Try.ntmps211, List.size_toArray, List.length_cons, List.length_nil, Nat.reduceAdd, Nat.reduceSub, Array.replicate_succ, Array.replicate_zero, List.push_toArray, List.append_toArray, List.nil_append, List.cons_append]
  gi_wp2
  gi_loopw [4] (fun v wr => ∃ k i : Nat, k ≤ N ∧ Hid (i = 472 * k) ∧ v = .int .i64 i ∧ (∃ ys : List (Fin N), ys.map Fin.val = List.range k ∧ J ys wr) ∧ Both Bs Bn W wr)
    (fun i _ => len + 472 - (intOf i).toNat)
  case atStart => exact ⟨0, 0, Nat.zero_le _, rfl, rfl, ⟨[], rfl, h0⟩, rfl, rfl⟩
  case round =>
    obtain ⟨k, i, hk, hi, rfl, ⟨ys, hys, hJs⟩, hnx⟩ := hrel
    have hc1 : wr.cell? ⟨Bs, 0, none⟩ = some (.slice (some ⟨b, off, none⟩) len cap) := (World.cell?_of_block hnx.1).trans hBs
    have hc2 : wr.cell? ⟨Bn, 0, none⟩ = some (.int .i64 472) := (World.cell?_of_block hnx.2).trans hBn
    have HYS := Lib.hid hys
    clear hys
    by_cases hlt : i < len
    · have hkN : k < N := by have := hi.out; omega
      have hylen : ys.length < N := by have := congrArg List.length HYS.out; simp at this; omega
      have hcv : ∀ m, m = min 472 (len - i) → chunkVal b off len k = .slice (some ⟨b, off + i, none⟩) m m := by intro m hm; rw [chunkVal, ← hi.out, hm]
      have i1 : (i : Int) < (len : Int) := by omega
      have HN := Lib.hid hN
      clear hN
      have hmix : Try.prog.follows .mixedOrders = true := by kernel_rfl
      rcases Nat.lt_or_ge (len - i) 472 with hm | hm
      · have hm1 := hcv (len - i) (by omega)
        have HM := Lib.hid hm1
        clear hm1 hcv
        have i2 : ((len - i : Nat) : Int) < 472 := by omega
        have i3 : ((i : Int) + ((len - i : Nat) : Int)) = (len : Int) := by omega
        gi_wp2
        gi_big_quiet_th_o (fail)
        obtain ⟨fn, tmps, assign, body, hy, hR⟩ := hY ys ⟨k, hkN⟩ (wr.drewN nq) (hJd _ _ _ hJs) hylen
        dsimp only at hy
        rw [HM.out] at hy
        gi_wp2
        refine hR.mono ?_
        rintro e W3 (⟨rfl, hJ3, hk3⟩ | ⟨rfl, hJx3⟩)
        · have hc3 : W3.cell? ⟨Bn, 0, none⟩ = some (.int .i64 472) := (World.cell?_of_block (w := wr) hk3.2).trans hc2
          have hb3 : Both Bs Bn W W3 := both_t hnx ⟨hk3.1, hk3.2⟩
          gi_wp2
          go_roundw
          case rel => exact ⟨k + 1, i + 472, by omega, by have := hi.out; unfold Hid; omega, by go_num, ⟨ys ++ [⟨k, hkN⟩], by rw [List.map_append, HYS.out, List.range_succ]; rfl, hJ3⟩, hb3⟩
          case measure => simp [intOf]; omega
        · gi_wp2
          refine bodyPost_ret (results_none rfl _ _ _) rfl ?_
          exact ⟨⟨_, rfl⟩, .inr ⟨_, trivial, hJx3⟩⟩
      · have hm1 := hcv 472 (by omega)
        have HM := Lib.hid hm1
        clear hm1 hcv
        have i2 : ¬ ((len - i : Nat) : Int) < 472 := by omega
        have i3 : (i : Int) + 472 ≤ (len : Int) := by omega
        gi_wp2
        gi_big_quiet_th_o (fail)
        obtain ⟨fn, tmps, assign, body, hy, hR⟩ := hY ys ⟨k, hkN⟩ (wr.drewN nq) (hJd _ _ _ hJs) hylen
        dsimp only at hy
        rw [HM.out] at hy
        gi_wp2
        refine hR.mono ?_
        rintro e W3 (⟨rfl, hJ3, hk3⟩ | ⟨rfl, hJx3⟩)
        · have hc3 : W3.cell? ⟨Bn, 0, none⟩ = some (.int .i64 472) := (World.cell?_of_block (w := wr) hk3.2).trans hc2
          have hb3 : Both Bs Bn W W3 := both_t hnx ⟨hk3.1, hk3.2⟩
          gi_wp2
          go_roundw
          case rel => exact ⟨k + 1, i + 472, by omega, by have := hi.out; unfold Hid; omega, by go_num, ⟨ys ++ [⟨k, hkN⟩], by rw [List.map_append, HYS.out, List.range_succ]; rfl, hJ3⟩, hb3⟩
          case measure => simp [intOf]; omega
        · gi_wp2
          refine bodyPost_ret (results_none rfl _ _ _) rfl ?_
          exact ⟨⟨_, rfl⟩, .inr ⟨_, trivial, hJx3⟩⟩
    · have hke : k = N := by have := hi.out; omega
      have HK := Lib.hid hke
      clear hke
      have i1 : ¬ (i : Int) < (len : Int) := by omega
      gi_wp2
      go_end0
      exact ⟨⟨_, rfl⟩, .inl ⟨ys, by rw [HYS.out, HK.out]; exact congrArg List.range hN, hJs⟩⟩

set_option maxRecDepth 100000 in
set_option maxHeartbeats 1000000 in
/-- .. at a slice without elements. -/
theorem chunk0_in (n l Bs Bn cap : Nat) (A : Option Addr) (J : List (Fin 0) → World → Prop) (W : World) (hBs : W.cell? ⟨Bs, 0, none⟩ = some (.slice A 0 cap)) (h0 : J [] W) :
    CallsIn Fence.wide n Try.prog 211 #[.func (.yield l) #[] #[], .pointer (some ⟨Bs, 0, none⟩), .pointer (some ⟨Bn, 0, none⟩)] W fun e W' => (∃ v, e = .returned v) ∧ J [] W' := by
  refine callsIn_of_wp Try.func211 rfl trivial ?_ rfl
  simp only [Try.ntmps211, List.size_toArray, List.length_cons, List.length_nil, Nat.reduceAdd, Nat.reduceSub, Array.replicate_succ, Array.replicate_zero, List.push_toArray, List.append_toArray, List.nil_append, List.cons_append]
  gi_wp2
  gi_loopw [4] (fun i wr => i = .int .i64 0 ∧ J [] wr ∧ wr = W) (fun _ _ => 0)
  case atStart => exact ⟨rfl, h0, rfl⟩
  case round =>
    obtain ⟨rfl, hJs, rfl⟩ := hrel
    gi_wp2
    go_end0
    exact ⟨⟨_, rfl⟩, hJs⟩

theorem abides_drewN {β : Type} {B : Nat} {J : β → World → Prop} (h : AbidesFrom B J) : ∀ s W m, J s W → J s (W.drewN m) :=
  fun s W m hs => h s W (W.drewN m) none hs ⟨rfl, rfl, rfl, Nat.le_refl _, fun _ _ _ => rfl⟩ (fun r e => by cases e)

/-- slices.Chunk's value keeps the contract of an iterator. -/
theorem chunk_stops (n Bs Bn : Nat) (A : Option Addr) (b off len cap N : Nat) (hn : 1 ≤ n) (hN : N = (len + 471) / 472) (hlen : len ≤ 100000000000000) (hcap : len ≤ cap) (hA : 0 < len → A = some ⟨b, off, none⟩) (w : World)
    (hB1 : Bs < w.heap.size) (hB2 : Bn < w.heap.size) (hBs : w.cell? ⟨Bs, 0, none⟩ = some (.slice A len cap)) (hBn : w.cell? ⟨Bn, 0, none⟩ = some (.int .i64 472)) :
    SeqStopsK Fence.wide n Try.prog 211 #[.pointer (some ⟨Bs, 0, none⟩), .pointer (some ⟨Bn, 0, none⟩)] (fun k : Fin N => #[chunkVal b off len k.1]) (Both Bs Bn) (fun ys => ys.map Fin.val = List.range N) (fun _ => True) N w :=
  fun l J Jx W hW hJ _ hY h0 => by
    have hc1 := (hW.cell (p := ⟨Bs, 0, none⟩) hB1).trans hBs
    have hc2 := (hW.cell (p := ⟨Bn, 0, none⟩) hB2).trans hBn
    rcases Nat.eq_zero_or_pos len with h | h
    · subst h
      obtain rfl : N = 0 := by omega
      exact (chunk0_in n l Bs Bn cap A J W hc1 h0).mono fun e W' ⟨he, hj⟩ => ⟨he, .inl ⟨[], rfl, hj⟩⟩
    · obtain rfl := hA h
      exact chunk1_in n l Bs Bn b off len cap N hn hN hlen hcap J Jx (abides_drewN hJ) hY W hc1 hc2 h0
end Go.Proofs.Ytcfgckpjgihcgaa
/- page.Cut: a range over the library's slices.Chunk, walked. -/
namespace Go.Proofs.Ytcfgckpjgihcgaa
open Go.RowKit Go.Shelf
attribute [local go_sem] Oper.semAt_some

theorem info22' : (Try.prog.info? 22).map (fun i => (i.zero, i.size)) = some (some (.slice none 0 0), 1) := by kernel_rfl

theorem own_acc {β α : Type} (r : Rep α) (e base : Nat) (Q : Nat → Prop) (B : Nat) (t : TypeId) (f : β → List α) : Own (fun s W => ∃ v, Boxed W B t v ∧ r.acc e base Q W v (f s)) := by
  rintro s X Y row ⟨v, hv, hr⟩ hg hrow
  have hk : ∀ b, IsC X b → row ≠ some b := by
    rintro b ⟨c, e', f', hb⟩ he
    obtain ⟨o, ho, hc⟩ := hrow b he
    rw [hb] at ho; cases ho; cases hc
  refine ⟨v, hv.kept hg (fun e' => hk B ⟨_, _, _, hv⟩ e'.symm), Rep.acc_keep (fun b _ hb => hg.block b hb.lt (fun e' => hk b hb e'.symm)) (fun _ hb _ => hb) hr⟩

set_option maxRecDepth 100000 in
set_option maxHeartbeats 2000000 in
/-- page.Cut -/
theorem cut_calls {Q : Nat → Prop} {w : World} {v : Value} {l : List UInt8} (hx : Rep.byte.list.val Q w v l) (hl : l.length ≤ 1000000) :
    Calls Try.prog 18 #[v] w (Res Rep.byte.list.list (fun b => w.heap.size ≤ b) w (cut l)) := by
  obtain ⟨A, c, rfl, hc1, hc2, hA⟩ := Rep.val_list hx
  obtain ⟨b, off, hAb⟩ : ∃ b off, 0 < l.length → A = some ⟨b, off, none⟩ := by
    rcases Nat.eq_zero_or_pos l.length with h | h
    · exact ⟨0, 0, fun h' => absurd h' (by omega)⟩
    · obtain ⟨b, off, h'⟩ := hA.addr h; exact ⟨b, off, fun _ => h'⟩
  obtain ⟨N, hN⟩ : ∃ N, N = (l.length + 471) / 472 := ⟨_, rfl⟩
  refine (callsIn_wide (n := 9)).1 ?_
  refine callsIn_of_wp_marks Try.func18 rfl trivial ?_ rfl
  simp only [Try.ntmps18, List.size_toArray, List.length_cons, List.length_nil, Nat.reduceAdd, Nat.reduceSub, Array.replicate_succ, Array.replicate_zero, List.push_toArray, List.append_toArray, List.nil_append, List.cons_append]
  have HB := Lib.hid hAb
  have HA := Lib.hid hA
  have HN := Lib.hid hN
  clear hAb hA hx hN
  gi_wp2_with (refine ⟨trivial, ?_⟩; gi_at_call 128; refine (chunk_in 8 _ _ _ _).mono ?_; rintro e w' ⟨rfl, rfl⟩)
  have bO := Boxed.new w 24 (.slice none 0 0)
  have bS := Boxed.new (w.alloc (.cells #[.slice none 0 0] 24)) 22 (.slice A l.length c)
  have bN := Boxed.new ((w.alloc (.cells #[.slice none 0 0] 24)).alloc (.cells #[.slice A l.length c] 22)) 3 (.int .i64 472)
  simp only [World.size_alloc] at bS bN
  obtain ⟨W0, hW0⟩ : ∃ W0, ((w.alloc (.cells #[.slice none 0 0] 24)).alloc (.cells #[.slice A l.length c] 22)).alloc (.cells #[.int .i64 472] 3) = W0 := ⟨_, rfl⟩
  have hsz : W0.heap.size = w.heap.size + 3 := by rw [← hW0]; simp
  have hB0 : Below w.heap.size w W0 := by rw [← hW0]; exact (((Below.refl _ w).alloc (Nat.le_refl _) _).alloc (by simp) _).alloc (by simp; omega) _
  replace bO : Boxed W0 w.heap.size 24 (.slice none 0 0) := by rw [← hW0]; exact (bO.alloc _).alloc _
  replace bS : Boxed W0 (w.heap.size + 1) 22 (.slice A l.length c) := by rw [← hW0]; exact bS.alloc _
  replace bN : Boxed W0 (w.heap.size + 2) 3 (.int .i64 472) := by rw [← hW0]; exact bN
  rw [hW0]
  clear hW0
  refine wpIn_rangeFunc_ownG rfl (by omega) (gf := 211) (lb := #[.pointer (some ⟨w.heap.size + 1, 0, none⟩), .pointer (some ⟨w.heap.size + 2, 0, none⟩)]) rfl trivial (enters_of Try.func211 (by kernel_rfl) rfl)
    (chunk_stops 8 (w.heap.size + 1) (w.heap.size + 2) A b off l.length c N (by omega) HN.out (by omega) hc1 HB.out W0 (by omega) (by omega) bS.cell bN.cell) both_t (both_b (by omega) (by omega)) (Below.refl _ _) (fun _ => rfl)
    (fun (pre : List (Fin N)) W => (∃ v, Boxed W w.heap.size 24 v ∧ Rep.byte.list.acc 22 (w.heap.size + 3) (fun b => w.heap.size + 3 ≤ b) W v (pre.map fun k => piece l k.1)) ∧ Below w.heap.size w W ∧ w.heap.size + 3 ≤ W.heap.size)
    (fun _ _ _ => False)
    (OwnFrom.and (Own.from (own_acc Rep.byte.list 22 (w.heap.size + 3) (fun b => w.heap.size + 3 ≤ b) w.heap.size 24 (fun pre : List (Fin N) => pre.map fun k => piece l k.1)) _) (OwnFrom.and (ownFrom_below (Nat.le_refl _) (by omega)) (fun _ _ _ _ hs hg _ => Nat.le_trans hs hg.size)))
    (fun _ _ _ _ _ hs _ _ => hs)
    ⟨⟨_, bO, Rep.acc_nil⟩, hB0, by omega⟩
    (fun x => { tmps := #[.slice A l.length c, undef, .slice none 0 0, .pointer (some ⟨w.heap.size, 0, none⟩), chunkVal b off l.length x.1, .slice A l.length c, .func (.func 211) #[] #[.pointer (some ⟨w.heap.size + 1, 0, none⟩), .pointer (some ⟨w.heap.size + 2, 0, none⟩)], chunkVal b off l.length x.1, undef, undef, undef, undef, undef, undef], defers := [] }) ?assign ?body ?done ?stop
  case assign =>
    intro l x W K hK
    gi_wp2
    exact hK
  case body =>
    rintro lr pre x W ⟨⟨v, hv, hacc⟩, hB, hsz3⟩ hlt
    have hx472 : 472 * x.1 < l.length := by have := x.2; have := HN.out; omega
    obtain rfl := HB.out (by omega)
    have hpl : (piece l x.1).length = min 472 (l.length - 472 * x.1) := by simp [piece]
    have hAW : ∀ W' : World, Below W.heap.size W W' → Rep.byte.list.val (fun b => b < w.heap.size) W' (chunkVal b off l.length x.1) (piece l x.1) := fun W' hW' => by
      have h1 : Rep.byte.At (fun b => b < w.heap.size) w (some ⟨b, off, none⟩) l := HA.out.keep (w := w) (fun b _ hb => ⟨hb.lt, rfl⟩)
      have h2 : Rep.byte.At (fun b => b < w.heap.size) W' (some ⟨b, off, none⟩) l := h1.below (hB.trans (hW'.mono hB.size)) (fun _ hb _ => hb)
      have h3 := (h2.drop (n := 472 * x.1) (by omega)).take 472
      simp only [Rep.byte, Nat.mul_one] at h3
      exact Rep.list_val hpl.symm (Nat.le_refl _) (by unfold maxLen; omega) h3
    have hml : (pre.map fun k => piece l k.1).length + 1 ≤ maxLen ∧ ((pre.map fun k => piece l k.1).length + 1) * 24 ≤ 140737488355328 := by
      rw [List.length_map]; have := HN.out; unfold maxLen; omega
    have hpb : (piece l x.1).length ≤ 100000000000000 := by omega
    clear hpl
    refine wpIn_block ?_
    refine region_round (by kernel_rfl) (noDefer_spec rfl) (by rintro ⟨_, _, h⟩; exact h) ?_
    refine wpAny_take (i := 1) (v := chunkVal b off l.length x.1) rfl (by kernel_rfl) (by kernel_rfl) (by kernel_rfl) (fun _ _ _ h => h) (Or.inl ⟨by rfl, fun _ => rfl⟩) ?_
    have hvW : ∀ W' : World, Below W.heap.size W W' → Boxed W' w.heap.size 24 v := fun W' hW' => (hW'.block _ (by omega)).trans hv
    have hbd : Below W.heap.size W W.drew := (Below.refl _ _).drew
    have hcall : ∀ W' : World, Below W.heap.size W W' → Calls Try.prog 129 #[chunkVal b off l.length x.1] W' (Res Rep.byte.list (fun b' => W'.heap.size ≤ b') W' (piece l x.1)) := fun W' hW' => bytesClone (hAW W' hW') hpb
    have hfresh : ∀ (W' : World), Below W.heap.size W W' → ∀ (W2 : World) (u : Value), Rep.byte.list.val (fun b' => W'.heap.size ≤ b') W2 u (piece l x.1) → Rep.byte.list.val (fun b' => w.heap.size + 3 ≤ b' ∧ v.ownBlock ≠ some b') W2 u (piece l x.1) := fun W' hW' W2 u hu =>
      Rep.val_mono (fun b' hb' _ => ⟨Nat.le_trans hsz3 (Nat.le_trans hW'.size hb'), fun he => by have := (Rep.acc_own hacc b' he).2; have := hW'.size; omega⟩) hu
    have hbuild : ∀ (W2 : World) (u : Value), Rep.byte.list.val (fun b' => w.heap.size + 3 ≤ b' ∧ v.ownBlock ≠ some b') W2 u (piece l x.1) → Below W.heap.size W W2 →
        Rep.byte.list.val (fun b' => w.heap.size + 3 ≤ b' ∧ v.ownBlock ≠ some b') (W2.alloc (.cells u.cells 22)) u (piece l x.1) ∧ Below W.heap.size W (W2.alloc (.cells u.cells 22)) ∧ (W2.alloc (.cells u.cells 22)).heap[W2.heap.size]? = some (.cells u.cells 22 (0, 0)) ∧ u.cells.size = 1 := fun W2 u hu hb2 =>
      ⟨Rep.val_keep (w := W2) (fun b' hb' hl => ⟨hb', Below.heap_alloc _ _ _ hl.lt⟩) hu, hb2.alloc hb2.size _, heap_alloc_new W2 _, by obtain ⟨A', c', rfl, _⟩ := Rep.val_list hu; rfl⟩
    refine any_step [0, 2] (by kernel_rfl) (by simp) ?_
    intro i hi
    rcases (by simpa using hi : i = 0 ∨ i = 2) with rfl | rfl
    · refine wpOp_step rfl (fun K hK => ?_)
      have hc := (hvW _ hbd).cell
      go_simp
      clear hc
      refine hK _ _ ?_
      clear hK K
      refine any_step [2] (by kernel_rfl) (by simp) ?_
      intro i hi
      obtain rfl : i = 2 := by simpa using hi
      refine wpOp_step rfl (fun K hK => ?_)
      go_simp
      refine (hcall _ hbd).mono ?_
      rintro e W2 ⟨u, rfl, hu, hb2⟩
      refine hK _ _ ?_
      clear hK K
      have hbW2 : Below W.heap.size W W2 := (hbd).trans (hb2.mono (hbd).size)
      have hu2 := hfresh _ hbd W2 u hu
      obtain ⟨Au, cu, rfl, _, _, _⟩ := Rep.val_list hu
      refine any_step [3] (by kernel_rfl) (by simp) ?_
      intro i hi
      obtain rfl : i = 3 := by simpa using hi
      refine wpOp_step rfl (fun K hK => ?_)
      refine step_run rfl (exec_buildSlice (vy := .slice Au (piece l x.1).length cu) rfl (.slice none 0 0) 1 Try.underlying24 info22' rfl rfl (by decide)) ?_
      go_simp
      refine hK _ _ ?_
      clear hK K
      obtain ⟨hu3, hbW3, hg3, _⟩ := hbuild W2 _ hu2 hbW2
      simp only [Value.cells] at hu3 hbW3 hg3
      obtain ⟨v', w1, q1, q2, q3, q4, q5, q6, q7, q8⟩ := box_collect (P := Try.prog) (ty := 24) Try.underlying24 info22 rfl (by decide) rfl hv (by omega) hsz3 (fun b' hb' => by omega) hacc hbW3 hu3 hg3 hml.1 hml.2
      have hform := Rep.acc_form q4
      refine any_step [4] (by kernel_rfl) (by simp) ?_
      intro i hi
      obtain rfl : i = 4 := by simpa using hi
      refine wpOp_step rfl (fun K hK => ?_)
      refine step_run rfl (exec_append (by rfl) (by rfl) (by rfl) q1) ?_
      go_simp
      refine hK _ _ ?_
      clear hK K
      refine any_step [5] (by kernel_rfl) (by simp) ?_
      intro i hi
      obtain rfl : i = 5 := by simpa using hi
      refine wpOp_step rfl (fun K hK => ?_)
      refine step_run_skip rfl (exec_store_box (by rfl) (by rfl) (by rfl) (by kernel_rfl) q2 (by obtain ⟨A', c', h, _⟩ := hform; exact ⟨_, _, _, h⟩)) ?_
      go_simp
      refine hK _ _ ?_
      clear hK K
      refine wpAny_done (by kernel_rfl) ?_ _
      exact ⟨q5.from _, ⟨q7 _ (by omega) (by omega), q7 _ (by omega) (by omega)⟩, ⟨v', q3, by rw [List.map_append]; exact q4⟩, hB.trans (q6.mono (by omega)), Nat.le_trans hsz3 q5.size⟩
    · refine wpOp_step rfl (fun K hK => ?_)
      go_simp
      refine (hcall _ hbd).mono ?_
      rintro e W2 ⟨u, rfl, hu, hb2⟩
      refine hK _ _ ?_
      clear hK K
      have hbW2 : Below W.heap.size W W2 := (hbd).trans (hb2.mono (hbd).size)
      have hu2 := hfresh _ hbd W2 u hu
      obtain ⟨Au, cu, rfl, _, _, _⟩ := Rep.val_list hu
      refine any_step [0, 3] (by kernel_rfl) (by simp) ?_
      intro i hi
      rcases (by simpa using hi : i = 0 ∨ i = 3) with rfl | rfl
      · refine wpOp_step rfl (fun K hK => ?_)
        have hc := (hvW _ hbW2).cell
        go_simp
        clear hc
        refine hK _ _ ?_
        clear hK K
        refine any_step [3] (by kernel_rfl) (by simp) ?_
        intro i hi
        obtain rfl : i = 3 := by simpa using hi
        refine wpOp_step rfl (fun K hK => ?_)
        refine step_run rfl (exec_buildSlice (vy := .slice Au (piece l x.1).length cu) rfl (.slice none 0 0) 1 Try.underlying24 info22' rfl rfl (by decide)) ?_
        go_simp
        refine hK _ _ ?_
        clear hK K
        obtain ⟨hu3, hbW3, hg3, _⟩ := hbuild W2 _ hu2 hbW2
        simp only [Value.cells] at hu3 hbW3 hg3
        obtain ⟨v', w1, q1, q2, q3, q4, q5, q6, q7, q8⟩ := box_collect (P := Try.prog) (ty := 24) Try.underlying24 info22 rfl (by decide) rfl hv (by omega) hsz3 (fun b' hb' => by omega) hacc hbW3 hu3 hg3 hml.1 hml.2
        have hform := Rep.acc_form q4
        refine any_step [4] (by kernel_rfl) (by simp) ?_
        intro i hi
        obtain rfl : i = 4 := by simpa using hi
        refine wpOp_step rfl (fun K hK => ?_)
        refine step_run rfl (exec_append (by rfl) (by rfl) (by rfl) q1) ?_
        go_simp
        refine hK _ _ ?_
        clear hK K
        refine any_step [5] (by kernel_rfl) (by simp) ?_
        intro i hi
        obtain rfl : i = 5 := by simpa using hi
        refine wpOp_step rfl (fun K hK => ?_)
        refine step_run_skip rfl (exec_store_box (by rfl) (by rfl) (by rfl) (by kernel_rfl) q2 (by obtain ⟨A', c', h, _⟩ := hform; exact ⟨_, _, _, h⟩)) ?_
        go_simp
        refine hK _ _ ?_
        clear hK K
        refine wpAny_done (by kernel_rfl) ?_ _
        exact ⟨q5.from _, ⟨q7 _ (by omega) (by omega), q7 _ (by omega) (by omega)⟩, ⟨v', q3, by rw [List.map_append]; exact q4⟩, hB.trans (q6.mono (by omega)), Nat.le_trans hsz3 q5.size⟩
      · refine wpOp_step rfl (fun K hK => ?_)
        refine step_run rfl (exec_buildSlice (vy := .slice Au (piece l x.1).length cu) rfl (.slice none 0 0) 1 Try.underlying24 info22' rfl rfl (by decide)) ?_
        go_simp
        refine hK _ _ ?_
        clear hK K
        obtain ⟨hu3, hbW3, hg3, _⟩ := hbuild W2 _ hu2 hbW2
        simp only [Value.cells] at hu3 hbW3 hg3
        refine any_step [0] (by kernel_rfl) (by simp) ?_
        intro i hi
        obtain rfl : i = 0 := by simpa using hi
        refine wpOp_step rfl (fun K hK => ?_)
        have hc := (hvW _ hbW3).cell
        go_simp
        clear hc
        refine hK _ _ ?_
        clear hK K
        obtain ⟨v', w1, q1, q2, q3, q4, q5, q6, q7, q8⟩ := box_collect (P := Try.prog) (ty := 24) Try.underlying24 info22 rfl (by decide) rfl hv (by omega) hsz3 (fun b' hb' => by omega) hacc hbW3 hu3 hg3 hml.1 hml.2
        have hform := Rep.acc_form q4
        refine any_step [4] (by kernel_rfl) (by simp) ?_
        intro i hi
        obtain rfl : i = 4 := by simpa using hi
        refine wpOp_step rfl (fun K hK => ?_)
        refine step_run rfl (exec_append (by rfl) (by rfl) (by rfl) q1) ?_
        go_simp
        refine hK _ _ ?_
        clear hK K
        refine any_step [5] (by kernel_rfl) (by simp) ?_
        intro i hi
        obtain rfl : i = 5 := by simpa using hi
        refine wpOp_step rfl (fun K hK => ?_)
        refine step_run_skip rfl (exec_store_box (by rfl) (by rfl) (by rfl) (by kernel_rfl) q2 (by obtain ⟨A', c', h, _⟩ := hform; exact ⟨_, _, _, h⟩)) ?_
        go_simp
        refine hK _ _ ?_
        clear hK K
        refine wpAny_done (by kernel_rfl) ?_ _
        exact ⟨q5.from _, ⟨q7 _ (by omega) (by omega), q7 _ (by omega) (by omega)⟩, ⟨v', q3, by rw [List.map_append]; exact q4⟩, hB.trans (q6.mono (by omega)), Nat.le_trans hsz3 q5.size⟩
  case done =>
    rintro D ys W hD hys ⟨⟨v, hv, hacc⟩, hB, hsz3⟩ hK
    have hc := hv.cell
    gi_wp2
    refine ⟨by simp, .inl ⟨_, _, rfl, run_takeDeferred hK, ?_⟩⟩
    have hcut : (ys.map fun k => piece l k.1) = cut l := by
      have h1 := congrArg (List.map (piece l)) hys
      rw [List.map_map] at h1
      rw [cut, pieces, ← HN.out, ← h1]
      rfl
    have hval : Rep.byte.list.list.val (fun b => w.heap.size ≤ b) (W.putObj D (.deferred none)) v (cut l) := by
      rw [← hcut]
      refine Rep.val_keep (w := W) (fun b' hb' hl => ⟨?_, World.putObj_heap_other ?_⟩) (Rep.acc_val hacc)
      · rcases hb' with hb' | hb'
        · omega
        · have := (Rep.acc_own hacc b' hb').1; omega
      · rintro rfl
        obtain ⟨_, _, _, hl⟩ := hl
        rw [hK] at hl; cases hl
    exact ⟨_, results_tmp rfl _ _ _, v, rfl, hval, hB.trans (belowK_b (w := w) (Nat.le_refl _) W D _ _ (by omega) hK rfl rfl)⟩
  case stop =>
    rintro D c pre W _ _ h _
    exact h.elim
end Go.Proofs.Ytcfgckpjgihcgaa
