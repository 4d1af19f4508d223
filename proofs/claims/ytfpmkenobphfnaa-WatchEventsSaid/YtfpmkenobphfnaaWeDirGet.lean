/- Walk of dir.Get. -/
import Derived.Test.YtfpmkenobphfnaaWeRDirGet
import Derived.Deep.RegionLaw
namespace Go.Proofs.Ytfpmkenobphfnaa
open Go.RowKit

theorem u64_wrap_wf (n : Int) : (Lit.int .u64 (IntKind.u64.wrap n)).wf = true := by
  rw [wrap_u64]; simp [Lit.wf, IntKind.min, IntKind.max, IntKind.signed, IntKind.bits]; omega
theorem RdrAt.grown {w w' : World} {p : Nat} {A : Option Addr} {c : Nat} {b : List UInt8} {at_ : Nat} {bad : Bool} {row : Option Nat} (h : RdrAt w p A c b at_ bad) (hg : w.grownBy w' row) (hr : ∀ x, row = some x → p < x) : RdrAt w' p A c b at_ bad :=
  ⟨(hg.block p h.lt (fun e => by have := hr p e.symm; omega)).trans h.blk, h.sl.keep fun x hx hl => ⟨hx, hg.block x hl.lt (fun e => by have := hr x e.symm; omega)⟩, h.le⟩

/-- In the midst of a round: since the world w0 only the reader's block and new ones have changed; the entry lies in block bx. -/
structure Mid (w0 : World) (p bx : Nat) (A : Option Addr) (c : Nat) (b : List UInt8) (w : World) (at_ : Nat) (bad : Bool) (cs : Array Value) : Prop where
  g : w0.grownBy w (some p)
  x : w.heap[bx]? = some (.cells cs 69 (0, 0))
  r : RdrAt w p A c b at_ bad
theorem Mid.num {w0 : World} {p bx : Nat} {A : Option Addr} {c : Nat} {b : List UInt8} {w : World} {at_ : Nat} {bad : Bool} {cs : Array Value} (h : Mid w0 p bx A c b w at_ bad cs) (hne : bx ≠ p) {r : Int × Nat × Bool} {w' : World}
    (h1 : RdrAt w' p A c b r.2.1 r.2.2) (h2 : w.grownBy w' (some p)) : Mid w0 p bx A c b w' r.2.1 r.2.2 cs :=
  ⟨h.g.trans h2, (h2.block bx (IsC.lt ⟨_, _, _, h.x⟩) (fun e => hne (Option.some.inj e))).trans h.x, h1⟩
theorem Mid.put {w0 : World} {p bx : Nat} {A : Option Addr} {c : Nat} {b : List UInt8} {w : World} {at_ : Nat} {bad : Bool} {cs : Array Value} (h : Mid w0 p bx A c b w at_ bad cs) (hne : bx ≠ p) (hbx : w0.heap.size ≤ bx) (hs : Rep.byte.Sl (fun x => x < p) w0 A c b) (i : Nat) (v : Value) : Mid w0 p bx A c b (w.setCell ⟨bx, i, none⟩ v) at_ bad (cs.setIfInBounds i v) :=
  ⟨⟨h.g.os, h.g.tape, h.g.output, by simpa using h.g.size, fun k hk hr => (Below.heap_setCell _ _ _ _ (show k ≠ bx by omega)).trans (h.g.block k hk hr)⟩, heap_setRow h.x,
   ⟨(Below.heap_setCell _ _ _ _ (show p ≠ bx from fun e => hne e.symm)).trans h.r.blk, hs.keep fun x hx hl => ⟨hx, (Below.heap_setCell _ _ _ _ (show x ≠ bx by have := hl.lt; omega)).trans (h.g.block x hl.lt (fun e => Nat.ne_of_lt hx (Option.some.inj e)))⟩, h.r.le⟩⟩
/-- An entry's parts, as0 so far read. -/
theorem Mid.grown {w0 : World} {p bx : Nat} {A : Option Addr} {c : Nat} {b : List UInt8} {w w' : World} {at_ : Nat} {bad : Bool} {cs : Array Value} {row : Option Nat} (h : Mid w0 p bx A c b w at_ bad cs) (hg : w.grownBy w' row) (hr : ∀ k, row = some k → bx < k) (hp : p < bx) (hbx : w0.heap.size ≤ bx) (hs : Rep.byte.Sl (fun x => x < p) w0 A c b) : Mid w0 p bx A c b w' at_ bad cs := by
  have hk : ∀ k, k ≤ bx → k < w.heap.size → w'.heap[k]? = w.heap[k]? := fun k h1 h2 => hg.block k h2 (fun e => by have := hr k e.symm; omega)
  have hxl : bx < w.heap.size := IsC.lt ⟨_, _, _, h.x⟩
  refine ⟨⟨hg.os.trans h.g.os, hg.tape.trans h.g.tape, hg.output.trans h.g.output, Nat.le_trans h.g.size hg.size, fun k hl hne => (hk k (by omega) (by have := h.g.size; omega)).trans (h.g.block k hl hne)⟩, (hk bx (Nat.le_refl _) hxl).trans h.x, ⟨(hk p (by omega) (by omega)).trans h.r.blk, hs.keep fun x hx hl => ⟨hx, (hk x (by have := hl.lt; omega) (by have := hl.lt; omega)).trans (h.g.block x hl.lt (fun e => Nat.ne_of_lt hx (Option.some.inj e)))⟩, h.r.le⟩⟩

/-- What is known of the reader and the entries at the head of a round. -/
def DirRel (b : List UInt8) (N : Nat) (l : List DEntry) (at_ : Nat) (bad : Bool) : Prop :=
  (bad = false → ¬ b.length < 2 ∧ N = natAt b 0 2 ∧ parseDir b l.length = some (l, at_)) ∧ (bad = true → dirGet b = ([], 12))
/-- .. and in the midst of an entry, behind its head. -/
def EntRel (b : List UInt8) (at0 : Nat) (C : Nat) (q : List Int) (at_ : Nat) (bad : Bool) : Prop :=
  (bad = false → at0 + 16 ≤ b.length ∧ C = countAt b at0 ∧ q = pagesAt b (at0 + 16) q.length ∧ at_ = at0 + 16 + 2 * q.length) ∧ (bad = true → parseEnt b at0 = none)

theorem rdNum_false (b : List UInt8) (a w : Nat) (h1 : 1 ≤ w) (h8 : w ≤ 8) : rdNum b a false (w : Int) = if a + w ≤ b.length then (i64of (natAt b a w), a + w, false) else (0, a, true) := by
  unfold rdNum
  rw [getNum_nat b a h1 h8, wide_small h1 h8]
  by_cases h : a + w ≤ b.length
  · rw [if_pos h, if_pos h]; rfl
  · rw [if_neg h, if_neg h]; rfl
theorem rdNum_wf (b : List UInt8) (a : Nat) (d : Bool) (w : Int) : (Lit.int .i64 (rdNum b a d w).1).wf = true := by
  unfold rdNum
  split
  · rfl
  · have := getNum_wf b a w
    split
    · rfl
    · rename_i h; rw [h] at this; exact this
theorem dirRel_start (b : List UInt8) : ∃ N : Nat, (rdNum b 0 false 2).1 = N ∧ N < 65536 ∧ DirRel b N [] (rdNum b 0 false 2).2.1 (rdNum b 0 false 2).2.2 := by
  have h : rdNum b 0 false 2 = _ := rdNum_false b 0 2 (by decide) (by decide)
  rw [h]
  by_cases hl : 0 + 2 ≤ b.length
  · rw [if_pos hl]
    exact ⟨natAt b 0 2, i64of_natAt b 0 2 (by decide), natAt_lt b 0 2, ⟨fun _ => ⟨by omega, rfl, rfl⟩, fun h => (by cases h)⟩⟩
  · rw [if_neg hl]
    exact ⟨0, rfl, by decide, ⟨fun h => (by cases h), fun _ => dirGet_short (by omega)⟩⟩
theorem entRel_start {b : List UInt8} {at_ : Nat} {r1 r2 r3 r4 r5 : Int × Nat × Bool} (e1 : r1 = rdNum b at_ false 1) (e2 : r2 = rdNum b r1.2.1 r1.2.2 8) (e3 : r3 = rdNum b r2.2.1 r2.2.2 1) (e4 : r4 = rdNum b r3.2.1 r3.2.2 4) (e5 : r5 = rdNum b r4.2.1 r4.2.2 2) :
    ∃ C : Nat, r5.1 = C ∧ C < 65536 ∧ EntRel b at_ C [] r5.2.1 r5.2.2 ∧ (r5.2.2 = false → (⟨r1.1, IntKind.u64.wrap r2.1, r3.1⟩ : DKey) = keyAt b at_ ∧ r4.1 = natAt b (at_ + 10) 4) := by
  rcases header e1 e2 e3 e4 e5 with ⟨h, h1, h2, h3, h4, h5⟩ | ⟨h, h5, hd⟩
  · refine ⟨countAt b at_, by rw [h5], natAt_lt b (at_ + 14) 2, ⟨fun _ => ⟨h, rfl, by simp [pagesAt], by rw [h5]; rfl⟩, fun hh => by rw [h5] at hh; cases hh⟩, fun _ => ⟨?_, h4⟩⟩
    rw [h1, h2, h3, u64_i64of _ (natAt8_lt b (at_ + 1))]; rfl
  · exact ⟨0, h5, by decide, ⟨fun hh => (by rw [hd] at hh; cases hh), fun _ => parseEnt_none (fun hh => h hh.1)⟩, fun hh => (by rw [hd] at hh; cases hh)⟩
theorem entRel_step {b : List UInt8} {at0 C a : Nat} {q : List Int} (h : EntRel b at0 C q a false) (hq : q.length < C) {r : Int × Nat × Bool} (e : r = rdNum b a false 2) : EntRel b at0 C (q ++ [r.1]) r.2.1 r.2.2 := by
  have hn : rdNum b a false 2 = _ := rdNum_false b a 2 (by decide) (by decide)
  obtain ⟨h16, hC, hq2, ha⟩ := h.1 rfl
  rw [hn] at e
  by_cases hl : a + 2 ≤ b.length
  · rw [if_pos hl] at e
    subst e
    refine ⟨fun _ => ⟨h16, hC, ?_, ?_⟩, fun hh => by cases hh⟩
    · rw [List.length_append, List.length_singleton, pagesAt_succ, ← hq2, ha, i64of_natAt b _ 2 (by decide)]
    · rw [List.length_append, List.length_singleton, ha]; show at0 + 16 + 2 * q.length + 2 = _; omega
  · rw [if_neg hl] at e
    subst e
    exact ⟨fun hh => (by cases hh), fun _ => parseEnt_none (fun hh => by have := hh.2; omega)⟩
theorem dirRel_step {b : List UInt8} {N at0 C a : Nat} {l : List DEntry} {q : List Int} {d : Bool} {k : DKey} {n : Int} (h : DirRel b N l at0 false) (hl : l.length < N) (he : EntRel b at0 C q a d) (hk : d = false → k = keyAt b at0 ∧ n = natAt b (at0 + 10) 4) (hq : d = false → q.length = C) (ha : a ≤ b.length) : DirRel b N (l ++ [⟨k, n, q⟩]) a d := by
  obtain ⟨h2, hN, hp⟩ := h.1 rfl
  cases d with
  | false =>
    obtain ⟨h16, hC, hq2, ha2⟩ := he.1 rfl
    obtain ⟨rfl, rfl⟩ := hk rfl
    have hqc := hq rfl
    rw [hqc] at hq2 ha2
    refine ⟨fun _ => ⟨h2, hN, ?_⟩, fun hh => by cases hh⟩
    rw [List.length_append, List.length_singleton, parse_step hp h16 (by omega), ← hC, ha2, hq2, hC]
    rfl
  | true => exact ⟨fun hh => (by cases hh), fun _ => dirGet_none h2 (by rw [← hN]; exact parse_fail hl hp (he.2 rfl))⟩

set_option maxRecDepth 100000 in
set_option maxHeartbeats 1000000 in
/-- dir.Get -/
theorem dget_calls {Q : Nat → Prop} {w : World} {v : Value} {b : List UInt8} (hx : Rep.byte.list.val Q w v b) (hb : b.length ≤ 1000000000) :
    Calls Try.prog 36 #[v] w (ResN rEntry.list (fun b => w.heap.size ≤ b) w (dirGet b).1 (dirGet b).2) := by
  have HX := Lib.hid hx
  obtain ⟨A0, c0, rfl, hc1, hc2, hA⟩ := Rep.val_list hx
  have G0 := Lib.hid (getNum_nat b 0 (w := 2) (by decide) (by decide))
  have HBL := Lib.hid hb
  clear hx hA hc1 hc2 hb
  go_enter Try.func36, Try.ntmps36
  go_wp2_with fail
  refine (read_calls HX.out HBL.out).mono ?_
  rintro e w1 ⟨p, A, c, rfl, hr, hp, hb1, hsl⟩
  have HR := Lib.hid hr
  have B1 := Lib.hid hb1
  have HP0 := Lib.hid hp
  clear hr hb1 hsl hp
  go_wp2_with fail
  refine (rdnum_calls (width := 2) HR.out HBL.out).mono ?_
  rintro e w2 ⟨rfl, hr2, hg2⟩
  have B2 := Lib.hid (show Below w.heap.size w w2 from B1.out.grown hg2 B1.out.size (fun k hk => by have := HP0.out; have := Option.some.inj hk; omega))
  have HR2 := Lib.hid hr2
  clear hr2 hg2
  obtain ⟨N, hN, hN1, hrel0⟩ := dirRel_start b
  generalize rdNum b 0 false 2 = r0 at *
  obtain ⟨n0, a0, d0⟩ := r0
  dsimp only at *
  subst hN
  have HD0 := Lib.hid hrel0
  clear hrel0
  go_wp2_with fail
  go_loopw [6, 7] (fun s n wr => ∃ (m : Nat) (l : List DEntry) (at_ : Nat) (bad : Bool), n = .int .i64 m ∧ m + l.length = N ∧ Hid (DirRel b N l at_ bad) ∧ RdrAt wr p A c b at_ bad ∧ rEntry.acc 69 (p + 1) (fun x => w.heap.size ≤ x ∧ x ≠ p) wr s l ∧ Below w.heap.size w wr)
    (fun _ n _ => (intOf n).toNat)
  case atStart => exact ⟨N, [], a0, d0, rfl, rfl, HD0.out, HR2.out, Rep.acc_nil, B2.out⟩
  case round =>
    obtain ⟨m, l, at_, bad, rfl, hml, hdr, hr, hv, hbel⟩ := hrel
    have HR := Lib.hid hr
    have HB := Lib.hid hbel
    have HV := Lib.hid hv
    obtain ⟨A2, c2, rfl, _, _⟩ := Rep.acc_form hv
    have HML := Lib.hid hml
    clear hr hbel hv
    by_cases hm : 0 < m
    · cases bad with
      | true =>
        have F := Lib.hid (hdr.out.2 rfl)
        have hm1 : (0 : Int) < m := by omega
        clear hdr hml
        go_wp2_with (go_at_call 109; refine (ok_calls HR.out).mono ?_; rintro e w' ⟨rfl, rfl⟩)
        go_ret2
        rw [F.out]
        exact ⟨_, rfl, Rep.val_nil (by simp [maxLen]), HB.out⟩
      | false =>
        have hm1 : (0 : Int) < m := by omega
        have hm2 : (m : Int) ≤ 65535 := by omega
        have DR := Lib.hid hdr.out
        have HM := Lib.hid hm
        clear hdr hml hm
        obtain ⟨bx, hbx⟩ : ∃ bx, bx = wr.heap.size := ⟨_, rfl⟩
        have HBX := Lib.hid hbx
        have HNE := Lib.hid (show bx ≠ p by have := HR.out.lt; omega)
        have HPX := Lib.hid (show p < bx by have := HR.out.lt; omega)
        have HS0 := Lib.hid HR.out.sl
        obtain ⟨⟨n1, a1, d1⟩, e1⟩ : ∃ r, r = rdNum b at_ false 1 := ⟨_, rfl⟩
        have E1 := Lib.hid e1
        have NW1 := Lib.hid (show (Lit.int .i64 n1).wf = true by have := rdNum_wf b at_ false 1; rw [← e1] at this; exact this)
        obtain ⟨⟨n2, a2, d2⟩, e2⟩ : ∃ r, r = rdNum b a1 d1 8 := ⟨_, rfl⟩
        have E2 := Lib.hid e2
        have NW2 := Lib.hid (show (Lit.int .i64 n2).wf = true by have := rdNum_wf b a1 d1 8; rw [← e2] at this; exact this)
        obtain ⟨⟨n3, a3, d3⟩, e3⟩ : ∃ r, r = rdNum b a2 d2 1 := ⟨_, rfl⟩
        have E3 := Lib.hid e3
        have NW3 := Lib.hid (show (Lit.int .i64 n3).wf = true by have := rdNum_wf b a2 d2 1; rw [← e3] at this; exact this)
        obtain ⟨⟨n4, a4, d4⟩, e4⟩ : ∃ r, r = rdNum b a3 d3 4 := ⟨_, rfl⟩
        have E4 := Lib.hid e4
        have NW4 := Lib.hid (show (Lit.int .i64 n4).wf = true by have := rdNum_wf b a3 d3 4; rw [← e4] at this; exact this)
        obtain ⟨⟨n5, a5, d5⟩, e5⟩ : ∃ r, r = rdNum b a4 d4 2 := ⟨_, rfl⟩
        have E5 := Lib.hid e5
        have NW5 := Lib.hid (show (Lit.int .i64 n5).wf = true by have := rdNum_wf b a4 d4 2; rw [← e5] at this; exact this)
        have ER := Lib.hid (entRel_start e1 e2 e3 e4 e5)
        clear e1 e2 e3 e4 e5 hbx
        go_wp2_with (go_at_call 109; refine (ok_calls HR.out).mono ?_; rintro e w' ⟨rfl, rfl⟩)
        obtain ⟨W0, hW0⟩ : ∃ W0, w'.alloc (.cells #[.int .i64 0, .int .u64 0, .int .i64 0, .int .i64 0, .slice none 0 0] 69) = W0 := ⟨_, rfl⟩
        have M0 := Lib.hid (show Mid w' p bx A c b W0 at_ false #[.int .i64 0, .int .u64 0, .int .i64 0, .int .i64 0, .slice none 0 0] by
          rw [← hW0, HBX.out]
          exact ⟨World.grownBy_alloc _ _ _, heap_alloc_new _ _, HR.out.keep fun x hl => Below.heap_alloc _ _ _ hl.lt⟩)
        rw [hW0, ← HBX.out]
        clear hW0
        refine (rdnum_calls (width := 1) M0.out.r HBL.out).mono ?_
        rintro e v1 ⟨rfl, h1, h2⟩
        rw [← E1.out] at h1 ⊢
        dsimp only at h1 ⊢
        have K1 := Lib.hid (show Mid w' p bx A c b v1 a1 d1 #[.int .i64 0, .int .u64 0, .int .i64 0, .int .i64 0, .slice none 0 0] from M0.out.num (r := (n1, a1, d1)) HNE.out h1 h2)
        clear h1 h2
        have cx := cell_row K1.out.x 0
        have zx := frozen_row K1.out.x 0
        go_wp2_with fail
        clear cx zx
        have M1 := Lib.hid (show Mid w' p bx A c b (v1.setCell ⟨bx, 0, none⟩ (.int .i64 n1)) a1 d1 #[.int .i64 n1, .int .u64 0, .int .i64 0, .int .i64 0, .slice none 0 0] from K1.out.put HNE.out (Nat.le_of_eq HBX.out.symm) HS0.out 0 _)
        generalize v1.setCell ⟨bx, 0, none⟩ (.int .i64 n1) = V1 at *
        refine (rdnum_calls (width := 8) M1.out.r HBL.out).mono ?_
        rintro e v2 ⟨rfl, h1, h2⟩
        rw [← E2.out] at h1 ⊢
        dsimp only at h1 ⊢
        have K2 := Lib.hid (show Mid w' p bx A c b v2 a2 d2 #[.int .i64 n1, .int .u64 0, .int .i64 0, .int .i64 0, .slice none 0 0] from M1.out.num (r := (n2, a2, d2)) HNE.out h1 h2)
        clear h1 h2
        have cx := cell_row K2.out.x 1
        have zx := frozen_row K2.out.x 1
        go_wp2_with fail
        clear cx zx
        have M2 := Lib.hid (show Mid w' p bx A c b (v2.setCell ⟨bx, 1, none⟩ (.int .u64 (IntKind.u64.wrap n2))) a2 d2 #[.int .i64 n1, .int .u64 (IntKind.u64.wrap n2), .int .i64 0, .int .i64 0, .slice none 0 0] from K2.out.put HNE.out (Nat.le_of_eq HBX.out.symm) HS0.out 1 _)
        generalize v2.setCell ⟨bx, 1, none⟩ (.int .u64 (IntKind.u64.wrap n2)) = V2 at *
        refine (rdnum_calls (width := 1) M2.out.r HBL.out).mono ?_
        rintro e v3 ⟨rfl, h1, h2⟩
        rw [← E3.out] at h1 ⊢
        dsimp only at h1 ⊢
        have K3 := Lib.hid (show Mid w' p bx A c b v3 a3 d3 #[.int .i64 n1, .int .u64 (IntKind.u64.wrap n2), .int .i64 0, .int .i64 0, .slice none 0 0] from M2.out.num (r := (n3, a3, d3)) HNE.out h1 h2)
        clear h1 h2
        have cx := cell_row K3.out.x 2
        have zx := frozen_row K3.out.x 2
        go_wp2_with fail
        clear cx zx
        have M3 := Lib.hid (show Mid w' p bx A c b (v3.setCell ⟨bx, 2, none⟩ (.int .i64 n3)) a3 d3 #[.int .i64 n1, .int .u64 (IntKind.u64.wrap n2), .int .i64 n3, .int .i64 0, .slice none 0 0] from K3.out.put HNE.out (Nat.le_of_eq HBX.out.symm) HS0.out 2 _)
        generalize v3.setCell ⟨bx, 2, none⟩ (.int .i64 n3) = V3 at *
        refine (rdnum_calls (width := 4) M3.out.r HBL.out).mono ?_
        rintro e v4 ⟨rfl, h1, h2⟩
        rw [← E4.out] at h1 ⊢
        dsimp only at h1 ⊢
        have K4 := Lib.hid (show Mid w' p bx A c b v4 a4 d4 #[.int .i64 n1, .int .u64 (IntKind.u64.wrap n2), .int .i64 n3, .int .i64 0, .slice none 0 0] from M3.out.num (r := (n4, a4, d4)) HNE.out h1 h2)
        clear h1 h2
        have cx := cell_row K4.out.x 3
        have zx := frozen_row K4.out.x 3
        go_wp2_with fail
        clear cx zx
        have M4 := Lib.hid (show Mid w' p bx A c b (v4.setCell ⟨bx, 3, none⟩ (.int .i64 n4)) a4 d4 #[.int .i64 n1, .int .u64 (IntKind.u64.wrap n2), .int .i64 n3, .int .i64 n4, .slice none 0 0] from K4.out.put HNE.out (Nat.le_of_eq HBX.out.symm) HS0.out 3 _)
        generalize v4.setCell ⟨bx, 3, none⟩ (.int .i64 n4) = V4 at *
        refine (rdnum_calls (width := 2) M4.out.r HBL.out).mono ?_
        rintro e v5 ⟨rfl, h1, h2⟩
        rw [← E5.out] at h1 ⊢
        dsimp only at h1 ⊢
        have K5 := Lib.hid (show Mid w' p bx A c b v5 a5 d5 #[.int .i64 n1, .int .u64 (IntKind.u64.wrap n2), .int .i64 n3, .int .i64 n4, .slice none 0 0] from M4.out.num (r := (n5, a5, d5)) HNE.out h1 h2)
        clear h1 h2
        obtain ⟨C, hC, hC1, her, hkv⟩ := ER.out
        (try dsimp only at hC); (try dsimp only at her); (try dsimp only at hkv)
        subst hC
        have HER := Lib.hid her
        have HKV := Lib.hid hkv
        clear her hkv
        go_wp2_with fail
        go_loopw [9] (fun kv wr => ∃ (k : Nat) (q : List Int) (a : Nat) (d : Bool) (u : Value), kv = .int .i64 k ∧ k + q.length = C ∧ Hid (EntRel b at_ C q a d) ∧ Hid (d = false → (⟨n1, IntKind.u64.wrap n2, n3⟩ : DKey) = keyAt b at_ ∧ n4 = natAt b (at_ + 10) 4) ∧ Mid w' p bx A c b wr a d #[.int .i64 n1, .int .u64 (IntKind.u64.wrap n2), .int .i64 n3, .int .i64 n4, u] ∧ (Rep.int .i64).acc 3 (bx + 1) (fun _ => False) wr u q)
          (fun kv _ => (intOf kv).toNat)
        case atStart => exact ⟨C, [], a5, d5, .slice none 0 0, rfl, rfl, HER.out, HKV.out, K5.out, Rep.acc_nil⟩
        case round =>
          obtain ⟨k, q, a, d, u, rfl, hkq, her6, hkv6, hmid, hacc⟩ := hrel
          have HM6 := Lib.hid hmid
          have HA6 := Lib.hid hacc
          have HKQ := Lib.hid hkq
          obtain ⟨A6, c6, rfl, _, _⟩ := Rep.acc_form hacc
          clear hmid hacc hkq
          have hk6 : (k : Int) ≤ 65535 := by have := HKQ.out; omega
          by_cases hk : 0 < k
          · have hk1 : (0 : Int) < k := by omega
            cases d with
            | true =>
              have e0 := cell_row HM6.out.x 0
              have e1 := cell_row HM6.out.x 1
              have e2 := cell_row HM6.out.x 2
              have e3 := cell_row HM6.out.x 3
              have e4 := cell_row HM6.out.x 4
              have HVx := Lib.hid (show rEntry.acc 69 (p + 1) (fun x => w.heap.size ≤ x ∧ x ≠ p) wr (.slice A2 l.length c2) l from Rep.acc_keep (fun x hx hl => HM6.out.g.block x hl.lt (fun e => by rcases hx with hx | hx; exact hx.2 (Option.some.inj e); have := (Rep.acc_own HV.out x hx).1; have := Option.some.inj e; omega)) (fun _ h _ => h) HV.out)
              have HY := Lib.hid (show rEntry.val (fun x => (w.heap.size ≤ x ∧ x ≠ p) ∧ (Value.slice A2 l.length c2).ownBlock ≠ some x) wr (.agg #[.int .i64 n1, .int .u64 (IntKind.u64.wrap n2), .int .i64 n3, .int .i64 n4, .slice A6 q.length c6]) ⟨⟨n1, IntKind.u64.wrap n2, n3⟩, n4, q⟩ by
                obtain ⟨A8, c8, he, h8⟩ := Rep.val_sl (Rep.acc_fresh HA6.out)
                cases he
                refine rEntry_agg (x := ⟨⟨n1, IntKind.u64.wrap n2, n3⟩, n4, q⟩) NW1.out (u64_wrap_wf n2) NW3.out NW4.out (h8.keep fun x hx _ => ⟨⟨⟨?_, ?_⟩, fun e => ?_⟩, rfl⟩)
                · have := HB.out.size; have := HBX.out; omega
                · have := HPX.out; omega
                · have := (Rep.acc_own HV.out x e).2; have := HBX.out; omega)
              have L2 := Lib.hid (show l.length + 1 ≤ maxLen ∧ (l.length + 1) * 56 ≤ 140737488355328 by have := HML.out; unfold maxLen; omega)
              have HZ := Lib.hid (show p + 1 ≤ wr.heap.size by have := HM6.out.g.size; have := HPX.out; have := HBX.out; omega)
              have DR2 := Lib.hid (show DirRel b N (l ++ [⟨⟨n1, IntKind.u64.wrap n2, n3⟩, n4, q⟩]) a true from dirRel_step DR.out (by have := HML.out; have := HM.out; omega) her6.out hkv6.out (fun h => by cases h) HM6.out.r.le)
              obtain ⟨m', hm'⟩ : ∃ m', m = m' + 1 := ⟨m - 1, by have := HM.out; omega⟩
              have HMM := Lib.hid hm'
              have HB6 := Lib.hid (HB.out.grown HM6.out.g HB.out.size (fun x hx => by have := Option.some.inj hx; have := HP0.out; omega))
              clear hm' her6 hkv6
              go_wp2_with (first | (go_at_call 109; refine (ok_calls HM6.out.r).mono ?_; rintro e w6 ⟨rfl, rfl⟩) | (refine wpList_snoc (e := 69) (base := p + 1) (Q := fun x => w.heap.size ≤ x ∧ x ≠ p) (r := rEntry) rfl rfl _ _ 59 _ rfl rfl rfl (.agg #[.int .i64 0, .int .u64 0, .int .i64 0, .int .i64 0, .slice none 0 0]) 5 56 Try.underlying59 infoEntry rfl (by decide) rfl _ l HVx.out ⟨⟨n1, IntKind.u64.wrap n2, n3⟩, n4, q⟩ _ (by exact rfl) HY.out (by exact rfl) (by exact rfl) L2.out.1 L2.out.2 HZ.out ?_; intro s8 w8 hacc8 hgr8 hat8))
              have HML' := HML.out
              rw [HMM.out] at HML'
              exact ⟨⟨m', l ++ [⟨⟨n1, IntKind.u64.wrap n2, n3⟩, n4, q⟩], a, true, by rw [HMM.out]; congr 1; omega, by rw [List.length_append, List.length_singleton]; omega, DR2, RdrAt.grown HM6.out.r hgr8 (fun x hx => by have := (Rep.acc_own HVx.out x hx).1; omega), hacc8, HB6.out.grown hgr8 HB6.out.size (fun x hx => by have := (Rep.acc_own HVx.out x hx).1; have := HP0.out; omega)⟩, by simp only [intOf]; rw [HMM.out]; omega⟩
            | false =>
              obtain ⟨⟨n6, a6, d6⟩, e6⟩ : ∃ r, r = rdNum b a false 2 := ⟨_, rfl⟩
              have NW6 := Lib.hid (show (Lit.int .i64 n6).wf = true by have := rdNum_wf b a false 2; rw [← e6] at this; exact this)
              have ES := Lib.hid (entRel_step her6.out (by have := HKQ.out; omega) e6)
              have KD := Lib.hid (show d6 = false → (⟨n1, IntKind.u64.wrap n2, n3⟩ : DKey) = keyAt b at_ ∧ n4 = natAt b (at_ + 10) 4 from fun _ => hkv6.out rfl)
              have E6 := Lib.hid e6
              have L := Lib.hid (show q.length + 1 ≤ maxLen ∧ (q.length + 1) * 8 ≤ 140737488355328 by have := HKQ.out; unfold maxLen; omega)
              obtain ⟨q7, hq7⟩ : ∃ z, z = q ++ [n6] := ⟨_, rfl⟩
              have QE := Lib.hid hq7
              clear e6 her6 hkv6 hq7
              go_wp2_with (go_at_call 109; refine (ok_calls HM6.out.r).mono ?_; rintro e w6 ⟨rfl, rfl⟩)
              have cx := cell_row HM6.out.x 4
              have HMd := Lib.hid (show Mid w' p bx A c b w6.drew a false #[.int .i64 n1, .int .u64 (IntKind.u64.wrap n2), .int .i64 n3, .int .i64 n4, .slice A6 q.length c6] from ⟨HM6.out.g.trans (grownBy_drewN w6 1 _), HM6.out.x, HM6.out.r.drewN 1⟩)
              have HAd := Lib.hid (show (Rep.int .i64).acc 3 (bx + 1) (fun _ => False) w6.drew (.slice A6 q.length c6) q from Rep.acc_keep (w := w6) (w' := w6.drew) (fun _ _ _ => rfl) (fun _ h _ => h) HA6.out)
              have HOWN := Lib.hid (show ∀ x, (Value.slice A6 q.length c6).ownBlock = some x → bx + 1 ≤ x from fun x hx => (Rep.acc_own HA6.out x hx).1)
              have HGO := Lib.hid (show ∀ w7, w6.drew.grownBy w7 (some p) → (Rep.int .i64).acc 3 (bx + 1) (fun _ => False) w7 (.slice A6 q.length c6) q from fun w7 hg => Rep.acc_keep (fun x hx hl => hg.block x hl.lt (fun e => by rcases hx with hx | hx; exact hx.elim; have := HOWN.out x hx; have := HPX.out; have := Option.some.inj e; omega)) (fun _ h _ => h) HAd.out)
              go_region_law (first
                | (go_simp; go_at_call 108; refine (rdnum_calls (width := 2) HMd.out.r HBL.out).mono ?_; rintro e v6 ⟨rfl, h1, h2⟩; rw [← E6.out] at h1 ⊢; (try dsimp only at h1); (try dsimp only); have K6 := Lib.hid (show Mid w' p bx A c b v6 a6 d6 #[.int .i64 n1, .int .u64 (IntKind.u64.wrap n2), .int .i64 n3, .int .i64 n4, .slice A6 q.length c6] from HMd.out.num (r := (n6, a6, d6)) HNE.out h1 h2); have HA7 := Lib.hid (HGO.out v6 h2); have HZ7 := Lib.hid (show bx + 1 ≤ v6.heap.size from IsC.lt ⟨_, _, _, K6.out.x⟩); clear h1 h2; have cx6 := cell_row K6.out.x 4; have cy6 := (fun o => (World.cell?_of_block (w := v6) (w' := v6.alloc o) (a := ⟨bx, 4, none⟩) (Below.heap_alloc v6 o bx HZ7.out)).trans cx6))
                | (refine step_snoc (e := 3) (base := bx + 1) (Q := fun _ => False) (r := Rep.int .i64) rfl _ _ 54 rfl (.int .i64 0) 1 8 Try.underlying54 info3 rfl (by decide) rfl _ q (by rfl) HA7.out n6 _ ⟨_, rfl, rfl, NW6.out⟩ (by rfl) L.out.1 L.out.2 HZ7.out ?_; intro s7 w7 hacc7 hgr7; rw [← QE.out] at hacc7; have HA8 := Lib.hid hacc7; obtain ⟨A7, c7, rfl, _, _⟩ := Rep.acc_form hacc7; have K7 := Lib.hid (K6.out.grown hgr7 (fun x hx => by have := HOWN.out x hx; omega) HPX.out (Nat.le_of_eq HBX.out.symm) HS0.out); clear hacc7 hgr7; have cx7 := cell_row K7.out.x 4; have cz7 := frozen_row K7.out.x 4))
              all_goals
                go_wp2_with fail
                have hown8 := Rep.acc_own HA8.out
                exact ⟨⟨k - 1, q7, a6, d6, _, by congr 1; omega, by have := HKQ.out; rw [QE.out, List.length_append, List.length_singleton]; omega, Lib.hid (by rw [QE.out]; exact ES.out), KD, K7.out.put HNE.out (Nat.le_of_eq HBX.out.symm) HS0.out 4 _, Rep.acc_keep (fun x hx _ => Below.heap_setCell _ _ _ _ (by rcases hx with hx | hx; exact hx.elim; have := (hown8 x hx).1; show x ≠ bx; omega)) (fun _ h _ => h) HA8.out⟩, by simp only [intOf]; omega⟩
          · obtain rfl : k = 0 := by omega
            cases d with
            | true =>
              have e0 := cell_row HM6.out.x 0
              have e1 := cell_row HM6.out.x 1
              have e2 := cell_row HM6.out.x 2
              have e3 := cell_row HM6.out.x 3
              have e4 := cell_row HM6.out.x 4
              have HVx := Lib.hid (show rEntry.acc 69 (p + 1) (fun x => w.heap.size ≤ x ∧ x ≠ p) wr (.slice A2 l.length c2) l from Rep.acc_keep (fun x hx hl => HM6.out.g.block x hl.lt (fun e => by rcases hx with hx | hx; exact hx.2 (Option.some.inj e); have := (Rep.acc_own HV.out x hx).1; have := Option.some.inj e; omega)) (fun _ h _ => h) HV.out)
              have HY := Lib.hid (show rEntry.val (fun x => (w.heap.size ≤ x ∧ x ≠ p) ∧ (Value.slice A2 l.length c2).ownBlock ≠ some x) wr (.agg #[.int .i64 n1, .int .u64 (IntKind.u64.wrap n2), .int .i64 n3, .int .i64 n4, .slice A6 q.length c6]) ⟨⟨n1, IntKind.u64.wrap n2, n3⟩, n4, q⟩ by
                obtain ⟨A8, c8, he, h8⟩ := Rep.val_sl (Rep.acc_fresh HA6.out)
                cases he
                refine rEntry_agg (x := ⟨⟨n1, IntKind.u64.wrap n2, n3⟩, n4, q⟩) NW1.out (u64_wrap_wf n2) NW3.out NW4.out (h8.keep fun x hx _ => ⟨⟨⟨?_, ?_⟩, fun e => ?_⟩, rfl⟩)
                · have := HB.out.size; have := HBX.out; omega
                · have := HPX.out; omega
                · have := (Rep.acc_own HV.out x e).2; have := HBX.out; omega)
              have L2 := Lib.hid (show l.length + 1 ≤ maxLen ∧ (l.length + 1) * 56 ≤ 140737488355328 by have := HML.out; unfold maxLen; omega)
              have HZ := Lib.hid (show p + 1 ≤ wr.heap.size by have := HM6.out.g.size; have := HPX.out; have := HBX.out; omega)
              have DR2 := Lib.hid (show DirRel b N (l ++ [⟨⟨n1, IntKind.u64.wrap n2, n3⟩, n4, q⟩]) a true from dirRel_step DR.out (by have := HML.out; have := HM.out; omega) her6.out hkv6.out (fun h => by cases h) HM6.out.r.le)
              obtain ⟨m', hm'⟩ : ∃ m', m = m' + 1 := ⟨m - 1, by have := HM.out; omega⟩
              have HMM := Lib.hid hm'
              have HB6 := Lib.hid (HB.out.grown HM6.out.g HB.out.size (fun x hx => by have := Option.some.inj hx; have := HP0.out; omega))
              clear hm' her6 hkv6
              go_wp2_with (first | (go_at_call 109; refine (ok_calls HM6.out.r).mono ?_; rintro e w6 ⟨rfl, rfl⟩) | (refine wpList_snoc (e := 69) (base := p + 1) (Q := fun x => w.heap.size ≤ x ∧ x ≠ p) (r := rEntry) rfl rfl _ _ 59 _ rfl rfl rfl (.agg #[.int .i64 0, .int .u64 0, .int .i64 0, .int .i64 0, .slice none 0 0]) 5 56 Try.underlying59 infoEntry rfl (by decide) rfl _ l HVx.out ⟨⟨n1, IntKind.u64.wrap n2, n3⟩, n4, q⟩ _ (by exact rfl) HY.out (by exact rfl) (by exact rfl) L2.out.1 L2.out.2 HZ.out ?_; intro s8 w8 hacc8 hgr8 hat8))
              have HML' := HML.out
              rw [HMM.out] at HML'
              exact ⟨⟨m', l ++ [⟨⟨n1, IntKind.u64.wrap n2, n3⟩, n4, q⟩], a, true, by rw [HMM.out]; congr 1; omega, by rw [List.length_append, List.length_singleton]; omega, DR2, RdrAt.grown HM6.out.r hgr8 (fun x hx => by have := (Rep.acc_own HVx.out x hx).1; omega), hacc8, HB6.out.grown hgr8 HB6.out.size (fun x hx => by have := (Rep.acc_own HVx.out x hx).1; have := HP0.out; omega)⟩, by simp only [intOf]; rw [HMM.out]; omega⟩
            | false =>
              have e0 := cell_row HM6.out.x 0
              have e1 := cell_row HM6.out.x 1
              have e2 := cell_row HM6.out.x 2
              have e3 := cell_row HM6.out.x 3
              have e4 := cell_row HM6.out.x 4
              have HVx := Lib.hid (show rEntry.acc 69 (p + 1) (fun x => w.heap.size ≤ x ∧ x ≠ p) wr (.slice A2 l.length c2) l from Rep.acc_keep (fun x hx hl => HM6.out.g.block x hl.lt (fun e => by rcases hx with hx | hx; exact hx.2 (Option.some.inj e); have := (Rep.acc_own HV.out x hx).1; have := Option.some.inj e; omega)) (fun _ h _ => h) HV.out)
              have HY := Lib.hid (show rEntry.val (fun x => (w.heap.size ≤ x ∧ x ≠ p) ∧ (Value.slice A2 l.length c2).ownBlock ≠ some x) wr (.agg #[.int .i64 n1, .int .u64 (IntKind.u64.wrap n2), .int .i64 n3, .int .i64 n4, .slice A6 q.length c6]) ⟨⟨n1, IntKind.u64.wrap n2, n3⟩, n4, q⟩ by
                obtain ⟨A8, c8, he, h8⟩ := Rep.val_sl (Rep.acc_fresh HA6.out)
                cases he
                refine rEntry_agg (x := ⟨⟨n1, IntKind.u64.wrap n2, n3⟩, n4, q⟩) NW1.out (u64_wrap_wf n2) NW3.out NW4.out (h8.keep fun x hx _ => ⟨⟨⟨?_, ?_⟩, fun e => ?_⟩, rfl⟩)
                · have := HB.out.size; have := HBX.out; omega
                · have := HPX.out; omega
                · have := (Rep.acc_own HV.out x e).2; have := HBX.out; omega)
              have L2 := Lib.hid (show l.length + 1 ≤ maxLen ∧ (l.length + 1) * 56 ≤ 140737488355328 by have := HML.out; unfold maxLen; omega)
              have HZ := Lib.hid (show p + 1 ≤ wr.heap.size by have := HM6.out.g.size; have := HPX.out; have := HBX.out; omega)
              have DR2 := Lib.hid (show DirRel b N (l ++ [⟨⟨n1, IntKind.u64.wrap n2, n3⟩, n4, q⟩]) a false from dirRel_step DR.out (by have := HML.out; have := HM.out; omega) her6.out hkv6.out (fun _ => by have := HKQ.out; omega) HM6.out.r.le)
              obtain ⟨m', hm'⟩ : ∃ m', m = m' + 1 := ⟨m - 1, by have := HM.out; omega⟩
              have HMM := Lib.hid hm'
              have HB6 := Lib.hid (HB.out.grown HM6.out.g HB.out.size (fun x hx => by have := Option.some.inj hx; have := HP0.out; omega))
              clear hm' her6 hkv6
              go_wp2_with (first | (go_at_call 109; refine (ok_calls HM6.out.r).mono ?_; rintro e w6 ⟨rfl, rfl⟩) | (refine wpList_snoc (e := 69) (base := p + 1) (Q := fun x => w.heap.size ≤ x ∧ x ≠ p) (r := rEntry) rfl rfl _ _ 59 _ rfl rfl rfl (.agg #[.int .i64 0, .int .u64 0, .int .i64 0, .int .i64 0, .slice none 0 0]) 5 56 Try.underlying59 infoEntry rfl (by decide) rfl _ l HVx.out ⟨⟨n1, IntKind.u64.wrap n2, n3⟩, n4, q⟩ _ (by exact rfl) HY.out (by exact rfl) (by exact rfl) L2.out.1 L2.out.2 HZ.out ?_; intro s8 w8 hacc8 hgr8 hat8))
              have HML' := HML.out
              rw [HMM.out] at HML'
              exact ⟨⟨m', l ++ [⟨⟨n1, IntKind.u64.wrap n2, n3⟩, n4, q⟩], a, false, by rw [HMM.out]; congr 1; omega, by rw [List.length_append, List.length_singleton]; omega, DR2, RdrAt.grown HM6.out.r hgr8 (fun x hx => by have := (Rep.acc_own HVx.out x hx).1; omega), hacc8, HB6.out.grown hgr8 HB6.out.size (fun x hx => by have := (Rep.acc_own HVx.out x hx).1; have := HP0.out; omega)⟩, by simp only [intOf]; rw [HMM.out]; omega⟩
    · obtain rfl : m = 0 := by omega
      cases bad with
      | true =>
        have F := Lib.hid (hdr.out.2 rfl)
        clear hdr hml hm
        go_wp2_with (go_at_call 109; refine (ok_calls HR.out).mono ?_; rintro e w' ⟨rfl, rfl⟩)
        go_ret2
        rw [F.out]
        exact ⟨_, rfl, Rep.val_nil (by simp [maxLen]), HB.out⟩
      | false =>
        obtain ⟨hl2, hN, hp⟩ := hdr.out.1 rfl
        have hlN : l.length = natAt b 0 2 := by omega
        rw [hlN] at hp
        by_cases he : at_ = b.length
        · have F := Lib.hid (dirGet_ok hl2 hp he)
          have n1 : ¬ (0 : Int) < (b.length : Int) - at_ := by omega
          clear hdr hml hm hlN hp hl2 hN he
          go_wp2_with (first | (go_at_call 109; refine (ok_calls HR.out).mono ?_; rintro e w' ⟨rfl, rfl⟩) | (go_at_call 110; refine (left_calls HR.out HBL.out).mono ?_; rintro e w3 ⟨rfl, nq, rfl⟩))
          go_ret2
          rw [F.out]
          refine ⟨_, rfl, Rep.val_drewN ?_ nq, below_drewN HB.out nq⟩
          refine Rep.val_mono (fun b hb _ => ?_) (Rep.acc_val HV.out)
          rcases hb with hb | hb
          · exact hb.1
          · have := (Rep.acc_own HV.out b hb).1; have := HP0.out; omega
        · have F := Lib.hid (dirGet_form hl2 hp he)
          have hle := HR.out.le
          have n1 : (0 : Int) < (b.length : Int) - at_ := by omega
          clear hdr hml hm hlN hp hl2 hN he hle
          go_wp2_with (first | (go_at_call 109; refine (ok_calls HR.out).mono ?_; rintro e w' ⟨rfl, rfl⟩) | (go_at_call 110; refine (left_calls HR.out HBL.out).mono ?_; rintro e w3 ⟨rfl, nq, rfl⟩))
          go_ret2
          rw [F.out]
          exact ⟨_, rfl, Rep.val_nil (by simp [maxLen]), below_drewN HB.out nq⟩
end Go.Proofs.Ytfpmkenobphfnaa
