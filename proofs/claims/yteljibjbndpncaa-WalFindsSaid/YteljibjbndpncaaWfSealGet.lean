/- Walk of the seal of a sector. -/
import Derived.Test.YteljibjbndpncaaWfDirGet
import Derived.Test.YteljibjbndpncaaWfG11
import Derived.Test.YteljibjbndpncaaWfSeal
import Derived.Deep.RegionHeld
import Derived.Laws.Cover3
namespace Go.Proofs.Yteljibjbndpncaa
open Go.RowKit
open Extern.Stop (cell)

def seal0 : DSeal := ⟨0, 0, 0, []⟩
def zeroCells : Array Value := #[.int .i64 0, .int .i64 0, .int .i64 0, .slice none 0 0]
theorem seal0_val {Q : Nat → Prop} {w : World} : rSeal.val Q w (.agg #[.int .i64 0, .int .i64 0, .int .i64 0, .slice none 0 0]) seal0 :=
  rSeal_agg (x := seal0) rfl rfl rfl ⟨Nat.le_refl _, by simp [maxLen], [], rfl, fun h => absurd h (by simp [seal0])⟩

/-- What stands while a sector is read: the reader p, the seal's box X, the result's R. -/
structure GetAt (w W : World) (R p X : Nat) (A : Option Addr) (c : Nat) (b : List UInt8) (a : Nat) (cs : Array Value) : Prop where
  bel : Below w.heap.size w W
  rdr : RdrAt W p A c b a false
  xb : W.heap[X]? = some (.cells cs 157 (0, 0))
  rb : W.heap[R]? = some (.cells #[.int .i64 0, .int .i64 0, .int .i64 0, .slice none 0 0] 157 (0, 0))
  ok : w.heap.size ≤ R ∧ R < p ∧ p < X
theorem GetAt.num {w W W' : World} {R p X : Nat} {A : Option Addr} {c : Nat} {b : List UInt8} {a a' : Nat} {cs : Array Value} (h : GetAt w W R p X A c b a cs) (r : RdrAt W' p A c b a' false) (g : W.grownBy W' (some p)) : GetAt w W' R p X A c b a' cs :=
  ⟨h.bel.grown g h.bel.size (fun k hk => by have := Option.some.inj hk; have := h.ok; omega), r,
   (g.block X (IsC.lt ⟨_, _, _, h.xb⟩) (fun e => by have := Option.some.inj e; have := h.ok; omega)).trans h.xb,
   (g.block R (IsC.lt ⟨_, _, _, h.rb⟩) (fun e => by have := Option.some.inj e; have := h.ok; omega)).trans h.rb, h.ok⟩
theorem GetAt.put {w W : World} {R p X : Nat} {A : Option Addr} {c : Nat} {b : List UInt8} {a : Nat} {cs : Array Value} (h : GetAt w W R p X A c b a cs) (i : Nat) (v : Value) : GetAt w (W.setCell ⟨X, i, none⟩ v) R p X A c b a (cs.setIfInBounds i v) := by
  have ok := h.ok
  refine ⟨⟨h.bel.os, h.bel.tape, h.bel.output, by simpa using h.bel.size, fun k hk => (Below.heap_setCell _ _ _ _ (show k ≠ X by omega)).trans (h.bel.block k hk)⟩,
    ⟨(Below.heap_setCell _ _ _ _ (show p ≠ X by omega)).trans h.rdr.blk, h.rdr.sl.keep fun x hx _ => ⟨hx, Below.heap_setCell _ _ _ _ (show x ≠ X by have : x < p := hx; omega)⟩, h.rdr.le⟩,
    heap_setRow h.xb, (Below.heap_setCell _ _ _ _ (show R ≠ X by omega)).trans h.rb, ok⟩
theorem rdNum_at {b : List UInt8} {a w : Nat} (h1 : 1 ≤ w) (h8 : w ≤ 8) (h : a + w ≤ b.length) : rdNum b a false (w : Int) = (i64of (natAt b a w), a + w, false) := by
  rw [rdNum_false b a w h1 h8, if_pos h]
theorem rdBytes_at {b : List UInt8} {a n : Nat} (h : a + n ≤ b.length) : rdBytes b a false (n : Int) = ((b.drop a).take n, a + n, false) := by
  unfold rdBytes
  rw [if_neg (by decide), if_neg (by omega), if_neg (by omega)]; simp

theorem below_set {B k : Nat} {w W : World} (h : Below B w W) (hk : B ≤ k) {i : Nat} {v : Value} : Below B w (W.setCell ⟨k, i, none⟩ v) :=
  ⟨h.os, h.tape, h.output, by simpa using h.size, fun x hx => (Below.heap_setCell _ _ _ _ (show x ≠ k by omega)).trans (h.block x hx)⟩
theorem set4_keep {W : World} {R k : Nat} {a b c d : Value} (h : k ≠ R) : ((((W.setCell ⟨R, 0, none⟩ a).setCell ⟨R, 1, none⟩ b).setCell ⟨R, 2, none⟩ c).setCell ⟨R, 3, none⟩ d).heap[k]? = W.heap[k]? := by
  rw [Below.heap_setCell _ _ _ _ h, Below.heap_setCell _ _ _ _ h, Below.heap_setCell _ _ _ _ h, Below.heap_setCell _ _ _ _ h]
theorem sizeOf5 (w : World) : (sizeOf 5).run Try.prog w = .ok 1 w := by
  have h := size5
  cases hq : Try.prog.info? 5 with
  | none => simp [hq] at h
  | some i => simp [hq] at h; simp [sizeOf, typeInfo, hq, h]
theorem guard_sector : Try.prog.eqGuardType Try.prog.depth 185 = false := by kernel_rfl
theorem yieldsIf_neq_sector {ops : Array Oper} {S : World → Prop} {op : Oper} {a : Act} (hw : Region.wanted op (yielded ops a.tmps) = true) (x y : Operand) (t2 : TypeId) (ho : op.op = .binOp .neq 185 x y t2)
    (xs ys : List UInt8) (hx : a.eval x = .agg (xs.map cell).toArray) (hy : a.eval y = .agg (ys.map cell).toArray) (hlx : xs.length = 512) (hly : ys.length = 512) : YieldsIf Try.prog ops S op (.bool (!(xs == ys))) a :=
  .inl ⟨hw, fun w _ => by
    unfold execOp
    simp only [ho, hx, hy, Sem.run_bind, run_eqGuard_agg w _ _ _ _ _ _ guard_sector, Result.andThen_ok, run_neq_struct, run_equalIn_bytes w 9998 185 5 512 Try.underlying185 Try.underlying5 sizeOf5 xs ys hlx hly, Sem.run_pure]⟩
/-- What is got of a sector. -/
def SealRes (w : World) (b : List UInt8) (e : Ending) (w' : World) : Prop :=
  ∃ v, e = .returned (.tuple #[v, .bool (sealGet b).isSome]) ∧ rSeal.val (fun k => w.heap.size ≤ k) w' v ((sealGet b).getD seal0) ∧ Below w.heap.size w w'

set_option maxRecDepth 100000 in
set_option maxHeartbeats 4000000 in
/-- seal.Get -/
theorem sealGet_calls {Q : Nat → Prop} {w : World} {v : Value} {b : List UInt8} (hx : Rep.byte.list.val Q w v b) :
    Calls Try.prog 117 #[v] w (SealRes w b) := by
  have HX := Lib.hid hx
  obtain ⟨A0, c0, rfl, hc1, hc2, hA⟩ := Rep.val_list hx
  have HA := Lib.hid hA
  unfold maxLen at hc2
  obtain ⟨W1, hW1⟩ : ∃ W1, w.alloc (.cells #[.int .i64 0, .int .i64 0, .int .i64 0, .slice none 0 0] 157) = W1 := ⟨_, rfl⟩
  have hb1 : Below w.heap.size w W1 := by rw [← hW1]; exact (Below.refl _ _).alloc (Nat.le_refl _) _
  have hr1 : W1.heap[w.heap.size]? = some (.cells #[.int .i64 0, .int .i64 0, .int .i64 0, .slice none 0 0] 157 (0, 0)) := by rw [← hW1]; exact heap_alloc_new _ _
  have hz1 : W1.heap.size = w.heap.size + 1 := by rw [← hW1]; simp
  have HB1 := Lib.hid hb1
  have HR1 := Lib.hid hr1
  have HZ1 := Lib.hid hz1
  clear hx hA hb1
  by_cases hlen : (b.length : Int) = 512
  case neg =>
    have HF := Lib.hid (show sealGet b = none by unfold sealGet; rw [if_neg (fun h => hlen (by omega))])
    have hne : ((b.length : Int) == 512) = false := by simpa using hlen
    have e0 := cell_row hr1 0
    have e1 := cell_row hr1 1
    have e2 := cell_row hr1 2
    have e3 := cell_row hr1 3
    have z0 := frozen_row hr1 0
    have z1 := frozen_row hr1 1
    have z2 := frozen_row hr1 2
    have z3 := frozen_row hr1 3
    clear hr1 hz1 hlen
    go_enter Try.func117, Try.ntmps117
    go_wp2_with fail
    try rw [hW1]
    clear hW1
    go_wp2_with fail
    have hfr : Try.f117.results = #[.cell 2 157, .tmp 3] := rfl
    refine ⟨rfl, .tuple #[.agg #[.int .i64 0, .int .i64 0, .int .i64 0, .slice none 0 0], .bool false], ?_, ⟨_, by rw [HF.out]; rfl, by rw [HF.out]; exact seal0_val, below_set (below_set (below_set (below_set HB1.out (Nat.le_refl _)) (Nat.le_refl _)) (Nat.le_refl _)) (Nat.le_refl _)⟩⟩
    simp only [results, hfr]
    go_simp
  case pos =>
    have HL := Lib.hid (show b.length = 512 by omega)
    clear hr1 hz1
    go_enter Try.func117, Try.ntmps117
    go_wp2_with fail
    try rw [hW1]
    clear hW1
    go_wp2_with fail
    refine (read_calls (Rep.val_below (B := w.heap.size) (Rep.val_any HX.out) HB1.out fun _ h _ => h) (by have := HL.out; omega)).mono ?_
    rintro e w1 ⟨p, A, c, rfl, hr, hp, hb, hs⟩
    have HP := Lib.hid hp
    have HRD1 := Lib.hid hr
    have HB2 := Lib.hid hb
    clear hr hp hb hs
    go_wp2_with fail
    refine (rdnum_calls (width := 8) HRD1.out (by have := HL.out; omega)).mono ?_
    rintro e w2 ⟨rfl, hr, hg⟩
    rw [show rdNum b 0 false 8 = (i64of (natAt b 0 8), 8, false) from rdNum_at (w := 8) (by decide) (by decide) (by have := HL.out; omega)] at hr ⊢
    have HRD2 := Lib.hid hr
    have HG2 := Lib.hid hg
    clear hr hg
    go_wp2_with fail
    refine (rdnum_calls (width := 8) HRD2.out (by have := HL.out; omega)).mono ?_
    rintro e w3 ⟨rfl, hr, hg⟩
    rw [show rdNum b 8 false 8 = (i64of (natAt b 8 8), 16, false) from rdNum_at (w := 8) (by decide) (by decide) (by have := HL.out; omega)] at hr ⊢
    have HRD3 := Lib.hid hr
    have HG3 := Lib.hid (HG2.out.trans hg)
    have HN1 := Lib.hid (i64of_wf (natAt b 0 8))
    have HN2 := Lib.hid (i64of_wf (natAt b 8 8))
    have HN3 := Lib.hid (show i64of (natAt b 20 1) = natAt b 20 1 from i64of_natAt b 20 1 (by decide))
    have HN4 := Lib.hid (show i64of (natAt b 22 2) = natAt b 22 2 from i64of_natAt b 22 2 (by decide))
    have HS' := Lib.hid (show sealRead' b = ⟨i64of (natAt b 0 8), i64of (natAt b 8 8), natAt b 20 1, (b.drop 24).take (min (natAt b 22 2) 472)⟩ from rfl)
    have hk3 := natAt_lt b 20 1
    have HW3 := Lib.hid (show (Lit.int .i64 (natAt b 20 1 : Int)).wf = true from wf_i64 (by omega) (by omega))
    clear hr hg hk3
    generalize i64of (natAt b 0 8) = n1 at *
    generalize i64of (natAt b 8 8) = n2 at *
    have G4 := Lib.hid (show GetAt w (w3.alloc (.cells #[.int .i64 n1, .int .i64 n2, .int .i64 0, .slice none 0 0] 157)) w.heap.size p w3.heap.size A c b 16 #[.int .i64 n1, .int .i64 n2, .int .i64 0, .slice none 0 0] from by
      have hP := HP.out
      have hZ := HZ1.out
      have q1 := HB2.out.size
      have q2 := HG3.out.size
      have hpl := HRD1.out.lt
      refine ⟨((HB1.out.trans (HB2.out.mono HB1.out.size)).grown HG3.out (by omega) (fun k hk => by have := Option.some.inj hk; omega)).alloc (by omega) _, ?_, heap_alloc_new _ _, ?_, ⟨Nat.le_refl _, by omega, by omega⟩⟩
      · exact HRD3.out.keep fun x hx => heap_alloc_old _ _ hx.lt
      · rw [heap_alloc_old _ _ (by omega), HG3.out.block _ (by omega) (fun e => by have := Option.some.inj e; omega), HB2.out.block _ (by omega)]
        exact HR1.out)
    have HX3 := Lib.hid (show w.heap.size < w3.heap.size by have := HG3.out.size; have := HB2.out.size; have := HZ1.out; omega)
    generalize hX : w3.heap.size = X at *
    clear HRD2 HG2 HRD3 HG3 HRD1 HB2 HR1 HZ1
    go_wp2_with fail
    try rw [hX]
    generalize w3.alloc (.cells #[.int .i64 n1, .int .i64 n2, .int .i64 0, .slice none 0 0] 157) = W4 at *
    refine (rdnum_calls (width := 4) G4.out.rdr (by have := HL.out; omega)).mono ?_
    rintro e w5 ⟨rfl, hr, hg⟩
    rw [show rdNum b 16 false 4 = (i64of (natAt b 16 4), 20, false) from rdNum_at (w := 4) (by decide) (by decide) (by have := HL.out; omega)] at hr ⊢
    have G5 := Lib.hid (G4.out.num hr hg)
    clear hr hg
    go_wp2_with fail
    refine (rdnum_calls (width := 1) G5.out.rdr (by have := HL.out; omega)).mono ?_
    rintro e w6 ⟨rfl, hr, hg⟩
    rw [show rdNum b 20 false 1 = (i64of (natAt b 20 1), 21, false) from rdNum_at (w := 1) (by decide) (by decide) (by have := HL.out; omega)] at hr ⊢
    have G6 := Lib.hid (G5.out.num hr hg)
    clear hr hg
    rw [HN3.out]
    have e2 := cell_row G6.out.xb 2
    have z2 := frozen_row G6.out.xb 2
    go_wp2_with fail
    have G7 := Lib.hid (show GetAt w (w6.setCell ⟨X, 2, none⟩ (.int .i64 (natAt b 20 1))) w.heap.size p X A c b 21 #[.int .i64 n1, .int .i64 n2, .int .i64 (natAt b 20 1), .slice none 0 0] from G6.out.put 2 _)
    clear e2 z2
    generalize natAt b 20 1 = n3 at *
    generalize w6.setCell ⟨X, 2, none⟩ (.int .i64 n3) = W7 at *
    refine (rdnum_calls (width := 1) G7.out.rdr (by have := HL.out; omega)).mono ?_
    rintro e w8 ⟨rfl, hr, hg⟩
    rw [show rdNum b 21 false 1 = (i64of (natAt b 21 1), 22, false) from rdNum_at (w := 1) (by decide) (by decide) (by have := HL.out; omega)] at hr ⊢
    have G8 := Lib.hid (G7.out.num hr hg)
    clear hr hg
    go_wp2_with fail
    refine (rdnum_calls (width := 2) G8.out.rdr (by have := HL.out; omega)).mono ?_
    rintro e w9 ⟨rfl, hr, hg⟩
    rw [show rdNum b 22 false 2 = (i64of (natAt b 22 2), 24, false) from rdNum_at (w := 2) (by decide) (by decide) (by have := HL.out; omega)] at hr ⊢
    have G9 := Lib.hid (G8.out.num hr hg)
    clear hr hg
    rw [HN4.out]
    generalize natAt b 22 2 = n4 at *
    by_cases h4 : (n4 : Int) ≤ 472
    · have HY := Lib.hid (show min n4 472 = n4 by omega)
      go_wp2_with fail
      refine (rdbytes_calls (n := ((n4 : Nat) : Int)) G9.out.rdr (by have := HL.out; omega)).mono ?_
      rintro e w10 ⟨u, rfl, hu, hr, hg⟩
      rw [rdBytes_at (by have := HL.out; omega)] at hu hr
      have G10 := Lib.hid (G9.out.num hr hg)
      have HX9 := Lib.hid (show X < w9.heap.size from IsC.lt ⟨_, _, _, G9.out.xb⟩)
      obtain ⟨A5, c5, rfl, hs5⟩ := Rep.val_sl hu
      dsimp only at hs5
      have HYL := Lib.hid (show ((b.drop 24).take n4).length = n4 by have := HL.out; rw [List.length_take, List.length_drop]; omega)
      have HS5 := Lib.hid hs5
      clear hu hr hg hs5
      rw [HYL.out]
      have e3 := cell_row G10.out.xb 3
      have z3 := frozen_row G10.out.xb 3
      go_wp2_with fail
      have G11 := Lib.hid (show GetAt w (w10.setCell ⟨X, 3, none⟩ (.slice A5 n4 c5)) w.heap.size p X A c b (24 + n4) #[.int .i64 n1, .int .i64 n2, .int .i64 n3, .slice A5 n4 c5] from G10.out.put 3 _)
      have HS11 := Lib.hid (show Rep.byte.Sl (fun x => w9.heap.size ≤ x) (w10.setCell ⟨X, 3, none⟩ (.slice A5 n4 c5)) A5 c5 ((b.drop 24).take n4) from HS5.out.keep fun x hx _ => ⟨hx, Below.heap_setCell _ _ _ _ (show x ≠ X by have := HX9.out; have hx' : w9.heap.size ≤ x := hx; omega)⟩)
      clear e3 z3
      generalize w10.setCell ⟨X, 3, none⟩ (.slice A5 n4 c5) = W11 at *
      have HXW := Lib.hid (show X < W11.heap.size from IsC.lt ⟨_, _, _, G11.out.xb⟩)
      obtain ⟨bb, off, hA0⟩ := Rep.At.addr HA.out (by have := HL.out; omega)
      subst hA0
      have KR := Lib.hid (show ∀ W, Below W11.heap.size W11 W → W.heap[X]? = some (.cells #[.int .i64 n1, .int .i64 n2, .int .i64 n3, .slice A5 n4 c5] 157 (0, 0)) ∧ W.heap[w.heap.size]? = some (.cells #[.int .i64 0, .int .i64 0, .int .i64 0, .slice none 0 0] 157 (0, 0)) ∧ W.rangeAt bb off (b.map cell) ∧ Below w.heap.size w W ∧ rSeal.val (fun k => w.heap.size < k) W (.agg #[.int .i64 n1, .int .i64 n2, .int .i64 n3, .slice A5 n4 c5]) (sealRead' b) from fun W h => by
        have hbw := G11.out.bel.trans (h.mono G11.out.bel.size)
        have hX3 := HX3.out
        have hXW := HXW.out
        refine ⟨(h.block X hXW).trans G11.out.xb, (h.block _ (by omega)).trans G11.out.rb, ?_, hbw, ?_⟩
        · obtain ⟨es, hrow, hc⟩ := HA.out
          obtain ⟨b', o', he, _, hic, hcells⟩ := hc (by have := HL.out; omega)
          cases he
          intro j v hj
          rw [hbw.cell (p := ⟨bb, off + j, none⟩) hic.lt]
          exact hcells j v (by rw [Rep.row_byte hrow]; exact hj)
        · rw [HS'.out, HY.out]
          have hs := HS11.out.keep (w' := W) (Q' := fun k => w.heap.size < k) fun x hx hl => ⟨by have hx' : w9.heap.size ≤ x := hx; have := HX9.out; show w.heap.size < x; omega, h.block x hl.lt⟩
          have := rSeal_agg (x := ⟨n1, n2, n3, (b.drop 24).take n4⟩) HN1.out HN2.out HW3.out hs
          rwa [HYL.out] at this)
      have s1 := KR.out W11.drew (Below.refl _ _).drew
      refine wp_region_held (S := fun W => W.heap[X]? = some (.cells #[.int .i64 n1, .int .i64 n2, .int .i64 n3, .slice A5 n4 c5] 157 (0, 0)) ∧ W.heap[w.heap.size]? = some (.cells #[.int .i64 0, .int .i64 0, .int .i64 0, .slice none 0 0] 157 (0, 0)) ∧ W.rangeAt bb off (b.map cell) ∧ Below w.heap.size w W ∧ rSeal.val (fun k => w.heap.size < k) W (.agg #[.int .i64 n1, .int .i64 n2, .int .i64 n3, .slice A5 n4 c5]) (sealRead' b)) (by kernel_rfl) ?_
      refine wpAnyH_take (i := 0) (v := .agg #[.int .i64 n1, .int .i64 n2, .int .i64 n3, .slice A5 n4 c5]) rfl (by kernel_rfl) (by kernel_rfl) (by kernel_rfl) (fun _ _ _ h => h) (Or.inl ⟨by rfl, fun w' h => by have x0 := cell_row h.1 0; have x1 := cell_row h.1 1; have x2 := cell_row h.1 2; have x3 := cell_row h.1 3; go_simp⟩) s1 ?_
      go_simp
      refine wpAnyH_take (i := 2) (v := .slice (some ⟨bb, off, none⟩) b.length c0) rfl (by kernel_rfl) (by kernel_rfl) (by kernel_rfl) (fun _ _ _ h => h) (Or.inl ⟨by rfl, fun w' _ => by go_simp⟩) s1 ?_
      go_simp
      refine wpAnyH_take (i := 3) (v := .pointer (some ⟨bb, off, none⟩)) rfl (by kernel_rfl) (by kernel_rfl) (by kernel_rfl) (fun _ _ _ h => h) (Or.inl ⟨by rfl, fun w' _ => by have hq := run_arrayAt (P := Try.prog) w' 185 5 512 (some ⟨bb, off, none⟩) b.length c0 Try.underlying185 (by have := HL.out; omega); go_simp⟩) s1 ?_
      go_simp
      refine wpAnyH_take (i := 4) (v := .agg (b.map cell).toArray) rfl (by kernel_rfl) (by kernel_rfl) (by kernel_rfl) (fun _ _ _ h => h) (yieldsIf_load_mid (by rfl) 185 (.tmp 33) rfl bb off (by rfl) (b.map cell) (.array 512 5) (fun w' h => h.2.2.1) Try.underlying185 rfl (by rw [List.length_map, HL.out]; exact size_sector)) s1 ?_
      go_simp
      refine wpAnyH_all (rs := [1]) (by kernel_rfl) (by simp) ?_
      intro i hi
      obtain rfl : i = 1 := by simpa using hi
      refine wpOp_step rfl (fun K hK => ?_)
      go_simp
      refine (made_calls s1.2.2.2.2).mono ?_
      rintro e w12 ⟨rfl, hb⟩
      have s2 := KR.out w12 ((Below.refl _ _).drew.trans hb)
      refine hK _ _ ⟨s2, ?_⟩
      clear hK K
      refine wpAnyH_take (i := 5) (v := .bool (!(sealBytes (sealRead' b) == b))) rfl (by kernel_rfl) (by kernel_rfl) (by kernel_rfl) (fun _ _ _ h => h) (yieldsIf_neq_sector (by rfl) (.tmp 31) (.tmp 34) _ rfl (sealBytes (sealRead' b)) b (by rfl) (by rfl) (sealBytes_length _) HL.out) s2 ?_
      go_simp
      refine wpAnyH_done (by kernel_rfl) ?_ _
      have e0 := cell_row s2.1 0
      have e1 := cell_row s2.1 1
      have e2 := cell_row s2.1 2
      have e3 := cell_row s2.1 3
      have r0 := cell_row s2.2.1 0
      have r1 := cell_row s2.2.1 1
      have r2 := cell_row s2.2.1 2
      have r3 := cell_row s2.2.1 3
      have z0 := frozen_row s2.2.1 0
      have z1 := frozen_row s2.2.1 1
      have z2 := frozen_row s2.2.1 2
      have z3 := frozen_row s2.2.1 3
      have HB12 := Lib.hid s2.2.2.2.1
      have HV12 := Lib.hid s2.2.2.2.2
      have hXR : w.heap.size < X := HX3.out
      have hfr : Try.f117.results = #[.cell 2 157, .tmp 3] := rfl
      clear s1 s2
      by_cases heq : sealBytes (sealRead' b) = b
      · have HF := Lib.hid (show sealGet b = some (sealRead' b) by rw [sealGet_alt HL.out, if_pos heq])
        have g0 : (sealBytes (sealRead' b) == b) = true := by simpa using heq
        rw [g0]
        clear heq g0
        go_wp2_with fail
        refine ⟨rfl, .tuple #[.agg #[.int .i64 n1, .int .i64 n2, .int .i64 n3, .slice A5 n4 c5], .bool true], ?_, ⟨_, by rw [HF.out]; rfl, by rw [HF.out]; exact Rep.val_keep (fun k hk _ => ⟨Nat.le_of_lt hk, set4_keep (Nat.ne_of_gt hk)⟩) HV12.out, below_set (below_set (below_set (below_set HB12.out (Nat.le_refl _)) (Nat.le_refl _)) (Nat.le_refl _)) (Nat.le_refl _)⟩⟩
        simp only [results, hfr]
        go_simp
      · have HF := Lib.hid (show sealGet b = none by rw [sealGet_alt HL.out, if_neg heq])
        have g0 : (sealBytes (sealRead' b) == b) = false := by simpa using heq
        rw [g0]
        clear heq g0
        go_wp2_with fail
        refine ⟨rfl, .tuple #[.agg #[.int .i64 0, .int .i64 0, .int .i64 0, .slice none 0 0], .bool false], ?_, ⟨_, by rw [HF.out]; rfl, by rw [HF.out]; exact seal0_val, below_set (below_set (below_set (below_set HB12.out (Nat.le_refl _)) (Nat.le_refl _)) (Nat.le_refl _)) (Nat.le_refl _)⟩⟩
        simp only [results, hfr]
        go_simp
    · have g4 : (472 : Int) ≤ n4 := by omega
      have HY := Lib.hid (show min n4 472 = 472 by omega)
      go_wp2_with fail
      refine (rdbytes_calls (n := ((472 : Nat) : Int)) G9.out.rdr (by have := HL.out; omega)).mono ?_
      rintro e w10 ⟨u, rfl, hu, hr, hg⟩
      rw [rdBytes_at (by have := HL.out; omega)] at hu hr
      have G10 := Lib.hid (G9.out.num hr hg)
      have HX9 := Lib.hid (show X < w9.heap.size from IsC.lt ⟨_, _, _, G9.out.xb⟩)
      obtain ⟨A5, c5, rfl, hs5⟩ := Rep.val_sl hu
      dsimp only at hs5
      have HYL := Lib.hid (show ((b.drop 24).take 472).length = 472 by have := HL.out; rw [List.length_take, List.length_drop]; omega)
      have HS5 := Lib.hid hs5
      clear hu hr hg hs5
      rw [HYL.out]
      have e3 := cell_row G10.out.xb 3
      have z3 := frozen_row G10.out.xb 3
      go_wp2_with fail
      have G11 := Lib.hid (show GetAt w (w10.setCell ⟨X, 3, none⟩ (.slice A5 472 c5)) w.heap.size p X A c b (24 + 472) #[.int .i64 n1, .int .i64 n2, .int .i64 n3, .slice A5 472 c5] from G10.out.put 3 _)
      have HS11 := Lib.hid (show Rep.byte.Sl (fun x => w9.heap.size ≤ x) (w10.setCell ⟨X, 3, none⟩ (.slice A5 472 c5)) A5 c5 ((b.drop 24).take 472) from HS5.out.keep fun x hx _ => ⟨hx, Below.heap_setCell _ _ _ _ (show x ≠ X by have := HX9.out; have hx' : w9.heap.size ≤ x := hx; omega)⟩)
      clear e3 z3
      generalize w10.setCell ⟨X, 3, none⟩ (.slice A5 472 c5) = W11 at *
      have HXW := Lib.hid (show X < W11.heap.size from IsC.lt ⟨_, _, _, G11.out.xb⟩)
      obtain ⟨bb, off, hA0⟩ := Rep.At.addr HA.out (by have := HL.out; omega)
      subst hA0
      have KR := Lib.hid (show ∀ W, Below W11.heap.size W11 W → W.heap[X]? = some (.cells #[.int .i64 n1, .int .i64 n2, .int .i64 n3, .slice A5 472 c5] 157 (0, 0)) ∧ W.heap[w.heap.size]? = some (.cells #[.int .i64 0, .int .i64 0, .int .i64 0, .slice none 0 0] 157 (0, 0)) ∧ W.rangeAt bb off (b.map cell) ∧ Below w.heap.size w W ∧ rSeal.val (fun k => w.heap.size < k) W (.agg #[.int .i64 n1, .int .i64 n2, .int .i64 n3, .slice A5 472 c5]) (sealRead' b) from fun W h => by
        have hbw := G11.out.bel.trans (h.mono G11.out.bel.size)
        have hX3 := HX3.out
        have hXW := HXW.out
        refine ⟨(h.block X hXW).trans G11.out.xb, (h.block _ (by omega)).trans G11.out.rb, ?_, hbw, ?_⟩
        · obtain ⟨es, hrow, hc⟩ := HA.out
          obtain ⟨b', o', he, _, hic, hcells⟩ := hc (by have := HL.out; omega)
          cases he
          intro j v hj
          rw [hbw.cell (p := ⟨bb, off + j, none⟩) hic.lt]
          exact hcells j v (by rw [Rep.row_byte hrow]; exact hj)
        · rw [HS'.out, HY.out]
          have hs := HS11.out.keep (w' := W) (Q' := fun k => w.heap.size < k) fun x hx hl => ⟨by have hx' : w9.heap.size ≤ x := hx; have := HX9.out; show w.heap.size < x; omega, h.block x hl.lt⟩
          have := rSeal_agg (x := ⟨n1, n2, n3, (b.drop 24).take 472⟩) HN1.out HN2.out HW3.out hs
          rwa [HYL.out] at this)
      have s1 := KR.out W11.drew (Below.refl _ _).drew
      refine wp_region_held (S := fun W => W.heap[X]? = some (.cells #[.int .i64 n1, .int .i64 n2, .int .i64 n3, .slice A5 472 c5] 157 (0, 0)) ∧ W.heap[w.heap.size]? = some (.cells #[.int .i64 0, .int .i64 0, .int .i64 0, .slice none 0 0] 157 (0, 0)) ∧ W.rangeAt bb off (b.map cell) ∧ Below w.heap.size w W ∧ rSeal.val (fun k => w.heap.size < k) W (.agg #[.int .i64 n1, .int .i64 n2, .int .i64 n3, .slice A5 472 c5]) (sealRead' b)) (by kernel_rfl) ?_
      refine wpAnyH_take (i := 0) (v := .agg #[.int .i64 n1, .int .i64 n2, .int .i64 n3, .slice A5 472 c5]) rfl (by kernel_rfl) (by kernel_rfl) (by kernel_rfl) (fun _ _ _ h => h) (Or.inl ⟨by rfl, fun w' h => by have x0 := cell_row h.1 0; have x1 := cell_row h.1 1; have x2 := cell_row h.1 2; have x3 := cell_row h.1 3; go_simp⟩) s1 ?_
      go_simp
      refine wpAnyH_take (i := 2) (v := .slice (some ⟨bb, off, none⟩) b.length c0) rfl (by kernel_rfl) (by kernel_rfl) (by kernel_rfl) (fun _ _ _ h => h) (Or.inl ⟨by rfl, fun w' _ => by go_simp⟩) s1 ?_
      go_simp
      refine wpAnyH_take (i := 3) (v := .pointer (some ⟨bb, off, none⟩)) rfl (by kernel_rfl) (by kernel_rfl) (by kernel_rfl) (fun _ _ _ h => h) (Or.inl ⟨by rfl, fun w' _ => by have hq := run_arrayAt (P := Try.prog) w' 185 5 512 (some ⟨bb, off, none⟩) b.length c0 Try.underlying185 (by have := HL.out; omega); go_simp⟩) s1 ?_
      go_simp
      refine wpAnyH_take (i := 4) (v := .agg (b.map cell).toArray) rfl (by kernel_rfl) (by kernel_rfl) (by kernel_rfl) (fun _ _ _ h => h) (yieldsIf_load_mid (by rfl) 185 (.tmp 33) rfl bb off (by rfl) (b.map cell) (.array 512 5) (fun w' h => h.2.2.1) Try.underlying185 rfl (by rw [List.length_map, HL.out]; exact size_sector)) s1 ?_
      go_simp
      refine wpAnyH_all (rs := [1]) (by kernel_rfl) (by simp) ?_
      intro i hi
      obtain rfl : i = 1 := by simpa using hi
      refine wpOp_step rfl (fun K hK => ?_)
      go_simp
      refine (made_calls s1.2.2.2.2).mono ?_
      rintro e w12 ⟨rfl, hb⟩
      have s2 := KR.out w12 ((Below.refl _ _).drew.trans hb)
      refine hK _ _ ⟨s2, ?_⟩
      clear hK K
      refine wpAnyH_take (i := 5) (v := .bool (!(sealBytes (sealRead' b) == b))) rfl (by kernel_rfl) (by kernel_rfl) (by kernel_rfl) (fun _ _ _ h => h) (yieldsIf_neq_sector (by rfl) (.tmp 31) (.tmp 34) _ rfl (sealBytes (sealRead' b)) b (by rfl) (by rfl) (sealBytes_length _) HL.out) s2 ?_
      go_simp
      refine wpAnyH_done (by kernel_rfl) ?_ _
      have e0 := cell_row s2.1 0
      have e1 := cell_row s2.1 1
      have e2 := cell_row s2.1 2
      have e3 := cell_row s2.1 3
      have r0 := cell_row s2.2.1 0
      have r1 := cell_row s2.2.1 1
      have r2 := cell_row s2.2.1 2
      have r3 := cell_row s2.2.1 3
      have z0 := frozen_row s2.2.1 0
      have z1 := frozen_row s2.2.1 1
      have z2 := frozen_row s2.2.1 2
      have z3 := frozen_row s2.2.1 3
      have HB12 := Lib.hid s2.2.2.2.1
      have HV12 := Lib.hid s2.2.2.2.2
      have hXR : w.heap.size < X := HX3.out
      have hfr : Try.f117.results = #[.cell 2 157, .tmp 3] := rfl
      clear s1 s2
      by_cases heq : sealBytes (sealRead' b) = b
      · have HF := Lib.hid (show sealGet b = some (sealRead' b) by rw [sealGet_alt HL.out, if_pos heq])
        have g0 : (sealBytes (sealRead' b) == b) = true := by simpa using heq
        rw [g0]
        clear heq g0
        go_wp2_with fail
        refine ⟨rfl, .tuple #[.agg #[.int .i64 n1, .int .i64 n2, .int .i64 n3, .slice A5 472 c5], .bool true], ?_, ⟨_, by rw [HF.out]; rfl, by rw [HF.out]; exact Rep.val_keep (fun k hk _ => ⟨Nat.le_of_lt hk, set4_keep (Nat.ne_of_gt hk)⟩) HV12.out, below_set (below_set (below_set (below_set HB12.out (Nat.le_refl _)) (Nat.le_refl _)) (Nat.le_refl _)) (Nat.le_refl _)⟩⟩
        simp only [results, hfr]
        go_simp
      · have HF := Lib.hid (show sealGet b = none by rw [sealGet_alt HL.out, if_neg heq])
        have g0 : (sealBytes (sealRead' b) == b) = false := by simpa using heq
        rw [g0]
        clear heq g0
        go_wp2_with fail
        refine ⟨rfl, .tuple #[.agg #[.int .i64 0, .int .i64 0, .int .i64 0, .slice none 0 0], .bool false], ?_, ⟨_, by rw [HF.out]; rfl, by rw [HF.out]; exact seal0_val, below_set (below_set (below_set (below_set HB12.out (Nat.le_refl _)) (Nat.le_refl _)) (Nat.le_refl _)) (Nat.le_refl _)⟩⟩
        simp only [results, hfr]
        go_simp
end Go.Proofs.Yteljibjbndpncaa
