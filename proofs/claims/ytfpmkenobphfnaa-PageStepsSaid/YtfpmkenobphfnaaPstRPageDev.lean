/- Walks of the writing and the reading of a page: ref20. Printed by gen_rpagedev.py. -/
import Derived.Test.YtfpmkenobphfnaaPstG21
import Derived.Test.YtfpmkenobphfnaaPstG7
import Derived.Test.YtfpmkenobphfnaaPstPages
namespace Go.Proofs.Ytfpmkenobphfnaa
open Go.RowKit

def rpageWriteD (d : DDisk) (c : DConf) (epoch p : Int) (b : List UInt8) : DDisk × Int :=
  if pageOf c p < 0 then (d, 2) else if 472 < b.length then (d, 13) else ((goW d ⟨1, pageOf c p, pageBytes epoch p b, []⟩).1, (goW d ⟨1, pageOf c p, pageBytes epoch p b, []⟩).2.2)
def rpageReadD (d : DDisk) (c : DConf) (p : Int) : DDisk × List UInt8 × Int :=
  if pageOf c p < 0 then (d, [], 2) else if (goW d ⟨0, pageOf c p, [], []⟩).2.2 ≠ 0 then ((goW d ⟨0, pageOf c p, [], []⟩).1, [], (goW d ⟨0, pageOf c p, [], []⟩).2.2)
  else match pageGet (goW d ⟨0, pageOf c p, [], []⟩).2.1 p with
    | none => ((goW d ⟨0, pageOf c p, [], []⟩).1, [], 16)
    | some x => ((goW d ⟨0, pageOf c p, [], []⟩).1, x, 0)
theorem rpage_le (c : DConf) (p : Int) : -1 ≤ pageOf c p ∧ pageOf c p ≤ 2050 := by
  unfold pageOf
  split
  · rename_i h; have := right_log_pages h.1; omega
  · omega
theorem three_rows {w W3 : World} {o1 o2 o3 : Array Value} {t1 t2 t3 : TypeId} (h : ((w.alloc (.cells o1 t1)).alloc (.cells o2 t2)).alloc (.cells o3 t3) = W3) :
    Below w.heap.size w W3 ∧ W3.heap.size = w.heap.size + 1 + 1 + 1 ∧ W3.heap[w.heap.size]? = some (.cells o1 t1 (0, 0)) ∧ W3.heap[w.heap.size + 1]? = some (.cells o2 t2 (0, 0)) ∧ W3.heap[w.heap.size + 1 + 1]? = some (.cells o3 t3 (0, 0)) := by
  subst h
  have s1 : (w.alloc (.cells o1 t1)).heap.size = w.heap.size + 1 := by simp
  have s2 : ((w.alloc (.cells o1 t1)).alloc (.cells o2 t2)).heap.size = w.heap.size + 1 + 1 := by simp
  have n2 := heap_alloc_new (w.alloc (.cells o1 t1)) (.cells o2 t2)
  have n3 := heap_alloc_new ((w.alloc (.cells o1 t1)).alloc (.cells o2 t2)) (.cells o3 t3)
  rw [s1] at n2
  rw [s2] at n3
  exact ⟨(((Below.refl _ _).alloc (Nat.le_refl _) _).alloc (by rw [s1]; omega) _).alloc (by rw [s2]; omega) _, by simp, (heap_alloc_old _ _ (by rw [s2]; omega)).trans ((heap_alloc_old _ _ (by rw [s1]; omega)).trans (heap_alloc_new w _)), (heap_alloc_old _ _ (by rw [s2]; omega)).trans n2, n3⟩
theorem rdisk_fields {Q : Nat → Prop} {w : World} {v : Value} {d : DDisk} (h : rDisk.val Q w v d) : ∃ A0 c0 A1 c1, v = .agg #[.slice A0 d.safe.length c0, .slice A1 d.wait.length c1, .int .i64 d.fuse, .bool d.off, .int .i64 d.reads, .int .i64 d.writes] := by
  obtain ⟨A0, c0, A1, c1, rfl, _⟩ := rDisk_val h
  exact ⟨_, _, _, _, rfl⟩
theorem sl_nil {α : Type} {r : Rep α} {Q : Nat → Prop} {w : World} : r.Sl Q w none 0 [] := ⟨Nat.le_refl _, by simp [maxLen], [], rfl, fun h => absurd h (by simp)⟩
def set6 (W : World) (R : Nat) (v0 v1 v2 v3 v4 v5 : Value) : World := (((((W.setCell ⟨R, 0, none⟩ v0).setCell ⟨R, 1, none⟩ v1).setCell ⟨R, 2, none⟩ v2).setCell ⟨R, 3, none⟩ v3).setCell ⟨R, 4, none⟩ v4).setCell ⟨R, 5, none⟩ v5
theorem set6_keep {W : World} {R k : Nat} {v0 v1 v2 v3 v4 v5 : Value} (h : k ≠ R) : (set6 W R v0 v1 v2 v3 v4 v5).heap[k]? = W.heap[k]? := by
  unfold set6
  rw [Below.heap_setCell _ _ _ _ h, Below.heap_setCell _ _ _ _ h, Below.heap_setCell _ _ _ _ h, Below.heap_setCell _ _ _ _ h, Below.heap_setCell _ _ _ _ h, Below.heap_setCell _ _ _ _ h]
theorem set6_below {B k : Nat} {w W : World} {v0 v1 v2 v3 v4 v5 : Value} (h : Below B w W) (hk : B ≤ k) : Below B w (set6 W k v0 v1 v2 v3 v4 v5) :=
  below_set (below_set (below_set (below_set (below_set (below_set h hk) hk) hk) hk) hk) hk
theorem share9 {α1 α2 α3 α4 α5 α6 α7 α8 α9 β : Type} {G : Prop} (S : α1 → α2 → α3 → α4 → α5 → α6 → α7 → α8 → α9 → β → Prop) {Q : α1 → α2 → α3 → α4 → α5 → α6 → α7 → α8 → α9 → β → Prop} (leaf : (∀ a b c d e f g h i y, S a b c d e f g h i y → Q a b c d e f g h i y) → G) (main : ∀ a b c d e f g h i y, S a b c d e f g h i y → Q a b c d e f g h i y) : G := leaf main
theorem share7 {α1 α2 α3 α4 α5 α6 α7 β : Type} {G : Prop} (S : α1 → α2 → α3 → α4 → α5 → α6 → α7 → β → Prop) {Q : α1 → α2 → α3 → α4 → α5 → α6 → α7 → β → Prop} (leaf : (∀ a b c d e f g y, S a b c d e f g y → Q a b c d e f g y) → G) (main : ∀ a b c d e f g y, S a b c d e f g y → Q a b c d e f g y) : G := leaf main
/-- A step's answer, in a world in which the box X waits for the device. -/
structure Went (Q : Nat → Prop) (w W3 W : World) (X : Nat) (d' : DDisk) (l : List UInt8) (E0 : Option Addr) (m0 : Nat) (E1 : Option Addr) (m1 : Nat) (A5 : Option Addr) (c5 : Nat) : Prop where
  bel : Below W3.heap.size W3 W
  row : W.heap[X]? = some (.cells #[.slice none 0 0, .slice none 0 0, .int .i64 0, .bool false, .int .i64 0, .int .i64 0] 33 (0, 0))
  big : W3.heap.size ≤ X
  val : rDisk.val (fun b => (Q b ∨ w.heap.size + 3 ≤ b) ∧ b ≠ X) W (.agg #[.slice E0 d'.safe.length m0, .slice E1 d'.wait.length m1, .int .i64 d'.fuse, .bool d'.off, .int .i64 d'.reads, .int .i64 d'.writes]) d'
  out : Rep.byte.list.val (fun b => (Q b ∨ w.heap.size + 3 ≤ b) ∧ b ≠ X) W (.slice A5 l.length c5) l
def WritePost20 (Q : Nat → Prop) (w : World) (r : DDisk × Int) (e : Ending) (w' : World) : Prop :=
  ∃ z, e = .returned (.tuple #[z, .int .i64 r.2]) ∧ rDisk.val (fun b => Q b ∨ w.heap.size ≤ b) w' z r.1 ∧ Below w.heap.size w w'


set_option maxRecDepth 100000 in
set_option maxHeartbeats 4000000 in
/-- r20.Write -/
theorem rpageWrite_calls {Q Qc Qb : Nat → Prop} {w : World} {vd vc v : Value} {d : DDisk} {c : DConf} {epoch p : Int} {b : List UInt8} (hd : rDisk.val Q w vd d) (hc : rConf.val Qc w vc c) (he : (Lit.int .i64 epoch).wf = true) (hp : (Lit.int .i64 p).wf = true) (hx : Rep.byte.list.val Qb w v b) (hq : ∀ b, Q b → b < w.heap.size) (hn : d.wait.length ≤ 100000000) (hs : d.safe.length ≤ 100000000) (hk : ∀ y ∈ d.wait, 0 ≤ y.pos ∧ y.pos < d.safe.length) :
    Calls Try.prog 18 #[vd, vc, .int .i64 epoch, .int .i64 p, v] w (WritePost20 Q w (rpageWriteD d c epoch p b)) := by
  obtain ⟨A0, c0, A1, c1, rfl⟩ := rdisk_fields hd
  obtain ⟨A, cap, rfl, _⟩ := rConf_val hc
  obtain ⟨B, bc, rfl, _, hbm, _⟩ := Rep.val_list hx
  unfold maxLen at hbm
  have HQ := Lib.hid hq
  have HNW := Lib.hid hn
  have HNS := Lib.hid hs
  have HK := Lib.hid hk
  obtain ⟨W3, hW3⟩ : ∃ W3, ((w.alloc (.cells #[.slice A0 d.safe.length c0, .slice A1 d.wait.length c1, .int .i64 d.fuse, .bool d.off, .int .i64 d.reads, .int .i64 d.writes] 33)).alloc (.cells #[.int .i64 c.log, .int .i64 c.pages, .int .i64 c.entities, .int .i64 c.gens, .slice A c.comps.length cap] 24)).alloc (.cells #[.slice none 0 0, .slice none 0 0, .int .i64 0, .bool false, .int .i64 0, .int .i64 0] 33) = W3 := ⟨_, rfl⟩
  obtain ⟨hb3, hz3, hr0, hr1, hr2⟩ := three_rows hW3
  have HB := Lib.hid hb3
  have HZ := Lib.hid hz3
  have RD := Lib.hid (show ∀ W, Below W3.heap.size W3 W → W.heap[w.heap.size]? = some (.cells #[.slice A0 d.safe.length c0, .slice A1 d.wait.length c1, .int .i64 d.fuse, .bool d.off, .int .i64 d.reads, .int .i64 d.writes] 33 (0, 0)) from fun W h => (h.block _ (by omega)).trans hr0)
  have RC := Lib.hid (show ∀ W, Below W3.heap.size W3 W → W.heap[w.heap.size + 1]? = some (.cells #[.int .i64 c.log, .int .i64 c.pages, .int .i64 c.entities, .int .i64 c.gens, .slice A c.comps.length cap] 24 (0, 0)) from fun W h => (h.block _ (by omega)).trans hr1)
  have RZ := Lib.hid (show ∀ W, Below W3.heap.size W3 W → W.heap[w.heap.size + 1 + 1]? = some (.cells #[.slice none 0 0, .slice none 0 0, .int .i64 0, .bool false, .int .i64 0, .int .i64 0] 33 (0, 0)) from fun W h => (h.block _ (by omega)).trans hr2)
  have VD := Lib.hid (show ∀ W, Below W3.heap.size W3 W → rDisk.val Q W (.agg #[.slice A0 d.safe.length c0, .slice A1 d.wait.length c1, .int .i64 d.fuse, .bool d.off, .int .i64 d.reads, .int .i64 d.writes]) d from fun W h => Rep.val_below hd (hb3.trans (h.mono (by omega))) (fun _ _ h => h.lt))
  have VC := Lib.hid (show ∀ W, Below W3.heap.size W3 W → rConf.val (fun _ => True) W (.agg #[.int .i64 c.log, .int .i64 c.pages, .int .i64 c.entities, .int .i64 c.gens, .slice A c.comps.length cap]) c from fun W h => Rep.val_below (Rep.val_mono (fun _ _ _ => trivial) hc) (hb3.trans (h.mono (by omega))) (fun _ _ h => h.lt))
  have VX := Lib.hid (show ∀ W, Below W3.heap.size W3 W → Rep.byte.list.val (fun _ => True) W (.slice B b.length bc) b from fun W h => Rep.val_below (Rep.val_mono (fun _ _ _ => trivial) hx) (hb3.trans (h.mono (by omega))) (fun _ _ h => h.lt))
  have HE := Lib.hid he
  have HP := Lib.hid hp
  clear he hp hx
  have hfr : Try.f18.results = #[.cell 10 33, .tmp 11] := rfl
  obtain ⟨s, hs2⟩ : ∃ s, s = pageOf c p := ⟨_, rfl⟩
  have HN := Lib.hid hs2
  have HR := Lib.hid (rpage_le c p)
  clear hs2 hd hc hq hn hs hk hb3 hz3 hr0 hr1 hr2
  have c'0 := cell_row (RC.out W3 (Below.refl _ _)) 0
  have c'1 := cell_row (RC.out W3 (Below.refl _ _)) 1
  have c'2 := cell_row (RC.out W3 (Below.refl _ _)) 2
  have c'3 := cell_row (RC.out W3 (Below.refl _ _)) 3
  have c'4 := cell_row (RC.out W3 (Below.refl _ _)) 4
  by_cases h0 : s < 0
  · have HF := Lib.hid (show rpageWriteD d c epoch p b = (d, 2) from if_pos (by rw [← HN.out]; exact h0))
    go_enter Try.func18, Try.ntmps18
    go_wp2_with fail
    try rw [hW3]
    clear hW3
    try go_wp2_with fail
    refine (rpage_calls (p := p) (VC.out _ (Below.refl _ _))).mono ?_
    rintro e w2 ⟨rfl, hb2⟩
    rw [← HN.out]
    have D2 := Lib.hid hb2
    clear hb2
    clear c'0 c'1 c'2 c'3 c'4
    have e0 := cell_row (RD.out _ D2.out) 0
    have e1 := cell_row (RD.out _ D2.out) 1
    have e2 := cell_row (RD.out _ D2.out) 2
    have e3 := cell_row (RD.out _ D2.out) 3
    have e4 := cell_row (RD.out _ D2.out) 4
    have e5 := cell_row (RD.out _ D2.out) 5
    have g0 := cell_row (RZ.out _ D2.out) 0
    have g1 := cell_row (RZ.out _ D2.out) 1
    have g2 := cell_row (RZ.out _ D2.out) 2
    have g3 := cell_row (RZ.out _ D2.out) 3
    have g4 := cell_row (RZ.out _ D2.out) 4
    have g5 := cell_row (RZ.out _ D2.out) 5
    have z0 := frozen_row (RZ.out _ D2.out) 0
    have z1 := frozen_row (RZ.out _ D2.out) 1
    have z2 := frozen_row (RZ.out _ D2.out) 2
    have z3 := frozen_row (RZ.out _ D2.out) 3
    have z4 := frozen_row (RZ.out _ D2.out) 4
    have z5 := frozen_row (RZ.out _ D2.out) 5
    go_wp2_with fail
    refine ⟨rfl, .tuple #[.agg #[.slice A0 d.safe.length c0, .slice A1 d.wait.length c1, .int .i64 d.fuse, .bool d.off, .int .i64 d.reads, .int .i64 d.writes], .int .i64 2], ?_, ⟨_, by rw [HF.out], by rw [HF.out]; exact Rep.val_keep (fun k hk hl => ⟨.inl hk, set6_keep (by have := HQ.out k hk; omega)⟩) (VD.out _ D2.out), set6_below (HB.out.trans (D2.out.mono HB.out.size)) (by omega)⟩⟩
    simp only [results, hfr]
    go_simp
  by_cases h4 : (472 : Int) < b.length
  · have HF := Lib.hid (show rpageWriteD d c epoch p b = (d, 13) from (if_neg (by rw [← HN.out]; exact h0)).trans (if_pos (by omega)))
    go_enter Try.func18, Try.ntmps18
    go_wp2_with fail
    try rw [hW3]
    clear hW3
    try go_wp2_with fail
    refine (rpage_calls (p := p) (VC.out _ (Below.refl _ _))).mono ?_
    rintro e w2 ⟨rfl, hb2⟩
    rw [← HN.out]
    have D2 := Lib.hid hb2
    clear hb2
    clear c'0 c'1 c'2 c'3 c'4
    have e0 := cell_row (RD.out _ D2.out) 0
    have e1 := cell_row (RD.out _ D2.out) 1
    have e2 := cell_row (RD.out _ D2.out) 2
    have e3 := cell_row (RD.out _ D2.out) 3
    have e4 := cell_row (RD.out _ D2.out) 4
    have e5 := cell_row (RD.out _ D2.out) 5
    have g0 := cell_row (RZ.out _ D2.out) 0
    have g1 := cell_row (RZ.out _ D2.out) 1
    have g2 := cell_row (RZ.out _ D2.out) 2
    have g3 := cell_row (RZ.out _ D2.out) 3
    have g4 := cell_row (RZ.out _ D2.out) 4
    have g5 := cell_row (RZ.out _ D2.out) 5
    have z0 := frozen_row (RZ.out _ D2.out) 0
    have z1 := frozen_row (RZ.out _ D2.out) 1
    have z2 := frozen_row (RZ.out _ D2.out) 2
    have z3 := frozen_row (RZ.out _ D2.out) 3
    have z4 := frozen_row (RZ.out _ D2.out) 4
    have z5 := frozen_row (RZ.out _ D2.out) 5
    go_wp2_with fail
    refine ⟨rfl, .tuple #[.agg #[.slice A0 d.safe.length c0, .slice A1 d.wait.length c1, .int .i64 d.fuse, .bool d.off, .int .i64 d.reads, .int .i64 d.writes], .int .i64 13], ?_, ⟨_, by rw [HF.out], by rw [HF.out]; exact Rep.val_keep (fun k hk hl => ⟨.inl hk, set6_keep (by have := HQ.out k hk; omega)⟩) (VD.out _ D2.out), set6_below (HB.out.trans (D2.out.mono HB.out.size)) (by omega)⟩⟩
    simp only [results, hfr]
    go_simp
  have HSW := Lib.hid (show (Lit.int .i64 s).wf = true by have := HR.out; rw [← HN.out] at this; exact wf_i64 (by omega) (by omega))
  have HF0 := Lib.hid (show rpageWriteD d c epoch p b = ((goW d ⟨1, pageOf c p, pageBytes epoch p b, []⟩).1, (goW d ⟨1, pageOf c p, pageBytes epoch p b, []⟩).2.2) from (if_neg (by rw [← HN.out]; exact h0)).trans (if_neg (by omega)))
  obtain ⟨g, hg⟩ : ∃ g, g = goW d ⟨1, s, pageBytes epoch p b, []⟩ := ⟨_, rfl⟩
  have HGW := Lib.hid hg
  have HGP := Lib.hid (show goW d ⟨1, pageOf c p, pageBytes epoch p b, []⟩ = g by rw [hg, HN.out])
  clear hg
  obtain ⟨d', l, er⟩ := g
  go_enter Try.func18, Try.ntmps18
  go_wp2_with fail
  try rw [hW3]
  clear hW3
  try go_wp2_with fail
  refine (rpage_calls (p := p) (VC.out _ (Below.refl _ _))).mono ?_
  rintro e w2 ⟨rfl, hb2⟩
  rw [← HN.out]
  have D2 := Lib.hid hb2
  clear hb2
  clear c'0 c'1 c'2 c'3 c'4
  go_wp2_with fail
  refine wp_region_held_drew (S := fun W => Below W3.heap.size W3 W) (by kernel_rfl) (D2.out.drew) (fun s0 => ?_)
  obtain ⟨v0, hv0⟩ : ∃ W, W = w2.drew := ⟨_, rfl⟩
  rw [← hv0] at s0 ⊢
  have t0 : Below W3.heap.size W3 v0 := s0
  clear hv0
  apply share9 (fun (X : Nat) (E0 : Option Addr) (m0 : Nat) (E1 : Option Addr) (m1 : Nat) (A5 : Option Addr) (c5 : Nat) (_ : Option Addr) (_ : Nat) (W : World) => Went Q w W3 W X d' l E0 m0 E1 m1 A5 c5)
  · intro key
    have KEY := Lib.hid key
    clear key
    refine wpAnyH_take (i := 0) (v := .agg #[.slice A0 d.safe.length c0, .slice A1 d.wait.length c1, .int .i64 d.fuse, .bool d.off, .int .i64 d.reads, .int .i64 d.writes]) rfl (by kernel_rfl) (by kernel_rfl) (by kernel_rfl) (fun _ _ _ h => h) (Or.inl ⟨by rfl, fun w' h => by have x0 := cell_row (RD.out _ (h : Below W3.heap.size W3 w')) 0; have x1 := cell_row (RD.out _ (h : Below W3.heap.size W3 w')) 1; have x2 := cell_row (RD.out _ (h : Below W3.heap.size W3 w')) 2; have x3 := cell_row (RD.out _ (h : Below W3.heap.size W3 w')) 3; have x4 := cell_row (RD.out _ (h : Below W3.heap.size W3 w')) 4; have x5 := cell_row (RD.out _ (h : Below W3.heap.size W3 w')) 5; have y0 := cell_row (RC.out _ (h : Below W3.heap.size W3 w')) 0; have y1 := cell_row (RC.out _ (h : Below W3.heap.size W3 w')) 1; have y2 := cell_row (RC.out _ (h : Below W3.heap.size W3 w')) 2; have y3 := cell_row (RC.out _ (h : Below W3.heap.size W3 w')) 3; have y4 := cell_row (RC.out _ (h : Below W3.heap.size W3 w')) 4; go_simp⟩) t0 ?_
    go_simp
    refine wpAnyH_take (i := 1) (v := .agg #[.int .i64 c.log, .int .i64 c.pages, .int .i64 c.entities, .int .i64 c.gens, .slice A c.comps.length cap]) rfl (by kernel_rfl) (by kernel_rfl) (by kernel_rfl) (fun _ _ _ h => h) (Or.inl ⟨by rfl, fun w' h => by have x0 := cell_row (RD.out _ (h : Below W3.heap.size W3 w')) 0; have x1 := cell_row (RD.out _ (h : Below W3.heap.size W3 w')) 1; have x2 := cell_row (RD.out _ (h : Below W3.heap.size W3 w')) 2; have x3 := cell_row (RD.out _ (h : Below W3.heap.size W3 w')) 3; have x4 := cell_row (RD.out _ (h : Below W3.heap.size W3 w')) 4; have x5 := cell_row (RD.out _ (h : Below W3.heap.size W3 w')) 5; have y0 := cell_row (RC.out _ (h : Below W3.heap.size W3 w')) 0; have y1 := cell_row (RC.out _ (h : Below W3.heap.size W3 w')) 1; have y2 := cell_row (RC.out _ (h : Below W3.heap.size W3 w')) 2; have y3 := cell_row (RC.out _ (h : Below W3.heap.size W3 w')) 3; have y4 := cell_row (RC.out _ (h : Below W3.heap.size W3 w')) 4; go_simp⟩) t0 ?_
    go_simp
    refine wpAnyH_take (i := 2) (v := .int .i64 p) rfl (by kernel_rfl) (by kernel_rfl) (by kernel_rfl) (fun _ _ _ h => h) (Or.inl ⟨by rfl, fun w' _ => by go_simp⟩) t0 ?_
    go_simp
    refine wpAnyH_take (i := 4) (v := .int .i64 epoch) rfl (by kernel_rfl) (by kernel_rfl) (by kernel_rfl) (fun _ _ _ h => h) (Or.inl ⟨by rfl, fun w' _ => by go_simp⟩) t0 ?_
    go_simp
    refine wpAnyH_take (i := 5) (v := .int .i64 p) rfl (by kernel_rfl) (by kernel_rfl) (by kernel_rfl) (fun _ _ _ h => h) (Or.inl ⟨by rfl, fun w' _ => by go_simp⟩) t0 ?_
    go_simp
    refine wpAnyH_take (i := 6) (v := .slice B b.length bc) rfl (by kernel_rfl) (by kernel_rfl) (by kernel_rfl) (fun _ _ _ h => h) (Or.inl ⟨by rfl, fun w' _ => by go_simp⟩) t0 ?_
    go_simp
    refine wpAnyH_all (rs := [3, 14]) (by kernel_rfl) (by simp) ?_
    intro i hi
    have hi2 : i = 3 ∨ i = 14 := by simpa using hi
    clear hi
    rcases hi2 with rfl | rfl
    · skip
      refine wpOp_step rfl (fun K hK => ?_)
      go_simp
      refine (rpage_calls (p := p) (VC.out _ t0)).mono ?_
      rintro e v1 ⟨rfl, hb⟩
      rw [← HN.out]
      have t1 : Below W3.heap.size W3 v1 := Below.trans t0 (hb.mono (Below.size t0))
      refine hK _ _ ⟨t1, ?_⟩
      clear hb
      clear hK K
      refine wpAnyH_all (rs := [7, 14]) (by kernel_rfl) (by simp) ?_
      intro i hi
      have hi2 : i = 7 ∨ i = 14 := by simpa using hi
      clear hi
      rcases hi2 with rfl | rfl
      · skip
        refine wpOp_step rfl (fun K hK => ?_)
        go_simp
        refine (rpagePut_calls HE.out HP.out (VX.out _ t1)).mono ?_
        rintro e v2 ⟨u, rfl, hu, hb⟩
        have VP := Lib.hid (Rep.val_mono (Q' := fun _ => True) (fun _ _ _ => trivial) hu)
        obtain ⟨AP, cP, rfl, _, _, _⟩ := Rep.val_list hu
        clear hu
        have t2 : Below W3.heap.size W3 v2 := Below.trans t1 (hb.mono (Below.size t1))
        refine hK _ _ ⟨t2, ?_⟩
        clear hb
        clear hK K
        refine wpAnyH_take (i := 8) (v := .agg #[.int .i64 1, .int .i64 s, .slice AP (pageBytes epoch p b).length cP, .slice none 0 0]) rfl (by kernel_rfl) (by kernel_rfl) (by kernel_rfl) (fun _ _ _ h => h) (Or.inl ⟨by rfl, fun w' _ => by go_simp⟩) t2 ?_
        go_simp
        refine wpAnyH_all (rs := [9, 14]) (by kernel_rfl) (by simp) ?_
        intro i hi
        have hi2 : i = 9 ∨ i = 14 := by simpa using hi
        clear hi
        rcases hi2 with rfl | rfl
        · skip
          refine wpOp_step rfl (fun K hK => ?_)
          go_simp
          refine (rgo_calls (VD.out _ t2) (show rStep.val (fun k => k < v2.heap.size) v2 (.agg #[.int .i64 1, .int .i64 s, .slice AP (pageBytes epoch p b).length cP, .slice none 0 0]) ⟨1, s, pageBytes epoch p b, []⟩ from by obtain ⟨A', c', he, hsl⟩ := Rep.val_sl VP.out; cases he; exact rStep_agg (x := ⟨1, s, pageBytes epoch p b, []⟩) rfl HSW.out (hsl.keep fun k _ hl => ⟨hl.lt, rfl⟩) sl_nil) (fun b hb => Nat.lt_of_lt_of_le (HQ.out b hb) (by have := HB.out.size; have := Below.size t2; omega)) (fun b hb => hb) HNW.out HNS.out HK.out).mono ?_
          rintro e v3 ⟨z, u, rfl, hz, hu, hb⟩
          rw [← HGW.out] at hz hu ⊢
          dsimp only at hz hu ⊢
          obtain ⟨E0, m0, E1, m1, rfl⟩ := rdisk_fields hz
          obtain ⟨A5, c5, rfl, _, _, _⟩ := Rep.val_list hu
          have hXq : ∀ k, (Q k ∨ v2.heap.size ≤ k) → Q k ∨ w.heap.size + 3 ≤ k := fun k hk => hk.imp id (fun e => by have := HZ.out; have := Below.size t2; omega)
          have VZ := Lib.hid (Rep.val_mono (fun k hk _ => hXq k hk) hz)
          have VU := Lib.hid (Rep.val_mono (fun k hk _ => hXq k hk) hu)
          clear hXq
          clear hz hu
          have t3 : Below W3.heap.size W3 v3 := Below.trans t2 (hb.mono (Below.size t2))
          refine hK _ _ ⟨t3, ?_⟩
          clear hb
          clear hK K
          refine wpAnyH_take (i := 10) (v := .tuple #[.agg #[.slice E0 d'.safe.length m0, .slice E1 d'.wait.length m1, .int .i64 d'.fuse, .bool d'.off, .int .i64 d'.reads, .int .i64 d'.writes], .slice A5 l.length c5, .int .i64 er]) rfl (by kernel_rfl) (by kernel_rfl) (by kernel_rfl) (fun _ _ _ h => h) (Or.inl ⟨by rfl, fun w' _ => by go_simp⟩) t3 ?_
          go_simp
          refine wpAnyH_take (i := 11) (v := .agg #[.slice E0 d'.safe.length m0, .slice E1 d'.wait.length m1, .int .i64 d'.fuse, .bool d'.off, .int .i64 d'.reads, .int .i64 d'.writes]) rfl (by kernel_rfl) (by kernel_rfl) (by kernel_rfl) (fun _ _ _ h => h) (Or.inl ⟨by rfl, fun w' _ => by go_simp⟩) t3 ?_
          go_simp
          refine wpAnyH_take (i := 12) (v := .slice A5 l.length c5) rfl (by kernel_rfl) (by kernel_rfl) (by kernel_rfl) (fun _ _ _ h => h) (Or.inl ⟨by rfl, fun w' _ => by go_simp⟩) t3 ?_
          go_simp
          refine wpAnyH_take (i := 13) (v := .int .i64 er) rfl (by kernel_rfl) (by kernel_rfl) (by kernel_rfl) (fun _ _ _ h => h) (Or.inl ⟨by rfl, fun w' _ => by go_simp⟩) t3 ?_
          go_simp
          refine wpAnyH_all (rs := [14]) (by kernel_rfl) (by simp) ?_
          intro i hi
          obtain rfl : i = 14 := by simpa using hi
          clear hi
          refine wpOp_step rfl (fun K hK => ?_)
          go_simp
          obtain ⟨X, hX⟩ : ∃ X, X = v3.heap.size := ⟨_, rfl⟩
          have hbx : Below v3.heap.size v3 (v3.alloc (.cells #[.slice none 0 0, .slice none 0 0, .int .i64 0, .bool false, .int .i64 0, .int .i64 0] 33)) := (Below.refl _ _).alloc (Nat.le_refl _) _
          have hrow : (v3.alloc (.cells #[.slice none 0 0, .slice none 0 0, .int .i64 0, .bool false, .int .i64 0, .int .i64 0] 33)).heap[X]? = some (.cells #[.slice none 0 0, .slice none 0 0, .int .i64 0, .bool false, .int .i64 0, .int .i64 0] 33 (0, 0)) := by rw [hX]; exact heap_alloc_new _ _
          have hXb : W3.heap.size ≤ X := by rw [hX]; exact Below.size t3
          have t4 : Below W3.heap.size W3 (v3.alloc (.cells #[.slice none 0 0, .slice none 0 0, .int .i64 0, .bool false, .int .i64 0, .int .i64 0] 33)) := Below.trans t3 (hbx.mono (Below.size t3))
          have VZ := Lib.hid (Rep.val_keep (Q' := fun k => (Q k ∨ w.heap.size + 3 ≤ k) ∧ k ≠ X) (fun k hk hl => ⟨⟨hk, by rw [hX]; exact Nat.ne_of_lt hl.lt⟩, hbx.block k hl.lt⟩) VZ.out)
          have VU := Lib.hid (Rep.val_keep (Q' := fun k => (Q k ∨ w.heap.size + 3 ≤ k) ∧ k ≠ X) (fun k hk hl => ⟨⟨hk, by rw [hX]; exact Nat.ne_of_lt hl.lt⟩, hbx.block k hl.lt⟩) VU.out)
          rw [← hX]
          clear hbx hX
          generalize v3.alloc (.cells #[.slice none 0 0, .slice none 0 0, .int .i64 0, .bool false, .int .i64 0, .int .i64 0] 33) = v4 at *
          refine hK _ _ ⟨t4, ?_⟩
          clear hK K
          exact KEY.out X E0 m0 E1 m1 A5 c5 AP cP v4 ⟨t4, hrow, hXb, VZ.out, VU.out⟩
        · skip
          refine wpOp_step rfl (fun K hK => ?_)
          go_simp
          obtain ⟨X, hX⟩ : ∃ X, X = v2.heap.size := ⟨_, rfl⟩
          have hbx : Below v2.heap.size v2 (v2.alloc (.cells #[.slice none 0 0, .slice none 0 0, .int .i64 0, .bool false, .int .i64 0, .int .i64 0] 33)) := (Below.refl _ _).alloc (Nat.le_refl _) _
          have hrow : (v2.alloc (.cells #[.slice none 0 0, .slice none 0 0, .int .i64 0, .bool false, .int .i64 0, .int .i64 0] 33)).heap[X]? = some (.cells #[.slice none 0 0, .slice none 0 0, .int .i64 0, .bool false, .int .i64 0, .int .i64 0] 33 (0, 0)) := by rw [hX]; exact heap_alloc_new _ _
          have hXb : W3.heap.size ≤ X := by rw [hX]; exact Below.size t2
          have t5 : Below W3.heap.size W3 (v2.alloc (.cells #[.slice none 0 0, .slice none 0 0, .int .i64 0, .bool false, .int .i64 0, .int .i64 0] 33)) := Below.trans t2 (hbx.mono (Below.size t2))
          have VP := Lib.hid (Rep.val_below VP.out hbx (fun _ _ h => h.lt))
          rw [← hX]
          clear hbx hX
          generalize v2.alloc (.cells #[.slice none 0 0, .slice none 0 0, .int .i64 0, .bool false, .int .i64 0, .int .i64 0] 33) = v5 at *
          refine hK _ _ ⟨t5, ?_⟩
          clear hK K
          refine wpAnyH_all (rs := [9]) (by kernel_rfl) (by simp) ?_
          intro i hi
          obtain rfl : i = 9 := by simpa using hi
          clear hi
          refine wpOp_step rfl (fun K hK => ?_)
          go_simp
          refine (rgo_calls (VD.out _ t5) (show rStep.val (fun k => k < v5.heap.size) v5 (.agg #[.int .i64 1, .int .i64 s, .slice AP (pageBytes epoch p b).length cP, .slice none 0 0]) ⟨1, s, pageBytes epoch p b, []⟩ from by obtain ⟨A', c', he, hsl⟩ := Rep.val_sl VP.out; cases he; exact rStep_agg (x := ⟨1, s, pageBytes epoch p b, []⟩) rfl HSW.out (hsl.keep fun k _ hl => ⟨hl.lt, rfl⟩) sl_nil) (fun b hb => Nat.lt_of_lt_of_le (HQ.out b hb) (by have := HB.out.size; have := Below.size t5; omega)) (fun b hb => hb) HNW.out HNS.out HK.out).mono ?_
          rintro e v6 ⟨z, u, rfl, hz, hu, hb⟩
          rw [← HGW.out] at hz hu ⊢
          dsimp only at hz hu ⊢
          obtain ⟨E0, m0, E1, m1, rfl⟩ := rdisk_fields hz
          obtain ⟨A5, c5, rfl, _, _, _⟩ := Rep.val_list hu
          have hXlt : X < v5.heap.size := IsC.lt ⟨_, _, _, hrow⟩
          have hXq : ∀ k, (Q k ∨ v5.heap.size ≤ k) → (Q k ∨ w.heap.size + 3 ≤ k) ∧ k ≠ X := fun k hk => ⟨hk.imp id (fun e => by have := HZ.out; have := Below.size t5; omega), fun e => by rcases hk with hk | hk; (· have := HQ.out k hk; have := HB.out.size; omega); (· omega)⟩
          have VZ := Lib.hid (Rep.val_mono (fun k hk _ => hXq k hk) hz)
          have VU := Lib.hid (Rep.val_mono (fun k hk _ => hXq k hk) hu)
          clear hXlt hXq
          clear hz hu
          have t6 : Below W3.heap.size W3 v6 := Below.trans t5 (hb.mono (Below.size t5))
          have hrow := (hb.block X (IsC.lt ⟨_, _, _, hrow⟩)).trans hrow
          refine hK _ _ ⟨t6, ?_⟩
          clear hb
          clear hK K
          refine wpAnyH_take (i := 10) (v := .tuple #[.agg #[.slice E0 d'.safe.length m0, .slice E1 d'.wait.length m1, .int .i64 d'.fuse, .bool d'.off, .int .i64 d'.reads, .int .i64 d'.writes], .slice A5 l.length c5, .int .i64 er]) rfl (by kernel_rfl) (by kernel_rfl) (by kernel_rfl) (fun _ _ _ h => h) (Or.inl ⟨by rfl, fun w' _ => by go_simp⟩) t6 ?_
          go_simp
          refine wpAnyH_take (i := 11) (v := .agg #[.slice E0 d'.safe.length m0, .slice E1 d'.wait.length m1, .int .i64 d'.fuse, .bool d'.off, .int .i64 d'.reads, .int .i64 d'.writes]) rfl (by kernel_rfl) (by kernel_rfl) (by kernel_rfl) (fun _ _ _ h => h) (Or.inl ⟨by rfl, fun w' _ => by go_simp⟩) t6 ?_
          go_simp
          refine wpAnyH_take (i := 12) (v := .slice A5 l.length c5) rfl (by kernel_rfl) (by kernel_rfl) (by kernel_rfl) (fun _ _ _ h => h) (Or.inl ⟨by rfl, fun w' _ => by go_simp⟩) t6 ?_
          go_simp
          refine wpAnyH_take (i := 13) (v := .int .i64 er) rfl (by kernel_rfl) (by kernel_rfl) (by kernel_rfl) (fun _ _ _ h => h) (Or.inl ⟨by rfl, fun w' _ => by go_simp⟩) t6 ?_
          go_simp
          exact KEY.out X E0 m0 E1 m1 A5 c5 AP cP v6 ⟨t6, hrow, hXb, VZ.out, VU.out⟩
      · skip
        refine wpOp_step rfl (fun K hK => ?_)
        go_simp
        obtain ⟨X, hX⟩ : ∃ X, X = v1.heap.size := ⟨_, rfl⟩
        have hbx : Below v1.heap.size v1 (v1.alloc (.cells #[.slice none 0 0, .slice none 0 0, .int .i64 0, .bool false, .int .i64 0, .int .i64 0] 33)) := (Below.refl _ _).alloc (Nat.le_refl _) _
        have hrow : (v1.alloc (.cells #[.slice none 0 0, .slice none 0 0, .int .i64 0, .bool false, .int .i64 0, .int .i64 0] 33)).heap[X]? = some (.cells #[.slice none 0 0, .slice none 0 0, .int .i64 0, .bool false, .int .i64 0, .int .i64 0] 33 (0, 0)) := by rw [hX]; exact heap_alloc_new _ _
        have hXb : W3.heap.size ≤ X := by rw [hX]; exact Below.size t1
        have t7 : Below W3.heap.size W3 (v1.alloc (.cells #[.slice none 0 0, .slice none 0 0, .int .i64 0, .bool false, .int .i64 0, .int .i64 0] 33)) := Below.trans t1 (hbx.mono (Below.size t1))
        rw [← hX]
        clear hbx hX
        generalize v1.alloc (.cells #[.slice none 0 0, .slice none 0 0, .int .i64 0, .bool false, .int .i64 0, .int .i64 0] 33) = v7 at *
        refine hK _ _ ⟨t7, ?_⟩
        clear hK K
        refine wpAnyH_all (rs := [7]) (by kernel_rfl) (by simp) ?_
        intro i hi
        obtain rfl : i = 7 := by simpa using hi
        clear hi
        refine wpOp_step rfl (fun K hK => ?_)
        go_simp
        refine (rpagePut_calls HE.out HP.out (VX.out _ t7)).mono ?_
        rintro e v8 ⟨u, rfl, hu, hb⟩
        have VP := Lib.hid (Rep.val_mono (Q' := fun _ => True) (fun _ _ _ => trivial) hu)
        obtain ⟨AP, cP, rfl, _, _, _⟩ := Rep.val_list hu
        clear hu
        have t8 : Below W3.heap.size W3 v8 := Below.trans t7 (hb.mono (Below.size t7))
        have hrow := (hb.block X (IsC.lt ⟨_, _, _, hrow⟩)).trans hrow
        refine hK _ _ ⟨t8, ?_⟩
        clear hb
        clear hK K
        refine wpAnyH_take (i := 8) (v := .agg #[.int .i64 1, .int .i64 s, .slice AP (pageBytes epoch p b).length cP, .slice none 0 0]) rfl (by kernel_rfl) (by kernel_rfl) (by kernel_rfl) (fun _ _ _ h => h) (Or.inl ⟨by rfl, fun w' _ => by go_simp⟩) t8 ?_
        go_simp
        refine wpAnyH_all (rs := [9]) (by kernel_rfl) (by simp) ?_
        intro i hi
        obtain rfl : i = 9 := by simpa using hi
        clear hi
        refine wpOp_step rfl (fun K hK => ?_)
        go_simp
        refine (rgo_calls (VD.out _ t8) (show rStep.val (fun k => k < v8.heap.size) v8 (.agg #[.int .i64 1, .int .i64 s, .slice AP (pageBytes epoch p b).length cP, .slice none 0 0]) ⟨1, s, pageBytes epoch p b, []⟩ from by obtain ⟨A', c', he, hsl⟩ := Rep.val_sl VP.out; cases he; exact rStep_agg (x := ⟨1, s, pageBytes epoch p b, []⟩) rfl HSW.out (hsl.keep fun k _ hl => ⟨hl.lt, rfl⟩) sl_nil) (fun b hb => Nat.lt_of_lt_of_le (HQ.out b hb) (by have := HB.out.size; have := Below.size t8; omega)) (fun b hb => hb) HNW.out HNS.out HK.out).mono ?_
        rintro e v9 ⟨z, u, rfl, hz, hu, hb⟩
        rw [← HGW.out] at hz hu ⊢
        dsimp only at hz hu ⊢
        obtain ⟨E0, m0, E1, m1, rfl⟩ := rdisk_fields hz
        obtain ⟨A5, c5, rfl, _, _, _⟩ := Rep.val_list hu
        have hXlt : X < v8.heap.size := IsC.lt ⟨_, _, _, hrow⟩
        have hXq : ∀ k, (Q k ∨ v8.heap.size ≤ k) → (Q k ∨ w.heap.size + 3 ≤ k) ∧ k ≠ X := fun k hk => ⟨hk.imp id (fun e => by have := HZ.out; have := Below.size t8; omega), fun e => by rcases hk with hk | hk; (· have := HQ.out k hk; have := HB.out.size; omega); (· omega)⟩
        have VZ := Lib.hid (Rep.val_mono (fun k hk _ => hXq k hk) hz)
        have VU := Lib.hid (Rep.val_mono (fun k hk _ => hXq k hk) hu)
        clear hXlt hXq
        clear hz hu
        have t9 : Below W3.heap.size W3 v9 := Below.trans t8 (hb.mono (Below.size t8))
        have hrow := (hb.block X (IsC.lt ⟨_, _, _, hrow⟩)).trans hrow
        refine hK _ _ ⟨t9, ?_⟩
        clear hb
        clear hK K
        refine wpAnyH_take (i := 10) (v := .tuple #[.agg #[.slice E0 d'.safe.length m0, .slice E1 d'.wait.length m1, .int .i64 d'.fuse, .bool d'.off, .int .i64 d'.reads, .int .i64 d'.writes], .slice A5 l.length c5, .int .i64 er]) rfl (by kernel_rfl) (by kernel_rfl) (by kernel_rfl) (fun _ _ _ h => h) (Or.inl ⟨by rfl, fun w' _ => by go_simp⟩) t9 ?_
        go_simp
        refine wpAnyH_take (i := 11) (v := .agg #[.slice E0 d'.safe.length m0, .slice E1 d'.wait.length m1, .int .i64 d'.fuse, .bool d'.off, .int .i64 d'.reads, .int .i64 d'.writes]) rfl (by kernel_rfl) (by kernel_rfl) (by kernel_rfl) (fun _ _ _ h => h) (Or.inl ⟨by rfl, fun w' _ => by go_simp⟩) t9 ?_
        go_simp
        refine wpAnyH_take (i := 12) (v := .slice A5 l.length c5) rfl (by kernel_rfl) (by kernel_rfl) (by kernel_rfl) (fun _ _ _ h => h) (Or.inl ⟨by rfl, fun w' _ => by go_simp⟩) t9 ?_
        go_simp
        refine wpAnyH_take (i := 13) (v := .int .i64 er) rfl (by kernel_rfl) (by kernel_rfl) (by kernel_rfl) (fun _ _ _ h => h) (Or.inl ⟨by rfl, fun w' _ => by go_simp⟩) t9 ?_
        go_simp
        exact KEY.out X E0 m0 E1 m1 A5 c5 AP cP v9 ⟨t9, hrow, hXb, VZ.out, VU.out⟩
    · skip
      refine wpOp_step rfl (fun K hK => ?_)
      go_simp
      obtain ⟨X, hX⟩ : ∃ X, X = v0.heap.size := ⟨_, rfl⟩
      have hbx : Below v0.heap.size v0 (v0.alloc (.cells #[.slice none 0 0, .slice none 0 0, .int .i64 0, .bool false, .int .i64 0, .int .i64 0] 33)) := (Below.refl _ _).alloc (Nat.le_refl _) _
      have hrow : (v0.alloc (.cells #[.slice none 0 0, .slice none 0 0, .int .i64 0, .bool false, .int .i64 0, .int .i64 0] 33)).heap[X]? = some (.cells #[.slice none 0 0, .slice none 0 0, .int .i64 0, .bool false, .int .i64 0, .int .i64 0] 33 (0, 0)) := by rw [hX]; exact heap_alloc_new _ _
      have hXb : W3.heap.size ≤ X := by rw [hX]; exact Below.size t0
      have t10 : Below W3.heap.size W3 (v0.alloc (.cells #[.slice none 0 0, .slice none 0 0, .int .i64 0, .bool false, .int .i64 0, .int .i64 0] 33)) := Below.trans t0 (hbx.mono (Below.size t0))
      rw [← hX]
      clear hbx hX
      generalize v0.alloc (.cells #[.slice none 0 0, .slice none 0 0, .int .i64 0, .bool false, .int .i64 0, .int .i64 0] 33) = v10 at *
      refine hK _ _ ⟨t10, ?_⟩
      clear hK K
      refine wpAnyH_all (rs := [3]) (by kernel_rfl) (by simp) ?_
      intro i hi
      obtain rfl : i = 3 := by simpa using hi
      clear hi
      refine wpOp_step rfl (fun K hK => ?_)
      go_simp
      refine (rpage_calls (p := p) (VC.out _ t10)).mono ?_
      rintro e v11 ⟨rfl, hb⟩
      rw [← HN.out]
      have t11 : Below W3.heap.size W3 v11 := Below.trans t10 (hb.mono (Below.size t10))
      have hrow := (hb.block X (IsC.lt ⟨_, _, _, hrow⟩)).trans hrow
      refine hK _ _ ⟨t11, ?_⟩
      clear hb
      clear hK K
      refine wpAnyH_all (rs := [7]) (by kernel_rfl) (by simp) ?_
      intro i hi
      obtain rfl : i = 7 := by simpa using hi
      clear hi
      refine wpOp_step rfl (fun K hK => ?_)
      go_simp
      refine (rpagePut_calls HE.out HP.out (VX.out _ t11)).mono ?_
      rintro e v12 ⟨u, rfl, hu, hb⟩
      have VP := Lib.hid (Rep.val_mono (Q' := fun _ => True) (fun _ _ _ => trivial) hu)
      obtain ⟨AP, cP, rfl, _, _, _⟩ := Rep.val_list hu
      clear hu
      have t12 : Below W3.heap.size W3 v12 := Below.trans t11 (hb.mono (Below.size t11))
      have hrow := (hb.block X (IsC.lt ⟨_, _, _, hrow⟩)).trans hrow
      refine hK _ _ ⟨t12, ?_⟩
      clear hb
      clear hK K
      refine wpAnyH_take (i := 8) (v := .agg #[.int .i64 1, .int .i64 s, .slice AP (pageBytes epoch p b).length cP, .slice none 0 0]) rfl (by kernel_rfl) (by kernel_rfl) (by kernel_rfl) (fun _ _ _ h => h) (Or.inl ⟨by rfl, fun w' _ => by go_simp⟩) t12 ?_
      go_simp
      refine wpAnyH_all (rs := [9]) (by kernel_rfl) (by simp) ?_
      intro i hi
      obtain rfl : i = 9 := by simpa using hi
      clear hi
      refine wpOp_step rfl (fun K hK => ?_)
      go_simp
      refine (rgo_calls (VD.out _ t12) (show rStep.val (fun k => k < v12.heap.size) v12 (.agg #[.int .i64 1, .int .i64 s, .slice AP (pageBytes epoch p b).length cP, .slice none 0 0]) ⟨1, s, pageBytes epoch p b, []⟩ from by obtain ⟨A', c', he, hsl⟩ := Rep.val_sl VP.out; cases he; exact rStep_agg (x := ⟨1, s, pageBytes epoch p b, []⟩) rfl HSW.out (hsl.keep fun k _ hl => ⟨hl.lt, rfl⟩) sl_nil) (fun b hb => Nat.lt_of_lt_of_le (HQ.out b hb) (by have := HB.out.size; have := Below.size t12; omega)) (fun b hb => hb) HNW.out HNS.out HK.out).mono ?_
      rintro e v13 ⟨z, u, rfl, hz, hu, hb⟩
      rw [← HGW.out] at hz hu ⊢
      dsimp only at hz hu ⊢
      obtain ⟨E0, m0, E1, m1, rfl⟩ := rdisk_fields hz
      obtain ⟨A5, c5, rfl, _, _, _⟩ := Rep.val_list hu
      have hXlt : X < v12.heap.size := IsC.lt ⟨_, _, _, hrow⟩
      have hXq : ∀ k, (Q k ∨ v12.heap.size ≤ k) → (Q k ∨ w.heap.size + 3 ≤ k) ∧ k ≠ X := fun k hk => ⟨hk.imp id (fun e => by have := HZ.out; have := Below.size t12; omega), fun e => by rcases hk with hk | hk; (· have := HQ.out k hk; have := HB.out.size; omega); (· omega)⟩
      have VZ := Lib.hid (Rep.val_mono (fun k hk _ => hXq k hk) hz)
      have VU := Lib.hid (Rep.val_mono (fun k hk _ => hXq k hk) hu)
      clear hXlt hXq
      clear hz hu
      have t13 : Below W3.heap.size W3 v13 := Below.trans t12 (hb.mono (Below.size t12))
      have hrow := (hb.block X (IsC.lt ⟨_, _, _, hrow⟩)).trans hrow
      refine hK _ _ ⟨t13, ?_⟩
      clear hb
      clear hK K
      refine wpAnyH_take (i := 10) (v := .tuple #[.agg #[.slice E0 d'.safe.length m0, .slice E1 d'.wait.length m1, .int .i64 d'.fuse, .bool d'.off, .int .i64 d'.reads, .int .i64 d'.writes], .slice A5 l.length c5, .int .i64 er]) rfl (by kernel_rfl) (by kernel_rfl) (by kernel_rfl) (fun _ _ _ h => h) (Or.inl ⟨by rfl, fun w' _ => by go_simp⟩) t13 ?_
      go_simp
      refine wpAnyH_take (i := 11) (v := .agg #[.slice E0 d'.safe.length m0, .slice E1 d'.wait.length m1, .int .i64 d'.fuse, .bool d'.off, .int .i64 d'.reads, .int .i64 d'.writes]) rfl (by kernel_rfl) (by kernel_rfl) (by kernel_rfl) (fun _ _ _ h => h) (Or.inl ⟨by rfl, fun w' _ => by go_simp⟩) t13 ?_
      go_simp
      refine wpAnyH_take (i := 12) (v := .slice A5 l.length c5) rfl (by kernel_rfl) (by kernel_rfl) (by kernel_rfl) (fun _ _ _ h => h) (Or.inl ⟨by rfl, fun w' _ => by go_simp⟩) t13 ?_
      go_simp
      refine wpAnyH_take (i := 13) (v := .int .i64 er) rfl (by kernel_rfl) (by kernel_rfl) (by kernel_rfl) (fun _ _ _ h => h) (Or.inl ⟨by rfl, fun w' _ => by go_simp⟩) t13 ?_
      go_simp
      exact KEY.out X E0 m0 E1 m1 A5 c5 AP cP v13 ⟨t13, hrow, hXb, VZ.out, VU.out⟩
  · rintro X E0 m0 E1 m1 A5 c5 AP cP W hW
    have HW := Lib.hid hW
    refine wpAnyH_all (rs := [15]) (by kernel_rfl) (by simp) ?_
    intro i hi
    obtain rfl : i = 15 := by simpa using hi
    clear hi
    have hx := hW.row
    clear hW
    have e0 := cell_row (hx) 0
    have e1 := cell_row (hx) 1
    have e2 := cell_row (hx) 2
    have e3 := cell_row (hx) 3
    have e4 := cell_row (hx) 4
    have e5 := cell_row (hx) 5
    have z0 := frozen_row (hx) 0
    have z1 := frozen_row (hx) 1
    have z2 := frozen_row (hx) 2
    have z3 := frozen_row (hx) 3
    have z4 := frozen_row (hx) 4
    have z5 := frozen_row (hx) 5
    refine wpOp_step rfl (fun K hK => ?_)
    go_simp
    clear hx e0 e1 e2 e3 e4 e5 z0 z1 z2 z3 z4 z5
    obtain ⟨WE, hWE⟩ : ∃ WE, WE = set6 W X (.slice E0 d'.safe.length m0) (.slice E1 d'.wait.length m1) (.int .i64 d'.fuse) (.bool d'.off) (.int .i64 d'.reads) (.int .i64 d'.writes) := ⟨_, rfl⟩
    have hk2 : ∀ k, k ≠ X → WE.heap[k]? = W.heap[k]? := fun k hk => by rw [hWE]; exact set6_keep hk
    have HROW := Lib.hid (show WE.heap[X]? = some (.cells #[.slice E0 d'.safe.length m0, .slice E1 d'.wait.length m1, .int .i64 d'.fuse, .bool d'.off, .int .i64 d'.reads, .int .i64 d'.writes] 33 (0, 0)) by rw [hWE]; exact row6_set HW.out.row)
    have HBL := Lib.hid (show Below W3.heap.size W3 WE by rw [hWE]; exact set6_below HW.out.bel HW.out.big)
    have HVZ := Lib.hid (show rDisk.val (fun b => (Q b ∨ w.heap.size + 3 ≤ b) ∧ b ≠ X) WE (.agg #[.slice E0 d'.safe.length m0, .slice E1 d'.wait.length m1, .int .i64 d'.fuse, .bool d'.off, .int .i64 d'.reads, .int .i64 d'.writes]) d' from Rep.val_keep (fun k hk _ => ⟨hk, hk2 k hk.2⟩) HW.out.val)
    have HVU := Lib.hid (show Rep.byte.list.val (fun b => (Q b ∨ w.heap.size + 3 ≤ b) ∧ b ≠ X) WE (.slice A5 l.length c5) l from Rep.val_keep (fun k hk _ => ⟨hk, hk2 k hk.2⟩) HW.out.out)
    unfold set6 at hWE
    rw [← hWE]
    clear hk2 hWE
    refine hK _ _ ⟨HBL.out, ?_⟩
    clear hK K s0 t0
    have HF := Lib.hid (show rpageWriteD d c epoch p b = (d', er) by rw [HF0.out, HGP.out])
    refine wpAnyH_take (i := 16) (v := .slice A5 l.length c5) rfl (by kernel_rfl) (by kernel_rfl) (by kernel_rfl) (fun _ _ _ h => h) (Or.inl ⟨by rfl, fun w' _ => by go_simp⟩) HBL.out ?_
    go_simp
    refine wpAnyH_take (i := 17) (v := .int .i64 er) rfl (by kernel_rfl) (by kernel_rfl) (by kernel_rfl) (fun _ _ _ h => h) (Or.inl ⟨by rfl, fun w' _ => by go_simp⟩) HBL.out ?_
    go_simp
    refine wpAnyH_done (by kernel_rfl) ?_ _
    have e0 := cell_row (HROW.out) 0
    have e1 := cell_row (HROW.out) 1
    have e2 := cell_row (HROW.out) 2
    have e3 := cell_row (HROW.out) 3
    have e4 := cell_row (HROW.out) 4
    have e5 := cell_row (HROW.out) 5
    have g0 := cell_row (RZ.out _ HBL.out) 0
    have g1 := cell_row (RZ.out _ HBL.out) 1
    have g2 := cell_row (RZ.out _ HBL.out) 2
    have g3 := cell_row (RZ.out _ HBL.out) 3
    have g4 := cell_row (RZ.out _ HBL.out) 4
    have g5 := cell_row (RZ.out _ HBL.out) 5
    have z0 := frozen_row (RZ.out _ HBL.out) 0
    have z1 := frozen_row (RZ.out _ HBL.out) 1
    have z2 := frozen_row (RZ.out _ HBL.out) 2
    have z3 := frozen_row (RZ.out _ HBL.out) 3
    have z4 := frozen_row (RZ.out _ HBL.out) 4
    have z5 := frozen_row (RZ.out _ HBL.out) 5
    go_wp2_with fail
    refine ⟨rfl, .tuple #[.agg #[.slice E0 d'.safe.length m0, .slice E1 d'.wait.length m1, .int .i64 d'.fuse, .bool d'.off, .int .i64 d'.reads, .int .i64 d'.writes], .int .i64 er], ?_, ⟨_, by rw [HF.out], by rw [HF.out]; exact Rep.val_keep (fun k hk hl => ⟨hk.1.imp id (fun e => by omega), set6_keep (by rcases hk.1 with h | h; (· have := HQ.out k h; omega); (· omega))⟩) HVZ.out, set6_below (HB.out.trans (HBL.out.mono HB.out.size)) (by omega)⟩⟩
    simp only [results, hfr]
    go_simp

set_option maxRecDepth 100000 in
set_option maxHeartbeats 4000000 in
/-- r20.Read -/
theorem rpageRead_calls {Q Qc : Nat → Prop} {w : World} {vd vc : Value} {d : DDisk} {c : DConf} {p : Int} (hd : rDisk.val Q w vd d) (hc : rConf.val Qc w vc c) (hq : ∀ b, Q b → b < w.heap.size) (hn : d.wait.length ≤ 100000000) (hs : d.safe.length ≤ 100000000) (hk : ∀ y ∈ d.wait, 0 ≤ y.pos ∧ y.pos < d.safe.length) :
    Calls Try.prog 20 #[vd, vc, .int .i64 p] w (GoPost Q w (rpageReadD d c p)) := by
  obtain ⟨A0, c0, A1, c1, rfl⟩ := rdisk_fields hd
  obtain ⟨A, cap, rfl, _⟩ := rConf_val hc
  have HQ := Lib.hid hq
  have HNW := Lib.hid hn
  have HNS := Lib.hid hs
  have HK := Lib.hid hk
  obtain ⟨W3, hW3⟩ : ∃ W3, ((w.alloc (.cells #[.slice A0 d.safe.length c0, .slice A1 d.wait.length c1, .int .i64 d.fuse, .bool d.off, .int .i64 d.reads, .int .i64 d.writes] 33)).alloc (.cells #[.int .i64 c.log, .int .i64 c.pages, .int .i64 c.entities, .int .i64 c.gens, .slice A c.comps.length cap] 24)).alloc (.cells #[.slice none 0 0, .slice none 0 0, .int .i64 0, .bool false, .int .i64 0, .int .i64 0] 33) = W3 := ⟨_, rfl⟩
  obtain ⟨hb3, hz3, hr0, hr1, hr2⟩ := three_rows hW3
  have HB := Lib.hid hb3
  have HZ := Lib.hid hz3
  have RD := Lib.hid (show ∀ W, Below W3.heap.size W3 W → W.heap[w.heap.size]? = some (.cells #[.slice A0 d.safe.length c0, .slice A1 d.wait.length c1, .int .i64 d.fuse, .bool d.off, .int .i64 d.reads, .int .i64 d.writes] 33 (0, 0)) from fun W h => (h.block _ (by omega)).trans hr0)
  have RC := Lib.hid (show ∀ W, Below W3.heap.size W3 W → W.heap[w.heap.size + 1]? = some (.cells #[.int .i64 c.log, .int .i64 c.pages, .int .i64 c.entities, .int .i64 c.gens, .slice A c.comps.length cap] 24 (0, 0)) from fun W h => (h.block _ (by omega)).trans hr1)
  have RZ := Lib.hid (show ∀ W, Below W3.heap.size W3 W → W.heap[w.heap.size + 1 + 1]? = some (.cells #[.slice none 0 0, .slice none 0 0, .int .i64 0, .bool false, .int .i64 0, .int .i64 0] 33 (0, 0)) from fun W h => (h.block _ (by omega)).trans hr2)
  have VD := Lib.hid (show ∀ W, Below W3.heap.size W3 W → rDisk.val Q W (.agg #[.slice A0 d.safe.length c0, .slice A1 d.wait.length c1, .int .i64 d.fuse, .bool d.off, .int .i64 d.reads, .int .i64 d.writes]) d from fun W h => Rep.val_below hd (hb3.trans (h.mono (by omega))) (fun _ _ h => h.lt))
  have VC := Lib.hid (show ∀ W, Below W3.heap.size W3 W → rConf.val (fun _ => True) W (.agg #[.int .i64 c.log, .int .i64 c.pages, .int .i64 c.entities, .int .i64 c.gens, .slice A c.comps.length cap]) c from fun W h => Rep.val_below (Rep.val_mono (fun _ _ _ => trivial) hc) (hb3.trans (h.mono (by omega))) (fun _ _ h => h.lt))
  have hfr : Try.f20.results = #[.cell 6 33, .tmp 7, .tmp 8] := rfl
  obtain ⟨s, hs2⟩ : ∃ s, s = pageOf c p := ⟨_, rfl⟩
  have HN := Lib.hid hs2
  have HR := Lib.hid (rpage_le c p)
  clear hs2 hd hc hq hn hs hk hb3 hz3 hr0 hr1 hr2
  have c'0 := cell_row (RC.out W3 (Below.refl _ _)) 0
  have c'1 := cell_row (RC.out W3 (Below.refl _ _)) 1
  have c'2 := cell_row (RC.out W3 (Below.refl _ _)) 2
  have c'3 := cell_row (RC.out W3 (Below.refl _ _)) 3
  have c'4 := cell_row (RC.out W3 (Below.refl _ _)) 4
  by_cases h0 : s < 0
  · have HF := Lib.hid (show rpageReadD d c p = (d, [], 2) from if_pos (by rw [← HN.out]; exact h0))
    go_enter Try.func20, Try.ntmps20
    go_wp2_with fail
    try rw [hW3]
    clear hW3
    try go_wp2_with fail
    refine (rpage_calls (p := p) (VC.out _ (Below.refl _ _))).mono ?_
    rintro e w2 ⟨rfl, hb2⟩
    rw [← HN.out]
    have D2 := Lib.hid hb2
    clear hb2
    clear c'0 c'1 c'2 c'3 c'4
    have e0 := cell_row (RD.out _ D2.out) 0
    have e1 := cell_row (RD.out _ D2.out) 1
    have e2 := cell_row (RD.out _ D2.out) 2
    have e3 := cell_row (RD.out _ D2.out) 3
    have e4 := cell_row (RD.out _ D2.out) 4
    have e5 := cell_row (RD.out _ D2.out) 5
    have g0 := cell_row (RZ.out _ D2.out) 0
    have g1 := cell_row (RZ.out _ D2.out) 1
    have g2 := cell_row (RZ.out _ D2.out) 2
    have g3 := cell_row (RZ.out _ D2.out) 3
    have g4 := cell_row (RZ.out _ D2.out) 4
    have g5 := cell_row (RZ.out _ D2.out) 5
    have z0 := frozen_row (RZ.out _ D2.out) 0
    have z1 := frozen_row (RZ.out _ D2.out) 1
    have z2 := frozen_row (RZ.out _ D2.out) 2
    have z3 := frozen_row (RZ.out _ D2.out) 3
    have z4 := frozen_row (RZ.out _ D2.out) 4
    have z5 := frozen_row (RZ.out _ D2.out) 5
    go_wp2_with fail
    refine ⟨rfl, .tuple #[.agg #[.slice A0 d.safe.length c0, .slice A1 d.wait.length c1, .int .i64 d.fuse, .bool d.off, .int .i64 d.reads, .int .i64 d.writes], .slice none 0 0, .int .i64 2], ?_, ⟨_, _, by rw [HF.out], by rw [HF.out]; exact Rep.val_keep (fun k hk hl => ⟨.inl hk, set6_keep (by have := HQ.out k hk; omega)⟩) (VD.out _ D2.out), by rw [HF.out]; exact Rep.val_nil (by simp [maxLen]), set6_below (HB.out.trans (D2.out.mono HB.out.size)) (by omega)⟩⟩
    simp only [results, hfr]
    go_simp
  have HSW := Lib.hid (show (Lit.int .i64 s).wf = true by have := HR.out; rw [← HN.out] at this; exact wf_i64 (by omega) (by omega))
  have HF0 := Lib.hid (show rpageReadD d c p = if (goW d ⟨0, pageOf c p, [], []⟩).2.2 ≠ 0 then ((goW d ⟨0, pageOf c p, [], []⟩).1, [], (goW d ⟨0, pageOf c p, [], []⟩).2.2)
    else match pageGet (goW d ⟨0, pageOf c p, [], []⟩).2.1 p with
      | none => ((goW d ⟨0, pageOf c p, [], []⟩).1, [], 16)
      | some x => ((goW d ⟨0, pageOf c p, [], []⟩).1, x, 0) from if_neg (by rw [← HN.out]; exact h0))
  obtain ⟨g, hg⟩ : ∃ g, g = goW d ⟨0, s, [], []⟩ := ⟨_, rfl⟩
  have HGW := Lib.hid hg
  have HGP := Lib.hid (show goW d ⟨0, pageOf c p, [], []⟩ = g by rw [hg, HN.out])
  clear hg
  obtain ⟨d', l, er⟩ := g
  go_enter Try.func20, Try.ntmps20
  go_wp2_with fail
  try rw [hW3]
  clear hW3
  try go_wp2_with fail
  refine (rpage_calls (p := p) (VC.out _ (Below.refl _ _))).mono ?_
  rintro e w2 ⟨rfl, hb2⟩
  rw [← HN.out]
  have D2 := Lib.hid hb2
  clear hb2
  clear c'0 c'1 c'2 c'3 c'4
  go_wp2_with fail
  refine wp_region_held_drew (S := fun W => Below W3.heap.size W3 W) (by kernel_rfl) (D2.out.drew) (fun s0 => ?_)
  obtain ⟨v0, hv0⟩ : ∃ W, W = w2.drew := ⟨_, rfl⟩
  rw [← hv0] at s0 ⊢
  have t0 : Below W3.heap.size W3 v0 := s0
  clear hv0
  apply share7 (fun (X : Nat) (E0 : Option Addr) (m0 : Nat) (E1 : Option Addr) (m1 : Nat) (A5 : Option Addr) (c5 : Nat) (W : World) => Went Q w W3 W X d' l E0 m0 E1 m1 A5 c5)
  · intro key
    have KEY := Lib.hid key
    clear key
    refine wpAnyH_take (i := 0) (v := .agg #[.slice A0 d.safe.length c0, .slice A1 d.wait.length c1, .int .i64 d.fuse, .bool d.off, .int .i64 d.reads, .int .i64 d.writes]) rfl (by kernel_rfl) (by kernel_rfl) (by kernel_rfl) (fun _ _ _ h => h) (Or.inl ⟨by rfl, fun w' h => by have x0 := cell_row (RD.out _ (h : Below W3.heap.size W3 w')) 0; have x1 := cell_row (RD.out _ (h : Below W3.heap.size W3 w')) 1; have x2 := cell_row (RD.out _ (h : Below W3.heap.size W3 w')) 2; have x3 := cell_row (RD.out _ (h : Below W3.heap.size W3 w')) 3; have x4 := cell_row (RD.out _ (h : Below W3.heap.size W3 w')) 4; have x5 := cell_row (RD.out _ (h : Below W3.heap.size W3 w')) 5; have y0 := cell_row (RC.out _ (h : Below W3.heap.size W3 w')) 0; have y1 := cell_row (RC.out _ (h : Below W3.heap.size W3 w')) 1; have y2 := cell_row (RC.out _ (h : Below W3.heap.size W3 w')) 2; have y3 := cell_row (RC.out _ (h : Below W3.heap.size W3 w')) 3; have y4 := cell_row (RC.out _ (h : Below W3.heap.size W3 w')) 4; go_simp⟩) t0 ?_
    go_simp
    refine wpAnyH_take (i := 1) (v := .agg #[.int .i64 c.log, .int .i64 c.pages, .int .i64 c.entities, .int .i64 c.gens, .slice A c.comps.length cap]) rfl (by kernel_rfl) (by kernel_rfl) (by kernel_rfl) (fun _ _ _ h => h) (Or.inl ⟨by rfl, fun w' h => by have x0 := cell_row (RD.out _ (h : Below W3.heap.size W3 w')) 0; have x1 := cell_row (RD.out _ (h : Below W3.heap.size W3 w')) 1; have x2 := cell_row (RD.out _ (h : Below W3.heap.size W3 w')) 2; have x3 := cell_row (RD.out _ (h : Below W3.heap.size W3 w')) 3; have x4 := cell_row (RD.out _ (h : Below W3.heap.size W3 w')) 4; have x5 := cell_row (RD.out _ (h : Below W3.heap.size W3 w')) 5; have y0 := cell_row (RC.out _ (h : Below W3.heap.size W3 w')) 0; have y1 := cell_row (RC.out _ (h : Below W3.heap.size W3 w')) 1; have y2 := cell_row (RC.out _ (h : Below W3.heap.size W3 w')) 2; have y3 := cell_row (RC.out _ (h : Below W3.heap.size W3 w')) 3; have y4 := cell_row (RC.out _ (h : Below W3.heap.size W3 w')) 4; go_simp⟩) t0 ?_
    go_simp
    refine wpAnyH_take (i := 2) (v := .int .i64 p) rfl (by kernel_rfl) (by kernel_rfl) (by kernel_rfl) (fun _ _ _ h => h) (Or.inl ⟨by rfl, fun w' _ => by go_simp⟩) t0 ?_
    go_simp
    refine wpAnyH_all (rs := [3, 10]) (by kernel_rfl) (by simp) ?_
    intro i hi
    have hi2 : i = 3 ∨ i = 10 := by simpa using hi
    clear hi
    rcases hi2 with rfl | rfl
    · skip
      refine wpOp_step rfl (fun K hK => ?_)
      go_simp
      refine (rpage_calls (p := p) (VC.out _ t0)).mono ?_
      rintro e v1 ⟨rfl, hb⟩
      rw [← HN.out]
      have t1 : Below W3.heap.size W3 v1 := Below.trans t0 (hb.mono (Below.size t0))
      refine hK _ _ ⟨t1, ?_⟩
      clear hb
      clear hK K
      refine wpAnyH_take (i := 4) (v := .agg #[.int .i64 0, .int .i64 s, .slice none 0 0, .slice none 0 0]) rfl (by kernel_rfl) (by kernel_rfl) (by kernel_rfl) (fun _ _ _ h => h) (Or.inl ⟨by rfl, fun w' _ => by go_simp⟩) t1 ?_
      go_simp
      refine wpAnyH_all (rs := [5, 10]) (by kernel_rfl) (by simp) ?_
      intro i hi
      have hi2 : i = 5 ∨ i = 10 := by simpa using hi
      clear hi
      rcases hi2 with rfl | rfl
      · skip
        refine wpOp_step rfl (fun K hK => ?_)
        go_simp
        refine (rgo_calls (VD.out _ t1) (show rStep.val (fun k => k < v1.heap.size) v1 (.agg #[.int .i64 0, .int .i64 s, .slice none 0 0, .slice none 0 0]) ⟨0, s, [], []⟩ from rStep_agg (x := ⟨0, s, [], []⟩) rfl HSW.out sl_nil sl_nil) (fun b hb => Nat.lt_of_lt_of_le (HQ.out b hb) (by have := HB.out.size; have := Below.size t1; omega)) (fun b hb => hb) HNW.out HNS.out HK.out).mono ?_
        rintro e v2 ⟨z, u, rfl, hz, hu, hb⟩
        rw [← HGW.out] at hz hu ⊢
        dsimp only at hz hu ⊢
        obtain ⟨E0, m0, E1, m1, rfl⟩ := rdisk_fields hz
        obtain ⟨A5, c5, rfl, _, _, _⟩ := Rep.val_list hu
        have hXq : ∀ k, (Q k ∨ v1.heap.size ≤ k) → Q k ∨ w.heap.size + 3 ≤ k := fun k hk => hk.imp id (fun e => by have := HZ.out; have := Below.size t1; omega)
        have VZ := Lib.hid (Rep.val_mono (fun k hk _ => hXq k hk) hz)
        have VU := Lib.hid (Rep.val_mono (fun k hk _ => hXq k hk) hu)
        clear hXq
        clear hz hu
        have t2 : Below W3.heap.size W3 v2 := Below.trans t1 (hb.mono (Below.size t1))
        refine hK _ _ ⟨t2, ?_⟩
        clear hb
        clear hK K
        refine wpAnyH_take (i := 6) (v := .tuple #[.agg #[.slice E0 d'.safe.length m0, .slice E1 d'.wait.length m1, .int .i64 d'.fuse, .bool d'.off, .int .i64 d'.reads, .int .i64 d'.writes], .slice A5 l.length c5, .int .i64 er]) rfl (by kernel_rfl) (by kernel_rfl) (by kernel_rfl) (fun _ _ _ h => h) (Or.inl ⟨by rfl, fun w' _ => by go_simp⟩) t2 ?_
        go_simp
        refine wpAnyH_take (i := 7) (v := .agg #[.slice E0 d'.safe.length m0, .slice E1 d'.wait.length m1, .int .i64 d'.fuse, .bool d'.off, .int .i64 d'.reads, .int .i64 d'.writes]) rfl (by kernel_rfl) (by kernel_rfl) (by kernel_rfl) (fun _ _ _ h => h) (Or.inl ⟨by rfl, fun w' _ => by go_simp⟩) t2 ?_
        go_simp
        refine wpAnyH_take (i := 8) (v := .slice A5 l.length c5) rfl (by kernel_rfl) (by kernel_rfl) (by kernel_rfl) (fun _ _ _ h => h) (Or.inl ⟨by rfl, fun w' _ => by go_simp⟩) t2 ?_
        go_simp
        refine wpAnyH_take (i := 9) (v := .int .i64 er) rfl (by kernel_rfl) (by kernel_rfl) (by kernel_rfl) (fun _ _ _ h => h) (Or.inl ⟨by rfl, fun w' _ => by go_simp⟩) t2 ?_
        go_simp
        refine wpAnyH_all (rs := [10]) (by kernel_rfl) (by simp) ?_
        intro i hi
        obtain rfl : i = 10 := by simpa using hi
        clear hi
        refine wpOp_step rfl (fun K hK => ?_)
        go_simp
        obtain ⟨X, hX⟩ : ∃ X, X = v2.heap.size := ⟨_, rfl⟩
        have hbx : Below v2.heap.size v2 (v2.alloc (.cells #[.slice none 0 0, .slice none 0 0, .int .i64 0, .bool false, .int .i64 0, .int .i64 0] 33)) := (Below.refl _ _).alloc (Nat.le_refl _) _
        have hrow : (v2.alloc (.cells #[.slice none 0 0, .slice none 0 0, .int .i64 0, .bool false, .int .i64 0, .int .i64 0] 33)).heap[X]? = some (.cells #[.slice none 0 0, .slice none 0 0, .int .i64 0, .bool false, .int .i64 0, .int .i64 0] 33 (0, 0)) := by rw [hX]; exact heap_alloc_new _ _
        have hXb : W3.heap.size ≤ X := by rw [hX]; exact Below.size t2
        have t3 : Below W3.heap.size W3 (v2.alloc (.cells #[.slice none 0 0, .slice none 0 0, .int .i64 0, .bool false, .int .i64 0, .int .i64 0] 33)) := Below.trans t2 (hbx.mono (Below.size t2))
        have VZ := Lib.hid (Rep.val_keep (Q' := fun k => (Q k ∨ w.heap.size + 3 ≤ k) ∧ k ≠ X) (fun k hk hl => ⟨⟨hk, by rw [hX]; exact Nat.ne_of_lt hl.lt⟩, hbx.block k hl.lt⟩) VZ.out)
        have VU := Lib.hid (Rep.val_keep (Q' := fun k => (Q k ∨ w.heap.size + 3 ≤ k) ∧ k ≠ X) (fun k hk hl => ⟨⟨hk, by rw [hX]; exact Nat.ne_of_lt hl.lt⟩, hbx.block k hl.lt⟩) VU.out)
        rw [← hX]
        clear hbx hX
        generalize v2.alloc (.cells #[.slice none 0 0, .slice none 0 0, .int .i64 0, .bool false, .int .i64 0, .int .i64 0] 33) = v3 at *
        refine hK _ _ ⟨t3, ?_⟩
        clear hK K
        exact KEY.out X E0 m0 E1 m1 A5 c5 v3 ⟨t3, hrow, hXb, VZ.out, VU.out⟩
      · skip
        refine wpOp_step rfl (fun K hK => ?_)
        go_simp
        obtain ⟨X, hX⟩ : ∃ X, X = v1.heap.size := ⟨_, rfl⟩
        have hbx : Below v1.heap.size v1 (v1.alloc (.cells #[.slice none 0 0, .slice none 0 0, .int .i64 0, .bool false, .int .i64 0, .int .i64 0] 33)) := (Below.refl _ _).alloc (Nat.le_refl _) _
        have hrow : (v1.alloc (.cells #[.slice none 0 0, .slice none 0 0, .int .i64 0, .bool false, .int .i64 0, .int .i64 0] 33)).heap[X]? = some (.cells #[.slice none 0 0, .slice none 0 0, .int .i64 0, .bool false, .int .i64 0, .int .i64 0] 33 (0, 0)) := by rw [hX]; exact heap_alloc_new _ _
        have hXb : W3.heap.size ≤ X := by rw [hX]; exact Below.size t1
        have t4 : Below W3.heap.size W3 (v1.alloc (.cells #[.slice none 0 0, .slice none 0 0, .int .i64 0, .bool false, .int .i64 0, .int .i64 0] 33)) := Below.trans t1 (hbx.mono (Below.size t1))
        rw [← hX]
        clear hbx hX
        generalize v1.alloc (.cells #[.slice none 0 0, .slice none 0 0, .int .i64 0, .bool false, .int .i64 0, .int .i64 0] 33) = v4 at *
        refine hK _ _ ⟨t4, ?_⟩
        clear hK K
        refine wpAnyH_all (rs := [5]) (by kernel_rfl) (by simp) ?_
        intro i hi
        obtain rfl : i = 5 := by simpa using hi
        clear hi
        refine wpOp_step rfl (fun K hK => ?_)
        go_simp
        refine (rgo_calls (VD.out _ t4) (show rStep.val (fun k => k < v4.heap.size) v4 (.agg #[.int .i64 0, .int .i64 s, .slice none 0 0, .slice none 0 0]) ⟨0, s, [], []⟩ from rStep_agg (x := ⟨0, s, [], []⟩) rfl HSW.out sl_nil sl_nil) (fun b hb => Nat.lt_of_lt_of_le (HQ.out b hb) (by have := HB.out.size; have := Below.size t4; omega)) (fun b hb => hb) HNW.out HNS.out HK.out).mono ?_
        rintro e v5 ⟨z, u, rfl, hz, hu, hb⟩
        rw [← HGW.out] at hz hu ⊢
        dsimp only at hz hu ⊢
        obtain ⟨E0, m0, E1, m1, rfl⟩ := rdisk_fields hz
        obtain ⟨A5, c5, rfl, _, _, _⟩ := Rep.val_list hu
        have hXlt : X < v4.heap.size := IsC.lt ⟨_, _, _, hrow⟩
        have hXq : ∀ k, (Q k ∨ v4.heap.size ≤ k) → (Q k ∨ w.heap.size + 3 ≤ k) ∧ k ≠ X := fun k hk => ⟨hk.imp id (fun e => by have := HZ.out; have := Below.size t4; omega), fun e => by rcases hk with hk | hk; (· have := HQ.out k hk; have := HB.out.size; omega); (· omega)⟩
        have VZ := Lib.hid (Rep.val_mono (fun k hk _ => hXq k hk) hz)
        have VU := Lib.hid (Rep.val_mono (fun k hk _ => hXq k hk) hu)
        clear hXlt hXq
        clear hz hu
        have t5 : Below W3.heap.size W3 v5 := Below.trans t4 (hb.mono (Below.size t4))
        have hrow := (hb.block X (IsC.lt ⟨_, _, _, hrow⟩)).trans hrow
        refine hK _ _ ⟨t5, ?_⟩
        clear hb
        clear hK K
        refine wpAnyH_take (i := 6) (v := .tuple #[.agg #[.slice E0 d'.safe.length m0, .slice E1 d'.wait.length m1, .int .i64 d'.fuse, .bool d'.off, .int .i64 d'.reads, .int .i64 d'.writes], .slice A5 l.length c5, .int .i64 er]) rfl (by kernel_rfl) (by kernel_rfl) (by kernel_rfl) (fun _ _ _ h => h) (Or.inl ⟨by rfl, fun w' _ => by go_simp⟩) t5 ?_
        go_simp
        refine wpAnyH_take (i := 7) (v := .agg #[.slice E0 d'.safe.length m0, .slice E1 d'.wait.length m1, .int .i64 d'.fuse, .bool d'.off, .int .i64 d'.reads, .int .i64 d'.writes]) rfl (by kernel_rfl) (by kernel_rfl) (by kernel_rfl) (fun _ _ _ h => h) (Or.inl ⟨by rfl, fun w' _ => by go_simp⟩) t5 ?_
        go_simp
        refine wpAnyH_take (i := 8) (v := .slice A5 l.length c5) rfl (by kernel_rfl) (by kernel_rfl) (by kernel_rfl) (fun _ _ _ h => h) (Or.inl ⟨by rfl, fun w' _ => by go_simp⟩) t5 ?_
        go_simp
        refine wpAnyH_take (i := 9) (v := .int .i64 er) rfl (by kernel_rfl) (by kernel_rfl) (by kernel_rfl) (fun _ _ _ h => h) (Or.inl ⟨by rfl, fun w' _ => by go_simp⟩) t5 ?_
        go_simp
        exact KEY.out X E0 m0 E1 m1 A5 c5 v5 ⟨t5, hrow, hXb, VZ.out, VU.out⟩
    · skip
      refine wpOp_step rfl (fun K hK => ?_)
      go_simp
      obtain ⟨X, hX⟩ : ∃ X, X = v0.heap.size := ⟨_, rfl⟩
      have hbx : Below v0.heap.size v0 (v0.alloc (.cells #[.slice none 0 0, .slice none 0 0, .int .i64 0, .bool false, .int .i64 0, .int .i64 0] 33)) := (Below.refl _ _).alloc (Nat.le_refl _) _
      have hrow : (v0.alloc (.cells #[.slice none 0 0, .slice none 0 0, .int .i64 0, .bool false, .int .i64 0, .int .i64 0] 33)).heap[X]? = some (.cells #[.slice none 0 0, .slice none 0 0, .int .i64 0, .bool false, .int .i64 0, .int .i64 0] 33 (0, 0)) := by rw [hX]; exact heap_alloc_new _ _
      have hXb : W3.heap.size ≤ X := by rw [hX]; exact Below.size t0
      have t6 : Below W3.heap.size W3 (v0.alloc (.cells #[.slice none 0 0, .slice none 0 0, .int .i64 0, .bool false, .int .i64 0, .int .i64 0] 33)) := Below.trans t0 (hbx.mono (Below.size t0))
      rw [← hX]
      clear hbx hX
      generalize v0.alloc (.cells #[.slice none 0 0, .slice none 0 0, .int .i64 0, .bool false, .int .i64 0, .int .i64 0] 33) = v6 at *
      refine hK _ _ ⟨t6, ?_⟩
      clear hK K
      refine wpAnyH_all (rs := [3]) (by kernel_rfl) (by simp) ?_
      intro i hi
      obtain rfl : i = 3 := by simpa using hi
      clear hi
      refine wpOp_step rfl (fun K hK => ?_)
      go_simp
      refine (rpage_calls (p := p) (VC.out _ t6)).mono ?_
      rintro e v7 ⟨rfl, hb⟩
      rw [← HN.out]
      have t7 : Below W3.heap.size W3 v7 := Below.trans t6 (hb.mono (Below.size t6))
      have hrow := (hb.block X (IsC.lt ⟨_, _, _, hrow⟩)).trans hrow
      refine hK _ _ ⟨t7, ?_⟩
      clear hb
      clear hK K
      refine wpAnyH_take (i := 4) (v := .agg #[.int .i64 0, .int .i64 s, .slice none 0 0, .slice none 0 0]) rfl (by kernel_rfl) (by kernel_rfl) (by kernel_rfl) (fun _ _ _ h => h) (Or.inl ⟨by rfl, fun w' _ => by go_simp⟩) t7 ?_
      go_simp
      refine wpAnyH_all (rs := [5]) (by kernel_rfl) (by simp) ?_
      intro i hi
      obtain rfl : i = 5 := by simpa using hi
      clear hi
      refine wpOp_step rfl (fun K hK => ?_)
      go_simp
      refine (rgo_calls (VD.out _ t7) (show rStep.val (fun k => k < v7.heap.size) v7 (.agg #[.int .i64 0, .int .i64 s, .slice none 0 0, .slice none 0 0]) ⟨0, s, [], []⟩ from rStep_agg (x := ⟨0, s, [], []⟩) rfl HSW.out sl_nil sl_nil) (fun b hb => Nat.lt_of_lt_of_le (HQ.out b hb) (by have := HB.out.size; have := Below.size t7; omega)) (fun b hb => hb) HNW.out HNS.out HK.out).mono ?_
      rintro e v8 ⟨z, u, rfl, hz, hu, hb⟩
      rw [← HGW.out] at hz hu ⊢
      dsimp only at hz hu ⊢
      obtain ⟨E0, m0, E1, m1, rfl⟩ := rdisk_fields hz
      obtain ⟨A5, c5, rfl, _, _, _⟩ := Rep.val_list hu
      have hXlt : X < v7.heap.size := IsC.lt ⟨_, _, _, hrow⟩
      have hXq : ∀ k, (Q k ∨ v7.heap.size ≤ k) → (Q k ∨ w.heap.size + 3 ≤ k) ∧ k ≠ X := fun k hk => ⟨hk.imp id (fun e => by have := HZ.out; have := Below.size t7; omega), fun e => by rcases hk with hk | hk; (· have := HQ.out k hk; have := HB.out.size; omega); (· omega)⟩
      have VZ := Lib.hid (Rep.val_mono (fun k hk _ => hXq k hk) hz)
      have VU := Lib.hid (Rep.val_mono (fun k hk _ => hXq k hk) hu)
      clear hXlt hXq
      clear hz hu
      have t8 : Below W3.heap.size W3 v8 := Below.trans t7 (hb.mono (Below.size t7))
      have hrow := (hb.block X (IsC.lt ⟨_, _, _, hrow⟩)).trans hrow
      refine hK _ _ ⟨t8, ?_⟩
      clear hb
      clear hK K
      refine wpAnyH_take (i := 6) (v := .tuple #[.agg #[.slice E0 d'.safe.length m0, .slice E1 d'.wait.length m1, .int .i64 d'.fuse, .bool d'.off, .int .i64 d'.reads, .int .i64 d'.writes], .slice A5 l.length c5, .int .i64 er]) rfl (by kernel_rfl) (by kernel_rfl) (by kernel_rfl) (fun _ _ _ h => h) (Or.inl ⟨by rfl, fun w' _ => by go_simp⟩) t8 ?_
      go_simp
      refine wpAnyH_take (i := 7) (v := .agg #[.slice E0 d'.safe.length m0, .slice E1 d'.wait.length m1, .int .i64 d'.fuse, .bool d'.off, .int .i64 d'.reads, .int .i64 d'.writes]) rfl (by kernel_rfl) (by kernel_rfl) (by kernel_rfl) (fun _ _ _ h => h) (Or.inl ⟨by rfl, fun w' _ => by go_simp⟩) t8 ?_
      go_simp
      refine wpAnyH_take (i := 8) (v := .slice A5 l.length c5) rfl (by kernel_rfl) (by kernel_rfl) (by kernel_rfl) (fun _ _ _ h => h) (Or.inl ⟨by rfl, fun w' _ => by go_simp⟩) t8 ?_
      go_simp
      refine wpAnyH_take (i := 9) (v := .int .i64 er) rfl (by kernel_rfl) (by kernel_rfl) (by kernel_rfl) (fun _ _ _ h => h) (Or.inl ⟨by rfl, fun w' _ => by go_simp⟩) t8 ?_
      go_simp
      exact KEY.out X E0 m0 E1 m1 A5 c5 v8 ⟨t8, hrow, hXb, VZ.out, VU.out⟩
  · rintro X E0 m0 E1 m1 A5 c5 W hW
    have HW := Lib.hid hW
    refine wpAnyH_all (rs := [11]) (by kernel_rfl) (by simp) ?_
    intro i hi
    obtain rfl : i = 11 := by simpa using hi
    clear hi
    have hx := hW.row
    clear hW
    have e0 := cell_row (hx) 0
    have e1 := cell_row (hx) 1
    have e2 := cell_row (hx) 2
    have e3 := cell_row (hx) 3
    have e4 := cell_row (hx) 4
    have e5 := cell_row (hx) 5
    have z0 := frozen_row (hx) 0
    have z1 := frozen_row (hx) 1
    have z2 := frozen_row (hx) 2
    have z3 := frozen_row (hx) 3
    have z4 := frozen_row (hx) 4
    have z5 := frozen_row (hx) 5
    refine wpOp_step rfl (fun K hK => ?_)
    go_simp
    clear hx e0 e1 e2 e3 e4 e5 z0 z1 z2 z3 z4 z5
    obtain ⟨WE, hWE⟩ : ∃ WE, WE = set6 W X (.slice E0 d'.safe.length m0) (.slice E1 d'.wait.length m1) (.int .i64 d'.fuse) (.bool d'.off) (.int .i64 d'.reads) (.int .i64 d'.writes) := ⟨_, rfl⟩
    have hk2 : ∀ k, k ≠ X → WE.heap[k]? = W.heap[k]? := fun k hk => by rw [hWE]; exact set6_keep hk
    have HROW := Lib.hid (show WE.heap[X]? = some (.cells #[.slice E0 d'.safe.length m0, .slice E1 d'.wait.length m1, .int .i64 d'.fuse, .bool d'.off, .int .i64 d'.reads, .int .i64 d'.writes] 33 (0, 0)) by rw [hWE]; exact row6_set HW.out.row)
    have HBL := Lib.hid (show Below W3.heap.size W3 WE by rw [hWE]; exact set6_below HW.out.bel HW.out.big)
    have HVZ := Lib.hid (show rDisk.val (fun b => (Q b ∨ w.heap.size + 3 ≤ b) ∧ b ≠ X) WE (.agg #[.slice E0 d'.safe.length m0, .slice E1 d'.wait.length m1, .int .i64 d'.fuse, .bool d'.off, .int .i64 d'.reads, .int .i64 d'.writes]) d' from Rep.val_keep (fun k hk _ => ⟨hk, hk2 k hk.2⟩) HW.out.val)
    have HVU := Lib.hid (show Rep.byte.list.val (fun b => (Q b ∨ w.heap.size + 3 ≤ b) ∧ b ≠ X) WE (.slice A5 l.length c5) l from Rep.val_keep (fun k hk _ => ⟨hk, hk2 k hk.2⟩) HW.out.out)
    unfold set6 at hWE
    rw [← hWE]
    clear hk2 hWE
    refine hK _ _ ⟨HBL.out, ?_⟩
    clear hK K s0 t0
    refine wpAnyH_take (i := 12) (v := .slice A5 l.length c5) rfl (by kernel_rfl) (by kernel_rfl) (by kernel_rfl) (fun _ _ _ h => h) (Or.inl ⟨by rfl, fun w' _ => by go_simp⟩) HBL.out ?_
    go_simp
    refine wpAnyH_take (i := 13) (v := .int .i64 er) rfl (by kernel_rfl) (by kernel_rfl) (by kernel_rfl) (fun _ _ _ h => h) (Or.inl ⟨by rfl, fun w' _ => by go_simp⟩) HBL.out ?_
    go_simp
    refine wpAnyH_done (by kernel_rfl) ?_ _
    have HF1 := Lib.hid (show rpageReadD d c p = if er ≠ 0 then (d', [], er) else match pageGet l p with | none => (d', [], 16) | some x => (d', x, 0) by rw [HF0.out, HGP.out])
    by_cases hz : er = 0
    case neg =>
      have hzb : (er != 0) = true := by simpa using hz
      have HF := Lib.hid (show rpageReadD d c p = (d', [], er) by rw [HF1.out]; exact if_pos hz)
      clear hz
      have e0 := cell_row (HROW.out) 0
      have e1 := cell_row (HROW.out) 1
      have e2 := cell_row (HROW.out) 2
      have e3 := cell_row (HROW.out) 3
      have e4 := cell_row (HROW.out) 4
      have e5 := cell_row (HROW.out) 5
      have g0 := cell_row (RZ.out _ HBL.out) 0
      have g1 := cell_row (RZ.out _ HBL.out) 1
      have g2 := cell_row (RZ.out _ HBL.out) 2
      have g3 := cell_row (RZ.out _ HBL.out) 3
      have g4 := cell_row (RZ.out _ HBL.out) 4
      have g5 := cell_row (RZ.out _ HBL.out) 5
      have z0 := frozen_row (RZ.out _ HBL.out) 0
      have z1 := frozen_row (RZ.out _ HBL.out) 1
      have z2 := frozen_row (RZ.out _ HBL.out) 2
      have z3 := frozen_row (RZ.out _ HBL.out) 3
      have z4 := frozen_row (RZ.out _ HBL.out) 4
      have z5 := frozen_row (RZ.out _ HBL.out) 5
      go_wp2_with fail
      refine ⟨rfl, .tuple #[.agg #[.slice E0 d'.safe.length m0, .slice E1 d'.wait.length m1, .int .i64 d'.fuse, .bool d'.off, .int .i64 d'.reads, .int .i64 d'.writes], .slice none 0 0, .int .i64 er], ?_, ⟨_, _, by rw [HF.out], by rw [HF.out]; exact Rep.val_keep (fun k hk hl => ⟨hk.1.imp id (fun e => by omega), set6_keep (by rcases hk.1 with h | h; (· have := HQ.out k h; omega); (· omega))⟩) HVZ.out, by rw [HF.out]; exact Rep.val_nil (by simp [maxLen]), set6_below (HB.out.trans ((HBL.out).mono HB.out.size)) (by omega)⟩⟩
      simp only [results, hfr]
      go_simp
    subst hz
    go_wp2_with fail
    refine (rpageGet_calls HVU.out).mono ?_
    rintro e w4 ⟨u4, rfl, hu4, hb4⟩
    have HRO4 := Lib.hid ((hb4.block X (IsC.lt ⟨_, _, _, HROW.out⟩)).trans HROW.out)
    have HBL4 := Lib.hid (HBL.out.trans (hb4.mono HBL.out.size))
    have HVZ4 := Lib.hid (Rep.val_below HVZ.out hb4 (fun _ _ h => h.lt))
    have HSZ4 := Lib.hid (show W3.heap.size ≤ WE.heap.size from HBL.out.size)
    obtain ⟨y, hy⟩ : ∃ y, y = pageGet l p := ⟨_, rfl⟩
    rw [← hy] at hu4 ⊢
    have HY := Lib.hid hy
    have HU4 := Lib.hid hu4
    obtain ⟨A9, c9, rfl, _, _, _⟩ := Rep.val_list hu4
    clear hu4 hb4 hy
    cases y with
    | none =>
      have HF := Lib.hid (show rpageReadD d c p = (d', [], 16) by rw [HF1.out, if_neg (fun h => h rfl), ← HY.out])
      have e0 := cell_row (HRO4.out) 0
      have e1 := cell_row (HRO4.out) 1
      have e2 := cell_row (HRO4.out) 2
      have e3 := cell_row (HRO4.out) 3
      have e4 := cell_row (HRO4.out) 4
      have e5 := cell_row (HRO4.out) 5
      have g0 := cell_row (RZ.out _ HBL4.out) 0
      have g1 := cell_row (RZ.out _ HBL4.out) 1
      have g2 := cell_row (RZ.out _ HBL4.out) 2
      have g3 := cell_row (RZ.out _ HBL4.out) 3
      have g4 := cell_row (RZ.out _ HBL4.out) 4
      have g5 := cell_row (RZ.out _ HBL4.out) 5
      have z0 := frozen_row (RZ.out _ HBL4.out) 0
      have z1 := frozen_row (RZ.out _ HBL4.out) 1
      have z2 := frozen_row (RZ.out _ HBL4.out) 2
      have z3 := frozen_row (RZ.out _ HBL4.out) 3
      have z4 := frozen_row (RZ.out _ HBL4.out) 4
      have z5 := frozen_row (RZ.out _ HBL4.out) 5
      go_wp2_with fail
      refine ⟨rfl, .tuple #[.agg #[.slice E0 d'.safe.length m0, .slice E1 d'.wait.length m1, .int .i64 d'.fuse, .bool d'.off, .int .i64 d'.reads, .int .i64 d'.writes], .slice none 0 0, .int .i64 16], ?_, ⟨_, _, by rw [HF.out], by rw [HF.out]; exact Rep.val_keep (fun k hk hl => ⟨hk.1.imp id (fun e => by omega), set6_keep (by rcases hk.1 with h | h; (· have := HQ.out k h; omega); (· omega))⟩) HVZ4.out, by rw [HF.out]; exact Rep.val_nil (by simp [maxLen]), set6_below (HB.out.trans ((HBL4.out).mono HB.out.size)) (by omega)⟩⟩
      simp only [results, hfr]
      go_simp
    | some x =>
      have HF := Lib.hid (show rpageReadD d c p = (d', x, 0) by rw [HF1.out, if_neg (fun h => h rfl), ← HY.out])
      have HU5 := Lib.hid (show Rep.byte.list.val (fun k => WE.heap.size ≤ k) w4 (.slice A9 x.length c9) x from HU4.out)
      have e0 := cell_row (HRO4.out) 0
      have e1 := cell_row (HRO4.out) 1
      have e2 := cell_row (HRO4.out) 2
      have e3 := cell_row (HRO4.out) 3
      have e4 := cell_row (HRO4.out) 4
      have e5 := cell_row (HRO4.out) 5
      have g0 := cell_row (RZ.out _ HBL4.out) 0
      have g1 := cell_row (RZ.out _ HBL4.out) 1
      have g2 := cell_row (RZ.out _ HBL4.out) 2
      have g3 := cell_row (RZ.out _ HBL4.out) 3
      have g4 := cell_row (RZ.out _ HBL4.out) 4
      have g5 := cell_row (RZ.out _ HBL4.out) 5
      have z0 := frozen_row (RZ.out _ HBL4.out) 0
      have z1 := frozen_row (RZ.out _ HBL4.out) 1
      have z2 := frozen_row (RZ.out _ HBL4.out) 2
      have z3 := frozen_row (RZ.out _ HBL4.out) 3
      have z4 := frozen_row (RZ.out _ HBL4.out) 4
      have z5 := frozen_row (RZ.out _ HBL4.out) 5
      go_wp2_with fail
      refine ⟨rfl, .tuple #[.agg #[.slice E0 d'.safe.length m0, .slice E1 d'.wait.length m1, .int .i64 d'.fuse, .bool d'.off, .int .i64 d'.reads, .int .i64 d'.writes], .slice A9 x.length c9, .int .i64 0], ?_, ⟨_, _, by rw [HF.out], by rw [HF.out]; exact Rep.val_keep (fun k hk hl => ⟨hk.1.imp id (fun e => by omega), set6_keep (by rcases hk.1 with h | h; (· have := HQ.out k h; omega); (· omega))⟩) HVZ4.out, by rw [HF.out]; exact Rep.val_keep (fun k hk hl => ⟨.inr (by have := HZ.out; have := HSZ4.out; have hk2 : WE.heap.size ≤ k := hk; omega), set6_keep (by have := HZ.out; have := HSZ4.out; have hk2 : WE.heap.size ≤ k := hk; omega)⟩) HU5.out, set6_below (HB.out.trans ((HBL4.out).mono HB.out.size)) (by omega)⟩⟩
      simp only [results, hfr]
      go_simp
end Go.Proofs.Ytfpmkenobphfnaa
