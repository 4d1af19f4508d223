/- Texts on which the proofs stand: Dev, PageDev. No condition is laid on any input. -/
import Derived.Test.YtfpmkenobphfnaaPstDiskWrite
import Derived.Test.YtfpmkenobphfnaaPstG16
import Derived.Test.YtfpmkenobphfnaaPstG17
import Derived.Test.YtfpmkenobphfnaaPstG7
import Derived.Test.YtfpmkenobphfnaaPstPages
/- A device among blocks that are not its own: the walks of its functions, said of it. -/
namespace Go.Proofs.Ytfpmkenobphfnaa
open Go.RowKit

/-- A device lies at P, and writes no block of K. -/
def DevAt (K : Nat → Prop) (W : World) (P n : Nat) (st : DiskSt) : Prop := (∀ b, K b → b < W.heap.size) ∧ ∃ F B, DiskAt W P F B n st ∧ ∀ b, F b ∨ B b → ¬ K b
/-- Blocks of K are as0 they were. -/
structure Kept (K : Nat → Prop) (W W' : World) : Prop where
  os : W'.os = W.os
  tape : W'.tape = W.tape
  output : W'.output = W.output
  size : W.heap.size ≤ W'.heap.size
  block : ∀ b, K b → W'.heap[b]? = W.heap[b]?
theorem Kept.refl (K : Nat → Prop) (W : World) : Kept K W W := ⟨rfl, rfl, rfl, Nat.le_refl _, fun _ _ => rfl⟩
theorem Kept.trans {K : Nat → Prop} {X Y Z : World} (h : Kept K X Y) (k : Kept K Y Z) : Kept K X Z :=
  ⟨k.os.trans h.os, k.tape.trans h.tape, k.output.trans h.output, Nat.le_trans h.size k.size, fun b hb => (k.block b hb).trans (h.block b hb)⟩
theorem Kept.less {K K' : Nat → Prop} {X Y : World} (h : Kept K X Y) (hk : ∀ b, K' b → K b) : Kept K' X Y := ⟨h.os, h.tape, h.output, h.size, fun b hb => h.block b (hk b hb)⟩
theorem Kept.of_below {K : Nat → Prop} {X Y : World} (h : Below X.heap.size X Y) (hk : ∀ b, K b → b < X.heap.size) : Kept K X Y := ⟨h.os, h.tape, h.output, h.size, fun b hb => h.block b (hk b hb)⟩
theorem Kept.of_only {K F : Nat → Prop} {X Y : World} (h : Only F X Y) (hk : ∀ b, K b → b < X.heap.size) (hf : ∀ b, F b → ¬ K b) : Kept K X Y := ⟨h.os, h.tape, h.output, h.size, fun b hb => h.block b (hk b hb) (fun e => hf b e hb)⟩
theorem Kept.below {K : Nat → Prop} {X Y : World} {base : Nat} (h : Kept K X Y) (hk : ∀ b, b < base → K b) : Below base X Y := ⟨h.os, h.tape, h.output, h.size, fun b hl => h.block b (hk b hl)⟩
theorem Kept.val {α : Type} {r : Rep α} {K Q : Nat → Prop} {X Y : World} {v : Value} {x : α} (h : Kept K X Y) (hq : ∀ b, Q b → K b) (hv : r.val Q X v x) : r.val Q Y v x := Rep.val_keep (fun b hb _ => ⟨hb, h.block b (hq b hb)⟩) hv
theorem Kept.cell {K : Nat → Prop} {X Y : World} {p : Addr} (h : Kept K X Y) (hk : K p.block) : Y.cell? p = X.cell? p := by
  simp only [World.cell?, h.block _ hk]

namespace DevAt
variable {K : Nat → Prop} {W W' : World} {P n : Nat} {st : DiskSt}
theorem lt (h : DevAt K W P n st) : ∀ b, K b → b < W.heap.size := h.1
/-- New blocks are none of its own. -/
theorem grow (h : DevAt K W P n st) {K' : Nat → Prop} (hb : Below W.heap.size W W') (hk : ∀ b, K' b → K b ∨ (W.heap.size ≤ b ∧ b < W'.heap.size)) : DevAt K' W' P n st := by
  obtain ⟨hl, F, B, hd, hf⟩ := h
  have hlt : ∀ b, F b ∨ B b → b < W.heap.size := fun b hb => by obtain ⟨_, _, _, _, hd⟩ := hd; exact hd.lt b hb
  exact ⟨fun b hb' => (hk b hb').elim (fun e => Nat.lt_of_lt_of_le (hl b e) hb.size) (fun e => e.2), F, B, hd.below hb, fun b hF hK => (hk b hK).elim (hf b hF) (fun e => by have := hlt b hF; omega)⟩
theorem below (h : DevAt K W P n st) (hb : Below W.heap.size W W') : DevAt K W' P n st := h.grow hb fun _ => .inl
theorem less (h : DevAt K W P n st) {K' : Nat → Prop} (hk : ∀ b, K' b → K b) : DevAt K' W P n st := by
  obtain ⟨hl, F, B, hd, hf⟩ := h
  exact ⟨fun b hb => hl b (hk b hb), F, B, hd, fun b hF hK => hf b hF (hk b hK)⟩
theorem more (h : DevAt K W P n st) {n' : Nat} (hn : n ≤ n') : DevAt K W P n' st := by
  obtain ⟨hl, F, B, ⟨_, _, _, _, hd⟩, hf⟩ := h
  exact ⟨hl, F, B, ⟨_, _, _, _, hd.more hn⟩, hf⟩
/-- A block that is none of its own is written. -/
theorem set (h : DevAt K W P n st) {b i : Nat} {v : Value} (hb : K b) : DevAt K (W.setCell ⟨b, i, none⟩ v) P n st := by
  obtain ⟨hl, F, B, hd, hf⟩ := h
  refine ⟨fun x hx => by have := hl x hx; simpa using this, F, B, hd.keep (by simp) (fun x hx => Below.heap_setCell _ _ _ _ ?_), hf⟩
  rintro rfl
  exact hf _ hx hb
end DevAt

def DevNew (w : World) (n : Int) (e : Ending) (W : World) : Prop := ∃ P, e = .returned (.pointer (some ⟨P, 0, none⟩)) ∧ DevAt (fun b => b < w.heap.size) W P 0 (newSt (List.replicate (newN n) (zeros 512))) ∧ Below w.heap.size w W
theorem dev_new {n : Int} (h0 : 0 ≤ n) (h1 : n ≤ 4096) (w : World) : Calls Try.prog 12 #[.int .i64 n] w (DevNew w n) := by
  refine (dnew_calls h0 h1 w).mono ?_
  rintro e w1 ⟨P, M, Sf, cs, xs, rfl, hnew, hz⟩
  have hd := hnew.disk
  have hold := hnew.old
  have he : xs.map (·.1) = List.replicate (newN n) (zeros 512) := by
    rw [List.eq_replicate_iff]
    exact ⟨by rw [List.length_map]; exact hnew.len, fun b hb => by obtain ⟨x, hx, rfl⟩ := List.mem_map.1 hb; exact hz x hx⟩
  rw [he] at hd
  exact ⟨P, rfl, ⟨fun b hb => Nat.lt_of_lt_of_le hb hnew.bel.size, _, _, hd, fun b hF hK => by have := hold b hF; have hK' : b < w.heap.size := hK; omega⟩, hnew.bel⟩

section
variable {K : Nat → Prop} {W : World} {P n : Nat} {st : DiskSt}

def DevStep (K : Nat → Prop) (P n : Nat) (W : World) (k : Int) (st : DiskSt) (e : Ending) (W' : World) : Prop := e = .returned (.int .i64 k) ∧ DevAt K W' P n st ∧ Kept K W W'
def DevVoid (K : Nat → Prop) (P n : Nat) (W : World) (st : DiskSt) (e : Ending) (W' : World) : Prop := e = .returned (.tuple #[]) ∧ DevAt K W' P n st ∧ Kept K W W'
def DevRead (K : Nat → Prop) (P n : Nat) (W : World) (r : DiskSt × List UInt8 × Int) (e : Ending) (W' : World) : Prop :=
  ∃ u, e = .returned (.tuple #[u, .int .i64 r.2.2]) ∧ Rep.byte.list.val (fun b => W.heap.size ≤ b) W' u r.2.1 ∧ DevAt K W' P n r.1 ∧ Kept K W W'

theorem dev_write {Q : Nat → Prop} {i : Int} {v : Value} {b : List UInt8} (h : DevAt K W P n st) (hi : (Lit.int .i64 i).wf = true) (hn : n ≤ 1000000000) (hx : Rep.byte.list.val Q W v b) (hQ : ∀ k, Q k → K k) :
    Calls Try.prog 89 #[.pointer (some ⟨P, 0, none⟩), .int .i64 i, v] W (DevStep K P (n + 1) W (writeSt st i b).2 (writeSt st i b).1) := by
  obtain ⟨hl, F, B, hd, hf⟩ := h
  refine (dwrite_calls hd hi hn hx (fun k hk hF => hf k (.inl hF) (hQ k hk))).mono ?_
  rintro e w1 ⟨rfl, ho, F', B', hd', h1, h2, _⟩
  exact ⟨rfl, ⟨fun b hb => Nat.lt_of_lt_of_le (hl b hb) ho.size, F', B', hd', fun b hF hK => hF.elim (fun hF => (h1 b hF).elim (fun e => hf b (.inl e) hK) (fun e => by have := hl b hK; omega)) (fun hB => (h2 b hB).elim (fun e => hf b (.inr e) hK) (fun e => by have := hl b hK; omega))⟩, Kept.of_only ho hl fun b hb => hf b (.inl hb)⟩
theorem dev_fuse {k : Int} (h : DevAt K W P n st) (hk : (Lit.int .i64 k).wf = true) : Calls Try.prog 14 #[.pointer (some ⟨P, 0, none⟩), .int .i64 k] W (DevVoid K P n W (fuseSt st k)) := by
  obtain ⟨hl, F, B, hd, hf⟩ := h
  refine (fuse_calls hd hk).mono ?_
  rintro e w1 ⟨rfl, hd', ho⟩
  exact ⟨rfl, ⟨fun b hb => Nat.lt_of_lt_of_le (hl b hb) ho.size, F, B, hd', hf⟩, Kept.of_only ho hl fun b hb => hf b (.inl hb)⟩
theorem dev_read {i : Int} (h : DevAt K W P n st) (hi : (Lit.int .i64 i).wf = true) (hl : ∀ x ∈ st.safe, x.length ≤ 100000) (hw : ∀ j, ∀ x ∈ st.wait j, x.length ≤ 100000) :
    Calls Try.prog 93 #[.pointer (some ⟨P, 0, none⟩), .int .i64 i] W (DevRead K P n W (readSt st i)) := by
  obtain ⟨hlt, F, B, hd, hf⟩ := h
  refine (dread_calls hd hi hl hw).mono ?_
  rintro e w1 ⟨u, rfl, hu, hd', ho⟩
  exact ⟨u, rfl, hu, ⟨fun b hb => Nat.lt_of_lt_of_le (hlt b hb) ho.size, F, B, hd', hf⟩, Kept.of_only ho hlt fun b hb => hf b (.inl hb)⟩
theorem dev_dirty (h : DevAt K W P n st) (hn : n ≤ 1000000000) : Calls Try.prog 23 #[.pointer (some ⟨P, 0, none⟩)] W (ResA (Rep.int .i64) 3 W (dirtyOf st)) := by
  obtain ⟨_, F, B, hd, _⟩ := h
  exact ddirty_calls hd hn
theorem dev_size (h : DevAt K W P n st) : Calls Try.prog 172 #[.pointer (some ⟨P, 0, none⟩)] W fun e W' => e = .returned (.int .i64 st.safe.length) ∧ W' = W := by
  obtain ⟨_, F, B, hd, _⟩ := h
  exact dsize_disk hd
end
end Go.Proofs.Ytfpmkenobphfnaa
/- Walks of the writing and the reading of a page, of a device. Printed by gen_pagedev.py. -/
namespace Go.Proofs.Ytfpmkenobphfnaa
open Go.RowKit

theorem pageOf_le (c : DConf) (p : Int) : -1 ≤ pageOf c p ∧ pageOf c p ≤ 2050 := by
  unfold pageOf
  split
  · rename_i h; have := right_log_pages h.1; omega
  · omega
/-- What a page's writing makes of a device, and its error. -/
def pageWriteSt (st : DiskSt) (c : DConf) (epoch p : Int) (b : List UInt8) : DiskSt × Int :=
  if pageOf c p < 0 then (st, 2) else if 472 < b.length then (st, 13) else writeSt st (pageOf c p) (pageBytes epoch p b)
/-- What a page's reading makes of a device, its bytes, and its error. -/
def pageReadSt (st : DiskSt) (c : DConf) (p : Int) : DiskSt × List UInt8 × Int :=
  if pageOf c p < 0 then (st, [], 2) else if (readSt st (pageOf c p)).2.2 ≠ 0 then ((readSt st (pageOf c p)).1, [], (readSt st (pageOf c p)).2.2)
  else match pageGet (readSt st (pageOf c p)).2.1 p with
    | none => ((readSt st (pageOf c p)).1, [], 16)
    | some x => ((readSt st (pageOf c p)).1, x, 0)

set_option maxRecDepth 100000 in
set_option maxHeartbeats 2000000 in
/-- page.Write -/
theorem pageWrite_calls {K Qc Q : Nat → Prop} {w : World} {P n : Nat} {st : DiskSt} {vc v : Value} {c : DConf} {epoch p : Int} {b : List UInt8} (h : DevAt K w P n st) (hn : n ≤ 1000000000) (hc : rConf.val Qc w vc c) (he : (Lit.int .i64 epoch).wf = true) (hp : (Lit.int .i64 p).wf = true) (hx : Rep.byte.list.val Q w v b) :
    Calls Try.prog 17 #[.pointer (some ⟨P, 0, none⟩), vc, .int .i64 epoch, .int .i64 p, v] w (DevStep K P (n + 1) w (pageWriteSt st c epoch p b).2 (pageWriteSt st c epoch p b).1) := by
  obtain ⟨B, bc, rfl, _, hbm, _⟩ := Rep.val_list hx
  unfold maxLen at hbm
  obtain ⟨A, cap, rfl, _⟩ := rConf_val hc
  have hm := InBox.made hc 24
  have hbel : Below w.heap.size w (w.alloc (.cells #[.int .i64 c.log, .int .i64 c.pages, .int .i64 c.entities, .int .i64 c.gens, .slice A c.comps.length cap] 24)) := (Below.refl _ _).alloc (Nat.le_refl _) _
  have hsz : (w.alloc (.cells #[.int .i64 c.log, .int .i64 c.pages, .int .i64 c.entities, .int .i64 c.gens, .slice A c.comps.length cap] 24)).heap.size = w.heap.size + 1 := by simp
  generalize hW1 : w.alloc (.cells #[.int .i64 c.log, .int .i64 c.pages, .int .i64 c.entities, .int .i64 c.gens, .slice A c.comps.length cap] 24) = W1 at *
  have HM := Lib.hid hm
  have HB := Lib.hid hbel
  obtain ⟨a0, a1, a2, a3, a4, _⟩ := hm
  clear hc hbel hsz
  have HD := Lib.hid h
  have HX := Lib.hid hx
  have HE := Lib.hid he
  have HP := Lib.hid hp
  have HNN := Lib.hid hn
  clear h hx he hp hn
  obtain ⟨s, hs⟩ : ∃ s, s = pageOf c p := ⟨_, rfl⟩
  have HN := Lib.hid hs
  have HR := Lib.hid (pageOf_le c p)
  clear hs
  by_cases h0 : s < 0
  · have HF := Lib.hid (show pageWriteSt st c epoch p b = (st, 2) from if_pos (by rw [← HN.out]; exact h0))
    go_enter Try.func17, Try.ntmps17
    go_wp2_with fail
    try rw [hW1]
    clear hW1
    try go_wp2_with fail
    refine (at_calls (c := c) HM.out.val).mono ?_
    rintro e w2 ⟨rfl, hb2⟩
    rw [← HN.out, if_pos h0, if_pos h0]
    go_wp2_with fail
    go_ret
    rw [HF.out]
    have hbb := HB.out.trans (hb2.mono HB.out.size)
    exact ⟨rfl, (HD.out.below hbb).more (Nat.le_succ _), Kept.of_below hbb HD.out.lt⟩
  by_cases h4 : (472 : Int) < b.length
  · have HF := Lib.hid (show pageWriteSt st c epoch p b = (st, 13) from (if_neg (by rw [← HN.out]; exact h0)).trans (if_pos (by omega)))
    go_enter Try.func17, Try.ntmps17
    go_wp2_with fail
    try rw [hW1]
    clear hW1
    try go_wp2_with fail
    refine (at_calls (c := c) HM.out.val).mono ?_
    rintro e w2 ⟨rfl, hb2⟩
    rw [← HN.out, if_neg (show ¬ s < 0 by omega), if_neg (show ¬ s < 0 by omega)]
    go_wp2_with fail
    go_ret
    rw [HF.out]
    have hbb := HB.out.trans (hb2.mono HB.out.size)
    exact ⟨rfl, (HD.out.below hbb).more (Nat.le_succ _), Kept.of_below hbb HD.out.lt⟩
  have HF := Lib.hid (show pageWriteSt st c epoch p b = writeSt st s (pageBytes epoch p b) by rw [HN.out]; exact (if_neg (by rw [← HN.out]; exact h0)).trans (if_neg (by omega)))
  have HSW := Lib.hid (show (Lit.int .i64 s).wf = true by have := HR.out; rw [← HN.out] at this; exact wf_i64 (by omega) (by omega))
  go_enter Try.func17, Try.ntmps17
  go_wp2_with fail
  try rw [hW1]
  clear hW1
  try go_wp2_with fail
  refine (at_calls (c := c) HM.out.val).mono ?_
  rintro e w2 ⟨rfl, hb2⟩
  rw [← HN.out, if_neg (show ¬ s < 0 by omega), if_neg (show ¬ s < 0 by omega)]
  have hbb := HB.out.trans (hb2.mono HB.out.size)
  have HBB := Lib.hid hbb
  have HX2 := Lib.hid (Rep.val_below HX.out hbb (fun _ _ h => h.lt))
  clear hb2 hbb
  go_wp2_with fail
  refine (pagePut_calls HE.out HP.out HX2.out).mono ?_
  rintro e w3 ⟨u, rfl, hu, hb3⟩
  have HB3 := Lib.hid (HBB.out.trans (hb3.mono HBB.out.size))
  have HU := Lib.hid (show Rep.byte.list.val (fun k => w2.heap.size ≤ k ∧ k < w3.heap.size) w3 u (pageBytes epoch p b) from Rep.val_keep (fun k hk hl => ⟨⟨hk, hl.lt⟩, rfl⟩) hu)
  have HD3 := Lib.hid (HD.out.grow (K' := fun k => K k ∨ (w.heap.size ≤ k ∧ k < w3.heap.size)) HB3.out (fun k hk => hk))
  clear hu hb3
  go_wp2_with fail
  refine (dev_write HD3.out HSW.out HNN.out HU.out (fun k hk => .inr ⟨by have := HBB.out.size; omega, hk.2⟩)).mono ?_
  rintro e w4 ⟨rfl, hd4, hk4⟩
  have HD4 := Lib.hid hd4
  have HK4 := Lib.hid hk4
  rw [← HF.out]
  clear hd4 hk4
  go_wp2_with fail
  go_ret
  exact ⟨rfl, HF.out ▸ HD4.out.less (fun k hk => .inl hk), (Kept.of_below HB3.out HD.out.lt).trans (HK4.out.less (fun k hk => .inl hk))⟩

set_option maxRecDepth 100000 in
set_option maxHeartbeats 2000000 in
/-- page.Read -/
theorem pageRead_calls {K Qc : Nat → Prop} {w : World} {P n : Nat} {st : DiskSt} {vc : Value} {c : DConf} {p : Int} (h : DevAt K w P n st) (hc : rConf.val Qc w vc c) (hl : ∀ x ∈ st.safe, x.length ≤ 100000) (hw : ∀ j, ∀ x ∈ st.wait j, x.length ≤ 100000) :
    Calls Try.prog 19 #[.pointer (some ⟨P, 0, none⟩), vc, .int .i64 p] w (DevRead K P n w (pageReadSt st c p)) := by
  obtain ⟨A, cap, rfl, _⟩ := rConf_val hc
  have hm := InBox.made hc 24
  have hbel : Below w.heap.size w (w.alloc (.cells #[.int .i64 c.log, .int .i64 c.pages, .int .i64 c.entities, .int .i64 c.gens, .slice A c.comps.length cap] 24)) := (Below.refl _ _).alloc (Nat.le_refl _) _
  have hsz : (w.alloc (.cells #[.int .i64 c.log, .int .i64 c.pages, .int .i64 c.entities, .int .i64 c.gens, .slice A c.comps.length cap] 24)).heap.size = w.heap.size + 1 := by simp
  generalize hW1 : w.alloc (.cells #[.int .i64 c.log, .int .i64 c.pages, .int .i64 c.entities, .int .i64 c.gens, .slice A c.comps.length cap] 24) = W1 at *
  have HM := Lib.hid hm
  have HB := Lib.hid hbel
  obtain ⟨a0, a1, a2, a3, a4, _⟩ := hm
  clear hc hbel hsz
  have HD := Lib.hid h
  have HL := Lib.hid hl
  have HWT := Lib.hid hw
  clear h hl hw
  obtain ⟨s, hs⟩ : ∃ s, s = pageOf c p := ⟨_, rfl⟩
  have HN := Lib.hid hs
  have HR := Lib.hid (pageOf_le c p)
  clear hs
  by_cases h0 : s < 0
  · have HF := Lib.hid (show pageReadSt st c p = (st, [], 2) from if_pos (by rw [← HN.out]; exact h0))
    go_enter Try.func19, Try.ntmps19
    go_wp2_with fail
    try rw [hW1]
    clear hW1
    try go_wp2_with fail
    refine (at_calls (c := c) HM.out.val).mono ?_
    rintro e w2 ⟨rfl, hb2⟩
    rw [← HN.out, if_pos h0, if_pos h0]
    go_wp2_with fail
    go_ret2
    rw [HF.out]
    have hbb := HB.out.trans (hb2.mono HB.out.size)
    exact ⟨_, rfl, Rep.val_nil (by simp [maxLen]), HD.out.below hbb, Kept.of_below hbb HD.out.lt⟩
  have HSW := Lib.hid (show (Lit.int .i64 s).wf = true by have := HR.out; rw [← HN.out] at this; exact wf_i64 (by omega) (by omega))
  obtain ⟨r, hr⟩ : ∃ r, r = readSt st s := ⟨_, rfl⟩
  have HRS := Lib.hid hr
  have HF0 := Lib.hid (show pageReadSt st c p = if r.2.2 ≠ 0 then (r.1, [], r.2.2) else match pageGet r.2.1 p with | none => (r.1, [], 16) | some x => (r.1, x, 0) by rw [hr, HN.out]; exact if_neg (by rw [← HN.out]; exact h0))
  clear hr
  obtain ⟨st', l', er⟩ := r
  go_enter Try.func19, Try.ntmps19
  go_wp2_with fail
  try rw [hW1]
  clear hW1
  try go_wp2_with fail
  refine (at_calls (c := c) HM.out.val).mono ?_
  rintro e w2 ⟨rfl, hb2⟩
  rw [← HN.out, if_neg (show ¬ s < 0 by omega), if_neg (show ¬ s < 0 by omega)]
  have hbb := HB.out.trans (hb2.mono HB.out.size)
  have HBB := Lib.hid hbb
  have HD2 := Lib.hid (HD.out.below hbb)
  have HK2 := Lib.hid (Kept.of_below hbb HD.out.lt)
  clear hb2 hbb
  go_wp2_with fail
  refine (dev_read HD2.out HSW.out HL.out HWT.out).mono ?_
  rintro e w3 ⟨u, rfl, hu, hd3, hk3⟩
  rw [← HRS.out] at hu hd3 ⊢
  have HU := Lib.hid hu
  have HD3 := Lib.hid hd3
  have HK3 := Lib.hid (HK2.out.trans hk3)
  obtain ⟨A3, c3, rfl, _, _, _⟩ := Rep.val_list hu
  clear hu hd3 hk3
  dsimp only at HF0 HU HD3 ⊢
  by_cases hz : er = 0
  case neg =>
    have hzb : (er != 0) = true := by simpa using hz
    have HF := Lib.hid (show pageReadSt st c p = (st', [], er) by rw [HF0.out]; exact if_pos hz)
    clear hz
    go_wp2_with fail
    go_ret2
    rw [HF.out]
    exact ⟨_, rfl, Rep.val_nil (by simp [maxLen]), HD3.out, HK3.out⟩
  subst hz
  go_wp2_with fail
  refine (pageGet_calls HU.out).mono ?_
  rintro e w4 ⟨u4, rfl, hu4, hb4⟩
  have HD4 := Lib.hid (HD3.out.below hb4)
  have HK4 := Lib.hid (HK3.out.trans (Kept.of_below hb4 HD3.out.lt))
  have HS4 := Lib.hid (show w.heap.size ≤ w3.heap.size from HK3.out.size)
  cases hg : pageGet l' p with
  | none =>
    have HF := Lib.hid (show pageReadSt st c p = (st', [], 16) by rw [HF0.out, if_neg (fun h => h rfl), hg])
    rw [hg] at hu4
    simp only [Option.isSome_none]
    clear hu4 hb4 hg
    go_wp2_with fail
    go_ret2
    rw [HF.out]
    exact ⟨_, rfl, Rep.val_nil (by simp [maxLen]), HD4.out, HK4.out⟩
  | some x =>
    have HF := Lib.hid (show pageReadSt st c p = (st', x, 0) by rw [HF0.out, if_neg (fun h => h rfl), hg])
    rw [hg] at hu4
    simp only [Option.isSome_some]
    simp only [Option.getD_some] at hu4
    have HU4 := Lib.hid (show Rep.byte.list.val (fun k => w.heap.size ≤ k) w4 u4 x from Rep.val_mono (fun k hk _ => Nat.le_trans HS4.out hk) hu4)
    clear hu4 hb4 hg
    go_wp2_with fail
    go_ret2
    rw [HF.out]
    exact ⟨_, rfl, HU4.out, HD4.out, HK4.out⟩

set_option maxRecDepth 100000 in
set_option maxHeartbeats 2000000 in
/-- page.Write of no device -/
theorem pageWriteNil_calls {Qc : Nat → Prop} {w : World} {vc : Value} {c : DConf} (hc : rConf.val Qc w vc c) :
    Calls Try.prog 17 #[.pointer none, vc, .int .i64 0, .int .i64 0, .slice none 0 0] w fun e w' => e = .returned (.int .i64 4) ∧ Below w.heap.size w w' := by
  obtain ⟨A, cap, rfl, _⟩ := rConf_val hc
  have hm := InBox.made hc 24
  have hbel : Below w.heap.size w (w.alloc (.cells #[.int .i64 c.log, .int .i64 c.pages, .int .i64 c.entities, .int .i64 c.gens, .slice A c.comps.length cap] 24)) := (Below.refl _ _).alloc (Nat.le_refl _) _
  have hsz : (w.alloc (.cells #[.int .i64 c.log, .int .i64 c.pages, .int .i64 c.entities, .int .i64 c.gens, .slice A c.comps.length cap] 24)).heap.size = w.heap.size + 1 := by simp
  generalize hW1 : w.alloc (.cells #[.int .i64 c.log, .int .i64 c.pages, .int .i64 c.entities, .int .i64 c.gens, .slice A c.comps.length cap] 24) = W1 at *
  have HM := Lib.hid hm
  have HB := Lib.hid hbel
  obtain ⟨a0, a1, a2, a3, a4, _⟩ := hm
  clear hc hbel hsz
  go_enter Try.func17, Try.ntmps17
  go_wp2_with fail
  try rw [hW1]
  clear hW1
  try go_wp2_with fail
  refine (atNil_calls (c := c) HM.out.val).mono ?_
  rintro e w2 ⟨rfl, hb2⟩
  go_wp2_with fail
  go_ret
  exact ⟨rfl, HB.out.trans (hb2.mono HB.out.size)⟩

set_option maxRecDepth 100000 in
set_option maxHeartbeats 2000000 in
/-- page.Read of no device -/
theorem pageReadNil_calls {Qc : Nat → Prop} {w : World} {vc : Value} {c : DConf} (hc : rConf.val Qc w vc c) :
    Calls Try.prog 19 #[.pointer none, vc, .int .i64 0] w fun e w' => e = .returned (.tuple #[.slice none 0 0, .int .i64 4]) ∧ Below w.heap.size w w' := by
  obtain ⟨A, cap, rfl, _⟩ := rConf_val hc
  have hm := InBox.made hc 24
  have hbel : Below w.heap.size w (w.alloc (.cells #[.int .i64 c.log, .int .i64 c.pages, .int .i64 c.entities, .int .i64 c.gens, .slice A c.comps.length cap] 24)) := (Below.refl _ _).alloc (Nat.le_refl _) _
  have hsz : (w.alloc (.cells #[.int .i64 c.log, .int .i64 c.pages, .int .i64 c.entities, .int .i64 c.gens, .slice A c.comps.length cap] 24)).heap.size = w.heap.size + 1 := by simp
  generalize hW1 : w.alloc (.cells #[.int .i64 c.log, .int .i64 c.pages, .int .i64 c.entities, .int .i64 c.gens, .slice A c.comps.length cap] 24) = W1 at *
  have HM := Lib.hid hm
  have HB := Lib.hid hbel
  obtain ⟨a0, a1, a2, a3, a4, _⟩ := hm
  clear hc hbel hsz
  go_enter Try.func19, Try.ntmps19
  go_wp2_with fail
  try rw [hW1]
  clear hW1
  try go_wp2_with fail
  refine (atNil_calls (c := c) HM.out.val).mono ?_
  rintro e w2 ⟨rfl, hb2⟩
  go_wp2_with fail
  go_ret2
  exact ⟨rfl, HB.out.trans (hb2.mono HB.out.size)⟩
end Go.Proofs.Ytfpmkenobphfnaa
