/- Texts on which the proofs stand: Dev, PageDev, DiskMath. No condition is laid on any input. -/
import Derived.Test.YtghbfbohnoebiaaGreatSnG4
import Derived.Test.YtghbfbohnoebiaaGreatSnG31
import Derived.Test.YtghbfbohnoebiaaGreatSnG35
namespace Go.Proofs.YtghbfbohnoebiaaGreat
open Go.RowKit

/-- A device lies at P, and writes no block of K. -/
def DevAt (K : Nat → Prop) (W : World) (P n : Nat) (st : DiskSt) : Prop := (∀ b, K b → b < W.heap.size) ∧ ∃ F B, DiskAt W P F B n st ∧ ∀ b, F b ∨ B b → ¬ K b
/-- Blocks of K are as0 they were. -/
structure Kept (K : Nat → Prop) (W W' : World) : Prop where
  os : W'.os = W.os
  tape : W'.tape = W.tape
  output : W'.output = W.output
  size : W.heap.size ≤ W'.heap.size
  block : ∀ b, K b → W'.heap[b]? = W.heap[b]?
theorem Kept.refl (K : Nat → Prop) (W : World) : Kept K W W := ⟨rfl, rfl, rfl, Nat.le_refl _, fun _ _ => rfl⟩
theorem Kept.trans {K : Nat → Prop} {X Y Z : World} (h : Kept K X Y) (k : Kept K Y Z) : Kept K X Z :=
  ⟨k.os.trans h.os, k.tape.trans h.tape, k.output.trans h.output, Nat.le_trans h.size k.size, fun b hb => (k.block b hb).trans (h.block b hb)⟩
theorem Kept.less {K K' : Nat → Prop} {X Y : World} (h : Kept K X Y) (hk : ∀ b, K' b → K b) : Kept K' X Y := ⟨h.os, h.tape, h.output, h.size, fun b hb => h.block b (hk b hb)⟩
theorem Kept.of_below {K : Nat → Prop} {X Y : World} (h : Below X.heap.size X Y) (hk : ∀ b, K b → b < X.heap.size) : Kept K X Y := ⟨h.os, h.tape, h.output, h.size, fun b hb => h.block b (hk b hb)⟩
theorem Kept.of_only {K F : Nat → Prop} {X Y : World} (h : Only F X Y) (hk : ∀ b, K b → b < X.heap.size) (hf : ∀ b, F b → ¬ K b) : Kept K X Y := ⟨h.os, h.tape, h.output, h.size, fun b hb => h.block b (hk b hb) (fun e => hf b e hb)⟩
theorem Kept.below {K : Nat → Prop} {X Y : World} {base : Nat} (h : Kept K X Y) (hk : ∀ b, b < base → K b) : Below base X Y := ⟨h.os, h.tape, h.output, h.size, fun b hl => h.block b (hk b hl)⟩
theorem Kept.val {α : Type} {r : Rep α} {K Q : Nat → Prop} {X Y : World} {v : Value} {x : α} (h : Kept K X Y) (hq : ∀ b, Q b → K b) (hv : r.val Q X v x) : r.val Q Y v x := Rep.val_keep (fun b hb _ => ⟨hb, h.block b (hq b hb)⟩) hv
theorem Kept.cell {K : Nat → Prop} {X Y : World} {p : Addr} (h : Kept K X Y) (hk : K p.block) : Y.cell? p = X.cell? p := by
  simp only [World.cell?, h.block _ hk]

namespace DevAt
variable {K : Nat → Prop} {W W' : World} {P n : Nat} {st : DiskSt}
theorem lt (h : DevAt K W P n st) : ∀ b, K b → b < W.heap.size := h.1
/-- New blocks are none of its own. -/
theorem grow (h : DevAt K W P n st) {K' : Nat → Prop} (hb : Below W.heap.size W W') (hk : ∀ b, K' b → K b ∨ (W.heap.size ≤ b ∧ b < W'.heap.size)) : DevAt K' W' P n st := by
  obtain ⟨hl, F, B, hd, hf⟩ := h
  have hlt : ∀ b, F b ∨ B b → b < W.heap.size := fun b hb => by obtain ⟨_, _, _, _, hd⟩ := hd; exact hd.lt b hb
  exact ⟨fun b hb' => (hk b hb').elim (fun e => Nat.lt_of_lt_of_le (hl b e) hb.size) (fun e => e.2), F, B, hd.below hb, fun b hF hK => (hk b hK).elim (hf b hF) (fun e => by have := hlt b hF; omega)⟩
theorem below (h : DevAt K W P n st) (hb : Below W.heap.size W W') : DevAt K W' P n st := h.grow hb fun _ => .inl
theorem less (h : DevAt K W P n st) {K' : Nat → Prop} (hk : ∀ b, K' b → K b) : DevAt K' W P n st := by
  obtain ⟨hl, F, B, hd, hf⟩ := h
  exact ⟨fun b hb => hl b (hk b hb), F, B, hd, fun b hF hK => hf b hF (hk b hK)⟩
theorem more (h : DevAt K W P n st) {n' : Nat} (hn : n ≤ n') : DevAt K W P n' st := by
  obtain ⟨hl, F, B, ⟨_, _, _, _, hd⟩, hf⟩ := h
  exact ⟨hl, F, B, ⟨_, _, _, _, hd.more hn⟩, hf⟩
/-- A block that is none of its own is written. -/
theorem set (h : DevAt K W P n st) {b i : Nat} {v : Value} (hb : K b) : DevAt K (W.setCell ⟨b, i, none⟩ v) P n st := by
  obtain ⟨hl, F, B, hd, hf⟩ := h
  refine ⟨fun x hx => by have := hl x hx; simpa using this, F, B, hd.keep (by simp) (fun x hx => Below.heap_setCell _ _ _ _ ?_), hf⟩
  rintro rfl
  exact hf _ hx hb
end DevAt

def DevNew (w : World) (n : Int) (e : Ending) (W : World) : Prop := ∃ P, e = .returned (.pointer (some ⟨P, 0, none⟩)) ∧ DevAt (fun b => b < w.heap.size) W P 0 (newSt (List.replicate (newN n) (zeros 512))) ∧ Below w.heap.size w W
theorem dev_new {n : Int} (h0 : 0 ≤ n) (h1 : n ≤ 4096) (w : World) : Calls Tryz.prog 11 #[.int .i64 n] w (DevNew w n) := by
  refine (dnew_calls h0 h1 w).mono ?_
  rintro e w1 ⟨P, M, Sf, cs, xs, rfl, hnew, hz⟩
  have hd := hnew.disk
  have hold := hnew.old
  have he : xs.map (·.1) = List.replicate (newN n) (zeros 512) := by
    rw [List.eq_replicate_iff]
    exact ⟨by rw [List.length_map]; exact hnew.len, fun b hb => by obtain ⟨x, hx, rfl⟩ := List.mem_map.1 hb; exact hz x hx⟩
  rw [he] at hd
  exact ⟨P, rfl, ⟨fun b hb => Nat.lt_of_lt_of_le hb hnew.bel.size, _, _, hd, fun b hF hK => by have := hold b hF; have hK' : b < w.heap.size := hK; omega⟩, hnew.bel⟩

section
variable {K : Nat → Prop} {W : World} {P n : Nat} {st : DiskSt}

def DevStep (K : Nat → Prop) (P n : Nat) (W : World) (k : Int) (st : DiskSt) (e : Ending) (W' : World) : Prop := e = .returned (.int .i64 k) ∧ DevAt K W' P n st ∧ Kept K W W'
theorem dev_write {Q : Nat → Prop} {i : Int} {v : Value} {b : List UInt8} (h : DevAt K W P n st) (hi : (Lit.int .i64 i).wf = true) (hn : n ≤ 1000000000) (hx : Rep.byte.list.val Q W v b) (hQ : ∀ k, Q k → K k) :
    Calls Tryz.prog 109 #[.pointer (some ⟨P, 0, none⟩), .int .i64 i, v] W (DevStep K P (n + 1) W (writeSt st i b).2 (writeSt st i b).1) := by
  obtain ⟨hl, F, B, hd, hf⟩ := h
  refine (dwrite_calls hd hi hn hx (fun k hk hF => hf k (.inl hF) (hQ k hk))).mono ?_
  rintro e w1 ⟨rfl, ho, F', B', hd', h1, h2, _⟩
  exact ⟨rfl, ⟨fun b hb => Nat.lt_of_lt_of_le (hl b hb) ho.size, F', B', hd', fun b hF hK => hF.elim (fun hF => (h1 b hF).elim (fun e => hf b (.inl e) hK) (fun e => by have := hl b hK; omega)) (fun hB => (h2 b hB).elim (fun e => hf b (.inr e) hK) (fun e => by have := hl b hK; omega))⟩, Kept.of_only ho hl fun b hb => hf b (.inl hb)⟩
end
end Go.Proofs.YtghbfbohnoebiaaGreat
namespace Go.Proofs.YtghbfbohnoebiaaGreat
open Go.RowKit

theorem pageOf_le (c : DConf) (p : Int) : -1 ≤ pageOf c p ∧ pageOf c p ≤ 2050 := by
  unfold pageOf
  split
  · rename_i h; have := right_log_pages h.1; omega
  · omega
/-- What a page's writing makes of a device, and its error. -/
def pageWriteSt (st : DiskSt) (c : DConf) (epoch p : Int) (b : List UInt8) : DiskSt × Int :=
  if pageOf c p < 0 then (st, 2) else if 472 < b.length then (st, 13) else writeSt st (pageOf c p) (pageBytes epoch p b)
set_option maxRecDepth 100000 in
set_option maxHeartbeats 2000000 in
/-- page.Write -/
theorem pageWrite_calls {K Qc Q : Nat → Prop} {w : World} {P n : Nat} {st : DiskSt} {vc v : Value} {c : DConf} {epoch p : Int} {b : List UInt8} (h : DevAt K w P n st) (hn : n ≤ 1000000000) (hc : rConf.val Qc w vc c) (he : (Lit.int .i64 epoch).wf = true) (hp : (Lit.int .i64 p).wf = true) (hx : Rep.byte.list.val Q w v b) :
    Calls Tryz.prog 166 #[.pointer (some ⟨P, 0, none⟩), vc, .int .i64 epoch, .int .i64 p, v] w (DevStep K P (n + 1) w (pageWriteSt st c epoch p b).2 (pageWriteSt st c epoch p b).1) := by
  obtain ⟨B, bc, rfl, _, hbm, _⟩ := Rep.val_list hx
  unfold maxLen at hbm
  obtain ⟨A, cap, rfl, _⟩ := rConf_val hc
  have hm := InBox.made hc 34
  have hbel : Below w.heap.size w (w.alloc (.cells #[.int .i64 c.log, .int .i64 c.pages, .int .i64 c.entities, .int .i64 c.gens, .slice A c.comps.length cap] 34)) := (Below.refl _ _).alloc (Nat.le_refl _) _
  have hsz : (w.alloc (.cells #[.int .i64 c.log, .int .i64 c.pages, .int .i64 c.entities, .int .i64 c.gens, .slice A c.comps.length cap] 34)).heap.size = w.heap.size + 1 := by simp
  generalize hW1 : w.alloc (.cells #[.int .i64 c.log, .int .i64 c.pages, .int .i64 c.entities, .int .i64 c.gens, .slice A c.comps.length cap] 34) = W1 at *
  have HM := Lib.hid hm
  have HB := Lib.hid hbel
  obtain ⟨a0, a1, a2, a3, a4, _⟩ := hm
  clear hc hbel hsz
  have HD := Lib.hid h
  have HX := Lib.hid hx
  have HE := Lib.hid he
  have HP := Lib.hid hp
  have HNN := Lib.hid hn
  clear h hx he hp hn
  obtain ⟨s, hs⟩ : ∃ s, s = pageOf c p := ⟨_, rfl⟩
  have HN := Lib.hid hs
  have HR := Lib.hid (pageOf_le c p)
  clear hs
  by_cases h0 : s < 0
  · have HF := Lib.hid (show pageWriteSt st c epoch p b = (st, 2) from if_pos (by rw [← HN.out]; exact h0))
    go_enter Tryz.func166, Tryz.ntmps166
    go_wp2_with fail
    try rw [hW1]
    clear hW1
    try go_wp2_with fail
    refine (pageAt_calls9 (c := c) HM.out.val).mono ?_
    rintro e w2 ⟨rfl, hb2⟩
    rw [← HN.out, if_pos h0, if_pos h0]
    go_wp2_with fail
    go_ret
    rw [HF.out]
    have hbb := HB.out.trans (hb2.mono HB.out.size)
    exact ⟨rfl, (HD.out.below hbb).more (Nat.le_succ _), Kept.of_below hbb HD.out.lt⟩
  by_cases h4 : (472 : Int) < b.length
  · have HF := Lib.hid (show pageWriteSt st c epoch p b = (st, 13) from (if_neg (by rw [← HN.out]; exact h0)).trans (if_pos (by omega)))
    go_enter Tryz.func166, Tryz.ntmps166
    go_wp2_with fail
    try rw [hW1]
    clear hW1
    try go_wp2_with fail
    refine (pageAt_calls9 (c := c) HM.out.val).mono ?_
    rintro e w2 ⟨rfl, hb2⟩
    rw [← HN.out, if_neg (show ¬ s < 0 by omega), if_neg (show ¬ s < 0 by omega)]
    go_wp2_with fail
    go_ret
    rw [HF.out]
    have hbb := HB.out.trans (hb2.mono HB.out.size)
    exact ⟨rfl, (HD.out.below hbb).more (Nat.le_succ _), Kept.of_below hbb HD.out.lt⟩
  have HF := Lib.hid (show pageWriteSt st c epoch p b = writeSt st s (pageBytes epoch p b) by rw [HN.out]; exact (if_neg (by rw [← HN.out]; exact h0)).trans (if_neg (by omega)))
  have HSW := Lib.hid (show (Lit.int .i64 s).wf = true by have := HR.out; rw [← HN.out] at this; exact wf_i64 (by omega) (by omega))
  go_enter Tryz.func166, Tryz.ntmps166
  go_wp2_with fail
  try rw [hW1]
  clear hW1
  try go_wp2_with fail
  refine (pageAt_calls9 (c := c) HM.out.val).mono ?_
  rintro e w2 ⟨rfl, hb2⟩
  rw [← HN.out, if_neg (show ¬ s < 0 by omega), if_neg (show ¬ s < 0 by omega)]
  have hbb := HB.out.trans (hb2.mono HB.out.size)
  have HBB := Lib.hid hbb
  have HX2 := Lib.hid (Rep.val_below HX.out hbb (fun _ _ h => h.lt))
  clear hb2 hbb
  go_wp2_with fail
  refine (pagePut_calls HE.out HP.out HX2.out).mono ?_
  rintro e w3 ⟨u, rfl, hu, hb3⟩
  have HB3 := Lib.hid (HBB.out.trans (hb3.mono HBB.out.size))
  have HU := Lib.hid (show Rep.byte.list.val (fun k => w2.heap.size ≤ k ∧ k < w3.heap.size) w3 u (pageBytes epoch p b) from Rep.val_keep (fun k hk hl => ⟨⟨hk, hl.lt⟩, rfl⟩) hu)
  have HD3 := Lib.hid (HD.out.grow (K' := fun k => K k ∨ (w.heap.size ≤ k ∧ k < w3.heap.size)) HB3.out (fun k hk => hk))
  clear hu hb3
  go_wp2_with fail
  refine (dev_write HD3.out HSW.out HNN.out HU.out (fun k hk => .inr ⟨by have := HBB.out.size; omega, hk.2⟩)).mono ?_
  rintro e w4 ⟨rfl, hd4, hk4⟩
  have HD4 := Lib.hid hd4
  have HK4 := Lib.hid hk4
  rw [← HF.out]
  clear hd4 hk4
  go_wp2_with fail
  go_ret
  exact ⟨rfl, HF.out ▸ HD4.out.less (fun k hk => .inl hk), (Kept.of_below HB3.out HD.out.lt).trans (HK4.out.less (fun k hk => .inl hk))⟩

end Go.Proofs.YtghbfbohnoebiaaGreat
namespace Go.Proofs.YtghbfbohnoebiaaGreat
open Go.RowKit

/-- All sectors are whole, and so are the writes that wait. -/
structure Sound (st : DiskSt) (k : Nat) : Prop where
  len : st.safe.length = k
  sec : ∀ x ∈ st.safe, x.length = 512
  wt : ∀ i, ∀ x ∈ st.wait i, x.length = 512
  key : ∀ i, st.wait i ≠ [] → 0 ≤ i ∧ i < k
/-- Nothing waits for a sector, and it is what it was. -/
def StillAt (s0 st : DiskSt) (i : Nat) : Prop := st.wait i = [] ∧ st.safe[i]? = s0.safe[i]?

theorem Sound.of_same {st st' : DiskSt} {k : Nat} (h : Sound st k) (h1 : st'.safe = st.safe) (h2 : st'.wait = st.wait) : Sound st' k := ⟨by rw [h1]; exact h.len, by rw [h1]; exact h.sec, by rw [h2]; exact h.wt, by rw [h2]; exact h.key⟩
theorem StillAt.of_same {s0 st st' : DiskSt} {i : Nat} (h : StillAt s0 st i) (h1 : st'.safe = st.safe) (h2 : st'.wait = st.wait) : StillAt s0 st' i := ⟨by rw [h2]; exact h.1, by rw [h1]; exact h.2⟩
theorem lastSt_length {st : DiskSt} {k : Nat} (h : Sound st k) {i : Nat} (hi : i < k) : (lastSt st (i : Nat)).length = 512 := by
  unfold lastSt
  cases hl : (st.wait (i : Int)).getLast? with
  | none =>
    rw [Option.getD_none, Int.toNat_natCast, List.getD_eq_getElem?_getD, List.getElem?_eq_getElem (by rw [h.len]; exact hi)]
    exact h.sec _ (List.getElem_mem _)
  | some y => exact h.wt _ y (List.mem_of_getLast? hl)
theorem lastSt_still {st : DiskSt} {i : Nat} (hw : st.wait (i : Int) = []) : lastSt st (i : Nat) = st.safe.getD i [] := by
  unfold lastSt; rw [hw]; rfl
theorem write_sound {st : DiskSt} {k : Nat} (h : Sound st k) (i : Int) (b : List UInt8) : Sound (writeSt st i b).1 k := by
  have hs := atSt_same st i
  unfold writeSt
  split
  · rename_i he
    have hr := atSt_range he
    refine ⟨by show (atSt st i).1.safe.length = k; rw [hs.1]; exact h.len, by show ∀ x ∈ (atSt st i).1.safe, _; rw [hs.1]; exact h.sec, fun j x hx => ?_, fun j hj => ?_⟩
    · change x ∈ (if j = i then (atSt st i).1.wait i ++ [cutTo b 512] else (atSt st i).1.wait j) at hx
      rw [hs.2] at hx
      split at hx
      · rcases List.mem_append.1 hx with hx | hx
        · exact h.wt _ x hx
        · have := List.mem_singleton.1 hx
          subst this
          exact cutTo_length _ _
      · exact h.wt _ x hx
    · change (if j = i then (atSt st i).1.wait i ++ [cutTo b 512] else (atSt st i).1.wait j) ≠ [] at hj
      rw [hs.2] at hj
      split at hj
      · rename_i e; rw [e]; have := h.len; omega
      · exact h.key j hj
  · exact h.of_same hs.1 hs.2
theorem write_still {s0 st : DiskSt} {i : Nat} (h : StillAt s0 st i) {j : Int} (b : List UInt8) (hj : j ≠ i) : StillAt s0 (writeSt st j b).1 i := by
  have hs := atSt_same st j
  unfold writeSt
  split
  · refine ⟨?_, by show (atSt st j).1.safe[i]? = _; rw [hs.1]; exact h.2⟩
    show (if (i : Int) = j then (atSt st j).1.wait j ++ [cutTo b 512] else (atSt st j).1.wait i) = []
    rw [if_neg (fun e => hj e.symm), hs.2]; exact h.1
  · exact h.of_same hs.1 hs.2
theorem sync_sound {st : DiskSt} {k : Nat} (h : Sound st k) : Sound (syncSt st) k := by
  refine ⟨by show ((List.range st.safe.length).map _).length = k; rw [List.length_map, List.length_range]; exact h.len, fun x hx => ?_, fun i x hx => (by cases hx), fun i hi => absurd rfl hi⟩
  obtain ⟨i, hi, rfl⟩ := List.mem_map.1 hx
  exact lastSt_length h (by have := List.mem_range.1 hi; have := h.len; omega)
theorem syncRes_sound {st : DiskSt} {k : Nat} (h : Sound st k) : Sound (syncRes st).1 k := by
  have hs := burnSt_same st
  unfold syncRes; split
  · exact sync_sound (h.of_same hs.1 hs.2)
  · exact h.of_same hs.1 hs.2
end Go.Proofs.YtghbfbohnoebiaaGreat
