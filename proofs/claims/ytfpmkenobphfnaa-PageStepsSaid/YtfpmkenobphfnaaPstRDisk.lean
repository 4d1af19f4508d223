/- Walks of the reference's device: the fuse, a sector's writes, what is dirty, what was written last. -/
import Derived.Test.YtfpmkenobphfnaaPstG1
import Derived.Test.YtfpmkenobphfnaaPstG12
import Derived.Test.YtfpmkenobphfnaaPstRDiskMath
import Derived.Test.YtfpmkenobphfnaaPstSealGet
namespace Go.Proofs.Ytfpmkenobphfnaa
open Go.RowKit

/-- A disk, a number. -/
def DiskErr (Q : Nat → Prop) (w : World) (r : DDisk × Int) (e : Ending) (w' : World) : Prop := ∃ v, e = .returned (.tuple #[v, .int .i64 r.2]) ∧ rDisk.val Q w' v r.1 ∧ Below w.heap.size w w'

theorem two_boxes (w : World) (B Z : Array Value) (t t' : Nat) : ((w.alloc (.cells B t)).alloc (.cells Z t')).heap[w.heap.size]? = some (.cells B t (0, 0)) ∧ ((w.alloc (.cells B t)).alloc (.cells Z t')).heap[w.heap.size + 1]? = some (.cells Z t' (0, 0)) ∧ Below w.heap.size w ((w.alloc (.cells B t)).alloc (.cells Z t')) ∧ ((w.alloc (.cells B t)).alloc (.cells Z t')).heap.size = w.heap.size + 2 := by
  have h0 : (w.alloc (.cells B t)).heap.size = w.heap.size + 1 := by simp
  have h1 := heap_alloc_new w (.cells B t)
  have h2 := heap_alloc_new (w.alloc (.cells B t)) (.cells Z t')
  rw [h0] at h2
  refine ⟨(Below.heap_alloc _ _ _ (by omega)).trans h1, h2, ((Below.refl _ _).alloc (Nat.le_refl _) _).alloc (by omega) _, by simp⟩

set_option maxRecDepth 100000 in
set_option maxHeartbeats 1000000 in
/-- ref04.burn -/
theorem rburn_calls {Q : Nat → Prop} {w : World} {v : Value} {d : DDisk} (hx : rDisk.val Q w v d) : Calls Try.prog 86 #[v] w (DiskErr Q w (burnW d)) := by
  obtain ⟨A0, c0, A1, c1, rfl, sp, sq, f2, f3, f4⟩ := rDisk_val hx
  have HSP := Lib.hid (show ∀ W', Below w.heap.size w W' → Rep.byte.list.Sl Q W' A0 c0 d.safe from fun W' hb => Rep.Sl.keep (fun k hk hl => ⟨hk, hb.block k hl.lt⟩) sp)
  have HSQ := Lib.hid (show ∀ W', Below w.heap.size w W' → rWrite.Sl Q W' A1 c1 d.wait from fun W' hb => Rep.Sl.keep (fun k hk hl => ⟨hk, hb.block k hl.lt⟩) sq)
  have hfu : -9223372036854775808 ≤ d.fuse ∧ d.fuse ≤ 9223372036854775807 := by simpa [Lit.wf, IntKind.min, IntKind.max, IntKind.signed, IntKind.bits] using f2
  have F2 := Lib.hid f2
  have F3 := Lib.hid f3
  have F4 := Lib.hid f4
  clear hx sp sq f2 f3 f4
  obtain ⟨safe, wait, fuse, off, reads, writes⟩ := d
  dsimp only at *
  generalize hn0 : safe.length = n0 at *
  generalize hn1 : wait.length = n1 at *
  have HM := Lib.hid (show ∀ W' (o : Bool) (fu : Int), (Lit.int .i64 fu).wf = true → Below w.heap.size w W' → rDisk.val Q W' (.agg #[.slice A0 n0 c0, .slice A1 n1 c1, .int .i64 fu, .bool o, .int .i64 reads, .int .i64 writes]) ⟨safe, wait, fu, o, reads, writes⟩ from fun W' o fu hf hb => by
    have h := rDisk_agg (x := ⟨safe, wait, fu, o, reads, writes⟩) (HSP.out W' hb) (HSQ.out W' hb) hf F3.out F4.out
    dsimp only at h
    rw [hn0, hn1] at h
    exact h)
  obtain ⟨hbk, hrk, hbel, hsz⟩ := two_boxes w #[.slice A0 n0 c0, .slice A1 n1 c1, .int .i64 fuse, .bool off, .int .i64 reads, .int .i64 writes] #[.slice none 0 0, .slice none 0 0, .int .i64 0, .bool false, .int .i64 0, .int .i64 0] 33 33
  generalize hW1 : (w.alloc (.cells #[.slice A0 n0 c0, .slice A1 n1 c1, .int .i64 fuse, .bool off, .int .i64 reads, .int .i64 writes] 33)).alloc (.cells #[.slice none 0 0, .slice none 0 0, .int .i64 0, .bool false, .int .i64 0, .int .i64 0] 33) = W1 at *
  have HB1 := Lib.hid hbel
  have e0 := cell_row hbk 0
  have e1 := cell_row hbk 1
  have e2 := cell_row hbk 2
  have e3 := cell_row hbk 3
  have e4 := cell_row hbk 4
  have e5 := cell_row hbk 5
  have z2 := frozen_row hbk 2
  have z3 := frozen_row hbk 3
  have d0 := cell_row hrk 0
  have d1 := cell_row hrk 1
  have d2 := cell_row hrk 2
  have d3 := cell_row hrk 3
  have d4 := cell_row hrk 4
  have d5 := cell_row hrk 5
  have y0 := frozen_row hrk 0
  have y1 := frozen_row hrk 1
  have y2 := frozen_row hrk 2
  have y3 := frozen_row hrk 3
  have y4 := frozen_row hrk 4
  have y5 := frozen_row hrk 5
  have hfr : Try.f86.results = #[.cell 2 33, .tmp 3] := rfl
  clear hbel hbk hrk hn0 hn1 hsz
  have HS1 := Lib.hid (show ∀ W i v, Below w.heap.size w W → Below w.heap.size w (W.setCell ⟨w.heap.size, i, none⟩ v) from fun W i v h => h.setCell (Nat.le_refl _) _)
  have HS2 := Lib.hid (show ∀ W i v, Below w.heap.size w W → Below w.heap.size w (W.setCell ⟨w.heap.size + 1, i, none⟩ v) from fun W i v h => h.setCell (Nat.le_succ _) _)
  cases off with
  | true =>
    have HF := Lib.hid (show burnW ⟨safe, wait, fuse, true, reads, writes⟩ = (⟨safe, wait, fuse, true, reads, writes⟩, 3) from rfl)
    go_enter Try.func86, Try.ntmps86
    go_wp2_with fail
    try rw [hW1]
    clear hW1
    go_wp2_with fail
    refine (fun (hb : Below w.heap.size w _) => ⟨rfl, .tuple #[.agg #[.slice A0 n0 c0, .slice A1 n1 c1, .int .i64 fuse, .bool true, .int .i64 reads, .int .i64 writes], .int .i64 3], ?_, ⟨_, by rw [HF.out], by rw [HF.out]; exact HM.out _ true fuse F2.out hb, hb⟩⟩) ?_
    · repeat (refine below_set ?_ (by omega))
      exact HB1.out
    · simp only [results, hfr]
      go_simp
  | false =>
    by_cases h0 : fuse = 0
    · subst h0
      have HF := Lib.hid (show burnW ⟨safe, wait, 0, false, reads, writes⟩ = (⟨safe, wait, 0, true, reads, writes⟩, 3) from rfl)
      go_enter Try.func86, Try.ntmps86
      go_wp2_with fail
      try rw [hW1]
      clear hW1
      go_wp2_with fail
      refine (fun (hb : Below w.heap.size w _) => ⟨rfl, .tuple #[.agg #[.slice A0 n0 c0, .slice A1 n1 c1, .int .i64 0, .bool true, .int .i64 reads, .int .i64 writes], .int .i64 3], ?_, ⟨_, by rw [HF.out], by rw [HF.out]; exact HM.out _ true 0 F2.out hb, hb⟩⟩) ?_
      · repeat (refine below_set ?_ (by omega))
        exact HB1.out
      · simp only [results, hfr]
        go_simp
    · have g0 : (fuse == 0) = false := by simpa using h0
      by_cases h1 : 0 < fuse
      · have HF := Lib.hid (show burnW ⟨safe, wait, fuse, false, reads, writes⟩ = (⟨safe, wait, fuse - 1, false, reads, writes⟩, 0) by simp [burnW, h0, h1])
        have HWF := Lib.hid (show (Lit.int .i64 (fuse - 1)).wf = true from wf_i64 (by omega) (by omega))
        clear h0
        go_enter Try.func86, Try.ntmps86
        go_wp2_with fail
        try rw [hW1]
        clear hW1
        go_wp2_with fail
        refine (fun (hb : Below w.heap.size w _) => ⟨rfl, .tuple #[.agg #[.slice A0 n0 c0, .slice A1 n1 c1, .int .i64 (fuse - 1), .bool false, .int .i64 reads, .int .i64 writes], .int .i64 0], ?_, ⟨_, by rw [HF.out], by rw [HF.out]; exact HM.out _ false _ HWF.out hb, hb⟩⟩) ?_
        · repeat (refine below_set ?_ (by omega))
          exact HB1.out
        · simp only [results, hfr]
          go_simp
      · have HF := Lib.hid (show burnW ⟨safe, wait, fuse, false, reads, writes⟩ = (⟨safe, wait, fuse, false, reads, writes⟩, 0) by simp [burnW, h0, h1])
        clear h0
        go_enter Try.func86, Try.ntmps86
        go_wp2_with fail
        try rw [hW1]
        clear hW1
        go_wp2_with fail
        refine (fun (hb : Below w.heap.size w _) => ⟨rfl, .tuple #[.agg #[.slice A0 n0 c0, .slice A1 n1 c1, .int .i64 fuse, .bool false, .int .i64 reads, .int .i64 writes], .int .i64 0], ?_, ⟨_, by rw [HF.out], by rw [HF.out]; exact HM.out _ false _ F2.out hb, hb⟩⟩) ?_
        · repeat (refine below_set ?_ (by omega))
          exact HB1.out
        · simp only [results, hfr]
          go_simp

/-- A disk's box: what lies in it, and in what it holds. -/
structure DBox (Q : Nat → Prop) (w W' : World) (d : DDisk) (A0 : Option Addr) (c0 : Nat) (A1 : Option Addr) (c1 : Nat) : Prop where
  blk : W'.heap[w.heap.size]? = some (.cells #[.slice A0 d.safe.length c0, .slice A1 d.wait.length c1, .int .i64 d.fuse, .bool d.off, .int .i64 d.reads, .int .i64 d.writes] 33 (0, 0))
  bel : Below w.heap.size w W'
  safe : Rep.byte.list.Sl Q W' A0 c0 d.safe
  wait : rWrite.Sl Q W' A1 c1 d.wait
theorem DBox.below {Q : Nat → Prop} {w W W' : World} {d : DDisk} {A0 A1 : Option Addr} {c0 c1 : Nat} (h : DBox Q w W d A0 c0 A1 c1) (hb : Below (w.heap.size + 1) W W') (hq : ∀ b, Q b → b < w.heap.size) : DBox Q w W' d A0 c0 A1 c1 :=
  ⟨(hb.block _ (Nat.lt_succ_self _)).trans h.blk, h.bel.trans (hb.mono (Nat.le_succ _)), Rep.Sl.keep (fun k hk _ => ⟨hk, hb.block k (Nat.lt_succ_of_lt (hq k hk))⟩) h.safe, Rep.Sl.keep (fun k hk _ => ⟨hk, hb.block k (Nat.lt_succ_of_lt (hq k hk))⟩) h.wait⟩
theorem DBox.start {Q : Nat → Prop} {w : World} {v : Value} {d : DDisk} (hx : rDisk.val Q w v d) : ∃ A0 c0 A1 c1, v = .agg #[.slice A0 d.safe.length c0, .slice A1 d.wait.length c1, .int .i64 d.fuse, .bool d.off, .int .i64 d.reads, .int .i64 d.writes] ∧
    DBox Q w (w.alloc (.cells #[.slice A0 d.safe.length c0, .slice A1 d.wait.length c1, .int .i64 d.fuse, .bool d.off, .int .i64 d.reads, .int .i64 d.writes] 33)) d A0 c0 A1 c1 ∧ (Lit.int .i64 d.fuse).wf = true ∧ (Lit.int .i64 d.reads).wf = true ∧ (Lit.int .i64 d.writes).wf = true := by
  obtain ⟨A0, c0, A1, c1, rfl, sp, sq, f2, f3, f4⟩ := rDisk_val hx
  have hbel : Below w.heap.size w (w.alloc (.cells #[.slice A0 d.safe.length c0, .slice A1 d.wait.length c1, .int .i64 d.fuse, .bool d.off, .int .i64 d.reads, .int .i64 d.writes] 33)) := (Below.refl _ _).alloc (Nat.le_refl _) _
  exact ⟨A0, c0, A1, c1, rfl, ⟨heap_alloc_new w _, hbel, Rep.Sl.keep (fun k hk hl => ⟨hk, hbel.block k hl.lt⟩) sp, Rep.Sl.keep (fun k hk hl => ⟨hk, hbel.block k hl.lt⟩) sq⟩, f2, f3, f4⟩

theorem DBox.val {Q : Nat → Prop} {w W : World} {d : DDisk} {A0 A1 : Option Addr} {c0 c1 : Nat} (h : DBox Q w W d A0 c0 A1 c1) (f2 : (Lit.int .i64 d.fuse).wf = true) (f3 : (Lit.int .i64 d.reads).wf = true) (f4 : (Lit.int .i64 d.writes).wf = true) : rDisk.val Q W (.agg #[.slice A0 d.safe.length c0, .slice A1 d.wait.length c1, .int .i64 d.fuse, .bool d.off, .int .i64 d.reads, .int .i64 d.writes]) d := rDisk_agg h.safe h.wait f2 f3 f4
theorem ofW_succ {l : List DWrite} {j : Nat} {x : DWrite} (hx : l[j]? = some x) (i : Int) : ofW (l.take (j + 1)) i = if x.pos = i then ofW (l.take j) i ++ [x.b] else ofW (l.take j) i := by
  obtain ⟨hj, he⟩ := List.getElem?_eq_some_iff.1 hx
  rw [List.take_succ_eq_append_getElem hj, he, ofW_append, ofW_one]
  split
  · rfl
  · rw [List.append_nil]
theorem ofW_length (l : List DWrite) (i : Int) : (ofW l i).length ≤ l.length := by unfold ofW; rw [List.length_map]; exact List.length_filter_le _ _

set_option maxRecDepth 100000 in
set_option maxHeartbeats 1000000 in
/-- ref04.of -/
theorem rof_calls {Q : Nat → Prop} {w : World} {v : Value} {d : DDisk} {i : Int} (hx : rDisk.val Q w v d) (hq : ∀ b, Q b → b < w.heap.size) (hn : d.wait.length ≤ 1000000000) :
    Calls Try.prog 97 #[v, .int .i64 i] w fun e w' => ∃ u, e = .returned u ∧ Rep.byte.list.acc 36 w.heap.size Q w' u (ofW d.wait i) ∧ Below w.heap.size w w' := by
  obtain ⟨A0, c0, A1, c1, rfl, hbox, f2, f3, f4⟩ := DBox.start hx
  have hsz : (w.alloc (.cells #[.slice A0 d.safe.length c0, .slice A1 d.wait.length c1, .int .i64 d.fuse, .bool d.off, .int .i64 d.reads, .int .i64 d.writes] 33)).heap.size = w.heap.size + 1 := by simp
  have HBX := Lib.hid (fun W' (hb : Below (w.heap.size + 1) _ W') => hbox.below hb hq)
  have HQ := Lib.hid hq
  have HN := Lib.hid hn
  clear hx hbox f2 f3 f4 hq hn
  generalize hl : d.wait.length = len at *
  have HL := Lib.hid hl
  clear hl
  generalize hW1 : w.alloc (.cells #[.slice A0 d.safe.length c0, .slice A1 len c1, .int .i64 d.fuse, .bool d.off, .int .i64 d.reads, .int .i64 d.writes] 33) = W1 at *
  have HS := Lib.hid hsz
  clear hsz
  go_enter Try.func97, Try.ntmps97
  go_wp2_with fail
  try rw [hW1]
  clear hW1
  go_loopw [5, 6] (fun u kk wr => ∃ j : Nat, kk = .int .i64 j ∧ j ≤ len ∧ Rep.byte.list.acc 36 (w.heap.size + 1) Q wr u (ofW (d.wait.take j) i) ∧ Below (w.heap.size + 1) W1 wr) (fun _ kk _ => len - (intOf kk).toNat)
  case atStart => exact ⟨0, rfl, Nat.zero_le _, Rep.acc_nil, Below.refl _ _⟩
  case round =>
    obtain ⟨j, rfl, hj, hacc, hb⟩ := hrel
    have HB := Lib.hid hb
    have HACC := Lib.hid hacc
    obtain ⟨Au, cu, rfl, _, _⟩ := Rep.acc_form hacc
    have hbx := HBX.out _ hb
    have hblk := hbx.blk
    rw [HL.out] at hblk
    have e1 := cell_row hblk 1
    have HSW := Lib.hid (show w.heap.size + 1 ≤ wr.heap.size by rw [← HS.out]; exact Nat.le_trans (Nat.le_of_eq rfl) hb.size)
    have hcap := hbx.wait.2.1
    have hlc := hbx.wait.1
    unfold maxLen at hcap
    rw [HL.out] at hlc
    by_cases hlt : (j : Int) < len
    · obtain ⟨x, hx⟩ : ∃ x, d.wait[j]? = some x := ⟨_, List.getElem?_eq_getElem (by rw [HL.out]; omega)⟩
      obtain ⟨b, off, A2, c2, rfl, _, g0, g1, f0, sp⟩ := rWrite_at hbx.wait.2.2 hx
      have HT := Lib.hid (ofW_succ hx i)
      have HLQ := Lib.hid (ofW_length (d.wait.take j) i)
      have hown := Rep.acc_own hacc
      clear hacc hbx hblk hb hx
      generalize ofW (d.wait.take j) i = q at *
      by_cases hp : x.pos = i
      · have HT2 := Lib.hid (show ofW (d.wait.take (j + 1)) i = q ++ [x.b] by rw [HT.out, if_pos hp])
        have HXV := Lib.hid (show Rep.byte.list.val (fun b => Q b ∧ (Value.slice Au q.length cu).ownBlock ≠ some b) wr (.slice A2 x.b.length c2) x.b from Rep.val_mono (fun b hb _ => ⟨hb, fun e => by have := (hown b e).1; have := HQ.out b hb; omega⟩) sp.val)
        have L := Lib.hid (show q.length + 1 ≤ maxLen ∧ (q.length + 1) * 24 ≤ 140737488355328 by have h1 := HLQ.out; rw [List.length_take] at h1; have := HN.out; unfold maxLen; omega)
        rw [hp] at g0
        clear hp hown sp f0
        go_wp2_with (refine wpList_snoc (e := 36) (base := w.heap.size + 1) (Q := Q) (r := Rep.byte.list) rfl rfl _ _ 30 _ rfl rfl rfl (.slice none 0 0) 1 24 Try.underlying30 info22 rfl (by decide) rfl _ _ HACC.out x.b _ (by exact rfl) HXV.out (by exact rfl) (by exact rfl) L.out.1 L.out.2 HSW.out ?_; intro v3 w3 hacc3 hgr hat)
        exact ⟨⟨j + 1, by go_num, by omega, by rw [HT2.out]; exact hacc3, Rep.acc_below HACC.out HB.out hgr HSW.out⟩, by simp [intOf]; omega⟩
      · have HT2 := Lib.hid (show ofW (d.wait.take (j + 1)) i = q by rw [HT.out, if_neg hp])
        have hp' : (x.pos == i) = false := by simpa using hp
        clear hp hown sp f0
        go_wp2_with fail
        exact ⟨⟨j + 1, by go_num, by omega, by rw [HT2.out]; exact HACC.out, HB.out⟩, by simp [intOf]; omega⟩
    · have HT := Lib.hid (show ofW (d.wait.take j) i = ofW d.wait i by rw [List.take_of_length_le (by rw [HL.out]; omega)])
      clear hacc hbx hblk hb
      generalize ofW (d.wait.take j) i = q at *
      go_wp2_with fail
      go_ret
      exact ⟨_, rfl, by rw [← HT.out]; exact Rep.acc_base (Nat.le_succ _) HACC.out, (HBX.out _ HB.out).bel⟩
def dirtyTo (d : DDisk) (k : Nat) : List Int := ((List.range k).filter fun i => !(ofW d.wait (i : Nat)).isEmpty).map fun i : Nat => (i : Int)
theorem dirtyTo_all (d : DDisk) : dirtyTo d d.safe.length = dirtyW d := rfl
theorem dirtyTo_yes {d : DDisk} {k : Nat} (h : 0 < (ofW d.wait (k : Nat)).length) : dirtyTo d (k + 1) = dirtyTo d k ++ [(k : Int)] := by
  unfold dirtyTo
  have h2 : (ofW d.wait (k : Nat)).isEmpty = false := by
    cases hq : ofW d.wait (k : Nat) with
    | nil => rw [hq] at h; simp at h
    | cons _ _ => rfl
  rw [List.range_succ, List.filter_append, List.map_append]
  simp [h2]
theorem dirtyTo_no {d : DDisk} {k : Nat} (h : (ofW d.wait (k : Nat)).length = 0) : dirtyTo d (k + 1) = dirtyTo d k := by
  unfold dirtyTo
  have h2 : (ofW d.wait (k : Nat)).isEmpty = true := by rw [List.eq_nil_of_length_eq_zero h]; rfl
  rw [List.range_succ, List.filter_append, List.map_append]
  simp [h2]
theorem dirtyTo_length (d : DDisk) (k : Nat) : (dirtyTo d k).length ≤ k := by
  unfold dirtyTo; rw [List.length_map]
  exact Nat.le_trans (List.length_filter_le _ _) (by rw [List.length_range]; exact Nat.le_refl _)

set_option maxRecDepth 100000 in
set_option maxHeartbeats 1000000 in
/-- ref04.Dirty -/
theorem rdirty_calls {Q : Nat → Prop} {w : World} {v : Value} {d : DDisk} (hx : rDisk.val Q w v d) (hq : ∀ b, Q b → b < w.heap.size) (hn : d.wait.length ≤ 1000000000) (hs : d.safe.length ≤ 1000000000) :
    Calls Try.prog 24 #[v] w (ResA (Rep.int .i64) 3 w (dirtyW d)) := by
  obtain ⟨A0, c0, A1, c1, rfl, hbox, f2, f3, f4⟩ := DBox.start hx
  have hsz : (w.alloc (.cells #[.slice A0 d.safe.length c0, .slice A1 d.wait.length c1, .int .i64 d.fuse, .bool d.off, .int .i64 d.reads, .int .i64 d.writes] 33)).heap.size = w.heap.size + 1 := by simp
  have HBX := Lib.hid (fun W' (hb : Below (w.heap.size + 1) _ W') => hbox.below hb hq)
  have HQ := Lib.hid hq
  have HN := Lib.hid hn
  have HSL := Lib.hid hs
  have F2 := Lib.hid f2
  have F3 := Lib.hid f3
  have F4 := Lib.hid f4
  clear hx hbox f2 f3 f4 hq hn hs
  generalize hl1 : d.wait.length = len1 at *
  generalize hl0 : d.safe.length = len0 at *
  have HL0 := Lib.hid hl0
  have HL1 := Lib.hid hl1
  clear hl0 hl1
  generalize hW1 : w.alloc (.cells #[.slice A0 len0 c0, .slice A1 len1 c1, .int .i64 d.fuse, .bool d.off, .int .i64 d.reads, .int .i64 d.writes] 33) = W1 at *
  have HS := Lib.hid hsz
  clear hsz
  go_enter Try.func24, Try.ntmps24
  go_wp2_with fail
  try rw [hW1]
  clear hW1
  go_loopw [3, 4] (fun u kk wr => ∃ j : Nat, kk = .int .i64 j ∧ j ≤ len0 ∧ (Rep.int .i64).acc 3 (w.heap.size + 1) (fun _ => False) wr u (dirtyTo d j) ∧ Below (w.heap.size + 1) W1 wr) (fun _ kk _ => len0 - (intOf kk).toNat)
  case atStart => exact ⟨0, rfl, Nat.zero_le _, Rep.acc_nil, Below.refl _ _⟩
  case round =>
    obtain ⟨j, rfl, hj, hacc, hb⟩ := hrel
    have HB := Lib.hid hb
    have HACC := Lib.hid hacc
    obtain ⟨Au, cu, rfl, _, _⟩ := Rep.acc_form hacc
    have hbx := HBX.out _ hb
    have hblk := hbx.blk
    have HV := Lib.hid (hbx.val F2.out F3.out F4.out)
    rw [HL0.out, HL1.out] at hblk HV
    have e0 := cell_row hblk 0
    have e1 := cell_row hblk 1
    have e2 := cell_row hblk 2
    have e3 := cell_row hblk 3
    have e4 := cell_row hblk 4
    have e5 := cell_row hblk 5
    have HSW := Lib.hid (show w.heap.size + 1 ≤ wr.heap.size by rw [← HS.out]; exact hb.size)
    have hcap := hbx.safe.2.1
    have hlc := hbx.safe.1
    unfold maxLen at hcap
    rw [HL0.out] at hlc
    have HLQ := Lib.hid (dirtyTo_length d j)
    have HDY := Lib.hid (fun h => dirtyTo_yes (d := d) (k := j) h)
    have HDN := Lib.hid (fun h => dirtyTo_no (d := d) (k := j) h)
    have HDA := Lib.hid (dirtyTo_all d)
    clear hacc hbx hblk hb
    generalize hq0 : dirtyTo d j = q at *
    have HQ0 := Lib.hid hq0
    clear hq0
    by_cases hlt : (j : Int) < len0
    · go_wp2_with fail
      refine (rof_calls HV.out (fun b hb => by have := HQ.out b hb; have := HSW.out; omega) (by rw [HL1.out]; exact HN.out)).mono ?_
      rintro e w2 ⟨u2, rfl, hu2, hb2⟩
      obtain ⟨A3, c3, rfl, hc3, hm3⟩ := Rep.acc_form hu2
      have HACC2 := Lib.hid (Rep.acc_later HACC.out hb2)
      have HB2 := Lib.hid (HB.out.trans (hb2.mono HSW.out))
      have HSW2 := Lib.hid (Nat.le_trans HSW.out hb2.size)
      clear hu2 hb2 e0 e1 e2 e3 e4 e5
      unfold maxLen at hm3
      generalize hm : (ofW d.wait (j : Nat)).length = m at *
      by_cases h0 : m = 0
      · subst h0
        have HT := Lib.hid (HDN.out rfl)
        go_wp2_with fail
        exact ⟨⟨j + 1, by go_num, by omega, by rw [HT.out]; exact HACC2.out, HB2.out⟩, by simp [intOf]; omega⟩
      · have hp : (0 : Int) < m := by omega
        have HT := Lib.hid (HDY.out (by omega))
        have L := Lib.hid (show q.length + 1 ≤ maxLen ∧ (q.length + 1) * 8 ≤ 140737488355328 by have h1 := HLQ.out; have := HSL.out; unfold maxLen; omega)
        clear h0
        go_wp2_with (refine wpList_snoc (e := 3) (base := w.heap.size + 1) (Q := fun _ => False) (r := Rep.int .i64) rfl rfl _ _ 54 _ rfl rfl rfl (.int .i64 0) 1 8 Try.underlying54 info3 rfl (by decide) rfl _ q HACC2.out (j : Int) _ (by exact rfl) ⟨_, rfl, rfl, wf_i64 (by omega) (by omega)⟩ (by exact rfl) (by exact rfl) L.out.1 L.out.2 HSW2.out ?_; intro v5 w5 hacc5 hgr5 hat5)
        exact ⟨⟨j + 1, by go_num, by omega, by rw [HT.out]; exact hacc5, Rep.acc_below HACC2.out HB2.out hgr5 HSW2.out⟩, by simp [intOf]; omega⟩
    · obtain rfl : j = len0 := by omega
      have HT := Lib.hid (show q = dirtyW d by rw [← HQ0.out, ← HL0.out]; exact HDA.out)
      go_wp2_with fail
      go_ret
      exact ⟨_, rfl, by rw [← HT.out]; exact Rep.acc_base (Nat.le_succ _) HACC.out, (HBX.out _ HB.out).bel⟩

set_option maxRecDepth 100000 in
set_option maxHeartbeats 1000000 in
/-- ref04.Last -/
theorem rlast_calls {Q : Nat → Prop} {w : World} {v : Value} {d : DDisk} {i : Int} (hx : rDisk.val Q w v d) (hq : ∀ b, Q b → b < w.heap.size) (hn : d.wait.length ≤ 1000000000) (hi : 0 ≤ i ∧ i < d.safe.length) :
    Calls Try.prog 87 #[v, .int .i64 i] w fun e w' => ∃ u, e = .returned u ∧ Rep.byte.list.val Q w' u (lastW d i) ∧ Below w.heap.size w w' := by
  obtain ⟨A0, c0, A1, c1, rfl, hbox, f2, f3, f4⟩ := DBox.start hx
  have hsz : (w.alloc (.cells #[.slice A0 d.safe.length c0, .slice A1 d.wait.length c1, .int .i64 d.fuse, .bool d.off, .int .i64 d.reads, .int .i64 d.writes] 33)).heap.size = w.heap.size + 1 := by simp
  have HBX := Lib.hid (fun W' (hb : Below (w.heap.size + 1) _ W') => hbox.below hb hq)
  have HV := Lib.hid (hbox.val f2 f3 f4)
  have hblk := hbox.blk
  have HQ := Lib.hid hq
  have HN := Lib.hid hn
  obtain ⟨k, rfl⟩ : ∃ k : Nat, i = k := ⟨i.toNat, by omega⟩
  have HK := Lib.hid (show k < d.safe.length by omega)
  clear hx hbox f2 f3 f4 hq hn hi
  generalize hl1 : d.wait.length = len1 at *
  generalize hl0 : d.safe.length = len0 at *
  have HL0 := Lib.hid hl0
  have HL1 := Lib.hid hl1
  clear hl0 hl1
  generalize hW1 : w.alloc (.cells #[.slice A0 len0 c0, .slice A1 len1 c1, .int .i64 d.fuse, .bool d.off, .int .i64 d.reads, .int .i64 d.writes] 33) = W1 at *
  have HS := Lib.hid hsz
  clear hsz
  have e0 := cell_row hblk 0
  have e1 := cell_row hblk 1
  have e2 := cell_row hblk 2
  have e3 := cell_row hblk 3
  have e4 := cell_row hblk 4
  have e5 := cell_row hblk 5
  clear hblk
  go_enter Try.func87, Try.ntmps87
  go_wp2_with fail
  try rw [hW1]
  clear hW1
  refine (rof_calls HV.out (fun b hb => by have := HQ.out b hb; have := HS.out; omega) (by rw [HL1.out]; exact HN.out)).mono ?_
  rintro e w2 ⟨u2, rfl, hu2, hb2⟩
  obtain ⟨A3, c3, rfl, hc3, hm3⟩ := Rep.acc_form hu2
  have HU := Lib.hid hu2
  have hbx := HBX.out _ (hb2.mono (Nat.le_of_eq HS.out.symm))
  have hblk := hbx.blk
  rw [HL0.out, HL1.out] at hblk
  clear e0 e1 e2 e3 e4 e5
  have e0 := cell_row hblk 0
  have HBEL := Lib.hid hbx.bel
  unfold maxLen at hm3
  have hlast : lastW d (k : Int) = ((ofW d.wait (k : Int)).getLast?).getD (d.safe.getD k []) := rfl
  generalize ofW d.wait (k : Int) = l at *
  have hcap := hbx.safe.2.1
  have hlc := hbx.safe.1
  unfold maxLen at hcap
  rw [HL0.out] at hlc
  have hk0 := HK.out
  have hk1 : (k : Int) < len0 := by omega
  by_cases h0 : l.length = 0
  · obtain ⟨x, hx0⟩ : ∃ x, d.safe[k]? = some x := ⟨_, List.getElem?_eq_getElem (by rw [HL0.out]; exact hk0)⟩
    obtain ⟨bb, off, B5, c5, rfl, hcell, hc5, hm5, hat⟩ := Rep.At.list hbx.safe.2.2 hx0
    have HF := Lib.hid (show lastW d (k : Int) = x by rw [hlast, last_nil (List.eq_nil_of_length_eq_zero h0), List.getD_eq_getElem?_getD, hx0]; rfl)
    have HX := Lib.hid (show Rep.byte.list.val Q w2 (.slice B5 x.length c5) x from Rep.list_val rfl hc5 hm5 hat)
    rw [h0] at hc3
    clear hu2 hb2 hbx hblk hlast hat hx0 hc5 hm5
    rw [h0]
    clear h0
    go_wp2_with fail
    go_ret
    exact ⟨_, rfl, by rw [HF.out]; exact HX.out, HBEL.out⟩
  · obtain ⟨m, hm⟩ : ∃ m, l.length = m + 1 := ⟨l.length - 1, by omega⟩
    obtain ⟨x, hx0⟩ : ∃ x, l[m]? = some x := ⟨_, List.getElem?_eq_getElem (by omega)⟩
    obtain ⟨g, B5, c5, cap, he, hcell, hfr, hlt, hval⟩ := Rep.acc_elem hu2 hx0
    have HF := Lib.hid (show lastW d (k : Int) = x by rw [hlast, List.getLast?_eq_getElem?, show l.length - 1 = m by omega, hx0]; rfl)
    have HX := Lib.hid (Rep.val_mono (Q' := Q) (fun b hb _ => hb.1) hval)
    rw [hm] at he hc3
    cases he
    clear hu2 hb2 hbx hblk hlast hx0 hval e0 h0
    rw [hm]
    have hmx : (m : Int) + 1 ≤ 9223372036854775807 := by omega
    clear hm
    go_wp2_with fail
    go_ret
    exact ⟨_, rfl, by rw [HF.out]; exact HX.out, HBEL.out⟩
end Go.Proofs.Ytfpmkenobphfnaa
