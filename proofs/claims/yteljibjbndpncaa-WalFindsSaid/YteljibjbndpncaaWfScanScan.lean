/- Walk of the records of a log's sectors. Printed by gen_scanscan.py. -/
import Derived.Test.YteljibjbndpncaaWfG19
import Derived.WalkMore
namespace Go.Proofs.Yteljibjbndpncaa
open Go.RowKit

/-- A record lies whole at a place. -/
def RecOk (c : DConf) (l : List (List UInt8)) (ep lsn seq : Int) (b : List UInt8) : Prop :=
  0 < b.length ∧ needOf b.length ≤ 1024 ∧ (frameGet b).2 = 0 ∧ ∀ (i : Nat) (p : List UInt8), (splitOf seq b)[i]? = some p → hasOf c l (lsn + (i : Int)) = some ⟨ep, lsn + (i : Int), 1, p⟩
/-- Records one behind the other, and none behind them. -/
def ScanOk (c : DConf) (l : List (List UInt8)) (ep : Int) : Int → Int → List (List UInt8) → Int → Prop
  | lsn, _, [], e => lsn = e ∧ hasOf c l lsn = none
  | lsn, seq, b :: r, e => RecOk c l ep lsn seq b ∧ ScanOk c l ep (lsn + needOf b.length) (seq + 1) r e
theorem ScanOk.le {c : DConf} {l : List (List UInt8)} {ep : Int} : ∀ {r : List (List UInt8)} {lsn seq e : Int}, ScanOk c l ep lsn seq r e → lsn ≤ e
  | [], _, _, _, h => Int.le_of_eq h.1
  | b :: _, lsn, _, _, h => by
    have h1 := ScanOk.le h.2
    have h2 := need_bounds (n := b.length)
    omega
def ScanRes (w : World) (rs : List (List UInt8)) (e ep sq : Int) (en : Ending) (w' : World) : Prop :=
  ∃ u, en = .returned (.agg #[u, .int .i64 e, .int .i64 ep, .int .i64 sq]) ∧ Rep.byte.list.list.val (fun k => w.heap.size ≤ k) w' u rs ∧ Below w.heap.size w w'

theorem stopAt {P : Program} {ops : Array Oper} {rest : List Oper} {o1 : Oper} {a : Act} {w : World} {R : Exit → Act → World → Prop} {x : Operand} (_ : o1.op = .buildSlice 39 1 #[(0, x)]) (h : Hid (wpList P ops R (o1 :: rest) a w)) : wpList P ops R (o1 :: rest) a w := h.out
theorem one_rec {Q R : Nat → Prop} {w : World} {v lv : Value} {c : DConf} {l : List (List UInt8)} {lsn sq most ep : Int} {b : List UInt8} (hx : rConf.val Q w v c) (hl : Rep.byte.list.list.val R w lv l)
    (hr : RecOk c l ep lsn sq b) (hsq : 0 ≤ sq ∧ sq ≤ 281474976710656) (hm : needOf b.length ≤ most) (hlsn : 0 ≤ lsn ∧ lsn ≤ 281474976710656) :
    Calls Try.prog 71 #[v, lv, .int .i64 lsn, .int .i64 ep, .int .i64 sq, .int .i64 most] w (OneSome w b (needOf b.length) ep) := by
  obtain ⟨h1, h2, h3, h4⟩ := hr
  have hb := bodies_split (seq := sq) h2
  have hn := split_len (seq := sq) h2
  have hnb := need_bounds (n := b.length)
  have h0 := split_get (seq := sq) h2 (i := 0) (by omega)
  have hh := part_head (seq := sq) (b := b) (i := 0) (by omega) h2 hsq
  have hc := one_calls (epoch := ep) (most := most) (ps := splitOf sq b) hx hl h0 (by rw [hh, hn]; rfl) (split_mem h1) (by omega) (by rw [hb]) (wf_i64 (by omega) (by omega)) (Int.le_refl _) (by omega) (by rw [hb]; exact h3) hlsn h4
  rw [hb, hn] at hc
  exact hc

set_option maxRecDepth 100000 in
set_option maxHeartbeats 4000000 in
/-- scan.Scan, of records that are whole -/
theorem scan_calls {Q R : Nat → Prop} {w : World} {v lv : Value} {c : DConf} {l rs : List (List UInt8)} {head ep seq e : Int} (hx : rConf.val Q w v c) (hl : Rep.byte.list.list.val R w lv l)
    (hok : ScanOk c l ep head seq rs e) (hh : 0 ≤ head) (he : e ≤ 281474976710656) (hlog : e - head ≤ c.log) (hcl : c.log ≤ 1024) (hs0 : 0 ≤ seq) (hs1 : seq + rs.length ≤ 281474976710656) (hln : rs.length ≤ 100000) :
    Calls Try.prog 33 #[v, lv, .int .i64 head, .int .i64 ep, .int .i64 seq] w (ScanRes w rs e ep (seq + rs.length)) := by
  obtain ⟨A, cap, rfl, _⟩ := rConf_val hx
  obtain ⟨Al, cl, rfl, hc1, hc2, hA⟩ := Rep.val_list hl
  unfold maxLen at hc2
  have HV := Lib.hid (show ∀ W', Below w.heap.size w W' → Rep.byte.list.list.val R W' (.slice Al l.length cl) l from fun W' ho => Rep.list_val rfl hc1 (by unfold maxLen; omega) (Rep.At.keep (w := w) (fun b hb hl => ⟨hb, ho.block b hl.lt⟩) hA))
  have hm0 := InBox.made hx 49
  obtain ⟨W1, hW1⟩ : ∃ W1, (w.alloc (.cells #[.int .i64 c.log, .int .i64 c.pages, .int .i64 c.entities, .int .i64 c.gens, .slice A c.comps.length cap] 49)).alloc (.cells #[.slice none 0 0, .int .i64 0, .int .i64 0, .int .i64 0] 69) = W1 := ⟨_, rfl⟩
  have hb1 : Below w.heap.size w W1 := by rw [← hW1]; exact ((Below.refl _ _).alloc (Nat.le_refl _) _).alloc (by simp) _
  have hm1 : InBox W1 w.heap.size c A cap := by rw [← hW1]; exact hm0.later ((Below.refl _ _).alloc (by simp) _)
  have hz1 : W1.heap.size = w.heap.size + 2 := by rw [← hW1]; simp
  have hr1 : W1.heap[w.heap.size + 1]? = some (.cells #[.slice none 0 0, .int .i64 0, .int .i64 0, .int .i64 0] 69 (0, 0)) := by rw [← hW1]; simpa using heap_alloc_new (w.alloc (.cells #[.int .i64 c.log, .int .i64 c.pages, .int .i64 c.entities, .int .i64 c.gens, .slice A c.comps.length cap] 49)) _
  obtain ⟨W2, hW2⟩ : ∃ W2, W1.alloc (.cells #[.slice none 0 0, .int .i64 head, .int .i64 ep, .int .i64 seq] 69) = W2 := ⟨_, rfl⟩
  have hb2 : Below W1.heap.size W1 W2 := by rw [← hW2]; exact (Below.refl _ _).alloc (Nat.le_refl _) _
  have hm2 : InBox W2 w.heap.size c A cap := hm1.later (hb2.mono (by omega))
  have hr2 : W2.heap[w.heap.size + 1]? = some (.cells #[.slice none 0 0, .int .i64 0, .int .i64 0, .int .i64 0] 69 (0, 0)) := (hb2.block _ (by omega)).trans hr1
  have ht2 : W2.heap[w.heap.size + 2]? = some (.cells #[.slice none 0 0, .int .i64 head, .int .i64 ep, .int .i64 seq] 69 (0, 0)) := by rw [← hW2, ← hz1]; exact heap_alloc_new _ _
  have HM2 := Lib.hid hm2
  have HB2 := Lib.hid (hb1.trans (hb2.mono hb1.size))
  have HR2 := Lib.hid hr2
  have HT2 := Lib.hid ht2
  have HW := Lib.hid (show ((w.alloc (.cells #[.int .i64 c.log, .int .i64 c.pages, .int .i64 c.entities, .int .i64 c.gens, .slice A c.comps.length cap] 49)).alloc (.cells #[.slice none 0 0, .int .i64 0, .int .i64 0, .int .i64 0] 69)).alloc (.cells #[.slice none 0 0, .int .i64 head, .int .i64 ep, .int .i64 seq] 69) = W2 by rw [hW1, hW2])
  have HOK := Lib.hid hok
  have HLN := Lib.hid hln
  have HH := Lib.hid (show 0 ≤ head ∧ e ≤ 281474976710656 ∧ e - head ≤ c.log ∧ c.log ≤ 1024 ∧ 0 ≤ seq ∧ seq + rs.length ≤ 281474976710656 from ⟨hh, he, hlog, hcl, hs0, hs1⟩)
  have hfr : Try.f33.results = #[.cell 10 69] := rfl
  have HFR := Lib.hid hfr
  clear hx hl hA hm0 hb1 hm1 hz1 hr1 hW1 hb2 hm2 hr2 ht2 hW2 hok hh he hlog hcl hs0 hs1 hfr
  obtain ⟨T, hT⟩ : ∃ T, T = w.heap.size + 2 := ⟨_, rfl⟩
  have HTT := Lib.hid hT
  go_enter Try.func33, Try.ntmps33
  go_wp2_with fail
  go_step3
  go_wp2_with fail
  go_step3
  go_wp2_with fail
  rw [HW.out]
  rw [← hT] at HT2 ⊢
  clear hT
  go_loopw [] (fun wr => ∃ (k : Nat) (Au : Option Addr) (cu : Nat) (lsn : Int), k ≤ rs.length ∧ wr.heap[T]? = some (.cells #[.slice Au k cu, .int .i64 lsn, .int .i64 ep, .int .i64 (seq + (k : Int))] 69 (0, 0)) ∧ Rep.byte.list.acc 33 (T + 1) (fun b => T < b) wr (.slice Au k cu) (rs.take k) ∧ Hid (ScanOk c l ep lsn (seq + (k : Int)) (rs.drop k) e) ∧ InBox wr w.heap.size c A cap ∧ wr.heap[w.heap.size + 1]? = some (.cells #[.slice none 0 0, .int .i64 0, .int .i64 0, .int .i64 0] 69 (0, 0)) ∧ Below w.heap.size w wr ∧ head ≤ lsn) (fun wr => rs.length - (intOf ((wr.cell? ⟨T, 3, none⟩).getD undef) - seq).toNat)
  case atStart =>
    refine ⟨0, none, 0, head, Nat.zero_le _, ?_, Rep.acc_nil, Lib.hid (by simpa using HOK.out), HM2.out, HR2.out, HB2.out, Int.le_refl _⟩
    rw [show seq + ((0 : Nat) : Int) = seq by simp]
    exact HT2.out
  case round =>
    obtain ⟨k, Au, cu, lsn, hk, ht, hacc, hok, hm, hr, hb, hle⟩ := hrel
    have HACC := Lib.hid hacc
    have HM := Lib.hid hm
    have HT := Lib.hid ht
    have HR := Lib.hid hr
    have HB := Lib.hid hb
    have HK := Lib.hid hk
    have y0 := cell_row ht 0
    have y1 := cell_row ht 1
    have y2 := cell_row ht 2
    have y3 := cell_row ht 3
    have hTs : T < wr.heap.size := IsC.lt ⟨_, _, _, ht⟩
    have HTS := Lib.hid hTs
    obtain ⟨a0, a1, a2, a3, a4, _⟩ := hm
    have hen : lsn ≤ e := hok.out.le
    have i1 : IntKind.i64.wrap (lsn - head) = lsn - head := IntWalk.i64_in _ ⟨by have := HH.out; omega, by have := HH.out; omega⟩
    have i2 : IntKind.i64.wrap (c.log - (lsn - head)) = c.log - (lsn - head) := IntWalk.i64_in _ ⟨by have := HH.out; omega, by have := HH.out; omega⟩
    have HLE := Lib.hid (show 0 ≤ lsn ∧ lsn ≤ 281474976710656 ∧ head ≤ lsn by have := HH.out; omega)
    clear hacc ht hr hb hle
    cases hd : rs.drop k with
    | nil =>
      have hkl : k = rs.length := by have := List.drop_eq_nil_iff.1 hd; omega
      have HOK2 := hok.out
      rw [hd] at HOK2
      obtain ⟨rfl, hnone⟩ := HOK2
      have HN := Lib.hid hnone
      have HKL := Lib.hid hkl
      clear hd hkl hnone hok hk hen hTs
      go_wp2_with fail
      clear a0 a1 a2 a3 a4 y0 y1 y2 y3
      refine (one_none HM.out.val (HV.out wr HB.out) HN.out).mono ?_
      rintro en w4 ⟨rfl, hb4⟩
      have ht4 := (hb4.block T HTS.out).trans HT.out
      have hr4 := (hb4.block (w.heap.size + 1) (by have := HTS.out; have := HTT.out; omega)).trans HR.out
      have HB4 := Lib.hid hb4
      have y0 := cell_row ht4 0
      have y1 := cell_row ht4 1
      have y2 := cell_row ht4 2
      have y3 := cell_row ht4 3
      have e0 := cell_row hr4 0
      have e1 := cell_row hr4 1
      have e2 := cell_row hr4 2
      have e3 := cell_row hr4 3
      have z0 := frozen_row hr4 0
      have z1 := frozen_row hr4 1
      have z2 := frozen_row hr4 2
      have z3 := frozen_row hr4 3
      clear hb4 ht4 hr4
      go_wp2_with fail
      have hkl := HKL.out
      subst hkl
      show bodyPost _ _ _ .ret _ _
      refine ⟨rfl, .agg #[.slice Au rs.length cu, .int .i64 lsn, .int .i64 ep, .int .i64 (seq + rs.length)], ?_, ⟨_, rfl, ?_, below_set (below_set (below_set (below_set (HB.out.trans (HB4.out.mono HB.out.size)) (Nat.le_succ _)) (Nat.le_succ _)) (Nat.le_succ _)) (Nat.le_succ _)⟩⟩
      · simp only [results, HFR.out]
        go_simp
      · have hv := Rep.acc_val HACC.out
        rw [List.take_length] at hv
        refine Rep.val_keep (fun x hx hl => ?_) hv
        have hxT : T < x := hx.elim id (fun e => by have := (Rep.acc_own HACC.out x e).1; omega)
        have hTT := HTT.out
        exact ⟨by omega, (set4_keep (by omega)).trans (HB4.out.block x hl.lt)⟩
    | cons b r =>
      have HOK2 := hok.out
      rw [hd] at HOK2
      obtain ⟨hrec, hok2⟩ := HOK2
      obtain ⟨n, hn⟩ : ∃ n : Int, n = needOf b.length := ⟨_, rfl⟩
      have hnb := need_bounds (n := b.length)
      have hn2 := hrec.2.1
      have hle2 := hok2.le
      have HREC := Lib.hid hrec
      rw [← hn] at hok2 hnb hn2 hle2
      have HOK2 := Lib.hid hok2
      have hkl : k < rs.length := by
        have h1 : (rs.drop k).length = r.length + 1 := by rw [hd]; rfl
        rw [List.length_drop] at h1; omega
      have HKL := Lib.hid hkl
      have HDK := Lib.hid hd
      have HN := Lib.hid hn
      have HNB := Lib.hid (show 1 ≤ n ∧ n ≤ 1024 ∧ lsn + n ≤ e from ⟨hnb.1, hn2, hle2⟩)
      have HRV := Lib.hid (show 0 ≤ seq + (k : Int) ∧ seq + (k : Int) ≤ 281474976710656 by have := HH.out; omega)
      have i3 : IntKind.i64.wrap (lsn + n) = lsn + n := IntWalk.i64_in _ ⟨by have := HH.out; have := HLE.out; omega, by have := HH.out; have := HLE.out; omega⟩
      have i4 : IntKind.i64.wrap (seq + (k : Int) + 1) = seq + (k : Int) + 1 := IntWalk.i64_in _ ⟨by have := HH.out; omega, by have := HH.out; omega⟩
      clear hd hrec hok2 hnb hn2 hle2 hn hok hk hen hTs hkl
      go_wp2_with fail
      clear a0 a1 a2 a3 a4 y0 y1 y2 y3
      refine (one_rec HM.out.val (HV.out wr HB.out) HREC.out HRV.out (by have := HN.out; have := HNB.out; have := HH.out; omega) ⟨HLE.out.1, HLE.out.2.1⟩).mono ?_
      rintro en w4 ⟨u4, rfl, hu4, hb4⟩
      rw [← HN.out]
      obtain ⟨A4, c4, rfl, hd1, hd2, hA4⟩ := Rep.val_list hu4
      have HV4 := Lib.hid (show Rep.byte.list.val (fun x => T < x ∧ (Value.slice Au k cu).ownBlock ≠ some x) w4 (.slice A4 b.length c4) b from Rep.val_mono (fun x hx _ => ⟨by have := HTS.out; have hx' : wr.heap.size ≤ x := hx; omega, fun he => by have := (Rep.acc_own HACC.out x he).2; have hx' : wr.heap.size ≤ x := hx; omega⟩) hu4)
      have HACC4 := Lib.hid (Rep.acc_later HACC.out hb4)
      have ht4 := (hb4.block T HTS.out).trans HT.out
      have HT4 := Lib.hid ht4
      have HB4 := Lib.hid hb4
      have HTN := Lib.hid (show (Value.slice Au k cu).ownBlock ≠ some T from fun he => by have := (Rep.acc_own HACC.out T he).1; omega)
      have M63 := Lib.hid (show (rs.take k).length + 1 ≤ maxLen ∧ ((rs.take k).length + 1) * 24 ≤ 140737488355328 by rw [List.length_take]; have := HKL.out; have := HLN.out; unfold maxLen; omega)
      have SZ := Lib.hid (show T + 1 ≤ w4.heap.size by have := hb4.size; have := HTS.out; omega)
      have y0 := cell_row ht4 0
      have y1 := cell_row ht4 1
      have y2 := cell_row ht4 2
      have y3 := cell_row ht4 3
      clear hu4 hd1 hd2 hA4 hb4 ht4
      go_wp2_with (with_reducible refine stopAt rfl ?_)
      refine Lib.hid ?_
      refine wpList_snoc (e := 33) (base := T + 1) (Q := fun x => T < x) (r := Rep.byte.list) (z := .slice none 0 0) (size := 1) (bytes := 24) (xs := rs.take k) (y := b) (v := .slice Au k cu) (vy := .slice A4 b.length c4) (hg1 := rfl) (hg2 := rfl) (t := 39) (ho1 := rfl) (hd := rfl) (ho2 := rfl) (ht := Try.underlying39) (hi := info22) (hzs := rfl) (hsz := by decide) (hr := rfl) (h := HACC4.out) (hx := by exact rfl) (hy := HV4.out) (hs := by exact rfl) (he := by exact rfl) (h63 := M63.out.1) (hbytes := M63.out.2) (hbase := SZ.out) (K := ?_)
      intro s5 w5 hacc5 hgr5 hat5
      have htk : rs.take k ++ [b] = rs.take (k + 1) := by
        have h1 : rs[k]? = some b := by rw [← List.head?_drop, HDK.out]; rfl
        obtain ⟨h2, h3⟩ := List.getElem?_eq_some_iff.1 h1
        rw [List.take_succ_eq_append_getElem h2, h3]
      rw [htk] at hacc5
      obtain ⟨A5, c5, rfl, hcc5, hmm5⟩ := Rep.acc_form hacc5
      rw [show (rs.take (k + 1)).length = k + 1 by rw [List.length_take]; have := HKL.out; omega] at *
      have ht5 := (hgr5.block T SZ.out (fun e => HTN.out e.symm)).trans HT4.out
      have hr5 := (hgr5.block (w.heap.size + 1) (by have := SZ.out; have := HTT.out; omega) (fun he => by have := (Rep.acc_own HACC.out _ he.symm).1; have := HTT.out; omega)).trans ((HB4.out.block (w.heap.size + 1) (by have := HTS.out; have := HTT.out; omega)).trans HR.out)
      have HT5 := Lib.hid ht5
      have HR5 := Lib.hid hr5
      have HACC5 := Lib.hid hacc5
      have HB5 := Lib.hid ((HB4.out.mono (by have := HTS.out; omega : T + 1 ≤ wr.heap.size)).grown hgr5 SZ.out (fun x hx => (Rep.acc_own HACC.out x hx).1))
      clear y0 y1 y2 y3 htk hcc5 hmm5 hr5 hat5
      have y0 := cell_row ht5 0
      have y1 := cell_row ht5 1
      have y2 := cell_row ht5 2
      have y3 := cell_row ht5 3
      have z0 := frozen_row ht5 0
      have z1 := frozen_row ht5 1
      have z2 := frozen_row ht5 2
      have z3 := frozen_row ht5 3
      clear ht5 hacc5 hgr5
      go_wp2_with fail
      have hTT := HTT.out
      have hBF := below_set (i := 3) (v := .int .i64 (seq + (k : Int) + 1)) (below_set (i := 2) (v := .int .i64 ep) (below_set (i := 1) (v := .int .i64 (lsn + n)) (below_set (i := 0) (v := .slice A5 (k + 1) c5) (HB5.out.mono (show w.heap.size + 1 ≤ T + 1 by omega)) (show w.heap.size + 1 ≤ T by omega)) (show w.heap.size + 1 ≤ T by omega)) (show w.heap.size + 1 ≤ T by omega)) (show w.heap.size + 1 ≤ T by omega)
      have hcast : seq + ((k + 1 : Nat) : Int) = seq + (k : Int) + 1 := by omega
      have hTF := heap_setRow (i := 3) (v := .int .i64 (seq + (k : Int) + 1)) (heap_setRow (i := 2) (v := .int .i64 ep) (heap_setRow (i := 1) (v := .int .i64 (lsn + n)) (heap_setRow (i := 0) (v := .slice A5 (k + 1) c5) HT5.out)))
      have hc3 := cell_row hTF 3
      have hw3 := cell_row HT.out 3
      refine ⟨⟨k + 1, A5, c5, lsn + n, by have := HKL.out; omega, ?_, ?_, ?_, HM.out.later hBF, (set4_keep (by omega)).trans HR5.out, HB.out.trans (hBF.mono (by omega)), by have := HNB.out; have := HLE.out; omega⟩, ?_⟩
      · rw [hcast]; exact hTF
      · exact Rep.acc_keep (w := w5) (fun x hx _ => set4_keep (by have : T < x := hx.elim id (fun e => by have := (Rep.acc_own HACC5.out x e).1; omega); omega)) (fun x hx _ => hx) HACC5.out
      · rw [hcast, show rs.drop (k + 1) = r by rw [← List.tail_drop, HDK.out]; rfl]
        exact HOK2
      · rw [hc3, hw3]
        have := HKL.out
        simp [intOf]; omega
end Go.Proofs.Yteljibjbndpncaa
