/- Texts on which the proofs stand: RDirBytes, Same, Entries. No condition is laid on any input. -/
import Derived.Test.YtfpmkenobphfnaaWeDirBytes
import Derived.Test.YtfpmkenobphfnaaWeG2
import Derived.Test.YtfpmkenobphfnaaWeTypes
import Derived.BigQuiet
import Derived.Deep.QuietTactic
/- Walk of the reference's directory as0 bytes. -/
namespace Go.Proofs.Ytfpmkenobphfnaa
open Go.RowKit

set_option maxRecDepth 100000 in
set_option maxHeartbeats 1000000 in
/-- ref25.Bytes -/
theorem rdput_calls {Q : Nat → Prop} {w : World} {v : Value} {l : List DEntry} (hx : rEntry.list.val Q w v l) (hb : (dirBytes l).length ≤ 100000000) (hn : l.length ≤ 100000000) :
    Calls Try.prog 30 #[v] w (ResA Rep.byte 5 w (dirBytes l)) := by
  obtain ⟨A, c, rfl, hc1, hc2, hA⟩ := Rep.val_list hx
  unfold maxLen at hc2
  have HX := Lib.hid hA
  have HBL := Lib.hid hb
  have HN := wf_i64 (n := (l.length : Int)) (by omega) (by omega)
  clear hx hA hb
  go_enter Try.func30, Try.ntmps30
  go_wp2_with fail
  refine (rnum_calls (width := 2) (n := l.length) rfl HN).mono ?_
  rintro e w1 ⟨u, rfl, hu, hb1⟩
  have HU := Lib.hid hu
  have B1 := Lib.hid hb1
  clear hu hb1
  go_wp2_with fail
  go_loopw [3, 4] (fun s i wr => ∃ k : Nat, i = .int .i64 k ∧ k ≤ l.length ∧ Rep.byte.acc 5 w.heap.size (fun _ => False) wr s (num 2 l.length ++ ((l.take k).map entBytes).flatten) ∧ Below w.heap.size w wr)
    (fun _ i _ => l.length - (intOf i).toNat)
  case atStart => exact ⟨0, rfl, by omega, by simpa using HU.out, B1.out⟩
  case round =>
    obtain ⟨k, rfl, hk, hv, hb1⟩ := hrel
    have HB1 := Lib.hid hb1
    by_cases hlt : (k : Int) < l.length
    · have hk' : k < l.length := by omega
      have hAw : rEntry.At (fun b => b < w.heap.size) wr A l := Rep.At.keep (w := w) (fun b _ hb => ⟨hb.lt, hb1.block b hb.lt⟩) HX.out
      obtain ⟨b, off, Ap, cp, rfl, hbc, cx0, cx1, cx2, cx3, cx4, g0, g1, g2, g3, hs⟩ := rEntry_at hAw (List.getElem?_eq_getElem hk')
      have hbw : b < w.heap.size := by
        obtain ⟨b', o', es, he, hq, _⟩ := hAw.get (List.getElem?_eq_getElem hk')
        cases he; exact hq
      have T := Lib.hid (show num 2 l.length ++ ((l.take (k + 1)).map entBytes).flatten = (num 2 l.length ++ ((l.take k).map entBytes).flatten) ++ entBytes l[k] by
        rw [take_flatten_succ entBytes hk']; simp only [List.append_assoc])
      have L := Lib.hid (show (num 2 l.length ++ ((l.take k).map entBytes).flatten).length + (entBytes l[k]).length ≤ 100000000 from Nat.le_trans (dirBytes_prefix hk') HBL.out)
      generalize l[k] = x at *
      generalize num 2 l.length ++ ((l.take k).map entBytes).flatten = q at hv T L
      have HS := Lib.hid hs
      have hsl := hs.1
      have hsm := hs.2.1
      unfold maxLen at hsm
      have gl := wf_i64 (n := (x.pages.length : Int)) (by omega) (by omega)
      have gw := wrap64_wf x.key.sig
      have LE := Lib.hid (entBytes_prefix x)
      have KS := Lib.hid (show ∀ w', Below w.heap.size wr w' → w'.cell? ⟨b, off + k * 5, none⟩ = some (.int .i64 x.key.kind) ∧ w'.cell? ⟨b, off + k * 5 + 1, none⟩ = some (.int .u64 x.key.sig) ∧ w'.cell? ⟨b, off + k * 5 + 2, none⟩ = some (.int .i64 x.key.comp) ∧ w'.cell? ⟨b, off + k * 5 + 3, none⟩ = some (.int .i64 x.long) ∧ w'.cell? ⟨b, off + k * 5 + 4, none⟩ = some (.slice Ap x.pages.length cp) from
        fun w' h => ⟨(h.cell (p := ⟨b, off + k * 5, none⟩) hbw).trans cx0, (h.cell (p := ⟨b, off + k * 5 + 1, none⟩) hbw).trans cx1, (h.cell (p := ⟨b, off + k * 5 + 2, none⟩) hbw).trans cx2, (h.cell (p := ⟨b, off + k * 5 + 3, none⟩) hbw).trans cx3, (h.cell (p := ⟨b, off + k * 5 + 4, none⟩) hbw).trans cx4⟩)
      have LQ := Lib.hid (show q.length + (entHead x).length ≤ 100000000 by have := L.out; have := LE.out 0; omega)
      have HV := Lib.hid hv
      clear hv hb1 hAw hs
      obtain ⟨q1, hq1⟩ : ∃ z, z = q ++ num 1 x.key.kind := ⟨_, rfl⟩
      have hl1 : q1.length = q.length + (num 1 x.key.kind).length := by rw [hq1, List.length_append]
      obtain ⟨q2, hq2⟩ : ∃ z, z = q1 ++ num 8 (wrap64 x.key.sig) := ⟨_, rfl⟩
      have hl2 : q2.length = q1.length + (num 8 (wrap64 x.key.sig)).length := by rw [hq2, List.length_append]
      obtain ⟨q3, hq3⟩ : ∃ z, z = q2 ++ num 1 x.key.comp := ⟨_, rfl⟩
      have hl3 : q3.length = q2.length + (num 1 x.key.comp).length := by rw [hq3, List.length_append]
      obtain ⟨q4, hq4⟩ : ∃ z, z = q3 ++ num 4 x.long := ⟨_, rfl⟩
      have hl4 : q4.length = q3.length + (num 4 x.long).length := by rw [hq4, List.length_append]
      obtain ⟨q5, hq5⟩ : ∃ z, z = q4 ++ num 2 x.pages.length := ⟨_, rfl⟩
      have hl5 : q5.length = q4.length + (num 2 x.pages.length).length := by rw [hq5, List.length_append]
      have HLS := Lib.hid (show ((q.length + (num 1 x.key.kind).length ≤ maxLen ∧ (q.length + (num 1 x.key.kind).length) * 1 ≤ 140737488355328) ∧ (q1.length + (num 8 (wrap64 x.key.sig)).length ≤ maxLen ∧ (q1.length + (num 8 (wrap64 x.key.sig)).length) * 1 ≤ 140737488355328) ∧ (q2.length + (num 1 x.key.comp).length ≤ maxLen ∧ (q2.length + (num 1 x.key.comp).length) * 1 ≤ 140737488355328) ∧ (q3.length + (num 4 x.long).length ≤ maxLen ∧ (q3.length + (num 4 x.long).length) * 1 ≤ 140737488355328) ∧ (q4.length + (num 2 x.pages.length).length ≤ maxLen ∧ (q4.length + (num 2 x.pages.length).length) * 1 ≤ 140737488355328)) ∧ q5.length = q.length + (entHead x).length by have := LQ.out; unfold maxLen; simp only [entHead, List.length_append] at *; omega)
      have HQ5 := Lib.hid (show q5 = q ++ entHead x by rw [hq5, hq4, hq3, hq2, hq1]; simp only [entHead, List.append_assoc])
      have E1 := Lib.hid hq1
      have E2 := Lib.hid hq2
      have E3 := Lib.hid hq3
      have E4 := Lib.hid hq4
      have E5 := Lib.hid hq5
      clear hl1 hl2 hl3 hl4 hl5 hq1 hq2 hq3 hq4 hq5
      have D0 := Lib.hid (Below.refl w.heap.size wr)
      go_wp2_with fail
      refine (rnum_calls (width := 1) (n := x.key.kind) rfl g0).mono ?_
      rintro e v1 ⟨u1, rfl, hu1, hb1⟩
      have F1 := Lib.hid (D0.out.trans (hb1.mono (Nat.le_trans HB1.out.size D0.out.size)))
      have U1 := Lib.hid (Rep.acc_fresh hu1)
      have V1 := Lib.hid (Rep.acc_later HV.out hb1)
      have Z1 := Lib.hid (Nat.le_trans HB1.out.size F1.out.size)
      clear hu1 hb1 cx0 cx1 cx2 cx3 cx4
      go_wp2_with (refine wpList_spread_leaf (e := 5) (base := w.heap.size) (Q := fun _ => False) Rep.leaf_byte rfl _ _ 36 rfl (.int .u8 0) 1 1 Try.underlying36 info5 rfl (by decide) rfl _ q (by exact rfl) V1.out _ (num 1 x.key.kind) (by exact rfl) U1.out HLS.out.1.1.1 HLS.out.1.1.2 Z1.out ?_; intro s1 a1 hacc1 hgr1 hat; rw [← E1.out] at hacc1; have D1 := Lib.hid (Rep.acc_below V1.out F1.out hgr1 Z1.out); have HV1 := Lib.hid hacc1; clear hacc1 hgr1 hat; obtain ⟨cx0, cx1, cx2, cx3, cx4⟩ := KS.out _ D1.out)
      go_wp2_with fail
      refine (rnum_calls (width := 8) (n := (wrap64 x.key.sig)) rfl gw).mono ?_
      rintro e v2 ⟨u2, rfl, hu2, hb2⟩
      have F2 := Lib.hid (D1.out.trans (hb2.mono (Nat.le_trans HB1.out.size D1.out.size)))
      have U2 := Lib.hid (Rep.acc_fresh hu2)
      have V2 := Lib.hid (Rep.acc_later HV1.out hb2)
      have Z2 := Lib.hid (Nat.le_trans HB1.out.size F2.out.size)
      clear hu2 hb2 cx0 cx1 cx2 cx3 cx4
      go_wp2_with (refine wpList_spread_leaf (e := 5) (base := w.heap.size) (Q := fun _ => False) Rep.leaf_byte rfl _ _ 36 rfl (.int .u8 0) 1 1 Try.underlying36 info5 rfl (by decide) rfl _ q1 (by exact rfl) V2.out _ (num 8 (wrap64 x.key.sig)) (by exact rfl) U2.out HLS.out.1.2.1.1 HLS.out.1.2.1.2 Z2.out ?_; intro s2 a2 hacc2 hgr2 hat; rw [← E2.out] at hacc2; have D2 := Lib.hid (Rep.acc_below V2.out F2.out hgr2 Z2.out); have HV2 := Lib.hid hacc2; clear hacc2 hgr2 hat; obtain ⟨cx0, cx1, cx2, cx3, cx4⟩ := KS.out _ D2.out)
      go_wp2_with fail
      refine (rnum_calls (width := 1) (n := x.key.comp) rfl g2).mono ?_
      rintro e v3 ⟨u3, rfl, hu3, hb3⟩
      have F3 := Lib.hid (D2.out.trans (hb3.mono (Nat.le_trans HB1.out.size D2.out.size)))
      have U3 := Lib.hid (Rep.acc_fresh hu3)
      have V3 := Lib.hid (Rep.acc_later HV2.out hb3)
      have Z3 := Lib.hid (Nat.le_trans HB1.out.size F3.out.size)
      clear hu3 hb3 cx0 cx1 cx2 cx3 cx4
      go_wp2_with (refine wpList_spread_leaf (e := 5) (base := w.heap.size) (Q := fun _ => False) Rep.leaf_byte rfl _ _ 36 rfl (.int .u8 0) 1 1 Try.underlying36 info5 rfl (by decide) rfl _ q2 (by exact rfl) V3.out _ (num 1 x.key.comp) (by exact rfl) U3.out HLS.out.1.2.2.1.1 HLS.out.1.2.2.1.2 Z3.out ?_; intro s3 a3 hacc3 hgr3 hat; rw [← E3.out] at hacc3; have D3 := Lib.hid (Rep.acc_below V3.out F3.out hgr3 Z3.out); have HV3 := Lib.hid hacc3; clear hacc3 hgr3 hat; obtain ⟨cx0, cx1, cx2, cx3, cx4⟩ := KS.out _ D3.out)
      go_wp2_with fail
      refine (rnum_calls (width := 4) (n := x.long) rfl g3).mono ?_
      rintro e v4 ⟨u4, rfl, hu4, hb4⟩
      have F4 := Lib.hid (D3.out.trans (hb4.mono (Nat.le_trans HB1.out.size D3.out.size)))
      have U4 := Lib.hid (Rep.acc_fresh hu4)
      have V4 := Lib.hid (Rep.acc_later HV3.out hb4)
      have Z4 := Lib.hid (Nat.le_trans HB1.out.size F4.out.size)
      clear hu4 hb4 cx0 cx1 cx2 cx3 cx4
      go_wp2_with (refine wpList_spread_leaf (e := 5) (base := w.heap.size) (Q := fun _ => False) Rep.leaf_byte rfl _ _ 36 rfl (.int .u8 0) 1 1 Try.underlying36 info5 rfl (by decide) rfl _ q3 (by exact rfl) V4.out _ (num 4 x.long) (by exact rfl) U4.out HLS.out.1.2.2.2.1.1 HLS.out.1.2.2.2.1.2 Z4.out ?_; intro s4 a4 hacc4 hgr4 hat; rw [← E4.out] at hacc4; have D4 := Lib.hid (Rep.acc_below V4.out F4.out hgr4 Z4.out); have HV4 := Lib.hid hacc4; clear hacc4 hgr4 hat; obtain ⟨cx0, cx1, cx2, cx3, cx4⟩ := KS.out _ D4.out)
      go_wp2_with fail
      refine (rnum_calls (width := 2) (n := x.pages.length) rfl gl).mono ?_
      rintro e v5 ⟨u5, rfl, hu5, hb5⟩
      have F5 := Lib.hid (D4.out.trans (hb5.mono (Nat.le_trans HB1.out.size D4.out.size)))
      have U5 := Lib.hid (Rep.acc_fresh hu5)
      have V5 := Lib.hid (Rep.acc_later HV4.out hb5)
      have Z5 := Lib.hid (Nat.le_trans HB1.out.size F5.out.size)
      clear hu5 hb5 cx0 cx1 cx2 cx3 cx4
      go_wp2_with (refine wpList_spread_leaf (e := 5) (base := w.heap.size) (Q := fun _ => False) Rep.leaf_byte rfl _ _ 36 rfl (.int .u8 0) 1 1 Try.underlying36 info5 rfl (by decide) rfl _ q4 (by exact rfl) V5.out _ (num 2 x.pages.length) (by exact rfl) U5.out HLS.out.1.2.2.2.2.1 HLS.out.1.2.2.2.2.2 Z5.out ?_; intro s5 a5 hacc5 hgr5 hat; rw [← E5.out] at hacc5; have D5 := Lib.hid (Rep.acc_below V5.out F5.out hgr5 Z5.out); have HV5 := Lib.hid hacc5; clear hacc5 hgr5 hat; obtain ⟨cx0, cx1, cx2, cx3, cx4⟩ := KS.out _ D5.out)
      have B5 := Lib.hid (HB1.out.trans (D5.out))
      have HS5 := Lib.hid (HS.out.below D5.out (fun _ hb _ => hb))
      have HL5 := Lib.hid (show ∀ j, j ≤ x.pages.length → (q5 ++ ((x.pages.take j).map (num 2)).flatten).length ≤ 1000000000 by intro j _; have h1 := LE.out j; have h2 := HLS.out.2; have h3 := L.out; rw [List.length_append]; omega)
      have HT := Lib.hid (show q5 ++ ((x.pages.take x.pages.length).map (num 2)).flatten = q ++ entBytes x by rw [HQ5.out, List.take_length, entBytes, List.append_assoc])
      have KS5 := Lib.hid (show ∀ w', Below w.heap.size a5 w' → w'.cell? ⟨b, off + k * 5 + 4, none⟩ = some (.slice Ap x.pages.length cp) from fun w' h => (h.cell (p := ⟨b, off + k * 5 + 4, none⟩) hbw).trans cx4)
      clear cx0 cx1 cx2 cx3 cx4 KS
      go_loopw [3, 5] (fun s i wr => ∃ j : Nat, i = .int .i64 j ∧ j ≤ x.pages.length ∧ Rep.byte.acc 5 w.heap.size (fun _ => False) wr s (q5 ++ ((x.pages.take j).map (num 2)).flatten) ∧ Below w.heap.size a5 wr)
        (fun _ i _ => x.pages.length - (intOf i).toNat)
      case atStart => exact ⟨0, rfl, by omega, by simpa using HV5.out, Below.refl _ _⟩
      case round =>
        obtain ⟨j, rfl, hj, hv, hb1⟩ := hrel
        have HB6 := Lib.hid hb1
        have cx4 := KS5.out _ hb1
        by_cases hlt2 : (j : Int) < x.pages.length
        · have hj' : j < x.pages.length := by omega
          obtain ⟨bp, op, rfl, cp0, wp0⟩ := Rep.At.int (HS5.out.below hb1 (fun _ hb _ => hb)).2.2 (List.getElem?_eq_getElem hj')
          have T2 := Lib.hid (show q5 ++ ((x.pages.take (j + 1)).map (num 2)).flatten = (q5 ++ ((x.pages.take j).map (num 2)).flatten) ++ num 2 x.pages[j] by rw [take_flatten_succ (num 2) hj', List.append_assoc])
          have L6 := Lib.hid (HL5.out j (by omega))
          generalize x.pages[j] = p at *
          generalize q5 ++ ((x.pages.take j).map (num 2)).flatten = r at hv T2 L6
          have HV6 := Lib.hid hv
          have L7 := Lib.hid (show r.length + (num 2 p).length ≤ maxLen ∧ (r.length + (num 2 p).length) * 1 ≤ 140737488355328 by have h1 := L6.out; have h2 := num_length 2 p; unfold maxLen; omega)
          clear hv hb1
          go_wp2_with fail
          refine (rnum_calls (width := 2) (n := p) rfl wp0).mono ?_
          rintro e w6 ⟨u6, rfl, hu6, hb6⟩
          have F6 := Lib.hid (HB6.out.trans (hb6.mono (Nat.le_trans B5.out.size HB6.out.size)))
          have U6 := Lib.hid (Rep.acc_fresh hu6)
          have V6 := Lib.hid (Rep.acc_later HV6.out hb6)
          have Z6 := Lib.hid (Nat.le_trans B5.out.size F6.out.size)
          clear hu6 hb6 cx4 cp0
          go_wp2_with (refine wpList_spread_leaf (e := 5) (base := w.heap.size) (Q := fun _ => False) Rep.leaf_byte rfl _ _ 36 rfl (.int .u8 0) 1 1 Try.underlying36 info5 rfl (by decide) rfl _ r (by exact rfl) V6.out _ (num 2 p) (by exact rfl) U6.out L7.out.1 L7.out.2 Z6.out ?_; intro s6 a6 hacc6 hgr6 hat; rw [← T2.out] at hacc6; have D6 := Lib.hid (Rep.acc_below V6.out F6.out hgr6 Z6.out); have HV7 := Lib.hid hacc6; clear hacc6 hgr6 hat)
          exact ⟨⟨j + 1, by go_num, by omega, HV7.out, D6.out⟩, by simp [intOf]; omega⟩
        · obtain rfl : j = x.pages.length := by omega
          rw [HT.out, ← T.out] at hv
          have HV6 := Lib.hid hv
          clear hv hb1
          go_wp2_with fail
          exact ⟨⟨k + 1, by go_num, by omega, HV6.out, B5.out.trans HB6.out⟩, by simp [intOf]; omega⟩
    · obtain rfl : k = l.length := by omega
      have T := Lib.hid (show dirBytes l = num 2 l.length ++ ((l.take l.length).map entBytes).flatten by rw [List.take_length]; rfl)
      generalize num 2 l.length ++ ((l.take l.length).map entBytes).flatten = q at hv T
      have HV := Lib.hid hv
      clear hv hb1
      go_wp2_with fail
      go_ret
      exact ⟨_, rfl, by rw [T.out]; exact HV.out, HB1.out⟩
end Go.Proofs.Ytfpmkenobphfnaa
/- Walks of the references' comparisons of lists and tables. -/
namespace Go.Proofs.Ytfpmkenobphfnaa
open Go.RowKit

set_option maxHeartbeats 400000 in
theorem sameList {Q Q' : Nat → Prop} {w : World} {v u : Value} {xs ys : List Int} (hx : (Rep.int .i64).list.val Q w v xs) (hy : (Rep.int .i64).list.val Q' w u ys) :
    Calls Try.prog 22 #[v, u] w fun e w' => e = .returned (.bool (decide (xs = ys))) ∧ ∃ n, w' = w.drewN n := by
  obtain ⟨A, c, rfl, hc1, hc2, hA⟩ := Rep.val_list hx
  obtain ⟨B, d, rfl, hd1, hd2, hB⟩ := Rep.val_list hy
  clear hx hy
  unfold maxLen at hc2 hd2
  by_cases hlen : xs.length = ys.length
  · have hne : ((xs.length : Int) != (ys.length : Int)) = false := by simp [hlen]
    have H := Lib.hid hlen
    clear hlen
    go_enter Try.func22, Try.ntmps22
    go_wp2_with fail
    go_loopw [5] (fun i wr => ∃ k : Nat, i = .int .i64 k ∧ k ≤ xs.length ∧ xs.take k = ys.take k ∧ ∃ n, w.drewN n = wr) (fun i _ => xs.length - (intOf i).toNat)
    case atStart => exact ⟨0, rfl, Nat.zero_le _, by simp, 0, rfl⟩
    case round =>
      obtain ⟨k, rfl, hk, htk, n, rfl⟩ := hrel
      by_cases hlt : k < xs.length
      · obtain ⟨b, off, rfl, cx, wx⟩ := hA.int (List.getElem?_eq_getElem hlt)
        have hlt' : k < ys.length := by rw [← H.out]; exact hlt
        obtain ⟨b', off', rfl, cy, wy⟩ := hB.int (List.getElem?_eq_getElem hlt')
        have T := Lib.hid htk
        clear htk
        have i1 : (k : Int) < (xs.length : Int) := by omega
        have i2 : (k : Int) < (ys.length : Int) := by omega
        generalize hX : xs[k] = x at *
        generalize hY : ys[k] = y at *
        have HX := Lib.hid hX
        have HY := Lib.hid hY
        clear hX hY
        by_cases hxy : x = y
        · have g1 : (x != y) = false := by simp [hxy]
          have HXY := Lib.hid hxy
          clear hxy
          go_wp2_with fail
          go_quiet (fail)
          go_wp2_with fail
          go_roundw
          case rel => exact ⟨k + 1, by go_num, by omega, by rw [List.take_succ_eq_append_getElem hlt, List.take_succ_eq_append_getElem hlt', T.out, HX.out, HY.out, HXY.out], _, rfl⟩
          case measure => simp [intOf]; omega
        · have g1 : (x != y) = true := by simp [hxy]
          have HXY := Lib.hid hxy
          clear hxy
          go_wp2_with fail
          go_quiet (fail)
          go_wp2_with fail
          go_ret
          refine ⟨?_, by rw [World.drewN_drewN]; exact ⟨_, rfl⟩⟩
          have : ¬ xs = ys := by rintro rfl; exact HXY.out (HX.out.symm.trans HY.out)
          simp [this]
      · have hk' : k = xs.length := by omega
        have hall : xs = ys := by rw [← List.take_length (l := xs), ← hk', htk, hk', H.out, List.take_length]
        have HA := Lib.hid hall
        have HK := Lib.hid hk'
        clear hall hk' htk
        have i1 : ¬ (k : Int) < (xs.length : Int) := by omega
        go_wp2_with fail
        go_ret
        exact ⟨by simp [HA.out], _, rfl⟩
  · have hne : ((xs.length : Int) != (ys.length : Int)) = true := by simp; omega
    have H := Lib.hid hlen
    clear hlen
    go_enter Try.func22, Try.ntmps22
    go_wp2_with fail
    go_ret
    refine ⟨?_, 0, rfl⟩
    have : ¬ xs = ys := by rintro rfl; exact H.out rfl
    simp [this]
end Go.Proofs.Ytfpmkenobphfnaa
/- Walk of the entries of flows. -/
namespace Go.Proofs.Ytfpmkenobphfnaa
open Go.RowKit

theorem info3 : (Try.prog.info? 3).map (fun i => (i.zero, i.size, i.bytes)) = some (some (.int .i64 0), 1, 8) := by kernel_rfl
theorem infoEntry : (Try.prog.info? 69).map (fun i => (i.zero, i.size, i.bytes)) = some (some (.agg #[.int .i64 0, .int .u64 0, .int .i64 0, .int .i64 0, .slice none 0 0]), 5, 56) := by kernel_rfl

/-- slices.Clone of numbers -/
theorem intClone {Q : Nat → Prop} {w : World} {v : Value} {l : List Int} (hx : (Rep.int .i64).list.val Q w v l) (hl : l.length ≤ 1000000000000) :
    Calls Try.prog 307 #[v] w (ResA (Rep.int .i64) 3 w l) := by
  obtain ⟨A, c, rfl, hc1, hc2, hA⟩ := Rep.val_list hx
  unfold maxLen at hc2
  cases A with
  | none =>
    have hnil : l = [] := by
      rcases Nat.eq_zero_or_pos l.length with h | h
      · exact List.eq_nil_of_length_eq_zero h
      · obtain ⟨b, off, h⟩ := hA.addr h; cases h
    subst hnil
    have he := fun w => Lib.run_eql_slice_nil (P := Try.prog) w 54 3 none 0 c 0 0 Try.underlying54
    go_enter Try.func307, Try.ntmps307
    go_wp2_with fail
    go_ret
    exact ⟨_, rfl, Rep.acc_nil, Below.refl _ _⟩
  | some a =>
    have he := fun w => Lib.run_eql_slice_nil (P := Try.prog) w 54 3 (some a) l.length c 0 0 Try.underlying54
    have HX := Lib.hid (show (Rep.int .i64).list.val (fun b => b < w.heap.size) (w.alloc (.cells #[] 3)) (.slice (some a) l.length c) l from Rep.val_keep (w := w) (fun b _ hl => ⟨hl.lt, Below.heap_alloc _ _ _ hl.lt⟩) hx)
    have HA := Lib.hid (show (Rep.int .i64).acc 3 w.heap.size (fun _ => False) (w.alloc (.cells #[] 3)) (.slice (some ⟨w.heap.size, 0, none⟩) 0 0) [] from Rep.acc_made w #[] 0 (Nat.le_refl _) (by simp [maxLen]) (by simp))
    have HB1 := Lib.hid (show ([] : List Int).length + l.length ≤ maxLen from by simp [maxLen]; omega)
    have HB2 := Lib.hid (show (([] : List Int).length + l.length) * 8 ≤ 140737488355328 from by simp; omega)
    have HB3 := Lib.hid (show w.heap.size ≤ (w.alloc (.cells #[] 3)).heap.size from by simp)
    clear hx hA
    go_enter Try.func307, Try.ntmps307
    go_wp2_with (refine wpList_spread_leaf (e := 3) (base := w.heap.size) (Q := fun _ => False) (Rep.leaf_int .i64) rfl _ _ 54 rfl (.int .i64 0) 1 8 Try.underlying54 info3 rfl (by decide) rfl _ [] (by exact rfl) HA.out _ l (by exact rfl) HX.out HB1.out HB2.out HB3.out ?_; intro v' w' hacc' hgr hat)
    go_ret
    exact ⟨_, rfl, by simpa using hacc', Rep.acc_below HA.out ((Below.refl _ w).alloc (Nat.le_refl _) _) hgr HB3.out⟩

/-- 'append(s, x)' as0 a step of a region that draws its order, the element in a block just made. -/
theorem step_snoc {α : Type} {r : Rep α} {e base : Nat} {Q : Nat → Prop} {P : Program} {w : World} {ops : Array Oper} {o : Oper} {a : Act} {K : Act → World → Prop} {R : Exit → Act → World → Prop} {E : Prop} (hg : o.guard = none) (s x : Operand) (t : TypeId)
    (ho : o.op = .call { callee := .builtin .append, args := #[s, x], argTypes := #[t, t] })
    (z : Value) (size bytes : Nat) (ht : P.underlying t = some (.slice e)) (hi : (P.info? e).map (fun i => (i.zero, i.size, i.bytes)) = some (some z, size, bytes)) (hzs : z.cells.size = size) (hsz : 0 < size)
    (hr : r.size = size) (v : Value) (xs : List α) (hs : a.eval s = v) (h : r.acc e base Q w v xs) (y : α) (vy : Value) (hy : r.val (fun b => Q b ∧ v.ownBlock ≠ some b) w vy y) (hx : a.eval x = .slice (some ⟨w.heap.size, 0, none⟩) 1 1)
    (h63 : xs.length + 1 ≤ maxLen) (hbytes : (xs.length + 1) * bytes ≤ 140737488355328) (hbase : base ≤ w.heap.size)
    (H : ∀ v' w', r.acc e base Q w' v' (xs ++ [y]) → w.grownBy w' v.ownBlock → K (a.put o.dst v') w') :
    if Region.wanted o (yielded ops a.tmps) = true then Oper.wp P o a (w.alloc (.cells vy.cells e)) K R else E := by
  have hw : Region.wanted o (yielded ops a.tmps) = true := by simp [Region.wanted, hg]
  rw [if_pos hw]
  obtain ⟨cs, hv, hrd⟩ := hy
  have hcells : vy.cells.toList = cs := by rw [hv]; exact r.back hrd
  have hkeep : ∀ b, b < w.heap.size → (w.alloc (.cells vy.cells e)).heap[b]? = w.heap[b]? := fun b hb => Below.heap_alloc _ _ _ hb
  have hacc' : r.acc e base Q (w.alloc (.cells vy.cells e)) v xs := Rep.acc_keep (fun b _ hl => hkeep b hl.lt) (fun _ hb _ => hb) h
  have hbn : (w.alloc (.cells vy.cells e)).heap[w.heap.size]? = some (.cells vy.cells e) := heap_alloc_new w _
  obtain ⟨v', w', q1, q2, q3, q4⟩ := Rep.acc_more (P := P) (w := w.alloc (.cells vy.cells e)) (ty := o.type) (ys := [y]) (A := some ⟨w.heap.size, 0, none⟩) (m := 1) (c := 1) (es := cs)
    ht hi hzs hsz hr hacc' rfl
    (Rep.row_one_elem (r.keep (fun b hb hl => ⟨hb, hkeep b hl.lt⟩) hrd)) (fun _ => ⟨w.heap.size, 0, rfl, fun j u hj => by
      rw [cell_of_row _ _ _ _ _ _ hbn, Nat.zero_add, ← hj, ← hcells]; simp⟩)
    (by simpa using h63) (by simpa using hbytes) (by simp; omega)
  unfold Oper.wp execOp
  simp only [ho, resolve, invoke, builtin, Sem.run_bind, Sem.run_pure, Result.andThen_ok, List.map_toArray, List.map_cons, List.map_nil, hs, hx, q1]
  exact H v' w' q2 ((World.grownBy_alloc w _ _).trans q3)

def entryOf (f : DFlow) : DEntry := ⟨f.key, f.data.length, f.pages⟩

end Go.Proofs.Ytfpmkenobphfnaa
