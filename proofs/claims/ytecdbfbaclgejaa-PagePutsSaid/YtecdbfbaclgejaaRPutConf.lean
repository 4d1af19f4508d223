/- Walk of the reference's layout as bytes. -/
import Derived.Test.YtecdbfbaclgejaaPutConf
namespace Go.Proofs.Ytecdbfbaclgejaa
open Go.RowKit

theorem rnum_at {w : World} {width n : Int} {B : Nat} (hB : B ≤ w.heap.size) (hw : (Lit.int .i64 width).wf = true) (hn : (Lit.int .i64 n).wf = true) :
    Calls Try.prog 157 #[.int .i64 width, .int .i64 n] w fun e w' => ∃ u, e = .returned u ∧ Rep.byte.acc 5 B (fun _ => False) w' u (num width n) ∧ Below w.heap.size w w' :=
  (rnum_calls hw hn).mono fun _ _ ⟨u, h1, h2, h3⟩ => ⟨u, h1, Rep.acc_base hB h2, h3⟩
theorem rtext_at {w : World} {s : List UInt8} {B : Nat} (hB : B ≤ w.heap.size) (hs : s.length ≤ maxLen) :
    Calls Try.prog 216 #[.string ⟨s.toArray⟩] w fun e w' => ∃ u, e = .returned u ∧ Rep.byte.acc 5 B (fun _ => False) w' u (textBytes s) ∧ Below w.heap.size w w' :=
  (rtext_calls hs).mono fun _ _ ⟨u, h1, h2, h3⟩ => ⟨u, h1, Rep.acc_base hB h2, h3⟩

set_option maxRecDepth 100000 in
set_option maxHeartbeats 4000000 in
/-- ref07.Bytes -/
theorem rcput_calls {Q : Nat → Prop} {w : World} {v : Value} {c : DConf} (hx : rConf.val Q w v c) (hn : c.comps.length ≤ 1000) :
    Calls Try.prog 178 #[v] w (Res Rep.byte.list (fun b => w.heap.size ≤ b) w (confBytes c)) := by
  obtain ⟨A, cap, rfl, f0, f1, f2, f3, hc1, hc2, hA⟩ := rConf_val hx
  unfold maxLen at hc2
  obtain ⟨W1, hW1⟩ : ∃ W1, w.alloc (.cells #[.int .i64 c.log, .int .i64 c.pages, .int .i64 c.entities, .int .i64 c.gens, .slice A c.comps.length cap] 88) = W1 := ⟨_, rfl⟩
  have hbel : Below w.heap.size w W1 := by rw [← hW1]; exact (Below.refl _ _).alloc (Nat.le_refl _) _
  have hsz : W1.heap.size = w.heap.size + 1 := by rw [← hW1]; simp
  have e0 : W1.cell? ⟨w.heap.size, 0, none⟩ = some (.int .i64 c.log) := by rw [← hW1]; simp
  have e1 : W1.cell? ⟨w.heap.size, 1, none⟩ = some (.int .i64 c.pages) := by rw [← hW1]; simp
  have e2 : W1.cell? ⟨w.heap.size, 2, none⟩ = some (.int .i64 c.entities) := by rw [← hW1]; simp
  have e3 : W1.cell? ⟨w.heap.size, 3, none⟩ = some (.int .i64 c.gens) := by rw [← hW1]; simp
  have e4 : W1.cell? ⟨w.heap.size, 4, none⟩ = some (.slice A c.comps.length cap) := by rw [← hW1]; simp
  have HX := Lib.hid hA
  have hlt : w.heap.size < W1.heap.size := by omega
  have KS := Lib.hid (show ∀ w', Below W1.heap.size W1 w' → w'.cell? ⟨w.heap.size, 0, none⟩ = some (.int .i64 c.log) ∧ w'.cell? ⟨w.heap.size, 1, none⟩ = some (.int .i64 c.pages) ∧ Below W1.heap.size W1 w' from
    fun w' h => ⟨(h.cell (p := ⟨w.heap.size, 0, none⟩) hlt).trans e0, (h.cell (p := ⟨w.heap.size, 1, none⟩) hlt).trans e1, h⟩)
  have K2 := Lib.hid (show ∀ w', Below W1.heap.size W1 w' → w'.cell? ⟨w.heap.size, 2, none⟩ = some (.int .i64 c.entities) ∧ w'.cell? ⟨w.heap.size, 3, none⟩ = some (.int .i64 c.gens) ∧ w'.cell? ⟨w.heap.size, 4, none⟩ = some (.slice A c.comps.length cap) from
    fun w' h => ⟨(h.cell (p := ⟨w.heap.size, 2, none⟩) hlt).trans e2, (h.cell (p := ⟨w.heap.size, 3, none⟩) hlt).trans e3, (h.cell (p := ⟨w.heap.size, 4, none⟩) hlt).trans e4⟩)
  have NL := Lib.hid (num_length 4)
  have S1 := Lib.hid (show (num 4 c.log).length + (num 4 c.pages).length ≤ maxLen by have := NL.out c.log; have := NL.out c.pages; unfold maxLen; omega)
  have S2 := Lib.hid (show ((num 4 c.log).length + (num 4 c.pages).length) * 1 ≤ 140737488355328 by have := NL.out c.log; have := NL.out c.pages; omega)
  clear hx hA e2 e3 e4
  go_enter Try.func178, Try.ntmps178
  go_wp2_with fail
  try rw [hW1]
  clear hW1
  go_wp2_with fail
  go_region_held3 (fun w' => w'.cell? ⟨w.heap.size, 0, none⟩ = some (.int .i64 c.log) ∧ w'.cell? ⟨w.heap.size, 1, none⟩ = some (.int .i64 c.pages) ∧ Below W1.heap.size W1 w')
    (first
      | exact KS.out _ (Below.refl _ _).drew
      | exact KS.out _ ((Below.refl _ _).drew.trans hbl)
      | exact KS.out _ ((Below.refl _ _).drew.trans hbp)
      | exact KS.out _ (((Below.refl _ _).drew.trans hbl).trans (hbp.mono hbl.size))
      | exact KS.out _ (((Below.refl _ _).drew.trans hbp).trans (hbl.mono hbp.size))
      | exact KS.out _ hfin)
    (first
      | (go_at_call_of 157 (Value.int IntKind.i64 c.log); refine (rnum_at (B := W1.heap.size) (by first | exact Nat.le_refl _ | exact hbp.size) wf4 f0).mono ?_; rintro e wl ⟨ul, rfl, hul, hbl⟩)
      | (go_at_call_of 157 (Value.int IntKind.i64 c.pages); refine (rnum_at (B := W1.heap.size) (by first | exact Nat.le_refl _ | exact hbl.size) wf4 f1).mono ?_; rintro e wp ⟨up, rfl, hup, hbp⟩)
      | (refine step_spread_leaf (e := 5) (base := W1.heap.size) (Q := fun _ => False) Rep.leaf_byte rfl _ _ 22 rfl (.int .u8 0) 1 1 Try.underlying22 info5 rfl (by decide) rfl _ _ (by exact rfl) (by first | exact hul | exact Rep.acc_later hul hbp) _ _ (by exact rfl) (by first | exact Rep.acc_val hup | exact Rep.acc_val (Rep.acc_later hup hbl)) S1.out S2.out (by first | exact Nat.le_trans hbl.size hbp.size | exact Nat.le_trans hbp.size hbl.size) ?_; intro v' w' hacc' hgr hat; have hfin : Below W1.heap.size W1 w' := (by first | exact Rep.acc_below (Rep.acc_later hul hbp) (((Below.refl _ _).drew.trans hbl).trans (hbp.mono hbl.size)) hgr (Nat.le_trans hbl.size hbp.size) | exact Rep.acc_below hul (((Below.refl _ _).drew.trans hbp).trans (hbl.mono hbp.size)) hgr (Nat.le_trans hbp.size hbl.size))))
  all_goals
    clear hul hup hbl hbp hgr hat e0 e1
    obtain ⟨cE, cG, cC⟩ := K2.out _ hfin
    have hwn := wf_i64 (n := (c.comps.length : Int)) (by omega) (by omega)
    have L2 := Lib.hid (show (num 4 c.log ++ num 4 c.pages).length + (num 4 c.entities).length ≤ maxLen ∧ ((num 4 c.log ++ num 4 c.pages).length + (num 4 c.entities).length) * 1 ≤ 140737488355328 by
      have := NL.out c.log; have := NL.out c.pages; have := NL.out c.entities; simp only [List.length_append]; unfold maxLen; omega)
    have L3 := Lib.hid (show (num 4 c.log ++ num 4 c.pages ++ num 4 c.entities).length + (num 4 c.gens).length ≤ maxLen ∧ ((num 4 c.log ++ num 4 c.pages ++ num 4 c.entities).length + (num 4 c.gens).length) * 1 ≤ 140737488355328 by
      have := NL.out c.log; have := NL.out c.pages; have := NL.out c.entities; have := NL.out c.gens; simp only [List.length_append]; unfold maxLen; omega)
    have L4 := Lib.hid (show (num 4 c.log ++ num 4 c.pages ++ num 4 c.entities ++ num 4 c.gens).length + (num 1 c.comps.length).length ≤ maxLen ∧ ((num 4 c.log ++ num 4 c.pages ++ num 4 c.entities ++ num 4 c.gens).length + (num 1 c.comps.length).length) * 1 ≤ 140737488355328 by
      have := NL.out c.log; have := NL.out c.pages; have := NL.out c.entities; have := NL.out c.gens; have := num_length 1 c.comps.length; simp only [List.length_append]; unfold maxLen; omega)
    have HT := Lib.hid (show headBytes c = num 4 c.log ++ num 4 c.pages ++ num 4 c.entities ++ num 4 c.gens ++ num 1 c.comps.length by
      simp [headBytes, headOf])
    go_wp2_with (first
      | (go_at_call_of 157 (Value.int IntKind.i64 c.entities); refine (rnum_at (B := W1.heap.size) hfin.size wf4 f2).mono ?_; rintro e w2 ⟨u2, rfl, hu2, hb2⟩)
      | (refine wpList_spread_leaf (e := 5) (base := W1.heap.size) (Q := fun _ => False) Rep.leaf_byte rfl _ _ 22 rfl (.int .u8 0) 1 1 Try.underlying22 info5 rfl (by decide) rfl _ _ (by exact rfl) (Rep.acc_later hacc' hb2) _ _ (by exact rfl) (Rep.acc_val hu2) L2.out.1 L2.out.2 (Nat.le_trans hfin.size hb2.size) ?_; intro v2 x2 hacc2 hgr2 hat2; have hf2 := Rep.acc_below (Rep.acc_later hacc' hb2) (hfin.trans (hb2.mono hfin.size)) hgr2 (Nat.le_trans hfin.size hb2.size); obtain ⟨j2, k2, l2⟩ := K2.out _ hf2)
      | (go_at_call_of 157 (Value.int IntKind.i64 c.gens); refine (rnum_at (B := W1.heap.size) hf2.size wf4 f3).mono ?_; rintro e w3 ⟨u3, rfl, hu3, hb3⟩)
      | (refine wpList_spread_leaf (e := 5) (base := W1.heap.size) (Q := fun _ => False) Rep.leaf_byte rfl _ _ 22 rfl (.int .u8 0) 1 1 Try.underlying22 info5 rfl (by decide) rfl _ _ (by exact rfl) (Rep.acc_later hacc2 hb3) _ _ (by exact rfl) (Rep.acc_val hu3) L3.out.1 L3.out.2 (Nat.le_trans hf2.size hb3.size) ?_; intro v3 x3 hacc3 hgr3 hat3; have hf3 := Rep.acc_below (Rep.acc_later hacc2 hb3) (hf2.trans (hb3.mono hf2.size)) hgr3 (Nat.le_trans hf2.size hb3.size); obtain ⟨j3, k3, l3⟩ := K2.out _ hf3)
      | (go_at_call_of 157 (Value.int IntKind.i64 (c.comps.length : Int)); refine (rnum_at (B := W1.heap.size) hf3.size wf1 hwn).mono ?_; rintro e w4 ⟨u4, rfl, hu4, hb4⟩)
      | (refine wpList_spread_leaf (e := 5) (base := W1.heap.size) (Q := fun _ => False) Rep.leaf_byte rfl _ _ 22 rfl (.int .u8 0) 1 1 Try.underlying22 info5 rfl (by decide) rfl _ _ (by exact rfl) (Rep.acc_later hacc3 hb4) _ _ (by exact rfl) (Rep.acc_val hu4) L4.out.1 L4.out.2 (Nat.le_trans hf3.size hb4.size) ?_; intro v4 x4 hacc4 hgr4 hat4; have hf4 := Rep.acc_below (Rep.acc_later hacc3 hb4) (hf3.trans (hb4.mono hf3.size)) hgr4 (Nat.le_trans hf3.size hb4.size); obtain ⟨j4, k4, l4⟩ := K2.out _ hf4))
    rw [← HT.out] at hacc4
    go_loopw [3, 4] (fun s i wr => ∃ k : Nat, i = .int .i64 k ∧ k ≤ c.comps.length ∧ Rep.byte.acc 5 W1.heap.size (fun _ => False) wr s (headBytes c ++ ((c.comps.take k).map compBytes).flatten) ∧ Below W1.heap.size W1 wr)
      (fun _ i _ => c.comps.length - (intOf i).toNat)
    case atStart => exact ⟨0, rfl, by omega, by simpa using hacc4, hf4⟩
    case round =>
      clear hfin hf2 hf3 hf4 hacc' hacc2 hacc3 hacc4 hu2 hu3 hu4 hb2 hb3 hb4 hgr2 hgr3 hgr4 hat2 hat3 hat4 L2 L3 L4 cE cG cC j2 j3 j4 k2 k3 k4 l2 l3 l4
      obtain ⟨k, rfl, hk, hv, hb1⟩ := hrel
      obtain ⟨_, _, cA⟩ := K2.out _ hb1
      by_cases hlk : (k : Int) < c.comps.length
      · have hk' : k < c.comps.length := by omega
        have hAw1 : rComp.At (fun b => b < w.heap.size) W1 A c.comps := Rep.At.keep (w := w) (fun b _ hb => ⟨hb.lt, hbel.block b hb.lt⟩) HX.out
        obtain ⟨b, off, rfl, hbc, cx0, cx1, g0, g1⟩ := rComp_at hAw1 (List.getElem?_eq_getElem hk')
        have T := Lib.hid (show headBytes c ++ ((c.comps.take (k + 1)).map compBytes).flatten = (headBytes c ++ ((c.comps.take k).map compBytes).flatten) ++ textBytes c.comps[k].name ++ num 1 c.comps[k].size by
          rw [take_flatten_succ compBytes hk', compBytes]; simp only [List.append_assoc])
        have L := Lib.hid (show (headBytes c ++ ((c.comps.take k).map compBytes).flatten).length ≤ 100000000 by
          have h1 := flatten_le compBytes 65551 compBytes_length (c.comps.take k)
          have h2 := flatten_le (num 4) 8 (num_length 4) (headOf c)
          have h3 := num_length 1 c.comps.length
          have h4 : (headOf c).length = 4 := rfl
          simp only [headBytes, List.length_append, List.length_take] at *; omega)
        generalize c.comps[k] = x at *
        generalize headBytes c ++ ((c.comps.take k).map compBytes).flatten = l at hv T L
        have KR := Lib.hid (show ∀ w', Below W1.heap.size W1 w' → w'.cell? ⟨w.heap.size, 4, none⟩ = some (.slice (some ⟨b, off, none⟩) c.comps.length cap) ∧ w'.cell? ⟨b, off + k * 2, none⟩ = some (.string ⟨x.name.toArray⟩) ∧ w'.cell? ⟨b, off + k * 2 + 1, none⟩ = some (.int .i64 x.size) from
          fun w' h => ⟨(K2.out _ h).2.2, (h.cell (p := ⟨b, off + k * 2, none⟩) hbc.lt).trans cx0, (h.cell (p := ⟨b, off + k * 2 + 1, none⟩) hbc.lt).trans cx1⟩)
        have TL := textBytes_length x.name
        have ZL := num_length 1 x.size
        have L5 := Lib.hid (show l.length + (textBytes x.name).length ≤ maxLen ∧ (l.length + (textBytes x.name).length) * 1 ≤ 140737488355328 by have := L.out; unfold maxLen; omega)
        have L6 := Lib.hid (show (l ++ textBytes x.name).length + (num 1 x.size).length ≤ maxLen ∧ ((l ++ textBytes x.name).length + (num 1 x.size).length) * 1 ≤ 140737488355328 by have := L.out; simp only [List.length_append]; unfold maxLen; omega)
        obtain ⟨_, cA0, cB0⟩ := KR.out _ hb1
        clear TL ZL cx0 cx1 hAw1
        go_wp2_with (first
          | (go_at_call 216; refine (rtext_at (B := W1.heap.size) hb1.size g0).mono ?_; rintro e w5 ⟨u5, rfl, hu5, hb5⟩)
          | (refine wpList_spread_leaf (e := 5) (base := W1.heap.size) (Q := fun _ => False) Rep.leaf_byte rfl _ _ 22 rfl (.int .u8 0) 1 1 Try.underlying22 info5 rfl (by decide) rfl _ _ (by exact rfl) (Rep.acc_later hv hb5) _ _ (by exact rfl) (Rep.acc_val hu5) L5.out.1 L5.out.2 (Nat.le_trans hb1.size hb5.size) ?_; intro y5 x5 hacc5 hgr5 hat5; have hf5 := Rep.acc_below (Rep.acc_later hv hb5) (hb1.trans (hb5.mono hb1.size)) hgr5 (Nat.le_trans hb1.size hb5.size); obtain ⟨cA5, cB5, cC5⟩ := KR.out _ hf5)
          | (go_at_call 157; refine (rnum_at (B := W1.heap.size) hf5.size wf1 g1).mono ?_; rintro e w6 ⟨u6, rfl, hu6, hb6⟩)
          | (refine wpList_spread_leaf (e := 5) (base := W1.heap.size) (Q := fun _ => False) Rep.leaf_byte rfl _ _ 22 rfl (.int .u8 0) 1 1 Try.underlying22 info5 rfl (by decide) rfl _ _ (by exact rfl) (Rep.acc_later hacc5 hb6) _ _ (by exact rfl) (Rep.acc_val hu6) L6.out.1 L6.out.2 (Nat.le_trans hf5.size hb6.size) ?_; intro y6 x6 hacc6 hgr6 hat6; have hf6 := Rep.acc_below (Rep.acc_later hacc5 hb6) (hf5.trans (hb6.mono hf5.size)) hgr6 (Nat.le_trans hf5.size hb6.size); obtain ⟨cA6, cB6, cC6⟩ := KR.out _ hf6))
        exact ⟨⟨k + 1, by go_num, by omega, by rw [T.out]; exact hacc6, hf6⟩, by simp [intOf]; omega⟩
      · obtain rfl : k = c.comps.length := by omega
        have T := Lib.hid (show confBytes c = headBytes c ++ ((c.comps.take c.comps.length).map compBytes).flatten by rw [List.take_length]; rfl)
        generalize headBytes c ++ ((c.comps.take c.comps.length).map compBytes).flatten = l at hv T
        have hval := Lib.hid (Rep.val_mono (Q' := fun b => w.heap.size ≤ b) (fun b hb' _ => Nat.le_trans hbel.size hb') (Rep.acc_fresh hv))
        go_wp2_with fail
        go_ret
        exact ⟨_, rfl, by rw [T.out]; exact hval.out, hbel.trans (hb1.mono hbel.size)⟩
end Go.Proofs.Ytecdbfbaclgejaa
