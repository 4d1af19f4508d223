/- Walks of the functions that put a directory as bytes. -/
import Derived.Test.YtfpmkenobphfnaaWeG4
import Derived.Test.YtfpmkenobphfnaaWeReader
namespace Go.Proofs.Ytfpmkenobphfnaa
open Go.RowKit

def entHead (x : DEntry) : List UInt8 := num 1 x.key.kind ++ num 8 (wrap64 x.key.sig) ++ num 1 x.key.comp ++ num 4 x.long ++ num 2 x.pages.length
def entBytes (x : DEntry) : List UInt8 := entHead x ++ (x.pages.map (num 2)).flatten
def dirBytes (l : List DEntry) : List UInt8 := num 2 l.length ++ (l.map entBytes).flatten

theorem flatten_prefix {α : Type} (f : α → List UInt8) (l : List α) (k : Nat) : ((l.take k).map f).flatten.length ≤ (l.map f).flatten.length := by
  have h : (l.map f).flatten = ((l.take k).map f).flatten ++ ((l.drop k).map f).flatten := by rw [← List.flatten_append, ← List.map_append, List.take_append_drop]
  rw [h, List.length_append]; omega
theorem wrap64_wf (n : Int) : (Lit.int .i64 (wrap64 n)).wf = true := by
  simp [Lit.wf, IntKind.min, IntKind.max, IntKind.signed, IntKind.bits, wrap64]; omega
theorem dirBytes_prefix {l : List DEntry} {k : Nat} (hk : k < l.length) : (num 2 l.length ++ ((l.take k).map entBytes).flatten).length + (entBytes l[k]).length ≤ (dirBytes l).length := by
  have h1 := flatten_prefix entBytes l (k + 1)
  rw [take_flatten_succ entBytes hk] at h1
  simp only [dirBytes, List.length_append] at *
  omega
theorem entBytes_prefix (x : DEntry) (k : Nat) : (entHead x).length + ((x.pages.take k).map (num 2)).flatten.length ≤ (entBytes x).length := by
  have := flatten_prefix (num 2) x.pages k
  simp only [entBytes, List.length_append]; omega

set_option maxRecDepth 100000 in
set_option maxHeartbeats 1000000 in
/-- dir.Put -/
theorem dput_calls {Q : Nat → Prop} {w : World} {v : Value} {l : List DEntry} (hx : rEntry.list.val Q w v l) (hb : (dirBytes l).length ≤ 100000000) (hn : l.length ≤ 100000000) :
    Calls Try.prog 29 #[v] w (Res Rep.byte.list (fun b => w.heap.size ≤ b) w (dirBytes l)) := by
  obtain ⟨A, c, rfl, hc1, hc2, hA⟩ := Rep.val_list hx
  unfold maxLen at hc2
  have HX := Lib.hid hA
  have HBL := Lib.hid hb
  have HZ := Lib.hid (show ∀ w : World, Rep.byte.list.val (fun _ => True) w (.slice none 0 0) ([] : List UInt8) from fun w => Rep.val_nil (by simp [maxLen]))
  have HN := wf_i64 (n := (l.length : Int)) (by omega) (by omega)
  clear hx hA hb
  go_enter Try.func29, Try.ntmps29
  go_wp2_with (go_at_call 98; refine (put_calls (width := 2) (HZ.out _) (by simp) rfl HN).mono ?_; rintro e w1 ⟨u, rfl, hu, hb1⟩)
  have hu0 : Rep.byte.list.val (fun b => w.heap.size ≤ b) w1 u (num 2 l.length) := by simpa using Rep.acc_fresh hu
  have B1 := Lib.hid hb1
  clear hu hb1
  go_loopw [3, 13] (fun s i wr => ∃ k : Nat, i = .int .i64 k ∧ k ≤ l.length ∧ Rep.byte.list.val (fun b => w.heap.size ≤ b) wr s (num 2 l.length ++ ((l.take k).map entBytes).flatten) ∧ Below w.heap.size w wr)
    (fun _ i _ => l.length - (intOf i).toNat)
  case atStart => exact ⟨0, rfl, by omega, by simpa using hu0, B1.out⟩
  case round =>
    obtain ⟨k, rfl, hk, hv, hb1⟩ := hrel
    have HB1 := Lib.hid hb1
    by_cases hlt : (k : Int) < l.length
    · have hk' : k < l.length := by omega
      have hAw : rEntry.At (fun b => b < w.heap.size) wr A l := Rep.At.keep (w := w) (fun b _ hb => ⟨hb.lt, hb1.block b hb.lt⟩) HX.out
      obtain ⟨b, off, Ap, cp, rfl, hbc, cx0, cx1, cx2, cx3, cx4, g0, g1, g2, g3, hs⟩ := rEntry_at hAw (List.getElem?_eq_getElem hk')
      have T := Lib.hid (show num 2 l.length ++ ((l.take (k + 1)).map entBytes).flatten = (num 2 l.length ++ ((l.take k).map entBytes).flatten) ++ entBytes l[k] by
        rw [take_flatten_succ entBytes hk']; simp only [List.append_assoc])
      have L := Lib.hid (show (num 2 l.length ++ ((l.take k).map entBytes).flatten).length + (entBytes l[k]).length ≤ 100000000 from Nat.le_trans (dirBytes_prefix hk') HBL.out)
      generalize l[k] = x at *
      generalize num 2 l.length ++ ((l.take k).map entBytes).flatten = q at hv T L
      have HS := Lib.hid hs
      have hsl := hs.1
      have hsm := hs.2.1
      unfold maxLen at hsm
      have gl := wf_i64 (n := (x.pages.length : Int)) (by omega) (by omega)
      have gw := wrap64_wf x.key.sig
      have LE := Lib.hid (entBytes_prefix x)
      have HV := Lib.hid hv
      obtain ⟨A2, c2, rfl, _, _, _⟩ := Rep.val_list hv
      clear hv hb1 hAw hs
      go_wp2_with fail
      obtain ⟨W3, hW3⟩ : ∃ W3, wr.alloc (.cells #[.int .i64 x.key.kind, .int .u64 x.key.sig, .int .i64 x.key.comp, .int .i64 x.long, .slice Ap x.pages.length cp] 69) = W3 := ⟨_, rfl⟩
      have d0 : W3.cell? ⟨wr.heap.size, 0, none⟩ = some (.int .i64 x.key.kind) := by rw [← hW3]; simp
      have d1 : W3.cell? ⟨wr.heap.size, 1, none⟩ = some (.int .u64 x.key.sig) := by rw [← hW3]; simp
      have d2 : W3.cell? ⟨wr.heap.size, 2, none⟩ = some (.int .i64 x.key.comp) := by rw [← hW3]; simp
      have d3 : W3.cell? ⟨wr.heap.size, 3, none⟩ = some (.int .i64 x.long) := by rw [← hW3]; simp
      have d4 : W3.cell? ⟨wr.heap.size, 4, none⟩ = some (.slice Ap x.pages.length cp) := by rw [← hW3]; simp
      have hb3 : Below wr.heap.size wr W3 := by rw [← hW3]; exact (Below.refl _ _).alloc (Nat.le_refl _) _
      have hs3 : W3.heap.size = wr.heap.size + 1 := by rw [← hW3]; simp
      rw [hW3]
      have KS := Lib.hid (show ∀ w', Below W3.heap.size W3 w' → w'.cell? ⟨wr.heap.size, 0, none⟩ = some (.int .i64 x.key.kind) ∧ w'.cell? ⟨wr.heap.size, 1, none⟩ = some (.int .u64 x.key.sig) ∧ w'.cell? ⟨wr.heap.size, 2, none⟩ = some (.int .i64 x.key.comp) ∧ w'.cell? ⟨wr.heap.size, 3, none⟩ = some (.int .i64 x.long) ∧ w'.cell? ⟨wr.heap.size, 4, none⟩ = some (.slice Ap x.pages.length cp) from
        fun w' h => ⟨(h.cell (p := ⟨wr.heap.size, 0, none⟩) (show wr.heap.size < W3.heap.size by omega)).trans d0, (h.cell (p := ⟨wr.heap.size, 1, none⟩) (show wr.heap.size < W3.heap.size by omega)).trans d1, (h.cell (p := ⟨wr.heap.size, 2, none⟩) (show wr.heap.size < W3.heap.size by omega)).trans d2, (h.cell (p := ⟨wr.heap.size, 3, none⟩) (show wr.heap.size < W3.heap.size by omega)).trans d3, (h.cell (p := ⟨wr.heap.size, 4, none⟩) (show wr.heap.size < W3.heap.size by omega)).trans d4⟩)
      have HV3 := Lib.hid (show Rep.byte.list.val (fun b => w.heap.size ≤ b) W3 (.slice A2 q.length c2) q from Rep.val_below (B := wr.heap.size) HV.out hb3 (fun _ _ hb => hb.lt))
      have B3 := Lib.hid (HB1.out.trans (hb3.mono HB1.out.size))
      have HS3 := Lib.hid (show (Rep.int .i64).Sl (fun b => b < w.heap.size) W3 Ap cp x.pages from HS.out.below hb3 (fun _ _ hb => hb.lt))
      have LQ := Lib.hid (show q.length + (entHead x).length ≤ 100000000 by have := L.out; have := LE.out 0; omega)
      have LH := Lib.hid (show q.length ≤ 1000000000 by have := L.out; omega)
      clear hW3 hb3 hs3 cx0 cx1 cx2 cx3 cx4 HV
      obtain ⟨q1, hq1⟩ : ∃ z, z = q ++ num 1 x.key.kind := ⟨_, rfl⟩
      have hl1 : q1.length = q.length + (num 1 x.key.kind).length := by rw [hq1, List.length_append]
      obtain ⟨q2, hq2⟩ : ∃ z, z = q1 ++ num 8 (wrap64 x.key.sig) := ⟨_, rfl⟩
      have hl2 : q2.length = q1.length + (num 8 (wrap64 x.key.sig)).length := by rw [hq2, List.length_append]
      obtain ⟨q3, hq3⟩ : ∃ z, z = q2 ++ num 1 x.key.comp := ⟨_, rfl⟩
      have hl3 : q3.length = q2.length + (num 1 x.key.comp).length := by rw [hq3, List.length_append]
      obtain ⟨q4, hq4⟩ : ∃ z, z = q3 ++ num 4 x.long := ⟨_, rfl⟩
      have hl4 : q4.length = q3.length + (num 4 x.long).length := by rw [hq4, List.length_append]
      obtain ⟨q5, hq5⟩ : ∃ z, z = q4 ++ num 2 x.pages.length := ⟨_, rfl⟩
      have hl5 : q5.length = q4.length + (num 2 x.pages.length).length := by rw [hq5, List.length_append]
      have HLS := Lib.hid (show q1.length ≤ 1000000000 ∧ q2.length ≤ 1000000000 ∧ q3.length ≤ 1000000000 ∧ q4.length ≤ 1000000000 ∧ q5.length = q.length + (entHead x).length by have := LQ.out; simp only [entHead, List.length_append] at *; omega)
      have HQ5 := Lib.hid (show q5 = q ++ entHead x by rw [hq5, hq4, hq3, hq2, hq1]; simp only [entHead, List.append_assoc])
      have E1 := Lib.hid hq1
      have E2 := Lib.hid hq2
      have E3 := Lib.hid hq3
      have E4 := Lib.hid hq4
      have E5 := Lib.hid hq5
      clear hl1 hl2 hl3 hl4 hl5 hq1 hq2 hq3 hq4 hq5
      go_wp2_with fail
      refine (put_calls (width := 1) (n := x.key.kind) HV3.out LH.out rfl g0).mono ?_
      rintro e v1 ⟨u1, rfl, hu1, hb1⟩
      rw [← E1.out] at hu1
      have D1 := Lib.hid (hb1)
      clear d0 d1 d2 d3 d4
      obtain ⟨d0, d1, d2, d3, d4⟩ := KS.out _ D1.out
      clear hb1
      obtain ⟨A_1, c_1, rfl, _, _⟩ := Rep.acc_form hu1
      go_wp2_with fail
      refine (put_calls (width := 8) (n := (wrap64 x.key.sig)) (Rep.acc_val hu1) HLS.out.1 rfl gw).mono ?_
      rintro e v2 ⟨u2, rfl, hu2, hb2⟩
      rw [← E2.out] at hu2
      have D2 := Lib.hid (D1.out.trans (hb2.mono D1.out.size))
      clear d0 d1 d2 d3 d4
      obtain ⟨d0, d1, d2, d3, d4⟩ := KS.out _ D2.out
      clear hb2
      clear hu1
      obtain ⟨A_2, c_2, rfl, _, _⟩ := Rep.acc_form hu2
      go_wp2_with fail
      refine (put_calls (width := 1) (n := x.key.comp) (Rep.acc_val hu2) HLS.out.2.1 rfl g2).mono ?_
      rintro e v3 ⟨u3, rfl, hu3, hb3⟩
      rw [← E3.out] at hu3
      have D3 := Lib.hid (D2.out.trans (hb3.mono D2.out.size))
      clear d0 d1 d2 d3 d4
      obtain ⟨d0, d1, d2, d3, d4⟩ := KS.out _ D3.out
      clear hb3
      clear hu2
      obtain ⟨A_3, c_3, rfl, _, _⟩ := Rep.acc_form hu3
      go_wp2_with fail
      refine (put_calls (width := 4) (n := x.long) (Rep.acc_val hu3) HLS.out.2.2.1 rfl g3).mono ?_
      rintro e v4 ⟨u4, rfl, hu4, hb4⟩
      rw [← E4.out] at hu4
      have D4 := Lib.hid (D3.out.trans (hb4.mono D3.out.size))
      clear d0 d1 d2 d3 d4
      obtain ⟨d0, d1, d2, d3, d4⟩ := KS.out _ D4.out
      clear hb4
      clear hu3
      obtain ⟨A_4, c_4, rfl, _, _⟩ := Rep.acc_form hu4
      go_wp2_with fail
      refine (put_calls (width := 2) (n := x.pages.length) (Rep.acc_val hu4) HLS.out.2.2.2.1 rfl gl).mono ?_
      rintro e v5 ⟨u5, rfl, hu5, hb5⟩
      rw [← E5.out] at hu5
      have D5 := Lib.hid (D4.out.trans (hb5.mono D4.out.size))
      clear d0 d1 d2 d3 d4
      obtain ⟨d0, d1, d2, d3, d4⟩ := KS.out _ D5.out
      clear hb5
      clear hu4
      obtain ⟨A_5, c_5, rfl, _, _⟩ := Rep.acc_form hu5
      have HU := Lib.hid (show Rep.byte.list.val (fun b => w.heap.size ≤ b) v5 (.slice A_5 q5.length c_5) q5 from by
        exact Rep.val_mono (fun b hb _ => Nat.le_trans B3.out.size (Nat.le_trans D4.out.size hb)) (Rep.acc_fresh hu5))
      go_wp2_with fail
      have B5 := Lib.hid (B3.out.trans (D5.out.mono B3.out.size))
      have HS5 := Lib.hid (HS3.out.below D5.out (fun _ _ hb => hb.lt))
      have HL5 := Lib.hid (show ∀ j, j ≤ x.pages.length → (q5 ++ ((x.pages.take j).map (num 2)).flatten).length ≤ 1000000000 by intro j _; have h1 := LE.out j; have h2 := HLS.out.2.2.2.2; have h3 := L.out; rw [List.length_append]; omega)
      have HT := Lib.hid (show q5 ++ ((x.pages.take x.pages.length).map (num 2)).flatten = q ++ entBytes x by rw [HQ5.out, List.take_length, entBytes, List.append_assoc])
      clear d0 d1 d2 d3 d4 hu5
      rename World => W5
      go_loopw [3, 45] (fun s i wr => ∃ j : Nat, i = .int .i64 j ∧ j ≤ x.pages.length ∧ Rep.byte.list.val (fun b => w.heap.size ≤ b) wr s (q5 ++ ((x.pages.take j).map (num 2)).flatten) ∧ Below W5.heap.size W5 wr)
        (fun _ i _ => x.pages.length - (intOf i).toNat)
      case atStart => exact ⟨0, rfl, by omega, by simpa using HU.out, Below.refl _ _⟩
      case round =>
        obtain ⟨j, rfl, hj, hv, hb1⟩ := hrel
        have HB6 := Lib.hid hb1
        by_cases hlt2 : (j : Int) < x.pages.length
        · have hj' : j < x.pages.length := by omega
          obtain ⟨bp, op, rfl, cp0, wp0⟩ := Rep.At.int (HS5.out.below hb1 (fun _ _ hb => hb.lt)).2.2 (List.getElem?_eq_getElem hj')
          have T2 := Lib.hid (show q5 ++ ((x.pages.take (j + 1)).map (num 2)).flatten = (q5 ++ ((x.pages.take j).map (num 2)).flatten) ++ num 2 x.pages[j] by rw [take_flatten_succ (num 2) hj', List.append_assoc])
          have L6 := Lib.hid (HL5.out j (by omega))
          generalize x.pages[j] = p at *
          generalize q5 ++ ((x.pages.take j).map (num 2)).flatten = r at hv T2 L6
          have HV6 := Lib.hid hv
          obtain ⟨A6, c6, rfl, _, _, _⟩ := Rep.val_list hv
          clear hv hb1
          go_wp2_with fail
          refine (put_calls (width := 2) (n := p) HV6.out L6.out rfl wp0).mono ?_
          rintro e w6 ⟨u6, rfl, hu6, hb6⟩
          rw [← T2.out] at hu6
          go_wp2_with fail
          exact ⟨⟨j + 1, by go_num, by omega, Rep.val_mono (fun b hb _ => Nat.le_trans B5.out.size (Nat.le_trans HB6.out.size hb)) (Rep.acc_fresh hu6), HB6.out.trans (hb6.mono HB6.out.size)⟩, by simp [intOf]; omega⟩
        · obtain rfl : j = x.pages.length := by omega
          rw [HT.out, ← T.out] at hv
          have HV6 := Lib.hid hv
          clear hv hb1
          go_wp2_with fail
          exact ⟨⟨k + 1, by go_num, by omega, HV6.out, B5.out.trans (HB6.out.mono B5.out.size)⟩, by simp [intOf]; omega⟩
    · obtain rfl : k = l.length := by omega
      have T := Lib.hid (show dirBytes l = num 2 l.length ++ ((l.take l.length).map entBytes).flatten by rw [List.take_length]; rfl)
      generalize num 2 l.length ++ ((l.take l.length).map entBytes).flatten = q at hv T
      have HV := Lib.hid hv
      clear hv hb1
      go_wp2_with fail
      go_ret
      exact ⟨_, rfl, by rw [T.out]; exact HV.out, HB1.out⟩

/-- dir.Size -/
theorem dsize_calls {Q : Nat → Prop} {w : World} {v : Value} {l : List DEntry} (hx : rEntry.list.val Q w v l) (hb : (dirBytes l).length ≤ 100000000) (hn : l.length ≤ 100000000) :
    Calls Try.prog 31 #[v] w fun e w' => e = .returned (.int .i64 (dirBytes l).length) ∧ Below w.heap.size w w' := by
  have HX := Lib.hid hx
  have HB := Lib.hid hb
  obtain ⟨A, c, rfl, hc1, hc2, hA⟩ := Rep.val_list hx
  generalize hd : dirBytes l = d at hb
  have HD := Lib.hid hd
  clear hx hA hd
  go_enter Try.func31, Try.ntmps31
  go_wp2_with fail
  refine (dput_calls HX.out HB.out hn).mono ?_
  rintro e w1 ⟨u, rfl, hu, hb1⟩
  rw [HD.out] at hu
  obtain ⟨A6, c6, rfl, _, _, _⟩ := Rep.val_list hu
  clear hu
  go_wp2_with fail
  go_ret
  exact ⟨rfl, hb1⟩
end Go.Proofs.Ytfpmkenobphfnaa
