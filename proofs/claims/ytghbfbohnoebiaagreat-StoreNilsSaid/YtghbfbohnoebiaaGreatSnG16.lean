/- Texts on which the proofs stand: DirBytes, DirMath, Entries, RDirGet, Mask. No condition is laid on any input. -/
import Derived.Test.YtghbfbohnoebiaaGreatSnG11
import Derived.Test.YtghbfbohnoebiaaGreatSnG12
namespace Go.Proofs.YtghbfbohnoebiaaGreat
open Go.RowKit

def entHead (x : DEntry) : List UInt8 := num 1 x.key.kind ++ num 8 (wrap64 x.key.sig) ++ num 1 x.key.comp ++ num 4 x.long ++ num 2 x.pages.length
def entBytes (x : DEntry) : List UInt8 := entHead x ++ (x.pages.map (num 2)).flatten
def dirBytes (l : List DEntry) : List UInt8 := num 2 l.length ++ (l.map entBytes).flatten

theorem flatten_prefix {α : Type} (f : α → List UInt8) (l : List α) (k : Nat) : ((l.take k).map f).flatten.length ≤ (l.map f).flatten.length := by
  have h : (l.map f).flatten = ((l.take k).map f).flatten ++ ((l.drop k).map f).flatten := by rw [← List.flatten_append, ← List.map_append, List.take_append_drop]
  rw [h, List.length_append]; omega
theorem wrap64_wf (n : Int) : (Lit.int .i64 (wrap64 n)).wf = true := by
  simp [Lit.wf, IntKind.min, IntKind.max, IntKind.signed, IntKind.bits, wrap64]; omega
theorem dirBytes_prefix {l : List DEntry} {k : Nat} (hk : k < l.length) : (num 2 l.length ++ ((l.take k).map entBytes).flatten).length + (entBytes l[k]).length ≤ (dirBytes l).length := by
  have h1 := flatten_prefix entBytes l (k + 1)
  rw [take_flatten_succ entBytes hk] at h1
  simp only [dirBytes, List.length_append] at *
  omega
theorem entBytes_prefix (x : DEntry) (k : Nat) : (entHead x).length + ((x.pages.take k).map (num 2)).flatten.length ≤ (entBytes x).length := by
  have := flatten_prefix (num 2) x.pages k
  simp only [entBytes, List.length_append]; omega

set_option maxRecDepth 100000 in
set_option maxHeartbeats 1000000 in
/-- dir.Put -/
theorem dput_calls {Q : Nat → Prop} {w : World} {v : Value} {l : List DEntry} (hx : rEntry.list.val Q w v l) (hb : (dirBytes l).length ≤ 100000000) (hn : l.length ≤ 100000000) :
    Calls Tryz.prog 118 #[v] w (Res Rep.byte.list (fun b => w.heap.size ≤ b) w (dirBytes l)) := by
  obtain ⟨A, c, rfl, hc1, hc2, hA⟩ := Rep.val_list hx
  unfold maxLen at hc2
  have HX := Lib.hid hA
  have HBL := Lib.hid hb
  have HZ := Lib.hid (show ∀ w : World, Rep.byte.list.val (fun _ => True) w (.slice none 0 0) ([] : List UInt8) from fun w => Rep.val_nil (by simp [maxLen]))
  have HN := wf_i64 (n := (l.length : Int)) (by omega) (by omega)
  clear hx hA hb
  go_enter Tryz.func118, Tryz.ntmps118
  go_wp2_with (go_at_call 168; refine (put_calls (width := 2) (HZ.out _) (by simp) rfl HN).mono ?_; rintro e w1 ⟨u, rfl, hu, hb1⟩)
  have hu0 : Rep.byte.list.val (fun b => w.heap.size ≤ b) w1 u (num 2 l.length) := by simpa using Rep.acc_fresh hu
  have B1 := Lib.hid hb1
  clear hu hb1
  go_loopw [3, 13] (fun s i wr => ∃ k : Nat, i = .int .i64 k ∧ k ≤ l.length ∧ Rep.byte.list.val (fun b => w.heap.size ≤ b) wr s (num 2 l.length ++ ((l.take k).map entBytes).flatten) ∧ Below w.heap.size w wr)
    (fun _ i _ => l.length - (intOf i).toNat)
  case atStart => exact ⟨0, rfl, by omega, by simpa using hu0, B1.out⟩
  case round =>
    obtain ⟨k, rfl, hk, hv, hb1⟩ := hrel
    have HB1 := Lib.hid hb1
    by_cases hlt : (k : Int) < l.length
    · have hk' : k < l.length := by omega
      have hAw : rEntry.At (fun b => b < w.heap.size) wr A l := Rep.At.keep (w := w) (fun b _ hb => ⟨hb.lt, hb1.block b hb.lt⟩) HX.out
      obtain ⟨b, off, Ap, cp, rfl, hbc, cx0, cx1, cx2, cx3, cx4, g0, g1, g2, g3, hs⟩ := rEntry_at hAw (List.getElem?_eq_getElem hk')
      have T := Lib.hid (show num 2 l.length ++ ((l.take (k + 1)).map entBytes).flatten = (num 2 l.length ++ ((l.take k).map entBytes).flatten) ++ entBytes l[k] by
        rw [take_flatten_succ entBytes hk']; simp only [List.append_assoc])
      have L := Lib.hid (show (num 2 l.length ++ ((l.take k).map entBytes).flatten).length + (entBytes l[k]).length ≤ 100000000 from Nat.le_trans (dirBytes_prefix hk') HBL.out)
      generalize l[k] = x at *
      generalize num 2 l.length ++ ((l.take k).map entBytes).flatten = q at hv T L
      have HS := Lib.hid hs
      have hsl := hs.1
      have hsm := hs.2.1
      unfold maxLen at hsm
      have gl := wf_i64 (n := (x.pages.length : Int)) (by omega) (by omega)
      have gw := wrap64_wf x.key.sig
      have LE := Lib.hid (entBytes_prefix x)
      have HV := Lib.hid hv
      obtain ⟨A2, c2, rfl, _, _, _⟩ := Rep.val_list hv
      clear hv hb1 hAw hs
      go_wp2_with fail
      obtain ⟨W3, hW3⟩ : ∃ W3, wr.alloc (.cells #[.int .i64 x.key.kind, .int .u64 x.key.sig, .int .i64 x.key.comp, .int .i64 x.long, .slice Ap x.pages.length cp] 160) = W3 := ⟨_, rfl⟩
      have d0 : W3.cell? ⟨wr.heap.size, 0, none⟩ = some (.int .i64 x.key.kind) := by rw [← hW3]; simp
      have d1 : W3.cell? ⟨wr.heap.size, 1, none⟩ = some (.int .u64 x.key.sig) := by rw [← hW3]; simp
      have d2 : W3.cell? ⟨wr.heap.size, 2, none⟩ = some (.int .i64 x.key.comp) := by rw [← hW3]; simp
      have d3 : W3.cell? ⟨wr.heap.size, 3, none⟩ = some (.int .i64 x.long) := by rw [← hW3]; simp
      have d4 : W3.cell? ⟨wr.heap.size, 4, none⟩ = some (.slice Ap x.pages.length cp) := by rw [← hW3]; simp
      have hb3 : Below wr.heap.size wr W3 := by rw [← hW3]; exact (Below.refl _ _).alloc (Nat.le_refl _) _
      have hs3 : W3.heap.size = wr.heap.size + 1 := by rw [← hW3]; simp
      rw [hW3]
      have KS := Lib.hid (show ∀ w', Below W3.heap.size W3 w' → w'.cell? ⟨wr.heap.size, 0, none⟩ = some (.int .i64 x.key.kind) ∧ w'.cell? ⟨wr.heap.size, 1, none⟩ = some (.int .u64 x.key.sig) ∧ w'.cell? ⟨wr.heap.size, 2, none⟩ = some (.int .i64 x.key.comp) ∧ w'.cell? ⟨wr.heap.size, 3, none⟩ = some (.int .i64 x.long) ∧ w'.cell? ⟨wr.heap.size, 4, none⟩ = some (.slice Ap x.pages.length cp) from
        fun w' h => ⟨(h.cell (p := ⟨wr.heap.size, 0, none⟩) (show wr.heap.size < W3.heap.size by omega)).trans d0, (h.cell (p := ⟨wr.heap.size, 1, none⟩) (show wr.heap.size < W3.heap.size by omega)).trans d1, (h.cell (p := ⟨wr.heap.size, 2, none⟩) (show wr.heap.size < W3.heap.size by omega)).trans d2, (h.cell (p := ⟨wr.heap.size, 3, none⟩) (show wr.heap.size < W3.heap.size by omega)).trans d3, (h.cell (p := ⟨wr.heap.size, 4, none⟩) (show wr.heap.size < W3.heap.size by omega)).trans d4⟩)
      have HV3 := Lib.hid (show Rep.byte.list.val (fun b => w.heap.size ≤ b) W3 (.slice A2 q.length c2) q from Rep.val_below (B := wr.heap.size) HV.out hb3 (fun _ _ hb => hb.lt))
      have B3 := Lib.hid (HB1.out.trans (hb3.mono HB1.out.size))
      have HS3 := Lib.hid (show (Rep.int .i64).Sl (fun b => b < w.heap.size) W3 Ap cp x.pages from HS.out.below hb3 (fun _ _ hb => hb.lt))
      have LQ := Lib.hid (show q.length + (entHead x).length ≤ 100000000 by have := L.out; have := LE.out 0; omega)
      have LH := Lib.hid (show q.length ≤ 1000000000 by have := L.out; omega)
      clear hW3 hb3 hs3 cx0 cx1 cx2 cx3 cx4 HV
      obtain ⟨q1, hq1⟩ : ∃ z, z = q ++ num 1 x.key.kind := ⟨_, rfl⟩
      have hl1 : q1.length = q.length + (num 1 x.key.kind).length := by rw [hq1, List.length_append]
      obtain ⟨q2, hq2⟩ : ∃ z, z = q1 ++ num 8 (wrap64 x.key.sig) := ⟨_, rfl⟩
      have hl2 : q2.length = q1.length + (num 8 (wrap64 x.key.sig)).length := by rw [hq2, List.length_append]
      obtain ⟨q3, hq3⟩ : ∃ z, z = q2 ++ num 1 x.key.comp := ⟨_, rfl⟩
      have hl3 : q3.length = q2.length + (num 1 x.key.comp).length := by rw [hq3, List.length_append]
      obtain ⟨q4, hq4⟩ : ∃ z, z = q3 ++ num 4 x.long := ⟨_, rfl⟩
      have hl4 : q4.length = q3.length + (num 4 x.long).length := by rw [hq4, List.length_append]
      obtain ⟨q5, hq5⟩ : ∃ z, z = q4 ++ num 2 x.pages.length := ⟨_, rfl⟩
      have hl5 : q5.length = q4.length + (num 2 x.pages.length).length := by rw [hq5, List.length_append]
      have HLS := Lib.hid (show q1.length ≤ 1000000000 ∧ q2.length ≤ 1000000000 ∧ q3.length ≤ 1000000000 ∧ q4.length ≤ 1000000000 ∧ q5.length = q.length + (entHead x).length by have := LQ.out; simp only [entHead, List.length_append] at *; omega)
      have HQ5 := Lib.hid (show q5 = q ++ entHead x by rw [hq5, hq4, hq3, hq2, hq1]; simp only [entHead, List.append_assoc])
      have E1 := Lib.hid hq1
      have E2 := Lib.hid hq2
      have E3 := Lib.hid hq3
      have E4 := Lib.hid hq4
      have E5 := Lib.hid hq5
      clear hl1 hl2 hl3 hl4 hl5 hq1 hq2 hq3 hq4 hq5
      go_wp2_with fail
      refine (put_calls (width := 1) (n := x.key.kind) HV3.out LH.out rfl g0).mono ?_
      rintro e v1 ⟨u1, rfl, hu1, hb1⟩
      rw [← E1.out] at hu1
      have D1 := Lib.hid (hb1)
      clear d0 d1 d2 d3 d4
      obtain ⟨d0, d1, d2, d3, d4⟩ := KS.out _ D1.out
      clear hb1
      obtain ⟨A_1, c_1, rfl, _, _⟩ := Rep.acc_form hu1
      go_wp2_with fail
      refine (put_calls (width := 8) (n := (wrap64 x.key.sig)) (Rep.acc_val hu1) HLS.out.1 rfl gw).mono ?_
      rintro e v2 ⟨u2, rfl, hu2, hb2⟩
      rw [← E2.out] at hu2
      have D2 := Lib.hid (D1.out.trans (hb2.mono D1.out.size))
      clear d0 d1 d2 d3 d4
      obtain ⟨d0, d1, d2, d3, d4⟩ := KS.out _ D2.out
      clear hb2
      clear hu1
      obtain ⟨A_2, c_2, rfl, _, _⟩ := Rep.acc_form hu2
      go_wp2_with fail
      refine (put_calls (width := 1) (n := x.key.comp) (Rep.acc_val hu2) HLS.out.2.1 rfl g2).mono ?_
      rintro e v3 ⟨u3, rfl, hu3, hb3⟩
      rw [← E3.out] at hu3
      have D3 := Lib.hid (D2.out.trans (hb3.mono D2.out.size))
      clear d0 d1 d2 d3 d4
      obtain ⟨d0, d1, d2, d3, d4⟩ := KS.out _ D3.out
      clear hb3
      clear hu2
      obtain ⟨A_3, c_3, rfl, _, _⟩ := Rep.acc_form hu3
      go_wp2_with fail
      refine (put_calls (width := 4) (n := x.long) (Rep.acc_val hu3) HLS.out.2.2.1 rfl g3).mono ?_
      rintro e v4 ⟨u4, rfl, hu4, hb4⟩
      rw [← E4.out] at hu4
      have D4 := Lib.hid (D3.out.trans (hb4.mono D3.out.size))
      clear d0 d1 d2 d3 d4
      obtain ⟨d0, d1, d2, d3, d4⟩ := KS.out _ D4.out
      clear hb4
      clear hu3
      obtain ⟨A_4, c_4, rfl, _, _⟩ := Rep.acc_form hu4
      go_wp2_with fail
      refine (put_calls (width := 2) (n := x.pages.length) (Rep.acc_val hu4) HLS.out.2.2.2.1 rfl gl).mono ?_
      rintro e v5 ⟨u5, rfl, hu5, hb5⟩
      rw [← E5.out] at hu5
      have D5 := Lib.hid (D4.out.trans (hb5.mono D4.out.size))
      clear d0 d1 d2 d3 d4
      obtain ⟨d0, d1, d2, d3, d4⟩ := KS.out _ D5.out
      clear hb5
      clear hu4
      obtain ⟨A_5, c_5, rfl, _, _⟩ := Rep.acc_form hu5
      have HU := Lib.hid (show Rep.byte.list.val (fun b => w.heap.size ≤ b) v5 (.slice A_5 q5.length c_5) q5 from by
        exact Rep.val_mono (fun b hb _ => Nat.le_trans B3.out.size (Nat.le_trans D4.out.size hb)) (Rep.acc_fresh hu5))
      go_wp2_with fail
      have B5 := Lib.hid (B3.out.trans (D5.out.mono B3.out.size))
      have HS5 := Lib.hid (HS3.out.below D5.out (fun _ _ hb => hb.lt))
      have HL5 := Lib.hid (show ∀ j, j ≤ x.pages.length → (q5 ++ ((x.pages.take j).map (num 2)).flatten).length ≤ 1000000000 by intro j _; have h1 := LE.out j; have h2 := HLS.out.2.2.2.2; have h3 := L.out; rw [List.length_append]; omega)
      have HT := Lib.hid (show q5 ++ ((x.pages.take x.pages.length).map (num 2)).flatten = q ++ entBytes x by rw [HQ5.out, List.take_length, entBytes, List.append_assoc])
      clear d0 d1 d2 d3 d4 hu5
      rename World => W5
      go_loopw [3, 45] (fun s i wr => ∃ j : Nat, i = .int .i64 j ∧ j ≤ x.pages.length ∧ Rep.byte.list.val (fun b => w.heap.size ≤ b) wr s (q5 ++ ((x.pages.take j).map (num 2)).flatten) ∧ Below W5.heap.size W5 wr)
        (fun _ i _ => x.pages.length - (intOf i).toNat)
      case atStart => exact ⟨0, rfl, by omega, by simpa using HU.out, Below.refl _ _⟩
      case round =>
        obtain ⟨j, rfl, hj, hv, hb1⟩ := hrel
        have HB6 := Lib.hid hb1
        by_cases hlt2 : (j : Int) < x.pages.length
        · have hj' : j < x.pages.length := by omega
          obtain ⟨bp, op, rfl, cp0, wp0⟩ := Rep.At.int (HS5.out.below hb1 (fun _ _ hb => hb.lt)).2.2 (List.getElem?_eq_getElem hj')
          have T2 := Lib.hid (show q5 ++ ((x.pages.take (j + 1)).map (num 2)).flatten = (q5 ++ ((x.pages.take j).map (num 2)).flatten) ++ num 2 x.pages[j] by rw [take_flatten_succ (num 2) hj', List.append_assoc])
          have L6 := Lib.hid (HL5.out j (by omega))
          generalize x.pages[j] = p at *
          generalize q5 ++ ((x.pages.take j).map (num 2)).flatten = r at hv T2 L6
          have HV6 := Lib.hid hv
          obtain ⟨A6, c6, rfl, _, _, _⟩ := Rep.val_list hv
          clear hv hb1
          go_wp2_with fail
          refine (put_calls (width := 2) (n := p) HV6.out L6.out rfl wp0).mono ?_
          rintro e w6 ⟨u6, rfl, hu6, hb6⟩
          rw [← T2.out] at hu6
          go_wp2_with fail
          exact ⟨⟨j + 1, by go_num, by omega, Rep.val_mono (fun b hb _ => Nat.le_trans B5.out.size (Nat.le_trans HB6.out.size hb)) (Rep.acc_fresh hu6), HB6.out.trans (hb6.mono HB6.out.size)⟩, by simp [intOf]; omega⟩
        · obtain rfl : j = x.pages.length := by omega
          rw [HT.out, ← T.out] at hv
          have HV6 := Lib.hid hv
          clear hv hb1
          go_wp2_with fail
          exact ⟨⟨k + 1, by go_num, by omega, HV6.out, B5.out.trans (HB6.out.mono B5.out.size)⟩, by simp [intOf]; omega⟩
    · obtain rfl : k = l.length := by omega
      have T := Lib.hid (show dirBytes l = num 2 l.length ++ ((l.take l.length).map entBytes).flatten by rw [List.take_length]; rfl)
      generalize num 2 l.length ++ ((l.take l.length).map entBytes).flatten = q at hv T
      have HV := Lib.hid hv
      clear hv hb1
      go_wp2_with fail
      go_ret
      exact ⟨_, rfl, by rw [T.out]; exact HV.out, HB1.out⟩

/-- dir.Size -/
theorem dsize_calls {Q : Nat → Prop} {w : World} {v : Value} {l : List DEntry} (hx : rEntry.list.val Q w v l) (hb : (dirBytes l).length ≤ 100000000) (hn : l.length ≤ 100000000) :
    Calls Tryz.prog 129 #[v] w fun e w' => e = .returned (.int .i64 (dirBytes l).length) ∧ Below w.heap.size w w' := by
  have HX := Lib.hid hx
  have HB := Lib.hid hb
  obtain ⟨A, c, rfl, hc1, hc2, hA⟩ := Rep.val_list hx
  generalize hd : dirBytes l = d at hb
  have HD := Lib.hid hd
  clear hx hA hd
  go_enter Tryz.func129, Tryz.ntmps129
  go_wp2_with fail
  refine (dput_calls HX.out HB.out hn).mono ?_
  rintro e w1 ⟨u, rfl, hu, hb1⟩
  rw [HD.out] at hu
  obtain ⟨A6, c6, rfl, _, _, _⟩ := Rep.val_list hu
  clear hu
  go_wp2_with fail
  go_ret
  exact ⟨rfl, hb1⟩
end Go.Proofs.YtghbfbohnoebiaaGreat
namespace Go.Proofs.YtghbfbohnoebiaaGreat
open Go.RowKit

/-- The number at a place, of so many bytes. -/
def natAt (b : List UInt8) (at_ w : Nat) : Nat := leNat ((b.drop at_).take w)
theorem wide_small {w : Nat} (h1 : 1 ≤ w) (h8 : w ≤ 8) : wide (w : Int) = w := by
  unfold wide; rw [if_neg (by omega), if_neg (by omega)]
end Go.Proofs.YtghbfbohnoebiaaGreat
namespace Go.Proofs.YtghbfbohnoebiaaGreat
open Go.RowKit

theorem info3 : (Tryz.prog.info? 3).map (fun i => (i.zero, i.size, i.bytes)) = some (some (.int .i64 0), 1, 8) := by kernel_rfl
theorem infoEntry : (Tryz.prog.info? 160).map (fun i => (i.zero, i.size, i.bytes)) = some (some (.agg #[.int .i64 0, .int .u64 0, .int .i64 0, .int .i64 0, .slice none 0 0]), 5, 56) := by kernel_rfl

/-- slices.Clone of numbers -/
theorem intClone {Q : Nat → Prop} {w : World} {v : Value} {l : List Int} (hx : (Rep.int .i64).list.val Q w v l) (hl : l.length ≤ 1000000000000) :
    Calls Tryz.prog 65 #[v] w (ResA (Rep.int .i64) 3 w l) := by
  obtain ⟨A, c, rfl, hc1, hc2, hA⟩ := Rep.val_list hx
  unfold maxLen at hc2
  cases A with
  | none =>
    have hnil : l = [] := by
      rcases Nat.eq_zero_or_pos l.length with h | h
      · exact List.eq_nil_of_length_eq_zero h
      · obtain ⟨b, off, h⟩ := hA.addr h; cases h
    subst hnil
    have he := fun w => Lib.run_eql_slice_nil (P := Tryz.prog) w 35 3 none 0 c 0 0 Tryz.underlying35
    go_enter Tryz.func65, Tryz.ntmps65
    go_wp2_with fail
    go_ret
    exact ⟨_, rfl, Rep.acc_nil, Below.refl _ _⟩
  | some a =>
    have he := fun w => Lib.run_eql_slice_nil (P := Tryz.prog) w 35 3 (some a) l.length c 0 0 Tryz.underlying35
    have HX := Lib.hid (show (Rep.int .i64).list.val (fun b => b < w.heap.size) (w.alloc (.cells #[] 3)) (.slice (some a) l.length c) l from Rep.val_keep (w := w) (fun b _ hl => ⟨hl.lt, Below.heap_alloc _ _ _ hl.lt⟩) hx)
    have HA := Lib.hid (show (Rep.int .i64).acc 3 w.heap.size (fun _ => False) (w.alloc (.cells #[] 3)) (.slice (some ⟨w.heap.size, 0, none⟩) 0 0) [] from Rep.acc_made w #[] 0 (Nat.le_refl _) (by simp [maxLen]) (by simp))
    have HB1 := Lib.hid (show ([] : List Int).length + l.length ≤ maxLen from by simp [maxLen]; omega)
    have HB2 := Lib.hid (show (([] : List Int).length + l.length) * 8 ≤ 140737488355328 from by simp; omega)
    have HB3 := Lib.hid (show w.heap.size ≤ (w.alloc (.cells #[] 3)).heap.size from by simp)
    clear hx hA
    go_enter Tryz.func65, Tryz.ntmps65
    go_wp2_with (refine wpList_spread_leaf (e := 3) (base := w.heap.size) (Q := fun _ => False) (Rep.leaf_int .i64) rfl _ _ 35 rfl (.int .i64 0) 1 8 Tryz.underlying35 info3 rfl (by decide) rfl _ [] (by exact rfl) HA.out _ l (by exact rfl) HX.out HB1.out HB2.out HB3.out ?_; intro v' w' hacc' hgr hat)
    go_ret
    exact ⟨_, rfl, by simpa using hacc', Rep.acc_below HA.out ((Below.refl _ w).alloc (Nat.le_refl _) _) hgr HB3.out⟩

/-- 'append(s, x)' as0 a step of a region that draws its order, the element in a block just made. -/
theorem step_snoc {α : Type} {r : Rep α} {e base : Nat} {Q : Nat → Prop} {P : Program} {w : World} {ops : Array Oper} {o : Oper} {a : Act} {K : Act → World → Prop} {R : Exit → Act → World → Prop} {E : Prop} (hg : o.guard = none) (s x : Operand) (t : TypeId)
    (ho : o.op = .call { callee := .builtin .append, args := #[s, x], argTypes := #[t, t] })
    (z : Value) (size bytes : Nat) (ht : P.underlying t = some (.slice e)) (hi : (P.info? e).map (fun i => (i.zero, i.size, i.bytes)) = some (some z, size, bytes)) (hzs : z.cells.size = size) (hsz : 0 < size)
    (hr : r.size = size) (v : Value) (xs : List α) (hs : a.eval s = v) (h : r.acc e base Q w v xs) (y : α) (vy : Value) (hy : r.val (fun b => Q b ∧ v.ownBlock ≠ some b) w vy y) (hx : a.eval x = .slice (some ⟨w.heap.size, 0, none⟩) 1 1)
    (h63 : xs.length + 1 ≤ maxLen) (hbytes : (xs.length + 1) * bytes ≤ 140737488355328) (hbase : base ≤ w.heap.size)
    (H : ∀ v' w', r.acc e base Q w' v' (xs ++ [y]) → w.grownBy w' v.ownBlock → K (a.put o.dst v') w') :
    if Region.wanted o (yielded ops a.tmps) = true then Oper.wp P o a (w.alloc (.cells vy.cells e)) K R else E := by
  have hw : Region.wanted o (yielded ops a.tmps) = true := by simp [Region.wanted, hg]
  rw [if_pos hw]
  obtain ⟨cs, hv, hrd⟩ := hy
  have hcells : vy.cells.toList = cs := by rw [hv]; exact r.back hrd
  have hkeep : ∀ b, b < w.heap.size → (w.alloc (.cells vy.cells e)).heap[b]? = w.heap[b]? := fun b hb => Below.heap_alloc _ _ _ hb
  have hacc' : r.acc e base Q (w.alloc (.cells vy.cells e)) v xs := Rep.acc_keep (fun b _ hl => hkeep b hl.lt) (fun _ hb _ => hb) h
  have hbn : (w.alloc (.cells vy.cells e)).heap[w.heap.size]? = some (.cells vy.cells e) := heap_alloc_new w _
  obtain ⟨v', w', q1, q2, q3, q4⟩ := Rep.acc_more (P := P) (w := w.alloc (.cells vy.cells e)) (ty := o.type) (ys := [y]) (A := some ⟨w.heap.size, 0, none⟩) (m := 1) (c := 1) (es := cs)
    ht hi hzs hsz hr hacc' rfl
    (Rep.row_one_elem (r.keep (fun b hb hl => ⟨hb, hkeep b hl.lt⟩) hrd)) (fun _ => ⟨w.heap.size, 0, rfl, fun j u hj => by
      rw [cell_of_row _ _ _ _ _ _ hbn, Nat.zero_add, ← hj, ← hcells]; simp⟩)
    (by simpa using h63) (by simpa using hbytes) (by simp; omega)
  unfold Oper.wp execOp
  simp only [ho, resolve, invoke, builtin, Sem.run_bind, Sem.run_pure, Result.andThen_ok, List.map_toArray, List.map_cons, List.map_nil, hs, hx, q1]
  exact H v' w' q2 ((World.grownBy_alloc w _ _).trans q3)

def entryOf (f : DFlow) : DEntry := ⟨f.key, f.data.length, f.pages⟩

set_option maxRecDepth 100000 in
set_option maxHeartbeats 1000000 in
/-- dir.Entries -/
theorem entries_calls {Q : Nat → Prop} {w : World} {v : Value} {l : List DFlow} (hx : rFlow.list.val Q w v l) (hn : l.length ≤ 1000000) (hp : ∀ f ∈ l, f.pages.length ≤ 1000000 ∧ f.data.length ≤ 1000000) :
    Calls Tryz.prog 119 #[v] w (Res rEntry.list (fun b => w.heap.size ≤ b) w (l.map entryOf)) := by
  obtain ⟨A, c, rfl, hc1, hc2, hA⟩ := Rep.val_list hx
  unfold maxLen at hc2
  have HX := Lib.hid hA
  have HP := Lib.hid hp
  clear hx hA hp
  go_enter Tryz.func119, Tryz.ntmps119
  go_wp2_with fail
  go_loopw [3, 8] (fun s i wr => ∃ k : Nat, i = .int .i64 k ∧ k ≤ l.length ∧ rEntry.acc 160 w.heap.size (fun b => w.heap.size ≤ b) wr s ((l.take k).map entryOf) ∧ Below w.heap.size w wr)
    (fun _ i _ => l.length - (intOf i).toNat)
  case atStart => exact ⟨0, rfl, by omega, by simpa using Rep.acc_nil, Below.refl _ _⟩
  case round =>
    obtain ⟨k, rfl, hk, hv, hb1⟩ := hrel
    have HB1 := Lib.hid hb1
    by_cases hlt : (k : Int) < l.length
    · have hk' : k < l.length := by omega
      have hAw : rFlow.At (fun b => b < w.heap.size) wr A l := Rep.At.keep (w := w) (fun b _ hb => ⟨hb.lt, hb1.block b hb.lt⟩) HX.out
      obtain ⟨b, off, Ad, cd, Ap, cp, rfl, hbc, cx0, cx1, cx2, cx3, cx4, g0, g1, g2, hsd, hs⟩ := rFlow_at hAw (List.getElem?_eq_getElem hk')
      have T := Lib.hid (show (l.take (k + 1)).map entryOf = (l.take k).map entryOf ++ [entryOf l[k]] by
        rw [List.take_succ_eq_append_getElem hk', List.map_append]; rfl)
      obtain ⟨p1, p2⟩ := HP.out l[k] (List.getElem_mem hk')
      generalize l[k] = x at *
      have L := Lib.hid (show ((l.take k).map entryOf).length + 1 ≤ maxLen ∧ (((l.take k).map entryOf).length + 1) * 56 ≤ 140737488355328 by rw [List.length_map, List.length_take]; unfold maxLen; omega)
      generalize (l.take k).map entryOf = q at *
      have HS := Lib.hid hs
      have HV := Lib.hid hv
      obtain ⟨A2, c2, rfl, _, _⟩ := Rep.acc_form hv
      clear hv hb1 hAw hs hsd
      go_wp2_with fail
      obtain ⟨W3, hW3⟩ : ∃ W3, wr.alloc (.cells #[.int .i64 x.key.kind, .int .u64 x.key.sig, .int .i64 x.key.comp, .slice Ad x.data.length cd, .slice Ap x.pages.length cp] 116) = W3 := ⟨_, rfl⟩
      have d0 : W3.cell? ⟨wr.heap.size, 0, none⟩ = some (.int .i64 x.key.kind) := by rw [← hW3]; simp
      have d1 : W3.cell? ⟨wr.heap.size, 1, none⟩ = some (.int .u64 x.key.sig) := by rw [← hW3]; simp
      have d2 : W3.cell? ⟨wr.heap.size, 2, none⟩ = some (.int .i64 x.key.comp) := by rw [← hW3]; simp
      have d3 : W3.cell? ⟨wr.heap.size, 3, none⟩ = some (.slice Ad x.data.length cd) := by rw [← hW3]; simp
      have d4 : W3.cell? ⟨wr.heap.size, 4, none⟩ = some (.slice Ap x.pages.length cp) := by rw [← hW3]; simp
      have hb3 : Below wr.heap.size wr W3 := by rw [← hW3]; exact (Below.refl _ _).alloc (Nat.le_refl _) _
      have hs3 : W3.heap.size = wr.heap.size + 1 := by rw [← hW3]; simp
      rw [hW3]
      have KS := Lib.hid (show ∀ w', Below (wr.heap.size + 1) W3 w' → w'.cell? ⟨wr.heap.size, 0, none⟩ = some (.int .i64 x.key.kind) ∧ w'.cell? ⟨wr.heap.size, 1, none⟩ = some (.int .u64 x.key.sig) ∧ w'.cell? ⟨wr.heap.size, 2, none⟩ = some (.int .i64 x.key.comp) ∧ w'.cell? ⟨wr.heap.size, 3, none⟩ = some (.slice Ad x.data.length cd) ∧ w'.cell? ⟨wr.heap.size, 4, none⟩ = some (.slice Ap x.pages.length cp) from
        fun w' h => ⟨(h.cell (p := ⟨wr.heap.size, 0, none⟩) (Nat.lt_succ_self _)).trans d0, (h.cell (p := ⟨wr.heap.size, 1, none⟩) (Nat.lt_succ_self _)).trans d1, (h.cell (p := ⟨wr.heap.size, 2, none⟩) (Nat.lt_succ_self _)).trans d2, (h.cell (p := ⟨wr.heap.size, 3, none⟩) (Nat.lt_succ_self _)).trans d3, (h.cell (p := ⟨wr.heap.size, 4, none⟩) (Nat.lt_succ_self _)).trans d4⟩)
      have HS3 := Lib.hid (show ∀ W, Below (wr.heap.size + 1) W3 W → (Rep.int .i64).list.val (fun b => b < w.heap.size) W (.slice Ap x.pages.length cp) x.pages from
        fun W h => (HS.out.below (hb3.trans (h.mono (by omega))) (fun _ _ hb => hb.lt)).val)
      have HV3 := Lib.hid (show ∀ W, Below (wr.heap.size + 1) W3 W → rEntry.acc 160 w.heap.size (fun b => w.heap.size ≤ b) W (.slice A2 q.length c2) q from
        fun W h => Rep.acc_later HV.out (hb3.trans (h.mono (by omega))))
      have HO := Lib.hid (show ∀ b, (Value.slice A2 q.length c2).ownBlock = some b → b < wr.heap.size from fun b hb => (Rep.acc_own HV.out b hb).2)
      have B3 := Lib.hid (HB1.out.trans (hb3.mono HB1.out.size))
      have HZ3 := Lib.hid hs3
      have HW0 := Lib.hid HB1.out.size
      have HB4 := Lib.hid (show w.heap.size ≤ wr.heap.size + 1 by have := HB1.out.size; omega)
      have HG2 := Lib.hid (show ∀ w1 w2, Below (wr.heap.size + 1) W3 w1 → w1.grownBy w2 (Value.slice A2 q.length c2).ownBlock → w2.cell? ⟨wr.heap.size, 0, none⟩ = some (.int .i64 x.key.kind) ∧ w2.cell? ⟨wr.heap.size, 1, none⟩ = some (.int .u64 x.key.sig) ∧ w2.cell? ⟨wr.heap.size, 2, none⟩ = some (.int .i64 x.key.comp) ∧ w2.cell? ⟨wr.heap.size, 3, none⟩ = some (.slice Ad x.data.length cd) ∧ w2.cell? ⟨wr.heap.size, 4, none⟩ = some (.slice Ap x.pages.length cp) from
        fun w1 w2 h hg => by
          have hne : some wr.heap.size ≠ (Value.slice A2 q.length c2).ownBlock := fun e => by have := HO.out _ e.symm; omega
          obtain ⟨y0, y1, y2, y3, y4⟩ := KS.out _ h
          exact ⟨hg.cell y0 hne, hg.cell y1 hne, hg.cell y2 hne, hg.cell y3 hne, hg.cell y4 hne⟩)
      have gl := wf_i64 (n := (x.data.length : Int)) (by omega) (by omega)
      have HAg := Lib.hid (show ∀ W (A5 : Option Addr) (c5 : Nat), (Rep.int .i64).list.val (fun b => wr.heap.size + 1 ≤ b) W (.slice A5 x.pages.length c5) x.pages → rEntry.val (fun b => w.heap.size ≤ b ∧ (Value.slice A2 q.length c2).ownBlock ≠ some b) W (.agg #[.int .i64 x.key.kind, .int .u64 x.key.sig, .int .i64 x.key.comp, .int .i64 x.data.length, .slice A5 x.pages.length c5]) (entryOf x) from
        fun W A5 c5 h => by
          obtain ⟨A6, c6, he, h6⟩ := Rep.val_sl h
          cases he
          exact rEntry_agg (x := entryOf x) g0 g1 g2 gl (h6.keep fun b hb _ => ⟨⟨by have := HW0.out; omega, fun e => by have := HO.out b e; omega⟩, rfl⟩))
      clear hW3 hb3 hs3 d0 d1 d2 d3 d4 cx0 cx1 cx2 cx3 cx4 g0 g1 g2 gl
      go_region_held3 (fun w' => w'.cell? ⟨wr.heap.size, 0, none⟩ = some (.int .i64 x.key.kind) ∧ w'.cell? ⟨wr.heap.size, 1, none⟩ = some (.int .u64 x.key.sig) ∧ w'.cell? ⟨wr.heap.size, 2, none⟩ = some (.int .i64 x.key.comp) ∧ w'.cell? ⟨wr.heap.size, 3, none⟩ = some (.slice Ad x.data.length cd) ∧ w'.cell? ⟨wr.heap.size, 4, none⟩ = some (.slice Ap x.pages.length cp))
        (first
          | exact KS.out _ (Below.refl _ _).drew
          | exact KS.out _ D1.out
          | exact KS.out _ (D1.out.alloc (Nat.le_trans (Nat.le_of_eq HZ3.out.symm) D1.out.size) _)
          | exact D2.out)
        (first
          | (go_at_call 65; refine (intClone (HS3.out _ (Below.refl _ _).drew) (by omega)).mono ?_; rintro e w1 ⟨u, rfl, hu, hb1⟩; have D1 := Lib.hid ((Below.refl (wr.heap.size + 1) W3).drew.trans (hb1.mono (Nat.le_of_eq HZ3.out.symm))); obtain ⟨A5, c5, rfl, _, _⟩ := Rep.acc_form hu; have HU := Lib.hid (HAg.out w1 A5 c5 (Rep.val_mono (fun b hb _ => Nat.le_trans (Nat.le_of_eq HZ3.out.symm) hb) (Rep.acc_fresh hu))); clear hu hb1)
          | (refine step_snoc (e := 160) (base := w.heap.size) (Q := fun b => w.heap.size ≤ b) (r := rEntry) rfl _ _ 90 rfl (.agg #[.int .i64 0, .int .u64 0, .int .i64 0, .int .i64 0, .slice none 0 0]) 5 56 Tryz.underlying90 infoEntry rfl (by decide) rfl _ q (by rfl) (HV3.out _ D1.out) (entryOf x) _ HU.out (by rfl) L.out.1 L.out.2 (Nat.le_trans B3.out.size D1.out.size) ?_; intro s2 w2 hacc2 hgr2; have D2 := Lib.hid (HG2.out w1 w2 D1.out hgr2); have D3 := Lib.hid (Rep.acc_below (HV3.out _ D1.out) (B3.out.trans (D1.out.mono HB4.out)) hgr2 (Nat.le_trans B3.out.size D1.out.size)); have HV4 := Lib.hid hacc2; clear hacc2 hgr2))
      go_wp2_with fail
      exact ⟨⟨k + 1, by go_num, by omega, by rw [T.out]; exact HV4.out, D3.out⟩, by simp [intOf]; omega⟩
    · obtain rfl : k = l.length := by omega
      rw [List.take_length] at hv
      have HV := Lib.hid hv
      clear hv hb1
      go_wp2_with fail
      go_ret
      refine ⟨_, rfl, ?_, HB1.out⟩
      refine Rep.val_mono (fun b hb _ => ?_) (Rep.acc_val HV.out)
      rcases hb with hb | hb
      · exact hb
      · exact (Rep.acc_own HV.out b hb).1
end Go.Proofs.YtghbfbohnoebiaaGreat
namespace Go.Proofs.YtghbfbohnoebiaaGreat
open Go.RowKit

theorem cell_row {w : World} {b e : Nat} {cs : Array Value} {f : Nat × Nat} (h : w.heap[b]? = some (.cells cs e f)) (i : Nat) : w.cell? ⟨b, i, none⟩ = cs[i]? := by simp [World.cell?, h]
theorem frozen_row {w : World} {b e : Nat} {cs : Array Value} (h : w.heap[b]? = some (.cells cs e (0, 0))) (i : Nat) : w.frozen? ⟨b, i, none⟩ = false := by simp [World.frozen?, h]
end Go.Proofs.YtghbfbohnoebiaaGreat
namespace Go.Proofs.YtghbfbohnoebiaaGreat
open Go.RowKit

def bitOf (c : Int) : Nat := if 0 ≤ c ∧ c < 64 then 2 ^ c.toNat else 0
theorem bitOf_lt (c : Int) : bitOf c < 18446744073709551616 := by
  unfold bitOf
  split
  · rename_i h; exact Nat.lt_of_lt_of_le (Nat.pow_lt_pow_right (by decide) (show c.toNat < 64 by omega)) (by decide)
  · decide
/-- bits.bit -/
theorem bit_calls (c : Int) (w : World) : Calls Tryz.prog 197 #[.int .i64 c] w fun e w' => e = .returned (.int .u64 (bitOf c : Nat)) ∧ w' = w := by
  by_cases h : 0 ≤ c ∧ c < 64
  · obtain ⟨k, rfl⟩ : ∃ k : Nat, c = k := ⟨c.toNat, by omega⟩
    have hk : k < 64 := by omega
    have hb : bitOf (k : Int) = 2 ^ k := by unfold bitOf; rw [if_pos h]; simp
    have HB := Lib.hid hb
    have n1 : (k : Int) < 64 := h.2
    have HP := Lib.hid (bitOf_lt k)
    have HV := Lib.hid (show IntKind.u64.wrap ((2 : Int) ^ k) = ((bitOf k : Nat) : Int) by
      have h1 : ((2 : Int) ^ k) = ((2 ^ k : Nat) : Int) := by simp
      rw [h1, hb]
      have := bitOf_lt k
      rw [hb] at this
      exact IntWalk.u64_in _ ⟨by omega, by omega⟩)
    clear h hb
    go_enter Tryz.func197, Tryz.ntmps197
    go_wp2_with fail
    rw [HV.out]
    go_ret
    exact ⟨rfl, rfl⟩
  · have hb : bitOf c = 0 := by unfold bitOf; rw [if_neg h]
    have HB := Lib.hid hb
    clear hb
    by_cases h0 : c < 0
    · clear h
      go_enter Tryz.func197, Tryz.ntmps197
      go_wp2_with fail
      go_ret
      exact ⟨by rw [HB.out]; rfl, rfl⟩
    · have h1 : (64 : Int) ≤ c := by omega
      clear h
      go_enter Tryz.func197, Tryz.ntmps197
      go_wp2_with fail
      go_ret
      exact ⟨by rw [HB.out]; rfl, rfl⟩

end Go.Proofs.YtghbfbohnoebiaaGreat
