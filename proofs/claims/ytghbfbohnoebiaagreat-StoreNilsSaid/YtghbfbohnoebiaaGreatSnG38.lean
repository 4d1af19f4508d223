/- Texts on which the proofs stand: PPages. No condition is laid on any input. -/
import Derived.Test.YtghbfbohnoebiaaGreatSnG24
import Derived.Test.YtghbfbohnoebiaaGreatSnG30
namespace Go.Proofs.YtghbfbohnoebiaaGreat
open Go.RowKit Go.Shelf
attribute [local go_sem] Oper.semAt_some

/-- The pages that there are, at places. -/
def keptAt (l : List DFlow) (ps : List (Nat × Nat)) : List Int := ps.filterMap fun p => match l[p.1]? with
  | some f => if 0 ≤ pageAt f p.2 then some (pageAt f p.2) else none
  | none => none
theorem keptAt_snoc {l : List DFlow} {ps : List (Nat × Nat)} {k i : Nat} {f : DFlow} (h : l[k]? = some f) : keptAt l (ps ++ [(k, i)]) = keptAt l ps ++ (if 0 ≤ pageAt f i then [pageAt f i] else []) := by
  unfold keptAt
  rw [List.filterMap_append]
  simp only [List.filterMap_cons, List.filterMap_nil, h]
  by_cases hp : 0 ≤ pageAt f i
  · simp [hp]
  · simp [hp]
theorem keptAt_spots {l : List DFlow} {k : Nat} {f : DFlow} (h : l[k]? = some f) (n : Nat) : keptAt l (spots k n) = keptTo f n := by
  unfold keptAt spots keptTo
  rw [List.filterMap_map]
  refine filterMap_alike fun i _ => ?_
  simp [h]
theorem keptAt_to {l : List DFlow} : ∀ k, k ≤ l.length → keptAt l (placesTo l k) = pagesOf (l.take k)
  | 0, _ => by simp [placesTo, keptAt, pagesOf]
  | k + 1, hk => by
    obtain ⟨f, hf⟩ : ∃ f, l[k]? = some f := ⟨_, List.getElem?_eq_getElem (by omega)⟩
    rw [placesTo_succ hf, pagesOf_succ hf, ← keptAt_to k (by omega), show kept f = keptTo f (pieceCount f) from rfl, ← keptAt_spots hf]
    unfold keptAt
    rw [List.filterMap_append]
theorem keptAt_all (l : List DFlow) : keptAt l (placesTo l l.length) = pagesOf l := by
  have := keptAt_to (l := l) l.length (Nat.le_refl _)
  rwa [List.take_length] at this
theorem keptAt_len (l : List DFlow) (ps : List (Nat × Nat)) : (keptAt l ps).length ≤ ps.length := List.length_filterMap_le _ _

set_option maxRecDepth 100000 in
set_option maxHeartbeats 2000000 in
/-- plan.Pages -/
theorem pages_calls {w : World} {v : Value} {l : List DFlow} (hx : rFlow.list.val (fun b => b < w.heap.size) w v l) (hd : ∀ f ∈ l, f.data.length ≤ 1000000) (hl : l.length ≤ 100000) :
    Calls Tryz.prog 114 #[v] w (ResA (Rep.int .i64) 3 w (pagesOf l)) := by
  obtain ⟨A, c, rfl, hc1, hc2, hA⟩ := Rep.val_list hx
  refine (callsIn_wide (n := 9)).1 ?_
  refine callsIn_of_wp_marks Tryz.func114 rfl trivial ?_ rfl
  simp only [Tryz.ntmps114, List.size_toArray, List.length_cons, List.length_nil, Nat.reduceAdd, Nat.reduceSub, Array.replicate_succ, Array.replicate_zero, List.push_toArray, List.append_toArray, List.nil_append, List.cons_append]
  have HA := Lib.hid hA
  have HD := Lib.hid hd
  have HL := Lib.hid hl
  clear hA hx hd hl
  gi_wp2_with (refine ⟨trivial, ?_⟩; gi_at_call 163; refine callsIn_wide.2 ((pieces_calls _ _ _ _).mono ?_); rintro e w' ⟨rfl, rfl⟩)
  -- the walk
  have bL := Boxed.new w 38 (.slice A l.length c)
  have bR := Boxed.new (w.alloc (.cells #[.slice A l.length c] 38)) 35 (.slice none 0 0)
  have bP := Boxed.new ((w.alloc (.cells #[.slice A l.length c] 38)).alloc (.cells #[.slice none 0 0] 35)) 38 (.slice A l.length c)
  simp only [World.size_alloc] at bR bP
  obtain ⟨W0, hW0⟩ : ∃ W0, ((w.alloc (.cells #[.slice A l.length c] 38)).alloc (.cells #[.slice none 0 0] 35)).alloc (.cells #[.slice A l.length c] 38) = W0 := ⟨_, rfl⟩
  have hsz : W0.heap.size = w.heap.size + 3 := by rw [← hW0]; simp
  have hB0 : Below w.heap.size w W0 := by rw [← hW0]; exact (((Below.refl _ w).alloc (Nat.le_refl _) _).alloc (by simp) _).alloc (by simp; omega) _
  replace bL : Boxed W0 w.heap.size 38 (.slice A l.length c) := by rw [← hW0]; exact (bL.alloc _).alloc _
  replace bR : Boxed W0 (w.heap.size + 1) 35 (.slice none 0 0) := by rw [← hW0]; exact bR.alloc _
  replace bP : Boxed W0 (w.heap.size + 2) 38 (.slice A l.length c) := by rw [← hW0]; exact bP
  rw [hW0]
  clear hW0
  have hG : Ground (w.heap.size + 1) (fun o => o = 0) W0.heap.size W0 := ⟨⟨_, _, bR⟩, by omega, Nat.le_refl _, fun o ho => by subst ho; exact ⟨none, 0, 0, bR.cell, fun b hb => by cases hb⟩⟩
  have hlow : ∀ W, Seen (w.heap.size + 1) (fun o => o = 0) W0 W → ∀ b, b < w.heap.size → IsC w b → W.heap[b]? = w.heap[b]? := fun W hs b hb hc => (hs.2.block b (by omega) (hc.same (hB0.block b hb)) (by omega)).trans (hB0.block b hb)
  have HAT := Lib.hid (show ∀ W, Seen (w.heap.size + 1) (fun o => o = 0) W0 W → rFlow.At (fun b => b < w.heap.size) W A l from fun W hs => Rep.At.keep (fun b hb hc => ⟨hb, hlow W hs b hb hc⟩) HA.out)
  have HBL := Lib.hid (show ∀ W, Seen (w.heap.size + 1) (fun o => o = 0) W0 W → Boxed W w.heap.size 38 (.slice A l.length c) from fun W hs => (hs.2.block _ (by omega) ⟨_, _, _, bL⟩ (by omega)).trans bL)
  have hfl : ∀ W, Seen (w.heap.size + 1) (fun o => o = 0) W0 W → FlowsIn l A (w.heap.size + 2) c W := fun W hs => by
    have hbx : Boxed W (w.heap.size + 2) 38 (.slice A l.length c) := (hs.2.block _ (by omega) ⟨_, _, _, bP⟩ (by omega)).trans bP
    refine ⟨hbx.cell, fun k f hk => ?_⟩
    obtain ⟨b, off, A1, c1, A2, c2, hA, hbc, d0, d1, d2, d3, d4, _, _, _, s3, _⟩ := rFlow_at (HAT.out W hs) hk
    exact ⟨b, off, A1, c1, A2, _, c2, hA, hbc.lt, d0, d1, d2, d3, d4, Rep.val_mono (fun b _ hl => hl.lt) s3.val⟩
  have hle := HL.out
  refine wpIn_rangeFunc_va rfl (by omega) (gf := 201) (lb := #[.pointer (some ⟨w.heap.size + 2, 0, none⟩)]) rfl trivial (enters_of Tryz.func201 (by kernel_rfl) rfl)
    (pieces_seq (n := 8) (by omega) hG hfl HD.out (by omega)) Keeps.trans (fun W o _ => Keeps.below ((Below.refl _ _).alloc (Nat.le_refl _) _)) (fun W l o o' _ h1 h2 _ => Keeps.putObj h1 h2) (Below.refl _ _) (fun _ => rfl)
    (fun (pre : List Spot) W => (∃ v, Boxed W (w.heap.size + 1) 35 v ∧ (Rep.int .i64).acc 3 W0.heap.size (fun _ => False) W v (keptAt l (pre.map Prod.fst))) ∧ Below w.heap.size w W)
    (fun _ _ _ => False)
    (OwnFrom.and (Own.from (own_acc (Rep.int .i64) 3 W0.heap.size (fun _ => False) (w.heap.size + 1) 35 (fun pre : List Spot => keptAt l (pre.map Prod.fst))) _) (ownFrom_below (Nat.le_refl _) (by omega)))
    (fun _ _ _ _ _ hs _ _ => hs)
    (pieceV_own _ _ _ _ _)
    ⟨⟨_, bR, Rep.acc_nil⟩, hB0⟩
    (fun x b => { tmps := #[.slice A l.length c, .pointer (some ⟨w.heap.size, 0, none⟩), .slice none 0 0, .pointer (some ⟨w.heap.size + 1, 0, none⟩), .pointer (some ⟨b, 0, none⟩), undef, .slice A l.length c, .func (.func 201) #[] #[.pointer (some ⟨w.heap.size + 1 + 1, 0, none⟩)], .agg #[.int .i64 x.1.1, .int .i64 x.1.2], x.2, undef, undef, undef, undef, undef, undef, undef, undef, undef, undef, undef, undef, undef, undef, undef], defers := [] })
    (fun x => .cells #[.int .i64 x.1.1, .int .i64 x.1.2] 219) ?assign ?body ?done ?stop
  case assign =>
    intro lp x W K hK
    simp only [encSpot]
    gi_wp2
    exact hK
  case body =>
    rintro lr pre ⟨⟨k, i⟩, u⟩ b W ⟨⟨v, hv, hacc⟩, hB⟩ ⟨f, hf, hi, hpre, hseen, hu⟩ hb1 hb2 hbox
    simp only at hf hi hpre hu hbox
    have KS := Lib.hid (show ∀ W', Below W.heap.size W W' → Seen (w.heap.size + 1) (fun o => o = 0) W0 W' from fun W' h => hseen.below h)
    have KB := Lib.hid (show ∀ W', Below W.heap.size W W' → (W'.cell? ⟨w.heap.size, 0, none⟩ = some (.slice A l.length c) ∧ W'.cell? ⟨b, 0, none⟩ = some (.int .i64 k) ∧ W'.cell? ⟨b, 1, none⟩ = some (.int .i64 i)) from fun W' h => by
      have hn := (h.block b hb2).trans hbox
      exact ⟨(HBL.out W' (KS.out W' h)).cell, cell_row hn 0, cell_row hn 1⟩)
    obtain ⟨bl, ofl, A1, c1, A2, c2, hA, hbc, d0, d1, d2, d3, d4, f0, f1, f2, s3, s4⟩ := rFlow_at (HAT.out W hseen) hf
    subst hA
    have KF := Lib.hid (show ∀ W', Below W.heap.size W W' → ((W'.cell? ⟨bl, ofl + k * 5, none⟩ = some (.int .i64 f.key.kind) ∧ W'.cell? ⟨bl, ofl + k * 5 + 1, none⟩ = some (.int .u64 f.key.sig) ∧ W'.cell? ⟨bl, ofl + k * 5 + 2, none⟩ = some (.int .i64 f.key.comp) ∧ W'.cell? ⟨bl, ofl + k * 5 + 3, none⟩ = some (.slice A1 f.data.length c1) ∧ W'.cell? ⟨bl, ofl + k * 5 + 4, none⟩ = some (.slice A2 f.pages.length c2)) ∧
        rFlow.val (fun b => b < w.heap.size) W' (.agg #[.int .i64 f.key.kind, .int .u64 f.key.sig, .int .i64 f.key.comp, .slice A1 f.data.length c1, .slice A2 f.pages.length c2]) f) from fun W' h =>
      ⟨⟨(h.cell (p := ⟨bl, ofl + k * 5, none⟩) hbc.lt).trans d0, (h.cell (p := ⟨bl, ofl + k * 5 + 1, none⟩) hbc.lt).trans d1, (h.cell (p := ⟨bl, ofl + k * 5 + 2, none⟩) hbc.lt).trans d2, (h.cell (p := ⟨bl, ofl + k * 5 + 3, none⟩) hbc.lt).trans d3, (h.cell (p := ⟨bl, ofl + k * 5 + 4, none⟩) hbc.lt).trans d4⟩, rFlow_agg f0 f1 f2 (s3.below h (fun _ _ h => h.lt)) (s4.below h (fun _ _ h => h.lt))⟩)
    have hkl : (k : Int) < l.length := by have := (List.getElem?_eq_some_iff.1 hf).1; omega
    have HT := Lib.hid (keptAt_snoc (ps := pre.map Prod.fst) (i := i) hf)
    have HPL := Lib.hid (show (keptAt l (pre.map Prod.fst)).length + 1 ≤ maxLen ∧ ((keptAt l (pre.map Prod.fst)).length + 1) * 8 ≤ 140737488355328 by
      have h1 := keptAt_len l (pre.map Prod.fst)
      have h2 := placesTo_len HD.out k (by omega)
      have h3 := pieceCount_le (HD.out f (List.mem_of_getElem? hf))
      have h4 : (pre.map Prod.fst).length = (placesTo l k).length + i := by rw [hpre, List.length_append]; simp [spots]
      unfold maxLen
      omega)
    have HSEEN := Lib.hid hseen
    have HU := Lib.hid hu
    have HV := Lib.hid hv
    have HACC := Lib.hid hacc
    have HBW := Lib.hid hB
    have HGR := Lib.hid hG
    obtain ⟨z, hz⟩ : ∃ z, pageAt f i = z := ⟨_, rfl⟩
    have HZ := Lib.hid hz
    have HZW := Lib.hid (show (Lit.int .i64 z).wf = true by rw [← hz]; exact pageAt_wf s4.2.2 i)
    rw [hz] at HT
    clear hf hi hpre hseen hu hbox hbc d0 d1 d2 d3 d4 f0 f1 f2 s3 s4 hv hacc hB hz hfl hG hlow bL bR bP
    have HSZ := Lib.hid hsz
    clear hsz
    by_cases hz : 0 ≤ z
    · have HT2 := Lib.hid (show keptAt l ((pre ++ [((k, i), u)]).map Prod.fst) = keptAt l (pre.map Prod.fst) ++ [z] by rw [List.map_append]; exact HT.out.trans (by rw [if_pos hz]))
      refine wpIn_block ?_
      refine wpIn_seq ?_
      refine region_round_held (S := fun W' => Below W.heap.size W W') (by kernel_rfl) (by kernel_rfl) (by rintro ⟨_, _, h⟩; exact h) (Below.refl _ _).drew (fun s0 => ?_)
      refine tkH (i := 0) (v := .slice (some ⟨bl, ofl, none⟩) l.length c) rfl (Or.inl ⟨by rfl, fun w' h => by obtain ⟨x0, x1, x2⟩ := KB.out w' h; obtain ⟨⟨y0, y1, y2, y3, y4⟩, _⟩ := KF.out w' h; go_simp⟩) s0 ?_
      go_simp
      refine tkHV (i := 1) (v := .pointer (some ⟨b, 0, none⟩)) rfl s0 ?_
      go_simp
      refine tkH (i := 2) (v := .int .i64 k) rfl (Or.inl ⟨by rfl, fun w' h => by obtain ⟨x0, x1, x2⟩ := KB.out w' h; obtain ⟨⟨y0, y1, y2, y3, y4⟩, _⟩ := KF.out w' h; go_simp⟩) s0 ?_
      go_simp
      refine tkHV (i := 3) (v := .pointer (some ⟨bl, ofl + k * 5, none⟩)) rfl s0 ?_
      go_simp
      refine tkH (i := 4) (v := .agg #[.int .i64 f.key.kind, .int .u64 f.key.sig, .int .i64 f.key.comp, .slice A1 f.data.length c1, .slice A2 f.pages.length c2]) rfl (Or.inl ⟨by rfl, fun w' h => by obtain ⟨x0, x1, x2⟩ := KB.out w' h; obtain ⟨⟨y0, y1, y2, y3, y4⟩, _⟩ := KF.out w' h; go_simp⟩) s0 ?_
      go_simp
      refine tkHV (i := 5) (v := .pointer (some ⟨b, 1, none⟩)) rfl s0 ?_
      go_simp
      refine tkH (i := 6) (v := .int .i64 i) rfl (Or.inl ⟨by rfl, fun w' h => by obtain ⟨x0, x1, x2⟩ := KB.out w' h; obtain ⟨⟨y0, y1, y2, y3, y4⟩, _⟩ := KF.out w' h; go_simp⟩) s0 ?_
      go_simp
      refine wpAnyH_all (rs := [7]) (by kernel_rfl) (by simp) ?_
      intro i hi
      obtain rfl : i = 7 := by simpa using hi
      clear hi
      refine wpOp_step rfl (fun K hK => ?_)
      go_simp
      refine (planAt_calls (KF.out _ s0).2).mono ?_
      rintro en w2 ⟨rfl, hb2⟩
      have s1 : Below W.heap.size W w2 := s0.trans (hb2.mono s0.size)
      rw [HZ.out]
      clear hb2
      refine hK _ _ ⟨s1, ?_⟩
      clear hK K
      refine tkHV (i := 8) (v := .int .i64 z) rfl s1 ?_
      go_simp
      refine wpAnyH_done (by kernel_rfl) ?_ _
      refine wpIn_seq ?_
      refine region_round_lit (by kernel_rfl) (by rintro ⟨_, _, h⟩; exact h) ?_
      go_wp2_with fail
      refine wpIn_cond_true rfl ?_
      refine region_round_lit (by kernel_rfl) (by rintro ⟨_, _, h⟩; exact h) ?_
      have HS1 := Lib.hid s1
      have hv2 : Boxed w2 (w.heap.size + 1) 35 v := (s1.block _ HV.out.lt).trans HV.out
      have HA2 := Lib.hid (Rep.acc_later HACC.out s1)
      have HU2 := Lib.hid (show (Rep.int .i64).val (fun b => False ∧ v.ownBlock ≠ some b) w2 (.int .i64 z) z from ⟨_, rfl, rfl, HZW.out⟩)
      have HOC := Lib.hid (show ∀ b, v.ownBlock = some b → IsC W b from fun b hb => Rep.acc_isC HACC.out b hb)
      generalize keptAt l (pre.map Prod.fst) = q at *
      obtain ⟨Av, cv, rfl, _, _⟩ := Rep.acc_form HA2.out
      have hc2 := hv2.cell
      have HV2 := Lib.hid hv2
      have HB2 := Lib.hid (show W0.heap.size ≤ w2.heap.size from Nat.le_trans HSEEN.out.1.le s1.size)
      clear hv2 s1 s0
      go_wp2_with (refine wpList_snoc (e := 3) (base := W0.heap.size) (Q := fun _ => False) (r := Rep.int .i64) rfl rfl _ _ 35 _ rfl rfl rfl (.int .i64 0) 1 8 Tryz.underlying35 infoI3 rfl (by decide) rfl _ q HA2.out z _ (by exact rfl) HU2.out (by exact rfl) (by exact rfl) HPL.out.1 HPL.out.2 HB2.out ?_; intro v7 w7 hacc7 hgr7 hat7; obtain ⟨A7, c7, rfl, _, _⟩ := Rep.acc_form hacc7; simp only [List.length_append, List.length_singleton] at hacc7 hat7; have hbx7 := HV2.out.kept hgr7 (fun e => by have := (Rep.acc_own HA2.out _ e.symm).1; have := HSZ.out; omega); have k0 := hbx7.cell; have k1 := hbx7.frozen; have HA7 := Lib.hid hacc7; have HG7 := Lib.hid hgr7; have HT7 := Lib.hid hat7; have HX7 := Lib.hid hbx7; clear hacc7 hgr7 hat7 hbx7)
      have hown7 := Rep.acc_own HA7.out
      have hk : Keeps (w.heap.size + 1) (fun o => o = 0) W0.heap.size W (w7.setCell ⟨w.heap.size + 1, 0, none⟩ (.slice A7 (q.length + 1) c7)) :=
        Keeps.collect rfl HS1.out HV.out.cell HG7.out (HT7.out.imp id fun e => ⟨_, e, Nat.le_succ _⟩) ⟨_, _, _, rfl⟩ hown7
      have hs : ∀ b, b ≠ w.heap.size + 1 → (w7.setCell ⟨w.heap.size + 1, 0, none⟩ (.slice A7 (q.length + 1) c7)).heap[b]? = w7.heap[b]? := fun b hb => Below.heap_setCell _ _ _ _ hb
      refine ⟨KeepsFrom.collect HS1.out HG7.out HOC.out, hk, ⟨_, HX7.out.set _, ?_⟩, ?_⟩
      · rw [HT2.out]
        exact Rep.acc_keep (fun b hb _ => hs b (by have := HSZ.out; rcases hb with hb | hb; · exact hb.elim
                                                   · have := (hown7 b hb).1; omega)) (fun _ hb _ => hb) HA7.out
      · exact (((HBW.out.trans (HS1.out.mono HBW.out.size)).grown HG7.out (by have := HB2.out; have := HSZ.out; omega) (fun b hb => by have := (Rep.acc_own HA2.out b hb).1; have := HSZ.out; omega))).setCell (p := ⟨w.heap.size + 1, 0, none⟩) (Nat.le_succ _) _
    · have HT2 := Lib.hid (show keptAt l ((pre ++ [((k, i), u)]).map Prod.fst) = keptAt l (pre.map Prod.fst) by rw [List.map_append]; exact HT.out.trans (by rw [if_neg hz, List.append_nil]))
      refine wpIn_block ?_
      refine wpIn_seq ?_
      refine region_round_held (S := fun W' => Below W.heap.size W W') (by kernel_rfl) (by kernel_rfl) (by rintro ⟨_, _, h⟩; exact h) (Below.refl _ _).drew (fun s0 => ?_)
      refine tkH (i := 0) (v := .slice (some ⟨bl, ofl, none⟩) l.length c) rfl (Or.inl ⟨by rfl, fun w' h => by obtain ⟨x0, x1, x2⟩ := KB.out w' h; obtain ⟨⟨y0, y1, y2, y3, y4⟩, _⟩ := KF.out w' h; go_simp⟩) s0 ?_
      go_simp
      refine tkHV (i := 1) (v := .pointer (some ⟨b, 0, none⟩)) rfl s0 ?_
      go_simp
      refine tkH (i := 2) (v := .int .i64 k) rfl (Or.inl ⟨by rfl, fun w' h => by obtain ⟨x0, x1, x2⟩ := KB.out w' h; obtain ⟨⟨y0, y1, y2, y3, y4⟩, _⟩ := KF.out w' h; go_simp⟩) s0 ?_
      go_simp
      refine tkHV (i := 3) (v := .pointer (some ⟨bl, ofl + k * 5, none⟩)) rfl s0 ?_
      go_simp
      refine tkH (i := 4) (v := .agg #[.int .i64 f.key.kind, .int .u64 f.key.sig, .int .i64 f.key.comp, .slice A1 f.data.length c1, .slice A2 f.pages.length c2]) rfl (Or.inl ⟨by rfl, fun w' h => by obtain ⟨x0, x1, x2⟩ := KB.out w' h; obtain ⟨⟨y0, y1, y2, y3, y4⟩, _⟩ := KF.out w' h; go_simp⟩) s0 ?_
      go_simp
      refine tkHV (i := 5) (v := .pointer (some ⟨b, 1, none⟩)) rfl s0 ?_
      go_simp
      refine tkH (i := 6) (v := .int .i64 i) rfl (Or.inl ⟨by rfl, fun w' h => by obtain ⟨x0, x1, x2⟩ := KB.out w' h; obtain ⟨⟨y0, y1, y2, y3, y4⟩, _⟩ := KF.out w' h; go_simp⟩) s0 ?_
      go_simp
      refine wpAnyH_all (rs := [7]) (by kernel_rfl) (by simp) ?_
      intro i hi
      obtain rfl : i = 7 := by simpa using hi
      clear hi
      refine wpOp_step rfl (fun K hK => ?_)
      go_simp
      refine (planAt_calls (KF.out _ s0).2).mono ?_
      rintro en w2 ⟨rfl, hb2⟩
      have s1 : Below W.heap.size W w2 := s0.trans (hb2.mono s0.size)
      rw [HZ.out]
      clear hb2
      refine hK _ _ ⟨s1, ?_⟩
      clear hK K
      refine tkHV (i := 8) (v := .int .i64 z) rfl s1 ?_
      go_simp
      refine wpAnyH_done (by kernel_rfl) ?_ _
      gi_wp2
      exact ⟨(KeepsOthers.of_below s1).from _, Keeps.below s1, ⟨v, (s1.block _ HV.out.lt).trans HV.out, by rw [HT2.out]; exact Rep.acc_later HACC.out s1⟩, HBW.out.trans (s1.mono HBW.out.size)⟩
  case done =>
    rintro D ys W hD hys ⟨⟨v, hv, hacc⟩, hB⟩ hK
    have hc := hv.cell
    gi_wp2
    refine ⟨by simp, .inl ⟨_, _, rfl, run_takeDeferred hK, ?_⟩⟩
    rw [hys, keptAt_all] at hacc
    have hval : (Rep.int .i64).acc 3 w.heap.size (fun _ => False) (W.putObj D (.deferred none)) v (pagesOf l) := by
      refine Rep.acc_base (base := W0.heap.size) (by omega) (Rep.acc_keep (w := W) (fun b' hb' hl => World.putObj_heap_other ?_) (fun _ hb _ => hb) hacc)
      rintro rfl
      obtain ⟨_, _, _, hl⟩ := hl
      rw [hK] at hl; cases hl
    exact ⟨_, results_tmp rfl _ _ _, v, rfl, hval, hB.trans (belowK_b (w := w) (Nat.le_refl _) W D _ _ (by omega) hK rfl rfl)⟩
  case stop =>
    rintro D c pre W _ h _
    exact h.elim
end Go.Proofs.YtghbfbohnoebiaaGreat
