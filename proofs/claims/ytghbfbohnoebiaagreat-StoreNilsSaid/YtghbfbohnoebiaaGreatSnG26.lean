/- Texts on which the proofs stand: PlanStay. No condition is laid on any input. -/
import Derived.Test.YtghbfbohnoebiaaGreatSnG15
import Derived.Test.YtghbfbohnoebiaaGreatSnG18
import Derived.Test.YtghbfbohnoebiaaGreatSnG20
namespace Go.Proofs.YtghbfbohnoebiaaGreat
open Go.RowKit

set_option maxRecDepth 100000 in
set_option maxHeartbeats 2000000 in
/-- plan.stays -/
theorem stays_calls {Qo Qb : Nat → Prop} {w : World} {vo vb : Value} {old : List DFlow} {k : DKey} {i : Nat} {x : List UInt8} (ho : rFlow.list.val Qo w vo old) (hx : Rep.byte.list.val Qb w vb x) (hd : ∀ f ∈ old, f.data.length ≤ 1000000) :
    Calls Tryz.prog 188 #[vo, .agg #[.int .i64 k.kind, .int .u64 k.sig, .int .i64 k.comp], .int .i64 (i : Int), vb] w fun e w' => e = .returned (.int .i64 (stayOf old k i x)) ∧ Below w.heap.size w w' := by
  obtain ⟨A1, c1, rfl, h1, h2, hat⟩ := Rep.val_list ho
  have HO := Lib.hid hat
  have HX := Lib.hid hx
  have HD := Lib.hid hd
  have HM := Lib.hid (Nat.le_trans h1 h2)
  unfold maxLen at h2
  obtain ⟨W1, hW1⟩ : ∃ W1, w.alloc (.cells #[.int .i64 k.kind, .int .u64 k.sig, .int .i64 k.comp] 82) = W1 := ⟨_, rfl⟩
  have hb1 : Below w.heap.size w W1 := by rw [← hW1]; exact (Below.refl _ _).alloc (Nat.le_refl _) _
  have hz1 : W1.heap.size = w.heap.size + 1 := by rw [← hW1]; simp
  have hr0 : W1.heap[w.heap.size]? = some (.cells #[.int .i64 k.kind, .int .u64 k.sig, .int .i64 k.comp] 82 (0, 0)) := by rw [← hW1]; exact heap_alloc_new _ _
  have FIN := Lib.hid (show ∀ W, Below W1.heap.size W1 W → Below w.heap.size w W from fun W h => hb1.trans (h.mono hb1.size))
  have KO := Lib.hid (show ∀ W, Below W1.heap.size W1 W → rFlow.At Qo W A1 old from fun W h => Rep.At.below HO.out (FIN.out W h) (fun _ _ h => h.lt))
  have KX := Lib.hid (show ∀ W, Below W1.heap.size W1 W → Rep.byte.list.val Qb W vb x from fun W h => Rep.val_below HX.out (FIN.out W h) (fun _ _ h => h.lt))
  have hix := flowIndex_calls (c := c1) (B := w.heap.size) (key := k) (KO.out W1 (Below.refl _ _)) HM.out (cell_row hr0 0) (cell_row hr0 1) (cell_row hr0 2) (by omega)
  have HIX := Lib.hid hix
  clear ho hx hd hat hb1 hz1 hr0 hix
  go_enter Tryz.func188, Tryz.ntmps188
  go_wp2_with fail
  try rw [hW1]
  clear hW1
  try go_wp2_with fail
  refine HIX.out.mono ?_
  rintro e w2 ⟨rfl, hb2⟩
  have HB2 := Lib.hid hb2
  clear hb2
  rcases find_flow (l := old) (key := k) with ⟨hp, hf⟩ | ⟨m, f, hp, he, hf⟩
  · have HF := Lib.hid (show stayOf old k i x = -1 by unfold stayOf; rw [hf])
    rw [hp]
    clear hp hf
    go_wp2_with fail
    go_ret
    exact ⟨by rw [HF.out]; rfl, FIN.out _ HB2.out⟩
  have HF := Lib.hid (show stayOf old k i x = if i < pieceCount f ∧ piece f.data i = x then pageAt f i else -1 by unfold stayOf; rw [hf])
  have HDF := Lib.hid (HD.out f (List.mem_of_getElem? he))
  have hml : (m : Int) < old.length := by have := (List.getElem?_eq_some_iff.1 he).1; omega
  rw [hp]
  obtain ⟨b, off, A2, c2, A3, c3, hA, hbc, d0, d1, d2, d3, d4, f0, f1, f2, s3, s4⟩ := rFlow_at (KO.out w2 HB2.out) he
  subst hA
  have KF := Lib.hid (show ∀ W, Below w2.heap.size w2 W → (W.cell? ⟨b, off + m * 5, none⟩ = some (.int .i64 f.key.kind) ∧ W.cell? ⟨b, off + m * 5 + 1, none⟩ = some (.int .u64 f.key.sig) ∧ W.cell? ⟨b, off + m * 5 + 2, none⟩ = some (.int .i64 f.key.comp) ∧ W.cell? ⟨b, off + m * 5 + 3, none⟩ = some (.slice A2 f.data.length c2) ∧ W.cell? ⟨b, off + m * 5 + 4, none⟩ = some (.slice A3 f.pages.length c3)) ∧ rFlow.val Qo W (.agg #[.int .i64 f.key.kind, .int .u64 f.key.sig, .int .i64 f.key.comp, .slice A2 f.data.length c2, .slice A3 f.pages.length c3]) f from fun W h =>
    ⟨⟨(h.cell (p := ⟨b, off + m * 5, none⟩) hbc.lt).trans d0, (h.cell (p := ⟨b, off + m * 5 + 1, none⟩) hbc.lt).trans d1, (h.cell (p := ⟨b, off + m * 5 + 2, none⟩) hbc.lt).trans d2, (h.cell (p := ⟨b, off + m * 5 + 3, none⟩) hbc.lt).trans d3, (h.cell (p := ⟨b, off + m * 5 + 4, none⟩) hbc.lt).trans d4⟩, rFlow_agg f0 f1 f2 (s3.below h (fun _ _ h => h.lt)) (s4.below h (fun _ _ h => h.lt))⟩)
  have HDV := Lib.hid s3.val
  clear hp he hf hbc d0 d1 d2 d4 f0 f1 f2 s3 s4
  go_wp2_with fail
  refine (cut_calls HDV.out HDF.out).mono ?_
  rintro e w3 ⟨u3, rfl, hu3, hb3⟩
  obtain ⟨A5, c5, rfl, h51, h52, hat5⟩ := Rep.val_list hu3
  have HB3 := Lib.hid hb3
  have HGET := Lib.hid (fun h : i < (f.data.length + 471) / 472 => cut_get h)
  have hlen : (cut f.data).length = pieceCount f := cut_length _
  have HPC := Lib.hid (show pieceCount f = (f.data.length + 471) / 472 from rfl)
  generalize cut f.data = P at *
  obtain ⟨n, hn⟩ : ∃ n, P.length = n := ⟨_, rfl⟩
  have HNP := Lib.hid (show n = pieceCount f by rw [← hn, hlen])
  rw [hn] at h51 ⊢
  unfold maxLen at h52
  clear hu3 hb3 d3 hlen hn
  by_cases hin : (i : Int) < n
  · have hgt := HGET.out (by rw [← HPC.out, ← HNP.out]; omega)
    obtain ⟨bb, o5, B6, c6, rfl, hcell, hc6, hm6, hat6⟩ := Rep.At.list hat5 hgt
    have HPV := Lib.hid (Rep.list_val (r := Rep.byte) rfl hc6 hm6 hat6)
    have HXV := Lib.hid (KX.out w3 (HB2.out.trans (HB3.out.mono HB2.out.size)))
    have HIN := Lib.hid (show i < pieceCount f by rw [← HNP.out]; omega)
    clear hat5 hgt hat6
    by_cases heq : piece f.data i = x
    · have HV := Lib.hid (show stayOf old k i x = pageAt f i by rw [HF.out, if_pos ⟨HIN.out, heq⟩])
      have HQ := Lib.hid (show decide (piece f.data i = x) = true from decide_eq_true heq)
      generalize piece f.data i = y at *
      clear heq
      go_wp2_with fail
      refine (bytesEqual HPV.out HXV.out).mono ?_
      rintro e w4 ⟨rfl, hw⟩
      subst hw
      rw [HQ.out]
      obtain ⟨⟨g0, g1, g2, g3, g4⟩, hfv⟩ := KF.out w4 HB3.out
      have HFV := Lib.hid hfv
      clear hfv hcell
      go_wp2_with fail
      refine (planAt_calls HFV.out).mono ?_
      rintro e w5 ⟨rfl, hb5⟩
      have HB5 := Lib.hid (HB2.out.trans ((HB3.out.trans (hb5.mono HB3.out.size)).mono HB2.out.size))
      clear hb5 g0 g1 g2 g3 g4
      go_wp2_with fail
      go_ret
      exact ⟨by rw [HV.out]; rfl, FIN.out _ HB5.out⟩
    · have HV := Lib.hid (show stayOf old k i x = -1 by rw [HF.out, if_neg (fun h => heq h.2)])
      have HQ := Lib.hid (show decide (piece f.data i = x) = false from decide_eq_false heq)
      generalize piece f.data i = y at *
      clear heq
      go_wp2_with fail
      refine (bytesEqual HPV.out HXV.out).mono ?_
      rintro e w4 ⟨rfl, hw⟩
      subst hw
      rw [HQ.out]
      clear hcell
      go_wp2_with fail
      go_ret
      exact ⟨by rw [HV.out]; rfl, FIN.out _ (HB2.out.trans (HB3.out.mono HB2.out.size))⟩
  · have HV := Lib.hid (show stayOf old k i x = -1 by rw [HF.out, if_neg (fun h => by have := HNP.out; omega)])
    clear hat5
    go_wp2_with fail
    go_ret
    exact ⟨by rw [HV.out]; rfl, FIN.out _ (HB2.out.trans (HB3.out.mono HB2.out.size))⟩
end Go.Proofs.YtghbfbohnoebiaaGreat
