/- Walks of what fits, what is due ahead, and of the statement on when a snapshot is due. -/
import Derived.Test.YtecdbfbaclgejaaFrameBytes
import Derived.Test.YtecdbfbaclgejaaPolCounts
namespace Go.Proofs.Ytecdbfbaclgejaa
open Go.RowKit

def fitsB (room : Int) (l : List DCmd) : Bool := decide (checkFrame l = 0) && decide (needOf ((frameBytes l).length : Int) ≤ room)
def aheadB (p : DPolicy) (room frames : Int) (l : List DCmd) : Bool := dueOf p room frames || (decide (checkFrame l = 0) && !fitsB room l)

set_option maxRecDepth 100000 in
set_option maxHeartbeats 1000000 in
/-- policy.Fits -/
theorem fits_calls {Q : Nat → Prop} {w : World} {v : Value} {room : Int} {l : List DCmd} (hx : rCmd.list.val Q w v l) :
    Calls Try.prog 66 #[.int .i64 room, v] w fun e w' => e = .returned (.bool (fitsB room l)) ∧ Below w.heap.size w w' := by
  have HX := Lib.hid hx
  obtain ⟨A, c, rfl, hc1, hc2, hA⟩ := Rep.val_list hx
  clear hx hA
  by_cases h0 : checkFrame l = 0
  · have HF := Lib.hid (show fitsB room l = decide (needOf ((frameBytes l).length : Int) ≤ room) by unfold fitsB; rw [h0]; rfl)
    have hl := frameBytes_length (checkFrame_zero h0).1 fun x hx => checkCmd_data ((checkFrame_zero h0).2 x hx)
    have HS := Lib.hid (show frameSize l = (frameBytes l).length by unfold frameSize; rw [if_pos h0])
    have H0 := Lib.hid h0
    clear h0
    generalize (frameBytes l).length = n at *
    go_enter Try.func66, Try.ntmps66
    go_wp2_with fail
    refine (frameCheck_calls HX.out).mono ?_
    rintro e w1 ⟨rfl, hb1⟩
    rw [H0.out]
    have HX1 := Lib.hid (Rep.val_below (B := w.heap.size) HX.out hb1 fun _ _ h => h.lt)
    have HB1 := Lib.hid hb1
    clear hb1
    go_wp2_with fail
    refine (frameSize_calls HX1.out).mono ?_
    rintro e w2 ⟨rfl, hb2⟩
    rw [HS.out]
    have HB2 := Lib.hid (HB1.out.trans (hb2.mono HB1.out.size))
    clear hb2
    go_wp2_with fail
    refine (need_calls (by omega) _).mono ?_
    rintro e w3 ⟨rfl, hw⟩
    have hw2 := hw.symm
    subst hw2
    clear hw
    generalize needOf (n : Int) = m at *
    go_wp2_with fail
    go_ret
    exact ⟨by rw [HF.out]; rfl, HB2.out⟩
  · have HF := Lib.hid (show fitsB room l = false by unfold fitsB; rw [decide_eq_false h0]; rfl)
    have g0 : (checkFrame l == 0) = false := by simpa using h0
    clear h0
    go_enter Try.func66, Try.ntmps66
    go_wp2_with fail
    refine (frameCheck_calls HX.out).mono ?_
    rintro e w1 ⟨rfl, hb1⟩
    go_wp2_with fail
    go_ret
    exact ⟨by rw [HF.out]; rfl, hb1⟩

set_option maxRecDepth 100000 in
set_option maxHeartbeats 1000000 in
/-- ref28.Fits -/
theorem rfits_calls {Q : Nat → Prop} {w : World} {v : Value} {room : Int} {l : List DCmd} (hx : rCmd.list.val Q w v l) :
    Calls Try.prog 64 #[.int .i64 room, v] w fun e w' => e = .returned (.bool (fitsB room l)) ∧ Below w.heap.size w w' := by
  have HX := Lib.hid hx
  obtain ⟨A, c, rfl, hc1, hc2, hA⟩ := Rep.val_list hx
  clear hx hA
  by_cases h0 : checkFrame l = 0
  · have HF := Lib.hid (show fitsB room l = decide (needOf ((frameBytes l).length : Int) ≤ room) by unfold fitsB; rw [h0]; rfl)
    have HN := Lib.hid (checkFrame_zero h0).1
    have HD := Lib.hid (show ∀ x ∈ l, x.data.length ≤ 64 from fun x hx => checkCmd_data ((checkFrame_zero h0).2 x hx))
    have hl := frameBytes_length HN.out HD.out
    have H0 := Lib.hid h0
    clear h0
    have HRB := Lib.hid (fun (w1 : World) (h : Below w.heap.size w w1) => rframeBytes_calls (Rep.val_below (B := w.heap.size) HX.out h fun _ _ h => h.lt) HN.out HD.out)
    generalize frameBytes l = b at *
    go_enter Try.func64, Try.ntmps64
    go_wp2_with fail
    refine (rframeCheck_calls HX.out).mono ?_
    rintro e w1 ⟨rfl, hb1⟩
    rw [H0.out]
    have HB1 := Lib.hid hb1
    clear hb1
    go_wp2_with fail
    refine (HRB.out _ HB1.out).mono ?_
    rintro e w2 ⟨u, rfl, hu, hb2⟩
    have HB2 := Lib.hid (HB1.out.trans (hb2.mono HB1.out.size))
    obtain ⟨A6, c6, rfl, _, _⟩ := Rep.acc_form hu
    clear hb2 hu
    go_wp2_with fail
    refine (rneed_calls (by omega) _).mono ?_
    rintro e w3 ⟨rfl, hw⟩
    have hw2 := hw.symm
    subst hw2
    clear hw
    generalize needOf (b.length : Int) = m at *
    go_wp2_with fail
    go_ret
    exact ⟨by rw [HF.out]; rfl, HB2.out⟩
  · have HF := Lib.hid (show fitsB room l = false by unfold fitsB; rw [decide_eq_false h0]; rfl)
    have g0 : (checkFrame l == 0) = false := by simpa using h0
    clear h0
    go_enter Try.func64, Try.ntmps64
    go_wp2_with fail
    refine (rframeCheck_calls HX.out).mono ?_
    rintro e w1 ⟨rfl, hb1⟩
    go_wp2_with fail
    go_ret
    exact ⟨by rw [HF.out]; rfl, hb1⟩

set_option maxRecDepth 100000 in
set_option maxHeartbeats 1000000 in
/-- policy.Ahead -/
theorem ahead_calls {Q Q' : Nat → Prop} {w : World} {u v : Value} {p : DPolicy} {room frames : Int} {l : List DCmd} (hp : rPolicy.val Q' w u p) (hx : rCmd.list.val Q w v l) :
    Calls Try.prog 67 #[u, .int .i64 room, .int .i64 frames, v] w fun e w' => e = .returned (.bool (aheadB p room frames l)) ∧ Below w.heap.size w w' := by
  have HX := Lib.hid hx
  obtain ⟨A, c, rfl, hc1, hc2, hA⟩ := Rep.val_list hx
  obtain ⟨rfl, f0, f1⟩ := rPolicy_val hp
  have HPV := Lib.hid (show ∀ W, rPolicy.val (fun _ => True) W (.agg #[.int .i64 p.room, .int .i64 p.frames]) p from fun W => rPolicy_agg f0 f1)
  obtain ⟨d, hd⟩ : ∃ d, d = dueOf p room frames := ⟨_, rfl⟩
  obtain ⟨t, ht⟩ : ∃ t, t = fitsB room l := ⟨_, rfl⟩
  obtain ⟨r, hr⟩ : ∃ r, r = aheadB p room frames l := ⟨_, rfl⟩
  rw [← hr]
  unfold aheadB at hr
  rw [← hd, ← ht] at hr
  have HD := Lib.hid hd
  have HT := Lib.hid ht
  have HB0 := Lib.hid (show Below w.heap.size w (w.alloc (.cells #[.int .i64 p.room, .int .i64 p.frames] 96)) from (Below.refl _ _).alloc (Nat.le_refl _) _)
  have HX0 := Lib.hid (Rep.val_below (B := w.heap.size) HX.out HB0.out fun _ _ h => h.lt)
  clear hx hA hp hd ht
  cases d
  case true =>
    simp at hr
    subst hr
    go_enter Try.func67, Try.ntmps67
    go_wp2_with fail
    refine (due_calls (HPV.out _)).mono ?_
    rintro e w1 ⟨rfl, hb1⟩
    rw [← HD.out]
    have HB1 := Lib.hid (HB0.out.trans (hb1.mono HB0.out.size))
    clear hb1
    go_wp2_with fail
    go_ret
    exact ⟨rfl, HB1.out⟩
  case false =>
    by_cases h0 : checkFrame l = 0
    · rw [h0] at hr
      have H0 := Lib.hid h0
      clear h0
      cases t
      all_goals
        simp at hr
        subst hr
        go_enter Try.func67, Try.ntmps67
        go_wp2_with fail
        refine (due_calls (HPV.out _)).mono ?_
        rintro e w1 ⟨rfl, hb1⟩
        rw [← HD.out]
        have HB1 := Lib.hid (HB0.out.trans (hb1.mono HB0.out.size))
        have HX1 := Lib.hid (Rep.val_below (B := w.heap.size) HX.out HB1.out fun _ _ h => h.lt)
        clear hb1
        go_wp2_with fail
        refine (frameCheck_calls HX1.out).mono ?_
        rintro e w2 ⟨rfl, hb2⟩
        rw [H0.out]
        have HB2 := Lib.hid (HB1.out.trans (hb2.mono HB1.out.size))
        have HX2 := Lib.hid (Rep.val_below (B := w.heap.size) HX.out HB2.out fun _ _ h => h.lt)
        clear hb2
        go_wp2_with fail
        refine (fits_calls HX2.out).mono ?_
        rintro e w3 ⟨rfl, hb3⟩
        rw [← HT.out]
        have HB3 := Lib.hid (HB2.out.trans (hb3.mono HB2.out.size))
        clear hb3
        go_wp2_with fail
        go_ret
        exact ⟨rfl, HB3.out⟩
    · rw [decide_eq_false h0] at hr
      have g0 : (checkFrame l == 0) = false := by simpa using h0
      simp at hr
      subst hr
      clear h0
      go_enter Try.func67, Try.ntmps67
      go_wp2_with fail
      refine (due_calls (HPV.out _)).mono ?_
      rintro e w1 ⟨rfl, hb1⟩
      rw [← HD.out]
      have HB1 := Lib.hid (HB0.out.trans (hb1.mono HB0.out.size))
      have HX1 := Lib.hid (Rep.val_below (B := w.heap.size) HX.out HB1.out fun _ _ h => h.lt)
      clear hb1
      go_wp2_with fail
      refine (frameCheck_calls HX1.out).mono ?_
      rintro e w2 ⟨rfl, hb2⟩
      have HB2 := Lib.hid (HB1.out.trans (hb2.mono HB1.out.size))
      clear hb2
      go_wp2_with fail
      go_ret
      exact ⟨rfl, HB2.out⟩

set_option maxRecDepth 100000 in
set_option maxHeartbeats 2000000 in
/-- PolicyDues -/
theorem policyDues_calls {Q Q' : Nat → Prop} {w : World} {u v : Value} {p : DPolicy} {room frames : Int} {l : List DCmd} (hp : rPolicy.val Q' w u p) (hx : rCmd.list.val Q w v l) :
    Calls Try.prog 10 #[u, .int .i64 room, .int .i64 frames, v] w fun e w' => e = .returned (.bool true) ∧ Below w.heap.size w w' := by
  have HX := Lib.hid hx
  obtain ⟨A, c, rfl, hc1, hc2, hA⟩ := Rep.val_list hx
  obtain ⟨rfl, f0, f1⟩ := rPolicy_val hp
  have HPV := Lib.hid (show ∀ W, rPolicy.val (fun _ => True) W (.agg #[.int .i64 p.room, .int .i64 p.frames]) p from fun W => rPolicy_agg f0 f1)
  obtain ⟨d, hd⟩ : ∃ d, d = dueOf p room frames := ⟨_, rfl⟩
  obtain ⟨t, ht⟩ : ∃ t, t = fitsB room l := ⟨_, rfl⟩
  obtain ⟨r, hr⟩ : ∃ r, r = aheadB p room frames l := ⟨_, rfl⟩
  have HR := Lib.hid hr
  unfold aheadB at hr
  rw [← hd, ← ht] at hr
  have HD := Lib.hid hd
  have HT := Lib.hid ht
  have hm := (show ∀ W : World, Below w.heap.size w (W) → W = W from fun _ _ => rfl)
  obtain ⟨W1, hW1⟩ : ∃ W1, w.alloc (.cells #[.int .i64 p.room, .int .i64 p.frames] 96) = W1 := ⟨_, rfl⟩
  have hb0 : Below w.heap.size w W1 := by rw [← hW1]; exact (Below.refl _ _).alloc (Nat.le_refl _) _
  have hz : W1.heap.size = w.heap.size + 1 := by rw [← hW1]; simp
  have c0 : W1.cell? ⟨w.heap.size, 0, none⟩ = some (.int .i64 p.room) := by rw [← hW1]; simp
  have c1 : W1.cell? ⟨w.heap.size, 1, none⟩ = some (.int .i64 p.frames) := by rw [← hW1]; simp
  have HB0 := Lib.hid hb0
  have HX0 := Lib.hid (fun (W : World) (h : Below w.heap.size w W) => Rep.val_below (B := w.heap.size) HX.out h fun _ _ h => h.lt)
  have KS := Lib.hid (show ∀ W, Below W1.heap.size W1 W → W.cell? ⟨w.heap.size, 0, none⟩ = some (.int .i64 p.room) ∧ W.cell? ⟨w.heap.size, 1, none⟩ = some (.int .i64 p.frames) from
    fun W h => ⟨(h.cell (p := ⟨w.heap.size, 0, none⟩) (show w.heap.size < W1.heap.size by omega)).trans c0, (h.cell (p := ⟨w.heap.size, 1, none⟩) (show w.heap.size < W1.heap.size by omega)).trans c1⟩)
  clear hx hA hp hd ht hm hb0 hz
  go_enter Try.func10, Try.ntmps10
  go_wp2_with fail
  try rw [hW1]
  clear hW1
  go_wp2_with fail
  refine (muchCmds_calls (HX0.out _ HB0.out)).mono ?_
  rintro e w1 ⟨z, rfl, _, hw⟩
  have hw2 := hw.symm
  subst hw2
  clear hw
  cases z
  case true =>
    go_wp2_with fail
    refine (live28 _).mono ?_
    rintro e w2 ⟨rfl, hb2⟩
    go_wp2_with fail
    go_ret
    exact ⟨rfl, HB0.out.trans (hb2.mono HB0.out.size)⟩
  case false =>
    go_wp2_with fail
    refine (rdue_calls (HPV.out _)).mono ?_
    rintro e w1 ⟨rfl, hb1⟩
    rw [← HD.out]
    have HB1 := Lib.hid hb1
    have HC1 := Lib.hid (HB0.out.trans (hb1.mono HB0.out.size))
    clear hb1 c0 c1
    obtain ⟨c0, c1⟩ := KS.out _ HB1.out
    go_wp2_with fail
    refine (rfits_calls (HX0.out _ HC1.out)).mono ?_
    rintro e w2 ⟨rfl, hb1⟩
    rw [← HT.out]
    have HB2 := Lib.hid (HB1.out.trans (hb1.mono HB1.out.size))
    have HC2 := Lib.hid (HC1.out.trans (hb1.mono HC1.out.size))
    clear hb1 c0 c1
    obtain ⟨c0, c1⟩ := KS.out _ HB2.out
    go_wp2_with fail
    refine (due_calls (HPV.out _)).mono ?_
    rintro e w3 ⟨rfl, hb1⟩
    rw [← HD.out]
    have HB3 := Lib.hid (HB2.out.trans (hb1.mono HB2.out.size))
    have HC3 := Lib.hid (HC2.out.trans (hb1.mono HC2.out.size))
    clear hb1 c0 c1
    obtain ⟨c0, c1⟩ := KS.out _ HB3.out
    have e1 : (d == d) = true := by simp
    have e2 : (t == t) = true := by simp
    go_wp2_with fail
    refine (fits_calls (HX0.out _ HC3.out)).mono ?_
    rintro e w4 ⟨rfl, hb1⟩
    rw [← HT.out]
    have HB4 := Lib.hid (HB3.out.trans (hb1.mono HB3.out.size))
    have HC4 := Lib.hid (HC3.out.trans (hb1.mono HC3.out.size))
    clear hb1 c0 c1
    obtain ⟨c0, c1⟩ := KS.out _ HB4.out
    go_wp2_with fail
    refine (ahead_calls (HPV.out _) (HX0.out _ HC4.out)).mono ?_
    rintro e w5 ⟨rfl, hb1⟩
    rw [← HR.out]
    have HB5 := Lib.hid (HB4.out.trans (hb1.mono HB4.out.size))
    have HC5 := Lib.hid (HC4.out.trans (hb1.mono HC4.out.size))
    clear hb1 c0 c1
    cases d
    case true =>
      simp at hr
      subst hr
      go_wp2_with fail
      refine (live28 _).mono ?_
      rintro e w6 ⟨rfl, hb1⟩
      go_wp2_with fail
      go_ret
      exact ⟨rfl, HC5.out.trans (hb1.mono HC5.out.size)⟩
    case false =>
      go_wp2_with fail
      refine (rframeCheck_calls (HX0.out _ HC5.out)).mono ?_
      rintro e w6 ⟨rfl, hb1⟩
      have HC6 := Lib.hid (HC5.out.trans (hb1.mono HC5.out.size))
      clear hb1
      by_cases h0 : checkFrame l = 0
      · rw [h0] at hr
        rw [h0]
        clear h0
        cases t
        all_goals
          simp at hr
          subst hr
          go_wp2_with fail
          refine (live28 _).mono ?_
          rintro e w7 ⟨rfl, hb1⟩
          go_wp2_with fail
          go_ret
          exact ⟨rfl, HC6.out.trans (hb1.mono HC6.out.size)⟩
      · rw [decide_eq_false h0] at hr
        have g0 : (checkFrame l == 0) = false := by simpa using h0
        simp at hr
        subst hr
        have g1 : decide (checkFrame l = 0) = false := decide_eq_false h0
        clear h0
        go_wp2_with fail
        refine (live28 _).mono ?_
        rintro e w7 ⟨rfl, hb1⟩
        go_wp2_with fail
        go_ret
        exact ⟨rfl, HC6.out.trans (hb1.mono HC6.out.size)⟩
end Go.Proofs.Ytecdbfbaclgejaa
