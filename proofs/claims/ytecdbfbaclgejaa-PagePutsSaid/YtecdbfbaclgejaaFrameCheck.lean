/- Walks of the checks of frames, both; what is too much; what a number of bytes needs; what is due. -/
import Derived.Test.YtecdbfbaclgejaaCmdCheck
namespace Go.Proofs.Ytecdbfbaclgejaa
open Go.RowKit

theorem checkFrame_long {l : List DCmd} (h : (64 : Int) < l.length) : checkFrame l = 13 := by unfold checkFrame; rw [if_pos (by omega)]
theorem checkFrame_bad {l : List DCmd} (h : ¬ (64 : Int) < l.length) {k : Nat} (hk : k < l.length) (h1 : ∀ x ∈ l.take k, checkCmd x = 0) (h2 : checkCmd l[k] ≠ 0) : checkFrame l = checkCmd l[k] := by
  unfold checkFrame; rw [if_neg (by omega)]; exact firstBad_at hk h1 h2
theorem checkFrame_good {l : List DCmd} (h : ¬ (64 : Int) < l.length) {k : Nat} (hk : ¬ k < l.length) (h1 : ∀ x ∈ l.take k, checkCmd x = 0) : checkFrame l = 0 := by
  unfold checkFrame; rw [if_neg (by omega)]
  rw [List.take_of_length_le (by omega)] at h1
  exact firstBad_none h1
theorem checks_more {l : List DCmd} {k : Nat} (hk : k < l.length) (h1 : ∀ x ∈ l.take k, checkCmd x = 0) (h2 : checkCmd l[k] = 0) : ∀ x ∈ l.take (k + 1), checkCmd x = 0 := by
  intro x hx
  rw [List.take_add_one, List.getElem?_eq_getElem hk] at hx
  rcases List.mem_append.1 hx with hx | hx
  · exact h1 x hx
  · simp at hx; rw [hx]; exact h2
theorem checkCmd_wf (x : DCmd) : (Lit.int .i64 (checkCmd x)).wf = true := by
  unfold checkCmd; split <;> (try split) <;> rfl

set_option maxRecDepth 100000 in
set_option maxHeartbeats 1000000 in
/-- frame.Check -/
theorem frameCheck_calls {Q : Nat → Prop} {w : World} {v : Value} {l : List DCmd} (hx : rCmd.list.val Q w v l) :
    Calls Try.prog 129 #[v] w fun e w' => e = .returned (.int .i64 (checkFrame l)) ∧ Below w.heap.size w w' := by
  obtain ⟨A, c, rfl, hc1, hc2, hA⟩ := Rep.val_list hx
  unfold maxLen at hc2
  by_cases hlong : (64 : Int) < l.length
  · have HF := Lib.hid (checkFrame_long hlong)
    clear hx hA
    go_enter Try.func129, Try.ntmps129
    go_wp2_with fail
    go_ret
    exact ⟨by rw [HF.out]; rfl, Below.refl _ _⟩
  · have HA := Lib.hid hA
    clear hx hA
    go_enter Try.func129, Try.ntmps129
    go_wp2_with fail
    go_loopw [11] (fun i wr => ∃ k : Nat, i = .int .i64 k ∧ k ≤ l.length ∧ Hid (∀ x ∈ l.take k, checkCmd x = 0) ∧ Below w.heap.size w wr)
      (fun i _ => l.length - (intOf i).toNat)
    case atStart => exact ⟨0, rfl, by omega, (by intro x hx; simp at hx), Below.refl _ _⟩
    case round =>
      obtain ⟨k, rfl, hk, hall, hb1⟩ := hrel
      by_cases hlt : (k : Int) < l.length
      · have hk' : k < l.length := by omega
        obtain ⟨b, off, A6, c6, rfl, _, d0, d1, d2, d3, d4, d5, f0, f1, f2, f3, sp⟩ := rCmd_at (HA.out.below hb1 fun _ _ h => h.lt) (List.getElem?_eq_getElem hk')
        have HBad := Lib.hid (checkFrame_bad (show ¬ (64 : Int) < l.length by omega) hk' hall)
        have HMore := Lib.hid (checks_more hk' hall)
        generalize l[k] = x at *
        have HV := Lib.hid (rCmd_agg f0 f1 f2 f3 sp)
        have HB1 := Lib.hid hb1
        clear sp f0 f1 f2 f3 hb1 hall
        have HB2 := Lib.hid (HB1.out.alloc HB1.out.size (.cells #[.int .i64 x.kind, .bool x.loc, .int .i64 x.id.index, .int .i64 x.id.gen, .int .i64 x.comp, .slice A6 x.data.length c6] 179))
        have HV2 := Lib.hid (Rep.val_keep (w' := wr.alloc (.cells #[.int .i64 x.kind, .bool x.loc, .int .i64 x.id.index, .int .i64 x.id.gen, .int .i64 x.comp, .slice A6 x.data.length c6] 179)) (fun _ _ hl => ⟨trivial, Below.heap_alloc _ _ _ hl.lt⟩) HV.out (Q' := fun _ => True))
        by_cases h0 : checkCmd x = 0
        · have H0 := Lib.hid h0
          clear h0
          go_wp2_with fail
          refine (cmdCheck_calls HV2.out).mono ?_
          rintro e w1 ⟨rfl, hb2⟩
          rw [H0.out]
          have HB3 := Lib.hid (HB2.out.trans (hb2.mono HB2.out.size))
          clear hb2
          go_wp2_with fail
          exact ⟨⟨k + 1, by go_num, by omega, HMore.out H0.out, HB3.out⟩, by simp [intOf]; omega⟩
        · have H0 := Lib.hid h0
          have HF := Lib.hid (HBad.out h0)
          have g0 : (checkCmd x == 0) = false := by simp [h0]
          clear h0
          go_wp2_with fail
          refine (cmdCheck_calls HV2.out).mono ?_
          rintro e w1 ⟨rfl, hb2⟩
          have HB3 := Lib.hid (HB2.out.trans (hb2.mono HB2.out.size))
          clear hb2
          go_wp2_with fail
          go_ret
          exact ⟨by rw [HF.out]; rfl, HB3.out⟩
      · have HF := Lib.hid (checkFrame_good (show ¬ (64 : Int) < l.length by omega) (show ¬ k < l.length by omega) hall)
        go_wp2_with fail
        go_ret
        exact ⟨by rw [HF.out]; rfl, hb1⟩

set_option maxRecDepth 100000 in
set_option maxHeartbeats 1000000 in
/-- ref14.Check -/
theorem rframeCheck_calls {Q : Nat → Prop} {w : World} {v : Value} {l : List DCmd} (hx : rCmd.list.val Q w v l) :
    Calls Try.prog 68 #[v] w fun e w' => e = .returned (.int .i64 (checkFrame l)) ∧ Below w.heap.size w w' := by
  obtain ⟨A, c, rfl, hc1, hc2, hA⟩ := Rep.val_list hx
  unfold maxLen at hc2
  by_cases hlong : (64 : Int) < l.length
  · have HF := Lib.hid (checkFrame_long hlong)
    clear hx hA
    go_enter Try.func68, Try.ntmps68
    go_wp2_with fail
    go_ret
    exact ⟨by rw [HF.out]; rfl, Below.refl _ _⟩
  · have HA := Lib.hid hA
    clear hx hA
    go_enter Try.func68, Try.ntmps68
    go_wp2_with fail
    go_loopw [3] (fun i wr => ∃ k : Nat, i = .int .i64 k ∧ k ≤ l.length ∧ Hid (∀ x ∈ l.take k, checkCmd x = 0) ∧ Below w.heap.size w wr)
      (fun i _ => l.length - (intOf i).toNat)
    case atStart => exact ⟨0, rfl, by omega, (by intro x hx; simp at hx), Below.refl _ _⟩
    case round =>
      obtain ⟨k, rfl, hk, hall, hb1⟩ := hrel
      by_cases hlt : (k : Int) < l.length
      · have hk' : k < l.length := by omega
        obtain ⟨b, off, A6, c6, rfl, _, d0, d1, d2, d3, d4, d5, f0, f1, f2, f3, sp⟩ := rCmd_at (HA.out.below hb1 fun _ _ h => h.lt) (List.getElem?_eq_getElem hk')
        have HBad := Lib.hid (checkFrame_bad (show ¬ (64 : Int) < l.length by omega) hk' hall)
        have HMore := Lib.hid (checks_more hk' hall)
        have HA1 := Lib.hid (HA.out.below hb1 fun _ _ h => h.lt)
        generalize hxx : l[k] = x at *
        have HX := Lib.hid ((List.getElem?_eq_getElem hk').trans (congrArg some hxx))
        have HV := Lib.hid (rCmd_agg f0 f1 f2 f3 sp)
        have HB1 := Lib.hid hb1
        clear sp f0 f1 f2 f3 hb1 hall hxx
        by_cases h0 : checkCmd x = 0
        · have H0 := Lib.hid h0
          clear h0
          go_wp2_with fail
          refine (rcmdCheck_calls HV.out).mono ?_
          rintro e w1 ⟨rfl, hb2⟩
          rw [H0.out]
          have HB3 := Lib.hid (HB1.out.trans (hb2.mono HB1.out.size))
          clear hb2
          go_wp2_with fail
          exact ⟨⟨k + 1, by go_num, by omega, HMore.out H0.out, HB3.out⟩, by simp [intOf]; omega⟩
        · have H0 := Lib.hid h0
          have HF := Lib.hid (HBad.out h0)
          have g0 : (checkCmd x == 0) = false := by simp [h0]
          clear h0
          go_wp2_with fail
          refine (rcmdCheck_calls HV.out).mono ?_
          rintro e w1 ⟨rfl, hb2⟩
          have HB3 := Lib.hid (HB1.out.trans (hb2.mono HB1.out.size))
          obtain ⟨b', off', A7, c7, he, _, z0, z1, z2, z3, z4, z5, f0, f1, f2, f3, sp⟩ := rCmd_at (HA1.out.below hb2 fun _ _ h => h.lt) HX.out
          cases he
          have HV2 := Lib.hid (rCmd_agg f0 f1 f2 f3 sp)
          clear hb2 d0 d1 d2 d3 d4 d5 sp f0 f1 f2 f3
          go_wp2_with fail
          refine (rcmdCheck_calls HV2.out).mono ?_
          rintro e w2 ⟨rfl, hb4⟩
          have HB4 := Lib.hid (HB3.out.trans (hb4.mono HB3.out.size))
          go_wp2_with fail
          go_ret
          exact ⟨by rw [HF.out]; rfl, HB4.out⟩
      · have HF := Lib.hid (checkFrame_good (show ¬ (64 : Int) < l.length by omega) (show ¬ k < l.length by omega) hall)
        go_wp2_with fail
        go_ret
        exact ⟨by rw [HF.out]; rfl, hb1⟩

def MuchCmds (w : World) (l : List DCmd) (e : Ending) (w' : World) : Prop := ∃ r : Bool, e = .returned (.bool r) ∧ (r = false → l.length ≤ 70) ∧ w' = w
set_option maxRecDepth 100000 in
/-- ref13.Much -/
theorem muchCmds_calls {Q : Nat → Prop} {w : World} {v : Value} {l : List DCmd} (hx : rCmd.list.val Q w v l) :
    Calls Try.prog 62 #[v] w (MuchCmds w l) := by
  obtain ⟨A, c, rfl, hc1, hc2, hA⟩ := Rep.val_list hx
  unfold maxLen at hc2
  have HA := Lib.hid hA
  clear hx hA
  go_enter Try.func62, Try.ntmps62
  go_wp2_with fail
  go_loop [3] (fun i => ∃ k : Nat, i = .int .i64 k ∧ k ≤ l.length ∧ k ≤ 100) (fun i => l.length - (intOf i).toNat)
  case atStart => exact ⟨0, rfl, by omega, by omega⟩
  case round =>
    obtain ⟨k, rfl, hk, hk5⟩ := hrel
    by_cases hlt : (k : Int) < l.length
    · by_cases h50 : (k : Int) < 100
      · have hk' : k < l.length := by omega
        obtain ⟨b, off, A6, c6, rfl, _, d0, d1, d2, d3, d4, d5, _, _, _, _, sp⟩ := rCmd_at HA.out (List.getElem?_eq_getElem hk')
        have hp1 := sp.1
        have hp2 := sp.2.1
        unfold maxLen at hp2
        generalize l[k] = x at *
        clear sp
        by_cases h2 : (200 : Int) < x.data.length
        · go_wp2_with fail
          go_ret
          exact ⟨true, rfl, (fun h => (by cases h)), rfl⟩
        · go_wp2_with fail
          go_round
          case rel => exact ⟨k + 1, by go_num, by omega, by omega⟩
          case measure => simp [intOf]; omega
      · have h20 : (70 : Int) < l.length := by omega
        go_wp2_with fail
        go_ret
        exact ⟨true, rfl, (fun h => (by cases h)), rfl⟩
    · by_cases h20 : (70 : Int) < l.length
      · go_wp2_with fail
        go_ret
        exact ⟨true, rfl, (fun h => (by cases h)), rfl⟩
      · go_wp2_with fail
        go_ret
        exact ⟨false, rfl, fun _ => by omega, rfl⟩

def needOf (n : Int) : Int := if n ≤ 460 then 1 else (n - 1) / 460 + 1
theorem need_large {n : Int} (h : 460 < n) (hb : n ≤ 9223372036854775807) : 2 ≤ needOf n ∧ needOf n ≤ n ∧ needOf n = (n - 1) / 460 + 1 := by
  unfold needOf; rw [if_neg (by omega)]; omega
set_option maxRecDepth 100000 in
/-- geom.Need -/
theorem need_calls {n : Int} (h0 : n ≤ 9223372036854775807) (w : World) :
    Calls Try.prog 130 #[.int .i64 n] w fun e w' => e = .returned (.int .i64 (needOf n)) ∧ w' = w := by
  by_cases h : n ≤ 460
  · have HF := Lib.hid (show needOf n = 1 by unfold needOf; rw [if_pos h])
    go_enter Try.func130, Try.ntmps130
    go_wp2_with fail
    go_ret
    exact ⟨by rw [HF.out]; rfl, rfl⟩
  · have HF := Lib.hid (need_large (by omega) h0).2.2
    go_enter Try.func130, Try.ntmps130
    go_wp2_with fail
    go_ret
    exact ⟨by rw [HF.out]; rfl, rfl⟩
set_option maxRecDepth 100000 in
/-- ref16.Need -/
theorem rneed_calls {n : Int} (h0 : n ≤ 9223372036854775807) (w : World) :
    Calls Try.prog 128 #[.int .i64 n] w fun e w' => e = .returned (.int .i64 (needOf n)) ∧ w' = w := by
  by_cases h : n < 1
  · have HF := Lib.hid (show needOf n = 1 by unfold needOf; rw [if_pos (by omega)])
    go_enter Try.func128, Try.ntmps128
    go_wp2_with fail
    go_ret
    exact ⟨by rw [HF.out]; rfl, rfl⟩
  · by_cases hr : 0 < n % 460
    · have HF := Lib.hid (show needOf n = n / 460 + 1 by unfold needOf; split <;> omega)
      go_enter Try.func128, Try.ntmps128
      go_wp2_with fail
      go_ret
      exact ⟨by rw [HF.out]; rfl, rfl⟩
    · have HF := Lib.hid (show needOf n = n / 460 by unfold needOf; split <;> omega)
      go_enter Try.func128, Try.ntmps128
      go_wp2_with fail
      go_ret
      exact ⟨by rw [HF.out]; rfl, rfl⟩

set_option maxRecDepth 100000 in
set_option maxHeartbeats 1000000 in
/-- ref28.Due -/
theorem rdue_calls {Q : Nat → Prop} {w : World} {v : Value} {p : DPolicy} {room frames : Int} (hx : rPolicy.val Q w v p) :
    Calls Try.prog 63 #[v, .int .i64 room, .int .i64 frames] w fun e w' => e = .returned (.bool (dueOf p room frames)) ∧ Below w.heap.size w w' := by
  obtain ⟨rfl, f0, f1⟩ := rPolicy_val hx
  clear hx
  obtain ⟨r, hr⟩ : ∃ r, r = dueOf p room frames := ⟨_, rfl⟩
  rw [← hr]
  unfold dueOf at hr
  rcases dec_split (room < p.room) with t1 | ⟨t1, d1⟩ <;> rcases dec_split (0 < p.frames) with t2 | ⟨t2, d2⟩ <;> rcases dec_split (p.frames ≤ frames) with t3 | ⟨t3, d3⟩
  all_goals
    simp [*] at hr
    subst hr
    go_enter Try.func63, Try.ntmps63
    go_wp2_with fail
    go_ret
    exact ⟨by first | rfl | (simp only [*]; rfl), (Below.refl _ _).alloc (Nat.le_refl _) _⟩
end Go.Proofs.Ytecdbfbaclgejaa
