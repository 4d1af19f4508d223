/- Texts on which the proofs stand: FrameCheck, CmdPut. No condition is laid on any input. -/
import Derived.Test.YteljibjbndpncaaWfG8
/- Walks of the checks of frames, both; what is too much; what a number of bytes needs; what is due. -/
namespace Go.Proofs.Yteljibjbndpncaa
open Go.RowKit

theorem checkFrame_long {l : List DCmd} (h : (64 : Int) < l.length) : checkFrame l = 13 := by unfold checkFrame; rw [if_pos (by omega)]
theorem checkFrame_bad {l : List DCmd} (h : ¬ (64 : Int) < l.length) {k : Nat} (hk : k < l.length) (h1 : ∀ x ∈ l.take k, checkCmd x = 0) (h2 : checkCmd l[k] ≠ 0) : checkFrame l = checkCmd l[k] := by
  unfold checkFrame; rw [if_neg (by omega)]; exact firstBad_at hk h1 h2
theorem checkFrame_good {l : List DCmd} (h : ¬ (64 : Int) < l.length) {k : Nat} (hk : ¬ k < l.length) (h1 : ∀ x ∈ l.take k, checkCmd x = 0) : checkFrame l = 0 := by
  unfold checkFrame; rw [if_neg (by omega)]
  rw [List.take_of_length_le (by omega)] at h1
  exact firstBad_none h1
theorem checks_more {l : List DCmd} {k : Nat} (hk : k < l.length) (h1 : ∀ x ∈ l.take k, checkCmd x = 0) (h2 : checkCmd l[k] = 0) : ∀ x ∈ l.take (k + 1), checkCmd x = 0 := by
  intro x hx
  rw [List.take_add_one, List.getElem?_eq_getElem hk] at hx
  rcases List.mem_append.1 hx with hx | hx
  · exact h1 x hx
  · simp at hx; rw [hx]; exact h2
theorem checkCmd_wf (x : DCmd) : (Lit.int .i64 (checkCmd x)).wf = true := by
  unfold checkCmd; split <;> (try split) <;> rfl

set_option maxRecDepth 100000 in
set_option maxHeartbeats 1000000 in
/-- ref14.Check -/
theorem rframeCheck_calls {Q : Nat → Prop} {w : World} {v : Value} {l : List DCmd} (hx : rCmd.list.val Q w v l) :
    Calls Try.prog 26 #[v] w fun e w' => e = .returned (.int .i64 (checkFrame l)) ∧ Below w.heap.size w w' := by
  obtain ⟨A, c, rfl, hc1, hc2, hA⟩ := Rep.val_list hx
  unfold maxLen at hc2
  by_cases hlong : (64 : Int) < l.length
  · have HF := Lib.hid (checkFrame_long hlong)
    clear hx hA
    go_enter Try.func26, Try.ntmps26
    go_wp2_with fail
    go_ret
    exact ⟨by rw [HF.out]; rfl, Below.refl _ _⟩
  · have HA := Lib.hid hA
    clear hx hA
    go_enter Try.func26, Try.ntmps26
    go_wp2_with fail
    go_loopw [3] (fun i wr => ∃ k : Nat, i = .int .i64 k ∧ k ≤ l.length ∧ Hid (∀ x ∈ l.take k, checkCmd x = 0) ∧ Below w.heap.size w wr)
      (fun i _ => l.length - (intOf i).toNat)
    case atStart => exact ⟨0, rfl, by omega, (by intro x hx; simp at hx), Below.refl _ _⟩
    case round =>
      obtain ⟨k, rfl, hk, hall, hb1⟩ := hrel
      by_cases hlt : (k : Int) < l.length
      · have hk' : k < l.length := by omega
        obtain ⟨b, off, A6, c6, rfl, _, d0, d1, d2, d3, d4, d5, f0, f1, f2, f3, sp⟩ := rCmd_at (HA.out.below hb1 fun _ _ h => h.lt) (List.getElem?_eq_getElem hk')
        have HBad := Lib.hid (checkFrame_bad (show ¬ (64 : Int) < l.length by omega) hk' hall)
        have HMore := Lib.hid (checks_more hk' hall)
        have HA1 := Lib.hid (HA.out.below hb1 fun _ _ h => h.lt)
        generalize hxx : l[k] = x at *
        have HX := Lib.hid ((List.getElem?_eq_getElem hk').trans (congrArg some hxx))
        have HV := Lib.hid (rCmd_agg f0 f1 f2 f3 sp)
        have HB1 := Lib.hid hb1
        clear sp f0 f1 f2 f3 hb1 hall hxx
        by_cases h0 : checkCmd x = 0
        · have H0 := Lib.hid h0
          clear h0
          go_wp2_with fail
          refine (rcmdCheck_calls HV.out).mono ?_
          rintro e w1 ⟨rfl, hb2⟩
          rw [H0.out]
          have HB3 := Lib.hid (HB1.out.trans (hb2.mono HB1.out.size))
          clear hb2
          go_wp2_with fail
          exact ⟨⟨k + 1, by go_num, by omega, HMore.out H0.out, HB3.out⟩, by simp [intOf]; omega⟩
        · have H0 := Lib.hid h0
          have HF := Lib.hid (HBad.out h0)
          have g0 : (checkCmd x == 0) = false := by simp [h0]
          clear h0
          go_wp2_with fail
          refine (rcmdCheck_calls HV.out).mono ?_
          rintro e w1 ⟨rfl, hb2⟩
          have HB3 := Lib.hid (HB1.out.trans (hb2.mono HB1.out.size))
          obtain ⟨b', off', A7, c7, he, _, z0, z1, z2, z3, z4, z5, f0, f1, f2, f3, sp⟩ := rCmd_at (HA1.out.below hb2 fun _ _ h => h.lt) HX.out
          cases he
          have HV2 := Lib.hid (rCmd_agg f0 f1 f2 f3 sp)
          clear hb2 d0 d1 d2 d3 d4 d5 sp f0 f1 f2 f3
          go_wp2_with fail
          refine (rcmdCheck_calls HV2.out).mono ?_
          rintro e w2 ⟨rfl, hb4⟩
          have HB4 := Lib.hid (HB3.out.trans (hb4.mono HB3.out.size))
          go_wp2_with fail
          go_ret
          exact ⟨by rw [HF.out]; rfl, HB4.out⟩
      · have HF := Lib.hid (checkFrame_good (show ¬ (64 : Int) < l.length by omega) (show ¬ k < l.length by omega) hall)
        go_wp2_with fail
        go_ret
        exact ⟨by rw [HF.out]; rfl, hb1⟩

def MuchCmds (w : World) (l : List DCmd) (e : Ending) (w' : World) : Prop := ∃ r : Bool, e = .returned (.bool r) ∧ (r = false → l.length ≤ 70) ∧ w' = w
set_option maxRecDepth 100000 in
/-- ref13.Much -/
theorem muchCmds_calls {Q : Nat → Prop} {w : World} {v : Value} {l : List DCmd} (hx : rCmd.list.val Q w v l) :
    Calls Try.prog 25 #[v] w (MuchCmds w l) := by
  obtain ⟨A, c, rfl, hc1, hc2, hA⟩ := Rep.val_list hx
  unfold maxLen at hc2
  have HA := Lib.hid hA
  clear hx hA
  go_enter Try.func25, Try.ntmps25
  go_wp2_with fail
  go_loop [3] (fun i => ∃ k : Nat, i = .int .i64 k ∧ k ≤ l.length ∧ k ≤ 100) (fun i => l.length - (intOf i).toNat)
  case atStart => exact ⟨0, rfl, by omega, by omega⟩
  case round =>
    obtain ⟨k, rfl, hk, hk5⟩ := hrel
    by_cases hlt : (k : Int) < l.length
    · by_cases h50 : (k : Int) < 100
      · have hk' : k < l.length := by omega
        obtain ⟨b, off, A6, c6, rfl, _, d0, d1, d2, d3, d4, d5, _, _, _, _, sp⟩ := rCmd_at HA.out (List.getElem?_eq_getElem hk')
        have hp1 := sp.1
        have hp2 := sp.2.1
        unfold maxLen at hp2
        generalize l[k] = x at *
        clear sp
        by_cases h2 : (200 : Int) < x.data.length
        · go_wp2_with fail
          go_ret
          exact ⟨true, rfl, (fun h => (by cases h)), rfl⟩
        · go_wp2_with fail
          go_round
          case rel => exact ⟨k + 1, by go_num, by omega, by omega⟩
          case measure => simp [intOf]; omega
      · have h20 : (70 : Int) < l.length := by omega
        go_wp2_with fail
        go_ret
        exact ⟨true, rfl, (fun h => (by cases h)), rfl⟩
    · by_cases h20 : (70 : Int) < l.length
      · go_wp2_with fail
        go_ret
        exact ⟨true, rfl, (fun h => (by cases h)), rfl⟩
      · go_wp2_with fail
        go_ret
        exact ⟨false, rfl, fun _ => by omega, rfl⟩

def needOf (n : Int) : Int := if n ≤ 460 then 1 else (n - 1) / 460 + 1
theorem need_large {n : Int} (h : 460 < n) (hb : n ≤ 9223372036854775807) : 2 ≤ needOf n ∧ needOf n ≤ n ∧ needOf n = (n - 1) / 460 + 1 := by
  unfold needOf; rw [if_neg (by omega)]; omega
set_option maxRecDepth 100000 in
/-- geom.Need -/
theorem need_calls {n : Int} (h0 : n ≤ 9223372036854775807) (w : World) :
    Calls Try.prog 92 #[.int .i64 n] w fun e w' => e = .returned (.int .i64 (needOf n)) ∧ w' = w := by
  by_cases h : n ≤ 460
  · have HF := Lib.hid (show needOf n = 1 by unfold needOf; rw [if_pos h])
    go_enter Try.func92, Try.ntmps92
    go_wp2_with fail
    go_ret
    exact ⟨by rw [HF.out]; rfl, rfl⟩
  · have HF := Lib.hid (need_large (by omega) h0).2.2
    go_enter Try.func92, Try.ntmps92
    go_wp2_with fail
    go_ret
    exact ⟨by rw [HF.out]; rfl, rfl⟩
end Go.Proofs.Yteljibjbndpncaa
/- Walks of a command as0 bytes: cmd. -/
namespace Go.Proofs.Yteljibjbndpncaa
open Go.RowKit

def targetBytes (x : DCmd) : List UInt8 := if x.loc then num 1 1 ++ num 8 x.id.index else num 1 0 ++ num 8 x.id.index ++ num 8 x.id.gen
def dataBytes (x : DCmd) : List UInt8 := num 2 x.data.length ++ x.data
def cmdBytes (x : DCmd) : List UInt8 :=
  if knownB x.kind then num 1 x.kind ++ (if x.kind = 0 then [] else targetBytes x) ++ (if x.kind = 2 ∨ x.kind = 3 then num 8 x.comp else []) ++ (if x.kind = 2 then dataBytes x else [])
  else num 1 255
theorem targetBytes_length (x : DCmd) : (targetBytes x).length ≤ 24 := by
  have h1 := num_length 1 1
  have h2 := num_length 1 0
  have h3 := num_length 8 x.id.index
  have h4 := num_length 8 x.id.gen
  unfold targetBytes
  split <;> simp only [List.length_append] <;> omega

end Go.Proofs.Yteljibjbndpncaa
