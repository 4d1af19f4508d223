/- Texts on which the proofs stand: SealTop. No condition is laid on any input. -/
import Derived.Test.YtghbfbohnoebiaaGreatSnG32
import Derived.Laws.Cover1
namespace Go.Proofs.YtghbfbohnoebiaaGreat
open Go.RowKit

/-- The greater one. -/
def topOf (s : List UInt8) : Int := if (epochsOf s).1 < (epochsOf s).2 then (if (epochsOf s).2 < 0 then 0 else (epochsOf s).2) else if (epochsOf s).1 < 0 then 0 else (epochsOf s).1
theorem word_get {s : List UInt8} {a : Nat} (h : a + 8 ≤ s.length) : getNum s (a : Int) 8 = some (i64of (natAt s a 8)) := by
  have h8 : ((8 : Nat) : Int) = wide 8 := by decide
  exact getNum_some h8 h

set_option maxRecDepth 100000 in
set_option maxHeartbeats 2000000 in
/-- seal.word -/
theorem sealWord_calls {Q : Nat → Prop} {w : World} {v : Value} {s : List UInt8} {a : Nat} (hx : Rep.byte.list.val Q w v s) (ha : a + 8 ≤ s.length) (hm : a ≤ 1000) :
    Calls Tryz.prog 200 #[v, .int .i64 a] w fun e w' => e = .returned (.int .i64 (wordOf (i64of (natAt s a 8)))) ∧ w' = w := by
  have HX := Lib.hid hx
  obtain ⟨A, c, rfl, _, _, _⟩ := Rep.val_list hx
  have HG := Lib.hid (word_get ha)
  have HWF := Lib.hid (show (Lit.int .i64 (a : Int)).wf = true from wf_i64 (by omega) (by omega))
  clear hx ha
  generalize hn : i64of (natAt s a 8) = n at *
  clear hn
  go_enter Tryz.func200, Tryz.ntmps200
  go_wp2_with fail
  refine (get_calls (at_ := (a : Int)) (width := 8) HX.out HWF.out).mono ?_
  rintro e w1 ⟨rfl, rfl⟩
  rw [HG.out]
  dsimp only [Option.getD_some, Option.isSome_some]
  by_cases h0 : n < 0
  · have HE := Lib.hid (show wordOf n = -1 by unfold wordOf; rw [if_neg (by omega)])
    go_wp2_with fail
    go_ret
    exact ⟨by rw [HE.out]; rfl, rfl⟩
  · by_cases h1 : 281474976710656 < n
    · have HE := Lib.hid (show wordOf n = -1 by unfold wordOf maxEpoch; rw [if_neg (by omega)])
      go_wp2_with fail
      go_ret
      exact ⟨by rw [HE.out]; rfl, rfl⟩
    · have HE := Lib.hid (show wordOf n = n by unfold wordOf maxEpoch; rw [if_pos (by omega)])
      go_wp2_with fail
      go_ret
      exact ⟨by rw [HE.out]; rfl, rfl⟩

set_option maxRecDepth 100000 in
set_option maxHeartbeats 2000000 in
/-- seal.Epochs -/
theorem sepochs_calls {Q : Nat → Prop} {w : World} {v : Value} {s : List UInt8} (hx : Rep.byte.list.val Q w v s) :
    Calls Tryz.prog 159 #[v] w fun e w' => e = .returned (.tuple #[.int .i64 (epochsOf s).1, .int .i64 (epochsOf s).2]) ∧ w' = w := by
  have HX := Lib.hid hx
  obtain ⟨A, c, rfl, hc1, hc2, _⟩ := Rep.val_list hx
  unfold maxLen at hc2
  clear hx
  by_cases hl : s.length = 512
  case neg =>
    have HE := Lib.hid (show epochsOf s = (-1, -1) by unfold epochsOf; rw [if_neg hl])
    have g : ((s.length : Int) != 512) = true := by simp; omega
    clear hl
    go_enter Tryz.func159, Tryz.ntmps159
    go_wp2_with fail
    go_ret2
    exact ⟨by rw [HE.out]; rfl, rfl⟩
  case pos =>
    have HE := Lib.hid (show epochsOf s = (wordOf (i64of (natAt s 0 8)), wordOf (i64of (natAt s 504 8))) by unfold epochsOf; rw [if_pos hl])
    have HL := Lib.hid hl
    have g : ((s.length : Int) != 512) = false := by simp; omega
    clear hl
    go_enter Tryz.func159, Tryz.ntmps159
    go_wp2_with fail
    refine (sealWord_calls (a := 0) HX.out (by rw [HL.out]; decide) (by decide)).mono ?_
    rintro e w1 ⟨rfl, hw⟩
    obtain rfl := hw.symm
    clear hw
    go_wp2_with fail
    refine (sealWord_calls (a := 504) HX.out (by rw [HL.out]; decide) (by decide)).mono ?_
    rintro e w1 ⟨rfl, hw⟩
    obtain rfl := hw.symm
    clear hw
    go_wp2_with fail
    go_ret2
    exact ⟨by rw [HE.out]; rfl, rfl⟩

set_option maxRecDepth 100000 in
set_option maxHeartbeats 2000000 in
/-- seal.Top -/
theorem sealTop_calls {Q : Nat → Prop} {w : World} {v : Value} {s : List UInt8} (hx : Rep.byte.list.val Q w v s) :
    Calls Tryz.prog 108 #[v] w fun e w' => e = .returned (.int .i64 (topOf s)) ∧ w' = w := by
  have HX := Lib.hid hx
  obtain ⟨A, c, rfl, _, _, _⟩ := Rep.val_list hx
  have HT := Lib.hid (show topOf s = if (epochsOf s).1 < (epochsOf s).2 then (if (epochsOf s).2 < 0 then 0 else (epochsOf s).2) else if (epochsOf s).1 < 0 then 0 else (epochsOf s).1 from rfl)
  clear hx
  go_enter Tryz.func108, Tryz.ntmps108
  go_wp2_with fail
  refine (sepochs_calls HX.out).mono ?_
  rintro e w1 ⟨rfl, hw⟩
  obtain rfl := hw.symm
  clear hw
  generalize (epochsOf s).1 = a at *
  generalize (epochsOf s).2 = b at *
  by_cases h1 : a < b
  · by_cases h2 : b < 0
    · have HE := Lib.hid (show topOf s = 0 by rw [HT.out, if_pos h1, if_pos h2])
      go_wp2_with fail
      all_goals (go_ret; first | exact ⟨by rw [HE.out]; rfl, rfl⟩ | (exfalso; omega) | (have hz : b = 0 := (by omega); refine ⟨?_, rfl⟩; rw [HE.out, hz]; rfl) | (have hz : a = 0 := (by omega); refine ⟨?_, rfl⟩; rw [HE.out, hz]; rfl))
    · have HE := Lib.hid (show topOf s = b by rw [HT.out, if_pos h1, if_neg h2])
      go_wp2_with fail
      all_goals (go_ret; first | exact ⟨by rw [HE.out]; rfl, rfl⟩ | (exfalso; omega) | (have hz : b = 0 := (by omega); refine ⟨?_, rfl⟩; rw [HE.out, hz]; rfl) | (have hz : a = 0 := (by omega); refine ⟨?_, rfl⟩; rw [HE.out, hz]; rfl))
  · by_cases h2 : a < 0
    · have HE := Lib.hid (show topOf s = 0 by rw [HT.out, if_neg h1, if_pos h2])
      go_wp2_with fail
      all_goals (go_ret; first | exact ⟨by rw [HE.out]; rfl, rfl⟩ | (exfalso; omega) | (have hz : b = 0 := (by omega); refine ⟨?_, rfl⟩; rw [HE.out, hz]; rfl) | (have hz : a = 0 := (by omega); refine ⟨?_, rfl⟩; rw [HE.out, hz]; rfl))
    · have HE := Lib.hid (show topOf s = a by rw [HT.out, if_neg h1, if_neg h2])
      go_wp2_with fail
      all_goals (go_ret; first | exact ⟨by rw [HE.out]; rfl, rfl⟩ | (exfalso; omega) | (have hz : b = 0 := (by omega); refine ⟨?_, rfl⟩; rw [HE.out, hz]; rfl) | (have hz : a = 0 := (by omega); refine ⟨?_, rfl⟩; rw [HE.out, hz]; rfl))
end Go.Proofs.YtghbfbohnoebiaaGreat
