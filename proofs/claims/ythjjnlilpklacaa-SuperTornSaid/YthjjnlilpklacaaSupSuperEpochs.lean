/- Walk of the two epochs that a sector bears: ref03.Epochs. -/
import Derived.Test.YthjjnlilpklacaaSupG5
import Derived.Test.YthjjnlilpklacaaSupRSealGet
namespace Go.Proofs.Ythjjnlilpklacaa
open Go.RowKit

theorem wordOf_out {n : Int} (h : (n != near n 281474976710656) = true) : wordOf n = -1 := by
  have h2 : n ≠ near n 281474976710656 := by simpa using h
  unfold near at h2
  unfold wordOf maxEpoch
  split
  · rename_i h3; exfalso; apply h2; repeat' split
    all_goals omega
  · rfl
theorem wordOf_in {n : Int} (h : (n != near n 281474976710656) = false) : wordOf n = n := by
  have h2 : n = near n 281474976710656 := by simpa using h
  unfold near at h2
  unfold wordOf maxEpoch
  split
  · rfl
  · rename_i h3; exfalso; apply h3
    repeat' split at h2
    all_goals omega

set_option maxRecDepth 100000 in
set_option maxHeartbeats 2000000 in
/-- ref03.Epochs -/
theorem epochs_calls {Q : Nat → Prop} {w : World} {v : Value} {s : List UInt8} (hx : Rep.byte.list.val Q w v s) :
    Calls Try.prog 69 #[v] w fun e w' => e = .returned (.tuple #[.int .i64 (epochsOf s).1, .int .i64 (epochsOf s).2]) ∧ w' = w := by
  have HX := Lib.hid hx
  obtain ⟨A, c, rfl, _, _, _⟩ := Rep.val_list hx
  clear hx
  by_cases hl : s.length = 512
  case neg =>
    have HE := Lib.hid (show epochsOf s = (-1, -1) by unfold epochsOf; rw [if_neg hl])
    have g : ((s.length : Int) != 512) = true := by simp; omega
    clear hl
    go_enter Try.func69, Try.ntmps69
    go_wp2_with fail
    go_ret2
    exact ⟨by rw [HE.out]; rfl, rfl⟩
  have g : ((s.length : Int) != 512) = false := by simp; omega
  have HE := Lib.hid (show epochsOf s = (wordOf (i64of (natAt s 0 8)), wordOf (i64of (natAt s 504 8))) by unfold epochsOf; rw [if_pos hl])
  have HG1 := Lib.hid (show getNum s 0 8 = some (i64of (natAt s 0 8)) from getNum_at (w := 8) (a := 0) (by decide) (by decide) (by omega))
  have HG2 := Lib.hid (show getNum s 504 8 = some (i64of (natAt s 504 8)) from getNum_at (w := 8) (a := 504) (by decide) (by decide) (by omega))
  clear hl
  generalize i64of (natAt s 0 8) = a at *
  generalize i64of (natAt s 504 8) = b at *
  have C1 := Lib.hid (show ∀ W, Rep.byte.list.val Q W (.slice A s.length c) s → Calls Try.prog 121 #[.slice A s.length c, .int .i64 0, .int .i64 8] W fun e w' => e = .returned (.tuple #[.int .i64 a, .bool true]) ∧ w' = W from fun W h => (rget_calls (at_ := 0) (width := 8) h rfl).mono (by rintro e w' ⟨h1, h2⟩; rw [HG1.out] at h1; exact ⟨h1, h2⟩))
  have C2 := Lib.hid (show ∀ W, Rep.byte.list.val Q W (.slice A s.length c) s → Calls Try.prog 121 #[.slice A s.length c, .int .i64 504, .int .i64 8] W fun e w' => e = .returned (.tuple #[.int .i64 b, .bool true]) ∧ w' = W from fun W h => (rget_calls (at_ := 504) (width := 8) h rfl).mono (by rintro e w' ⟨h1, h2⟩; rw [HG2.out] at h1; exact ⟨h1, h2⟩))
  clear HG1 HG2
  cases ha : (a != near a 281474976710656) with
  | true =>
    have E1 := Lib.hid (show wordOf a = -1 from wordOf_out ha)
    cases hb : (b != near b 281474976710656) with
    | true =>
      have E2 := Lib.hid (show wordOf b = -1 from wordOf_out hb)
      go_enter Try.func69, Try.ntmps69
      go_wp2_with fail
      refine (C1.out _ HX.out).mono ?_
      rintro e w' ⟨rfl, rfl⟩
      go_wp2_with fail
      refine (C2.out _ HX.out).mono ?_
      rintro e w' ⟨rfl, rfl⟩
      go_wp2_with fail
      refine (rnear_calls _).mono ?_
      rintro e w' ⟨rfl, rfl⟩
      go_wp2_with fail
      refine (rnear_calls _).mono ?_
      rintro e w' ⟨rfl, rfl⟩
      go_wp2_with fail
      go_ret2
      exact ⟨by rw [HE.out]; simp only [E1.out, E2.out]; first | rfl | simp, rfl⟩
    | false =>
      have E2 := Lib.hid (show wordOf b = b from wordOf_in hb)
      go_enter Try.func69, Try.ntmps69
      go_wp2_with fail
      refine (C1.out _ HX.out).mono ?_
      rintro e w' ⟨rfl, rfl⟩
      go_wp2_with fail
      refine (C2.out _ HX.out).mono ?_
      rintro e w' ⟨rfl, rfl⟩
      go_wp2_with fail
      refine (rnear_calls _).mono ?_
      rintro e w' ⟨rfl, rfl⟩
      go_wp2_with fail
      refine (rnear_calls _).mono ?_
      rintro e w' ⟨rfl, rfl⟩
      go_wp2_with fail
      go_ret2
      exact ⟨by rw [HE.out]; simp only [E1.out, E2.out]; first | rfl | simp, rfl⟩
  | false =>
    have E1 := Lib.hid (show wordOf a = a from wordOf_in ha)
    cases hb : (b != near b 281474976710656) with
    | true =>
      have E2 := Lib.hid (show wordOf b = -1 from wordOf_out hb)
      go_enter Try.func69, Try.ntmps69
      go_wp2_with fail
      refine (C1.out _ HX.out).mono ?_
      rintro e w' ⟨rfl, rfl⟩
      go_wp2_with fail
      refine (C2.out _ HX.out).mono ?_
      rintro e w' ⟨rfl, rfl⟩
      go_wp2_with fail
      refine (rnear_calls _).mono ?_
      rintro e w' ⟨rfl, rfl⟩
      go_wp2_with fail
      refine (rnear_calls _).mono ?_
      rintro e w' ⟨rfl, rfl⟩
      go_wp2_with fail
      go_ret2
      exact ⟨by rw [HE.out]; simp only [E1.out, E2.out]; first | rfl | simp, rfl⟩
    | false =>
      have E2 := Lib.hid (show wordOf b = b from wordOf_in hb)
      go_enter Try.func69, Try.ntmps69
      go_wp2_with fail
      refine (C1.out _ HX.out).mono ?_
      rintro e w' ⟨rfl, rfl⟩
      go_wp2_with fail
      refine (C2.out _ HX.out).mono ?_
      rintro e w' ⟨rfl, rfl⟩
      go_wp2_with fail
      refine (rnear_calls _).mono ?_
      rintro e w' ⟨rfl, rfl⟩
      go_wp2_with fail
      refine (rnear_calls _).mono ?_
      rintro e w' ⟨rfl, rfl⟩
      go_wp2_with fail
      go_ret2
      exact ⟨by rw [HE.out]; simp only [E1.out, E2.out]; first | rfl | simp, rfl⟩
end Go.Proofs.Ythjjnlilpklacaa
