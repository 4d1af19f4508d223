/- Texts on which the proofs stand: Comp. No condition is laid on any input. -/
import Derived.Test.YtghbfbohnoebiaaGreatSnG8
import Derived.Deep.RegionHeld3
namespace Go.Proofs.YtghbfbohnoebiaaGreat
open Go.RowKit

def letterB (c : Int) : Bool := decide (97 ≤ c ∧ c ≤ 122) || decide (48 ≤ c ∧ c ≤ 57) || decide (c = 95)

/-- comp.letter -/
theorem letter_calls (c : Int) (w : World) (h0 : 0 ≤ c) (h1 : c ≤ 255) :
    Calls Tryz.prog 148 #[.int .u8 c] w fun e w' => e = .returned (.bool (letterB c)) ∧ w' = w := by
  obtain ⟨r, hr⟩ : ∃ r, r = letterB c := ⟨_, rfl⟩
  rw [← hr]
  unfold letterB at hr
  by_cases a1 : 97 ≤ c <;> by_cases a2 : c ≤ 122 <;> by_cases a3 : 48 ≤ c <;> by_cases a4 : c ≤ 57 <;> by_cases a5 : c = 95 <;> first | omega | skip
  all_goals
    simp [a1, a2, a3, a4, a5] at hr
    subst hr
    go_enter Tryz.func148, Tryz.ntmps148
    go_wp2_with fail
    go_ret
    exact ⟨by first | rfl | (rw [← (show (c == 95) = false by simp [a5])]; rfl), rfl⟩

def withinB (n lo hi : Int) : Bool := decide (lo ≤ n ∧ n ≤ hi)
/-- comp.within -/
theorem within_calls (n lo hi : Int) (w : World) :
    Calls Tryz.prog 96 #[.int .i64 n, .int .i64 lo, .int .i64 hi] w fun e w' => e = .returned (.bool (withinB n lo hi)) ∧ w' = w := by
  obtain ⟨r, hr⟩ : ∃ r, r = withinB n lo hi := ⟨_, rfl⟩
  rw [← hr]
  unfold withinB at hr
  by_cases a1 : lo ≤ n <;> by_cases a2 : n ≤ hi
  all_goals
    simp [a1, a2] at hr
    subst hr
    go_enter Tryz.func96, Tryz.ntmps96
    go_wp2_with fail
    go_ret
    exact ⟨rfl, rfl⟩

def nameB (s : List UInt8) : Bool := decide (1 ≤ s.length ∧ s.length ≤ 16) && s.all fun c => letterB (c.toNat : Int)

theorem all_take_succ {α : Type} {p : α → Bool} {s : List α} {k : Nat} (hk : k < s.length) (h : (s.take k).all p = true) (hc : p s[k] = true) : (s.take (k + 1)).all p = true := by
  rw [List.take_succ_eq_append_getElem hk, List.all_append, h]
  simp [hc]
theorem not_all {α : Type} {p : α → Bool} {s : List α} {k : Nat} (hk : k < s.length) (hc : p s[k] = false) : s.all p = false := by
  rw [Bool.eq_false_iff]
  intro h
  have := List.all_eq_true.1 h s[k] (List.getElem_mem hk)
  rw [hc] at this; cases this

theorem byte_le (x : UInt8) : (x.toNat : Int) ≤ 255 := by have := x.toNat_lt; omega

set_option maxRecDepth 10000 in
set_option maxHeartbeats 2000000 in
/-- comp.Name -/
theorem name_calls (s : List UInt8) (w : World) (hs : s.length ≤ maxLen) :
    Calls Tryz.prog 97 #[.string ⟨s.toArray⟩] w fun e w' => e = .returned (.bool (nameB s)) ∧ w' = w := by
  have hs' : (s.length : Int) ≤ 9223372036854775807 := by unfold maxLen at hs; omega
  have hsz : (ByteArray.mk s.toArray).size = s.length := by simp [ByteArray.size]
  by_cases hnil : s = []
  · subst hnil
    go_enter Tryz.func97, Tryz.ntmps97
    go_wp2_with fail
    go_ret
    exact ⟨rfl, rfl⟩
  have hemp : s.isEmpty = false := by simpa using hnil
  have hpos : 0 < s.length := List.length_pos_iff.2 hnil
  by_cases hlong : (16 : Int) < s.length
  · have hr : nameB s = false := by
      unfold nameB
      rw [decide_eq_false (by omega)]; rfl
    have HR := Lib.hid hr
    clear hr
    go_enter Tryz.func97, Tryz.ntmps97
    go_wp2_with fail
    go_ret
    exact ⟨by rw [HR.out]; rfl, rfl⟩
  · have hr : nameB s = s.all fun c => letterB (c.toNat : Int) := by
      unfold nameB
      rw [decide_eq_true (by omega), Bool.true_and]
    have HR := Lib.hid hr
    clear hr
    go_enter Tryz.func97, Tryz.ntmps97
    go_wp2_with fail
    go_loopw [13] (fun i wr => ∃ k : Nat, i = .int .i64 k ∧ k ≤ s.length ∧ Hid ((s.take k).all (fun c => letterB (c.toNat : Int)) = true) ∧ wr = w)
      (fun i _ => s.length - (intOf i).toNat)
    case atStart => exact ⟨0, rfl, by omega, rfl, rfl⟩
    case round =>
      obtain ⟨k, rfl, hk, hall, rfl⟩ := hrel
      by_cases hlt : (k : Int) < s.length
      · have hk' : k < s.length := by omega
        have L : ∀ w, Calls Tryz.prog 148 #[.int .u8 (((ByteArray.mk s.toArray)[k]'(by rw [hsz]; omega)).toNat : Int)] w fun e w' => e = .returned (.bool (letterB (s[k].toNat : Int))) ∧ w' = w :=
          fun w => letter_calls (s[k].toNat : Int) w (by omega) (byte_le s[k])
        cases hc : letterB (s[k].toNat : Int) with
        | true =>
          have HA := Lib.hid (all_take_succ (p := fun c : UInt8 => letterB (c.toNat : Int)) hk' hall hc)
          rw [hc] at L
          have HL := Lib.hid L
          clear hc hall L
          go_wp2_with (go_at_call 148; refine (HL.out _).mono ?_; rintro e w' ⟨rfl, rfl⟩)
          exact ⟨⟨k + 1, by go_num, by omega, HA.out, trivial⟩, by simp [intOf]; omega⟩
        | false =>
          have HF := Lib.hid (not_all (p := fun c : UInt8 => letterB (c.toNat : Int)) hk' hc)
          rw [hc] at L
          have HL := Lib.hid L
          clear hc hall L
          go_wp2_with (go_at_call 148; refine (HL.out _).mono ?_; rintro e w' ⟨rfl, rfl⟩)
          go_ret
          exact ⟨by rw [HR.out, HF.out]; rfl, rfl⟩
      · obtain rfl : k = s.length := by omega
        have HF := Lib.hid (show (s.all fun c => letterB (c.toNat : Int)) = true by have := hall.out; rwa [List.take_length] at this)
        clear hall
        go_wp2_with fail
        go_ret
        exact ⟨by rw [HR.out, HF.out]; rfl, rfl⟩
theorem dec_split (p : Prop) [Decidable p] : p ∨ (¬ p ∧ decide p = false) := by
  by_cases h : p
  · exact .inl h
  · exact .inr ⟨h, decide_eq_false h⟩

end Go.Proofs.YtghbfbohnoebiaaGreat
