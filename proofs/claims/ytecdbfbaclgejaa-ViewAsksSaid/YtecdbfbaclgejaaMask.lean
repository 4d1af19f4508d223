/- Sets of numbers as bits: the plain law, and the walks of the functions on them. -/
import Derived.Test.YtecdbfbaclgejaaEntries

namespace Go.Proofs.Ytecdbfbaclgejaa
open Go.RowKit

def bitOf (c : Int) : Nat := if 0 ≤ c ∧ c < 64 then 2 ^ c.toNat else 0
def maskUp : Nat → List Int → Nat
  | 0, _ => 0
  | n + 1, l => maskUp n l + if (n : Int) ∈ l then 2 ^ n else 0
def maskOf (l : List Int) : Nat := maskUp 64 l
theorem maskUp_lt (l : List Int) : ∀ n, maskUp n l < 2 ^ n
  | 0 => by simp [maskUp]
  | n + 1 => by
    have := maskUp_lt l n
    simp only [maskUp, Nat.pow_succ]
    split <;> omega
theorem maskUp_bit (l : List Int) : ∀ n i, (maskUp n l).testBit i = decide (i < n ∧ (i : Int) ∈ l)
  | 0, i => by simp [maskUp]
  | n + 1, i => by
    have ih := maskUp_bit l n i
    have hl := maskUp_lt l n
    unfold maskUp
    by_cases hm : (n : Int) ∈ l
    · rw [if_pos hm, Nat.add_comm]
      rcases Nat.lt_trichotomy i n with h | h | h
      · rw [Nat.testBit_two_pow_add_gt h, ih]; simp [h, Nat.lt_succ_of_lt h]
      · subst h
        rw [Nat.testBit_two_pow_add_eq, Nat.testBit_lt_two_pow hl]; simp [hm]
      · have h1 : (2 ^ n + maskUp n l).testBit i = false := Nat.testBit_lt_two_pow (Nat.lt_of_lt_of_le (show 2 ^ n + maskUp n l < 2 ^ (n + 1) by rw [Nat.pow_succ]; omega) (Nat.pow_le_pow_right (by decide) (by omega)))
        rw [h1]; symm; rw [decide_eq_false_iff_not]; omega
    · rw [if_neg hm, Nat.add_zero, ih, decide_eq_decide]
      constructor
      · rintro ⟨h1, h2⟩; exact ⟨by omega, h2⟩
      · rintro ⟨h1, h2⟩
        refine ⟨?_, h2⟩
        rcases Nat.lt_or_ge i n with h | h
        · exact h
        · have : i = n := by omega
          subst this; exact absurd h2 hm
theorem bitOf_bit (c : Int) (i : Nat) : (bitOf c).testBit i = decide (i < 64 ∧ (i : Int) = c) := by
  unfold bitOf
  split
  · rename_i h
    rw [Nat.testBit_two_pow, decide_eq_decide]
    constructor
    · intro e; omega
    · intro e; omega
  · rename_i h
    rw [Nat.zero_testBit]; symm; rw [decide_eq_false_iff_not]; omega
theorem maskOf_snoc (l : List Int) (c : Int) : maskOf (l ++ [c]) = maskOf l ||| bitOf c := by
  apply Nat.eq_of_testBit_eq
  intro i
  rw [Nat.testBit_or, maskOf, maskOf, maskUp_bit, maskUp_bit, bitOf_bit, ← Bool.decide_or, decide_eq_decide, List.mem_append, List.mem_singleton]
  constructor
  · rintro ⟨h, h1 | h1⟩
    · exact .inl ⟨h, h1⟩
    · exact .inr ⟨h, h1⟩
  · rintro (⟨h, h1⟩ | ⟨h, h1⟩)
    · exact ⟨h, .inl h1⟩
    · exact ⟨h, .inr h1⟩
theorem maskOf_lt (l : List Int) : maskOf l < 18446744073709551616 := maskUp_lt l 64
theorem bitOf_lt (c : Int) : bitOf c < 18446744073709551616 := by
  unfold bitOf
  split
  · rename_i h; exact Nat.lt_of_lt_of_le (Nat.pow_lt_pow_right (by decide) (show c.toNat < 64 by omega)) (by decide)
  · decide
theorem bits_or_u64 {s t : Nat} (hs : s < 18446744073709551616) (ht : t < 18446744073709551616) : bits BinOp.or IntKind.u64 (s : Int) (t : Int) = ((s ||| t : Nat) : Int) := by
  unfold bits
  have e : ((BitVec.ofInt 64 (s : Int) ||| BitVec.ofInt 64 (t : Int) : BitVec 64).toNat) = s ||| t := by
    rw [BitVec.toNat_or, BitVec.toNat_ofInt, BitVec.toNat_ofInt]
    congr 1 <;> omega
  have h : s ||| t < 18446744073709551616 := Nat.or_lt_two_pow (n := 64) hs ht
  have := congrArg (fun n : Nat => IntKind.u64.wrap (n : Int)) e
  exact this.trans (IntWalk.u64_in _ ⟨by omega, by omega⟩)

/-- bits.bit -/
theorem bit_calls (c : Int) (w : World) : Calls Try.prog 162 #[.int .i64 c] w fun e w' => e = .returned (.int .u64 (bitOf c : Nat)) ∧ w' = w := by
  by_cases h : 0 ≤ c ∧ c < 64
  · obtain ⟨k, rfl⟩ : ∃ k : Nat, c = k := ⟨c.toNat, by omega⟩
    have hk : k < 64 := by omega
    have hb : bitOf (k : Int) = 2 ^ k := by unfold bitOf; rw [if_pos h]; simp
    have HB := Lib.hid hb
    have n1 : (k : Int) < 64 := h.2
    have HP := Lib.hid (bitOf_lt k)
    have HV := Lib.hid (show IntKind.u64.wrap ((2 : Int) ^ k) = ((bitOf k : Nat) : Int) by
      have h1 : ((2 : Int) ^ k) = ((2 ^ k : Nat) : Int) := by simp
      rw [h1, hb]
      have := bitOf_lt k
      rw [hb] at this
      exact IntWalk.u64_in _ ⟨by omega, by omega⟩)
    clear h hb
    go_enter Try.func162, Try.ntmps162
    go_wp2_with fail
    rw [HV.out]
    go_ret
    exact ⟨rfl, rfl⟩
  · have hb : bitOf c = 0 := by unfold bitOf; rw [if_neg h]
    have HB := Lib.hid hb
    clear hb
    by_cases h0 : c < 0
    · clear h
      go_enter Try.func162, Try.ntmps162
      go_wp2_with fail
      go_ret
      exact ⟨by rw [HB.out]; rfl, rfl⟩
    · have h1 : (64 : Int) ≤ c := by omega
      clear h
      go_enter Try.func162, Try.ntmps162
      go_wp2_with fail
      go_ret
      exact ⟨by rw [HB.out]; rfl, rfl⟩

/-- bits.With -/
theorem with_calls {s : Nat} (hs : s < 18446744073709551616) (c : Int) (w : World) : Calls Try.prog 102 #[.int .u64 (s : Int), .int .i64 c] w fun e w' => e = .returned (.int .u64 ((s ||| bitOf c : Nat) : Int)) ∧ w' = w := by
  have HO := Lib.hid (bits_or_u64 hs (bitOf_lt c))
  clear hs
  go_enter Try.func102, Try.ntmps102
  go_wp2_with (go_at_call 162; refine (bit_calls c _).mono ?_; rintro e w' ⟨rfl, rfl⟩)
  rw [HO.out]
  go_ret
  exact ⟨rfl, rfl⟩
end Go.Proofs.Ytecdbfbaclgejaa
