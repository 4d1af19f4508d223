/- Numbers as bytes, read back: the plain law. No program is named here. -/
import Derived.Test.YthjjnlilpklacaaSupLe
namespace Go.Proofs.Ythjjnlilpklacaa
open Go.RowKit

/-- The number that bytes are, the lowest first. -/
def leNat : List UInt8 → Nat
  | [] => 0
  | c :: l => c.toNat + 256 * leNat l
theorem leNat_lt : ∀ l : List UInt8, leNat l < 256 ^ l.length
  | [] => by simp [leNat]
  | c :: l => by
    have h := leNat_lt l
    have hc := c.toNat_lt
    have e : 256 ^ (c :: l).length = 256 * 256 ^ l.length := by rw [List.length_cons, Nat.pow_succ, Nat.mul_comm]
    simp only [leNat, e]
    omega
theorem leNat_append : ∀ l m : List UInt8, leNat (l ++ m) = leNat l + 256 ^ l.length * leNat m
  | [], m => by simp [leNat]
  | c :: l, m => by
    simp only [List.cons_append, leNat, leNat_append l m, List.length_cons, Nat.pow_succ]
    rw [Nat.mul_add, ← Nat.mul_assoc, Nat.mul_comm 256 (256 ^ l.length)]
    omega

/-- As a signed number of 64 bits. -/
def i64of (n : Nat) : Int := IntKind.i64.wrap (n : Int)
theorem i64of_small {n : Nat} (h : n < 9223372036854775808) : i64of n = n := by
  unfold i64of
  exact IntWalk.i64_in _ ⟨by omega, by omega⟩
theorem i64of_wf (n : Nat) : (Lit.int .i64 (i64of n)).wf = true := by
  unfold i64of
  simp [Lit.wf, IntKind.min, IntKind.max, IntKind.signed, IntKind.bits, IntKind.wrap]
  split <;> omega
theorem i64of_emod (n : Nat) (h : n < 18446744073709551616) : i64of n % 18446744073709551616 = n := by
  unfold i64of
  simp [IntKind.wrap, IntKind.signed, IntKind.bits]
  split <;> omega

/-- A number out of bytes, from a place on. -/
def getNum (b : List UInt8) (at_ width : Int) : Option Int :=
  if 0 ≤ at_ ∧ at_ + wide width ≤ b.length then some (i64of (leNat ((b.drop at_.toNat).take (wide width).toNat))) else none

theorem digit_leNat (n : Int) (m : Nat) (h : n % 18446744073709551616 = m) : ∀ (l : List UInt8) (k : Nat), l.length + k ≤ 8 → m / 256 ^ k % 256 ^ l.length = leNat l → (List.range' k l.length).map (digit n) = l
  | [], _, _, _ => rfl
  | c :: l, k, hk, hl => by
    simp only [List.length_cons, List.range'_succ, List.map_cons] at *
    have hc := c.toNat_lt
    have hp : 256 ^ (l.length + 1) = 256 * 256 ^ l.length := by rw [Nat.pow_succ, Nat.mul_comm]
    simp only [leNat] at hl
    rw [hp, Nat.mod_mul] at hl
    have h0 : m / 256 ^ k % 256 < 256 := Nat.mod_lt _ (by decide)
    have h1 : m / 256 ^ k % 256 = c.toNat := by omega
    have h2 : m / 256 ^ k / 256 % 256 ^ l.length = leNat l := by omega
    rw [Nat.div_div_eq_div_mul, ← Nat.pow_succ] at h2
    congr 1
    · unfold digit
      have hd : n / 2 ^ (8 * k) % 256 = ((m / 256 ^ k % 256 : Nat) : Int) := by
        have := u64_digit n k (by omega)
        rw [← this, h]
        have e : (2 : Int) ^ (8 * k) = ((256 ^ k : Nat) : Int) := by rw [Int.natCast_pow, Int.pow_mul]; rfl
        rw [e]
        rfl
      rw [hd, h1]
      simp
    · exact digit_leNat n m h l (k + 1) (by omega) h2

/-- Bytes, read as0 a number, are just those that this number has. -/
theorem num_leNat (width : Int) (l : List UInt8) (h : l.length = (wide width).toNat) : num width (i64of (leNat l)) = l := by
  have h8 : l.length ≤ 8 := by have := wide_le width; omega
  have hlt := leNat_lt l
  have hm : leNat l < 18446744073709551616 := Nat.lt_of_lt_of_le hlt (Nat.le_trans (Nat.pow_le_pow_right (by decide) h8) (by decide))
  unfold num
  rw [← h, List.range_eq_range']
  exact digit_leNat _ (leNat l) (i64of_emod _ hm) l 0 (by omega) (by simp; exact Nat.mod_eq_of_lt hlt)
end Go.Proofs.Ythjjnlilpklacaa
