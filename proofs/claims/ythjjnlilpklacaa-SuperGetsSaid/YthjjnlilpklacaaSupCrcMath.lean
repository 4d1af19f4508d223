/- The check sum in numbers: as the program adds bits from the low end, and as the document divides from the high one. No program is named here. -/
import Derived.Test.YthjjnlilpklacaaSupG1
namespace Go.Proofs.Ythjjnlilpklacaa

def crcBit (s : Nat) : Nat := (s / 2) ^^^ (if s % 2 = 1 then 3988292384 else 0)
def crcBits : Nat → Nat → Nat
  | 0, s => s
  | k + 1, s => crcBit (crcBits k s)
def crcByte (s : Nat) (c : UInt8) : Nat := crcBits 8 (s ^^^ c.toNat)
def crcAdd (s : Nat) (l : List UInt8) : Nat := l.foldl crcByte s
def crcOf (l : List UInt8) : Nat := 4294967295 - crcAdd 4294967295 l

theorem crcBit_lt {s : Nat} (h : s < 4294967296) : crcBit s < 4294967296 := by
  have : s / 2 < 2 ^ 32 := by omega
  unfold crcBit
  split
  · exact Nat.xor_lt_two_pow this (by decide)
  · exact Nat.xor_lt_two_pow this (by decide)
theorem crcBits_lt {s : Nat} (h : s < 4294967296) : ∀ k, crcBits k s < 4294967296
  | 0 => h
  | k + 1 => crcBit_lt (crcBits_lt h k)
theorem byte_lt (c : UInt8) : c.toNat < 256 := c.toNat_lt
theorem crcByte_lt {s : Nat} (h : s < 4294967296) (c : UInt8) : crcByte s c < 4294967296 :=
  crcBits_lt (Nat.xor_lt_two_pow (n := 32) h (by have := byte_lt c; omega)) 8
theorem crcAdd_lt : ∀ {l : List UInt8} {s : Nat}, s < 4294967296 → crcAdd s l < 4294967296
  | [], _, h => h
  | c :: l, _, h => crcAdd_lt (l := l) (crcByte_lt h c)
theorem crcAdd_snoc (s : Nat) (l : List UInt8) (c : UInt8) : crcAdd s (l ++ [c]) = crcByte (crcAdd s l) c := by unfold crcAdd; rw [List.foldl_append]; rfl
theorem crcAdd_append (s : Nat) (l m : List UInt8) : crcAdd s (l ++ m) = crcAdd (crcAdd s l) m := by unfold crcAdd; rw [List.foldl_append]
theorem crcOf_lt (l : List UInt8) : crcOf l < 4294967296 := by unfold crcOf; omega

/-- Turned round: k bits of n, put behind those of o. -/
def turnBits : Nat → Nat → Nat → Nat × Nat
  | 0, n, o => (n, o)
  | k + 1, n, o => let p := turnBits k n o; (p.1 / 2, p.2 * 2 + p.1 % 2)
def turned (n : Nat) : Nat := (turnBits 32 n 0).2

theorem turnBits_fst (n o : Nat) : ∀ k, (turnBits k n o).1 = n / 2 ^ k
  | 0 => by simp [turnBits]
  | k + 1 => by
    show (turnBits k n o).1 / 2 = _
    rw [turnBits_fst n o k, Nat.div_div_eq_div_mul, Nat.pow_succ]
theorem turnBits_lt (n : Nat) : ∀ k, (turnBits k n 0).2 < 2 ^ k
  | 0 => by simp [turnBits]
  | k + 1 => by
    show (turnBits k n 0).2 * 2 + (turnBits k n 0).1 % 2 < _
    have := turnBits_lt n k
    rw [Nat.pow_succ]; omega
theorem turnBits_bit (n : Nat) : ∀ k i, (turnBits k n 0).2.testBit i = (decide (i < k) && n.testBit (k - 1 - i))
  | 0, i => by simp [turnBits]
  | k + 1, 0 => by
    show ((turnBits k n 0).2 * 2 + (turnBits k n 0).1 % 2).testBit 0 = _
    rw [turnBits_fst, Nat.testBit_zero]
    rw [show k + 1 - 1 - 0 = k by omega, Nat.testBit_eq_decide_div_mod_eq]
    simp
  | k + 1, i + 1 => by
    show ((turnBits k n 0).2 * 2 + (turnBits k n 0).1 % 2).testBit (i + 1) = _
    rw [Nat.testBit_succ, show ((turnBits k n 0).2 * 2 + (turnBits k n 0).1 % 2) / 2 = (turnBits k n 0).2 by omega, turnBits_bit n k i]
    rw [show k + 1 - 1 - (i + 1) = k - 1 - i by omega]
    simp
theorem turned_bit (n i : Nat) : (turned n).testBit i = (decide (i < 32) && n.testBit (31 - i)) := turnBits_bit n 32 i
theorem turned_lt (n : Nat) : turned n < 4294967296 := turnBits_lt n 32
theorem turned_xor (a b : Nat) : turned (a ^^^ b) = turned a ^^^ turned b := by
  apply Nat.eq_of_testBit_eq
  intro i
  rw [Nat.testBit_xor, turned_bit, turned_bit, turned_bit, Nat.testBit_xor]
  cases decide (i < 32) <;> simp
theorem turned_zero : turned 0 = 0 := by
  apply Nat.eq_of_testBit_eq
  intro i
  rw [turned_bit]; simp
theorem turned_poly : turned 79764919 = 3988292384 := by decide
theorem turned_ones : turned 4294967295 = 4294967295 := by decide
/-- One bit higher, and what leaves at the top is lost. -/
theorem turned_double (a : Nat) : turned (a * 2 % 4294967296) = turned a / 2 := by
  apply Nat.eq_of_testBit_eq
  intro i
  rw [Nat.testBit_div_two, turned_bit, turned_bit, show (4294967296 : Nat) = 2 ^ 32 by rfl, Nat.testBit_mod_two_pow]
  by_cases h : i + 1 < 32
  · have : 31 - i = (31 - (i + 1)) + 1 := by omega
    rw [this, Nat.testBit_succ, show a * 2 / 2 = a by omega]
    have h1 : i < 32 := by omega
    have h2 : 31 - (i + 1) + 1 < 32 := by omega
    simp [h, h1]
    intro _; omega
  · by_cases h1 : i < 32
    · have : i = 31 := by omega
      subst this
      simp
    · simp [h, h1]
theorem turned_low (a : Nat) (h : a < 4294967296) : turned a % 2 = a / 2147483648 := by
  have := turned_bit a 0
  rw [Nat.testBit_zero] at this
  have h2 : a.testBit 31 = decide (a / 2147483648 = 1) := by
    rw [Nat.testBit_eq_decide_div_mod_eq]
    congr 1; apply propext; omega
  simp [h2] at this
  omega

/-- The document's step: a rest, and what is left of a byte. -/
def restBit (r : Nat) (c : Nat) : Nat := (r * 2 % 4294967296) ^^^ (if r / 2147483648 ≠ c % 2 then 79764919 else 0)
def restBits : Nat → Nat → Nat → Nat
  | 0, r, _ => r
  | k + 1, r, c => restBit (restBits k r c) (c / 2 ^ k)
def restByte (r : Nat) (c : UInt8) : Nat := restBits 8 r c.toNat
def restAdd (r : Nat) (l : List UInt8) : Nat := l.foldl restByte r

theorem restBit_lt (r c : Nat) : restBit r c < 4294967296 := by
  have : r * 2 % 4294967296 < 2 ^ 32 := Nat.mod_lt _ (by decide)
  unfold restBit
  split
  · exact Nat.xor_lt_two_pow this (by decide)
  · exact Nat.xor_lt_two_pow this (by decide)
theorem restBits_lt {r : Nat} (h : r < 4294967296) (c : Nat) : ∀ k, restBits k r c < 4294967296
  | 0 => h
  | _ + 1 => restBit_lt _ _
theorem restByte_lt {r : Nat} (h : r < 4294967296) (c : UInt8) : restByte r c < 4294967296 := restBits_lt h _ 8
theorem restAdd_lt : ∀ {l : List UInt8} {r : Nat}, r < 4294967296 → restAdd r l < 4294967296
  | [], _, h => h
  | c :: l, _, h => restAdd_lt (l := l) (restByte_lt h c)
theorem restAdd_snoc (s : Nat) (l : List UInt8) (c : UInt8) : restAdd s (l ++ [c]) = restByte (restAdd s l) c := by unfold restAdd; rw [List.foldl_append]; rfl

theorem xor_div2 (a b : Nat) : (a ^^^ b) / 2 = a / 2 ^^^ b / 2 := by
  apply Nat.eq_of_testBit_eq
  intro i
  simp [Nat.testBit_div_two, Nat.testBit_xor]
theorem xor_mod2 (a b : Nat) : ((a ^^^ b) % 2 = 1) ↔ ¬ (a % 2 = b % 2) := by
  have h := Nat.testBit_xor a b 0
  simp only [Nat.testBit_zero] at h
  rcases Nat.mod_two_eq_zero_or_one a with ha | ha <;> rcases Nat.mod_two_eq_zero_or_one b with hb | hb <;> simp [ha, hb] at h ⊢ <;> omega

theorem bits_step {r c : Nat} (h : r < 4294967296) : crcBit (turned r ^^^ c) = turned (restBit r c) ^^^ (c / 2) := by
  unfold crcBit restBit
  rw [xor_div2, turned_xor, turned_double]
  have hm := xor_mod2 (turned r) c
  rw [turned_low r h] at hm
  by_cases hc : r / 2147483648 = c % 2
  · rw [if_neg (by rw [hm]; omega), if_neg (by omega), turned_zero]; simp
  · rw [if_pos (by rw [hm]; exact hc), if_pos (by omega), turned_poly]
    rw [Nat.xor_assoc, Nat.xor_assoc, Nat.xor_comm (c / 2)]
theorem bits_all {r : Nat} (h : r < 4294967296) (c : Nat) : ∀ k, crcBits k (turned r ^^^ c) = turned (restBits k r c) ^^^ (c / 2 ^ k)
  | 0 => by simp [crcBits, restBits]
  | k + 1 => by
    show crcBit (crcBits k _) = turned (restBit (restBits k r c) _) ^^^ _
    rw [bits_all h c k, bits_step (restBits_lt h c k), Nat.div_div_eq_div_mul, ← Nat.pow_succ]
theorem byte_all {r : Nat} (h : r < 4294967296) (c : UInt8) : crcByte (turned r) c = turned (restByte r c) := by
  unfold crcByte restByte
  rw [bits_all h, show c.toNat / 2 ^ 8 = 0 by have := byte_lt c; omega, Nat.xor_zero]
theorem add_all : ∀ {l : List UInt8} {r : Nat}, r < 4294967296 → crcAdd (turned r) l = turned (restAdd r l)
  | [], _, _ => rfl
  | c :: l, r, h => by
    show crcAdd (crcByte (turned r) c) l = turned (restAdd (restByte r c) l)
    rw [byte_all h c]
    exact add_all (restByte_lt h c)
theorem crc_same (l : List UInt8) : 4294967295 - turned (restAdd 4294967295 l) = crcOf l := by
  unfold crcOf
  rw [← add_all (by decide), turned_ones]
theorem crc_not {s : Nat} (h : s < 4294967296) : 4294967295 ^^^ s = 4294967295 - s := by
  apply Nat.eq_of_testBit_eq
  intro i
  have h2 := Nat.testBit_two_pow_sub_succ (n := 32) (x := s) h i
  have h3 := Nat.testBit_two_pow_sub_one 32 i
  rw [show 2 ^ 32 - (s + 1) = 4294967295 - s by omega] at h2
  rw [show 2 ^ 32 - 1 = 4294967295 by omega] at h3
  rw [Nat.testBit_xor, h2, h3]
  by_cases hi : i < 32
  · simp [hi]
  · have : s.testBit i = false := Nat.testBit_lt_two_pow (Nat.lt_of_lt_of_le h (Nat.pow_le_pow_right (n := 2) (by omega) (show 32 ≤ i by omega)))
    simp [hi, this]
end Go.Proofs.Ythjjnlilpklacaa
