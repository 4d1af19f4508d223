/- Texts on which the proofs stand: DirMath, CrcMath. No condition is laid on any input. -/
import Derived.Test.YteljibjbndpncaaWfCore
import Derived.Test.YteljibjbndpncaaWfG5
/- Directories out of bytes: the plain law. -/
namespace Go.Proofs.Yteljibjbndpncaa
open Go.RowKit

/-- The number at a place, of so many bytes. -/
def natAt (b : List UInt8) (at_ w : Nat) : Nat := leNat ((b.drop at_).take w)
theorem natAt_lt (b : List UInt8) (at_ w : Nat) : natAt b at_ w < 256 ^ w := by
  refine Nat.lt_of_lt_of_le (leNat_lt _) (Nat.pow_le_pow_right (by decide) ?_)
  rw [List.length_take]; exact Nat.min_le_left _ _
theorem wide_small {w : Nat} (h1 : 1 ≤ w) (h8 : w ≤ 8) : wide (w : Int) = w := by
  unfold wide; rw [if_neg (by omega), if_neg (by omega)]
theorem getNum_nat (b : List UInt8) (at_ : Nat) {w : Nat} (h1 : 1 ≤ w) (h8 : w ≤ 8) : getNum b at_ (w : Int) = if at_ + w ≤ b.length then some (i64of (natAt b at_ w)) else none := by
  unfold getNum
  rw [wide_small h1 h8]
  by_cases h : at_ + w ≤ b.length
  · rw [if_pos h, if_pos ⟨by omega, by omega⟩]; rfl
  · rw [if_neg h, if_neg (by omega)]
theorem i64of_natAt (b : List UInt8) (at_ w : Nat) (h : w ≤ 7) : i64of (natAt b at_ w) = natAt b at_ w := by
  apply i64of_small
  refine Nat.lt_of_lt_of_le (natAt_lt b at_ w) (Nat.le_trans (Nat.pow_le_pow_right (by decide) h) (by decide))
theorem natAt_one {b : List UInt8} {at_ : Nat} (h : at_ < b.length) : natAt b at_ 1 = b[at_].toNat := by
  unfold natAt
  rw [← List.getElem_cons_drop h]
  show b[at_].toNat + 256 * leNat [] = _
  simp only [leNat]; omega

def pagesAt (b : List UInt8) (at_ n : Nat) : List Int := (List.range n).map fun k => (natAt b (at_ + 2 * k) 2 : Int)
theorem pagesAt_succ (b : List UInt8) (at_ n : Nat) : pagesAt b at_ (n + 1) = pagesAt b at_ n ++ [(natAt b (at_ + 2 * n) 2 : Int)] := by simp [pagesAt, List.range_succ]
theorem pagesAt_length (b : List UInt8) (at_ n : Nat) : (pagesAt b at_ n).length = n := by simp [pagesAt]

def keyAt (b : List UInt8) (at_ : Nat) : DKey := ⟨natAt b at_ 1, natAt b (at_ + 1) 8, natAt b (at_ + 9) 1⟩
def countAt (b : List UInt8) (at_ : Nat) : Nat := natAt b (at_ + 14) 2
def entAt (b : List UInt8) (at_ : Nat) : DEntry := ⟨keyAt b at_, natAt b (at_ + 10) 4, pagesAt b (at_ + 16) (countAt b at_)⟩
/-- The entry at a place, and the place behind it. -/
def parseEnt (b : List UInt8) (at_ : Nat) : Option (DEntry × Nat) :=
  if at_ + 16 ≤ b.length ∧ at_ + 16 + 2 * countAt b at_ ≤ b.length then some (entAt b at_, at_ + 16 + 2 * countAt b at_) else none
/-- So many entries, from the third byte on. -/
def parseDir (b : List UInt8) : Nat → Option (List DEntry × Nat)
  | 0 => some ([], 2)
  | n + 1 => match parseDir b n with
    | none => none
    | some (l, at_) => match parseEnt b at_ with
      | none => none
      | some (x, e) => some (l ++ [x], e)
theorem parseDir_none {b : List UInt8} {n : Nat} (h : parseDir b n = none) : ∀ m, n ≤ m → parseDir b m = none := by
  intro m hm
  induction m with
  | zero => have : n = 0 := by omega
            subst this; exact h
  | succ m ih =>
    rcases Nat.lt_or_ge m n with h1 | h1
    · have : n = m + 1 := by omega
      subst this; exact h
    · rw [parseDir, ih h1]
theorem parseDir_length {b : List UInt8} : ∀ {n : Nat} {l : List DEntry} {e : Nat}, parseDir b n = some (l, e) → l.length = n
  | 0, l, e, h => by simp only [parseDir, Option.some.injEq, Prod.mk.injEq] at h; rw [← h.1]; rfl
  | n + 1, l, e, h => by
    unfold parseDir at h
    split at h
    · cases h
    · rename_i l0 a0 h0
      split at h
      · cases h
      · simp only [Option.some.injEq, Prod.mk.injEq] at h
        rw [← h.1, List.length_append, parseDir_length h0]; rfl
theorem parseDir_at {b : List UInt8} (h2 : 2 ≤ b.length) : ∀ {n : Nat} {l : List DEntry} {e : Nat}, parseDir b n = some (l, e) → 2 + 16 * n ≤ e ∧ e ≤ b.length
  | 0, l, e, h => by simp only [parseDir, Option.some.injEq, Prod.mk.injEq] at h; omega
  | n + 1, l, e, h => by
    unfold parseDir at h
    split at h
    · cases h
    · rename_i l0 a0 h0
      have := parseDir_at h2 h0
      split at h
      · cases h
      · rename_i x e1 h1
        simp only [Option.some.injEq, Prod.mk.injEq] at h
        unfold parseEnt at h1
        split at h1
        · simp only [Option.some.injEq, Prod.mk.injEq] at h1; omega
        · cases h1

/-- What bytes are as0 a directory: an error, or entries. -/
def dirGet (b : List UInt8) : List DEntry × Int :=
  if b.length < 2 then ([], 12) else match parseDir b (natAt b 0 2) with
    | none => ([], 12)
    | some (l, e) => if e = b.length then (l, 0) else ([], 11)

theorem take_drop_take (b : List UInt8) (a m n : Nat) : (b.drop a).take (m + n) = (b.drop a).take m ++ (b.drop (a + m)).take n := by
  rw [List.take_add, List.drop_drop]
theorem num_natAt {b : List UInt8} {at_ : Nat} {w : Nat} (h1 : 1 ≤ w) (h8 : w ≤ 7) (h : at_ + w ≤ b.length) : num (w : Int) (natAt b at_ w : Int) = (b.drop at_).take w := by
  rw [← i64of_natAt b at_ w h8, natAt]
  exact num_leNat _ _ (by rw [wide_small h1 (by omega), List.length_take, List.length_drop]; omega)
theorem num_natAt8 {b : List UInt8} {at_ : Nat} (h : at_ + 8 ≤ b.length) : num 8 (wrap64 (natAt b at_ 8 : Int)) = (b.drop at_).take 8 := by
  have : wrap64 (natAt b at_ 8 : Int) = i64of (natAt b at_ 8) := wrap64_i64of _
  rw [this, natAt]
  exact num_leNat 8 _ (by rw [List.length_take, List.length_drop]; have : (wide 8).toNat = 8 := by decide
                          omega)
theorem pages_bytes {b : List UInt8} {at_ : Nat} : ∀ {n : Nat}, at_ + 2 * n ≤ b.length → ((pagesAt b at_ n).map (num 2)).flatten = (b.drop at_).take (2 * n)
  | 0, _ => by simp [pagesAt]
  | n + 1, h => by
    rw [pagesAt_succ, List.map_append, List.flatten_append, pages_bytes (n := n) (by omega), Nat.mul_add, take_drop_take]
    simp only [List.map_cons, List.map_nil, List.flatten_cons, List.flatten_nil, List.append_nil]
    rw [show (num 2 (natAt b (at_ + 2 * n) 2 : Int)) = (b.drop (at_ + 2 * n)).take 2 from num_natAt (w := 2) (by decide) (by decide) (by omega)]
theorem entAt_bytes {b : List UInt8} {at_ : Nat} (h : at_ + 16 + 2 * countAt b at_ ≤ b.length) : entBytes (entAt b at_) = (b.drop at_).take (16 + 2 * countAt b at_) := by
  have e1 : num 1 (natAt b at_ 1 : Int) = (b.drop at_).take 1 := num_natAt (w := 1) (by decide) (by decide) (by omega)
  have e2 : num 8 (wrap64 (natAt b (at_ + 1) 8 : Int)) = (b.drop (at_ + 1)).take 8 := num_natAt8 (by omega)
  have e3 : num 1 (natAt b (at_ + 9) 1 : Int) = (b.drop (at_ + 9)).take 1 := num_natAt (w := 1) (by decide) (by decide) (by omega)
  have e4 : num 4 (natAt b (at_ + 10) 4 : Int) = (b.drop (at_ + 10)).take 4 := num_natAt (w := 4) (by decide) (by decide) (by omega)
  have e5 : num 2 (natAt b (at_ + 14) 2 : Int) = (b.drop (at_ + 14)).take 2 := num_natAt (w := 2) (by decide) (by decide) (by omega)
  have e6 := pages_bytes (b := b) (at_ := at_ + 16) (n := countAt b at_) h
  have hl : ((entAt b at_).pages.length : Int) = (natAt b (at_ + 14) 2 : Int) := by simp only [entAt, pagesAt_length]; rfl
  unfold entBytes entHead
  rw [hl]
  simp only [entAt, keyAt]
  rw [e1, e2, e3, e4, e5, e6]
  rw [show 16 + 2 * countAt b at_ = 1 + (8 + (1 + (4 + (2 + 2 * countAt b at_)))) by omega]
  rw [take_drop_take b at_ 1, take_drop_take b (at_ + 1) 8, take_drop_take b (at_ + 1 + 8) 1, take_drop_take b (at_ + 1 + 8 + 1) 4, take_drop_take b (at_ + 1 + 8 + 1 + 4) 2]
  simp only [List.append_assoc]
theorem parseDir_bytes {b : List UInt8} (h2 : 2 ≤ b.length) : ∀ {n : Nat} {l : List DEntry} {e : Nat}, parseDir b n = some (l, e) → (l.map entBytes).flatten = (b.drop 2).take (e - 2)
  | 0, l, e, h => by
    simp only [parseDir, Option.some.injEq, Prod.mk.injEq] at h
    obtain ⟨rfl, rfl⟩ := h
    simp
  | n + 1, l, e, h => by
    unfold parseDir at h
    split at h
    · cases h
    · rename_i l0 a0 h0
      have ih := parseDir_bytes h2 h0
      have ha := parseDir_at h2 h0
      split at h
      · cases h
      · rename_i x e1 h1
        simp only [Option.some.injEq, Prod.mk.injEq] at h
        obtain ⟨rfl, rfl⟩ := h
        unfold parseEnt at h1
        split at h1
        · rename_i hc
          simp only [Option.some.injEq, Prod.mk.injEq] at h1
          obtain ⟨rfl, rfl⟩ := h1
          rw [List.map_append, List.flatten_append, ih]
          simp only [List.map_cons, List.map_nil, List.flatten_cons, List.flatten_nil, List.append_nil]
          rw [entAt_bytes hc.2, show a0 + 16 + 2 * countAt b a0 - 2 = (a0 - 2) + (16 + 2 * countAt b a0) by omega, take_drop_take b 2 (a0 - 2), show 2 + (a0 - 2) = a0 by omega]
        · cases h1
/-- What is got is just what is put. -/
theorem dirGet_put {b : List UInt8} (h : (dirGet b).2 = 0) : dirBytes (dirGet b).1 = b := by
  unfold dirGet at *
  split at h
  · exact absurd h (by decide)
  · rename_i hl
    rw [if_neg hl]
    split at h
    · exact absurd h (by decide)
    · rename_i l e hp
      split at h
      · rename_i he
        simp only [if_pos he]
        have h1 := parseDir_length hp
        have h2 := parseDir_bytes (by omega) hp
        have h3 : num 2 (natAt b 0 2 : Int) = (b.drop 0).take 2 := num_natAt (w := 2) (by decide) (by decide) (by omega)
        unfold dirBytes
        rw [h1, h3, h2, List.drop_zero, he]
        have h4 : (b.drop 2).take (b.length - 2) = b.drop 2 := List.take_of_length_le (by rw [List.length_drop]; exact Nat.le_refl _)
        rw [h4, List.take_append_drop]
      · exact absurd h (by decide)
/-- The head of an entry, number by number. -/
theorem header {b : List UInt8} {at_ : Nat} {r1 r2 r3 r4 r5 : Int × Nat × Bool} (e1 : r1 = rdNum b at_ false 1) (e2 : r2 = rdNum b r1.2.1 r1.2.2 8) (e3 : r3 = rdNum b r2.2.1 r2.2.2 1) (e4 : r4 = rdNum b r3.2.1 r3.2.2 4) (e5 : r5 = rdNum b r4.2.1 r4.2.2 2) :
    (at_ + 16 ≤ b.length ∧ r1.1 = natAt b at_ 1 ∧ r2.1 = i64of (natAt b (at_ + 1) 8) ∧ r3.1 = natAt b (at_ + 9) 1 ∧ r4.1 = natAt b (at_ + 10) 4 ∧ r5 = ((countAt b at_ : Int), at_ + 16, false)) ∨ (¬ at_ + 16 ≤ b.length ∧ r5.1 = 0 ∧ r5.2.2 = true) := by
  have g : ∀ (a : Nat) (w : Nat), 1 ≤ w → w ≤ 8 → rdNum b a false (w : Int) = if a + w ≤ b.length then (i64of (natAt b a w), a + w, false) else (0, a, true) := by
    intro a w h1 h8
    unfold rdNum
    rw [getNum_nat b a h1 h8, wide_small h1 h8]
    by_cases h : a + w ≤ b.length
    · rw [if_pos h, if_pos h]; rfl
    · rw [if_neg h, if_neg h]; rfl
  have t : ∀ (a : Nat) (w : Int), rdNum b a true w = (0, a, true) := fun a w => rfl
  have g1 : rdNum b at_ false 1 = _ := g at_ 1 (by decide) (by decide)
  have g2 : rdNum b (at_ + 1) false 8 = _ := g (at_ + 1) 8 (by decide) (by decide)
  have g3 : rdNum b (at_ + 9) false 1 = _ := g (at_ + 9) 1 (by decide) (by decide)
  have g4 : rdNum b (at_ + 10) false 4 = _ := g (at_ + 10) 4 (by decide) (by decide)
  have g5 : rdNum b (at_ + 14) false 2 = _ := g (at_ + 14) 2 (by decide) (by decide)
  rw [i64of_natAt b at_ 1 (by decide)] at g1
  rw [i64of_natAt b (at_ + 9) 1 (by decide)] at g3
  rw [i64of_natAt b (at_ + 10) 4 (by decide)] at g4
  rw [i64of_natAt b (at_ + 14) 2 (by decide)] at g5
  rw [g1] at e1
  by_cases c1 : at_ + 1 ≤ b.length
  case neg =>
    rw [if_neg c1] at e1; subst e1; simp only [t] at e2; subst e2; simp only [t] at e3; subst e3; simp only [t] at e4; subst e4; simp only [t] at e5; subst e5
    exact .inr ⟨by omega, rfl, rfl⟩
  rw [if_pos c1] at e1
  subst e1
  simp only [g2] at e2
  by_cases c2 : at_ + 1 + 8 ≤ b.length
  case neg =>
    rw [if_neg c2] at e2; subst e2; simp only [t] at e3; subst e3; simp only [t] at e4; subst e4; simp only [t] at e5; subst e5
    exact .inr ⟨by omega, rfl, rfl⟩
  rw [if_pos c2] at e2
  subst e2
  simp only [Nat.add_assoc, Nat.reduceAdd, g3] at e3
  by_cases c3 : at_ + 9 + 1 ≤ b.length
  case neg =>
    rw [if_neg c3] at e3; subst e3; simp only [t] at e4; subst e4; simp only [t] at e5; subst e5
    exact .inr ⟨by omega, rfl, rfl⟩
  rw [if_pos c3] at e3
  subst e3
  simp only [Nat.add_assoc, Nat.reduceAdd, g4] at e4
  by_cases c4 : at_ + 10 + 4 ≤ b.length
  case neg =>
    rw [if_neg c4] at e4; subst e4; simp only [t] at e5; subst e5
    exact .inr ⟨by omega, rfl, rfl⟩
  rw [if_pos c4] at e4
  subst e4
  simp only [Nat.add_assoc, Nat.reduceAdd, g5] at e5
  by_cases c5 : at_ + 14 + 2 ≤ b.length
  case neg =>
    rw [if_neg c5] at e5; subst e5
    exact .inr ⟨by omega, rfl, rfl⟩
  rw [if_pos c5] at e5
  exact .inl ⟨by omega, rfl, rfl, rfl, rfl, e5⟩
end Go.Proofs.Yteljibjbndpncaa
/- The check sum in numbers: as0 the program adds bits from the low end, and as0 the document divides from the high one. No program is named here. -/
namespace Go.Proofs.Yteljibjbndpncaa

def crcBit (s : Nat) : Nat := (s / 2) ^^^ (if s % 2 = 1 then 3988292384 else 0)
def crcBits : Nat → Nat → Nat
  | 0, s => s
  | k + 1, s => crcBit (crcBits k s)
def crcByte (s : Nat) (c : UInt8) : Nat := crcBits 8 (s ^^^ c.toNat)
def crcAdd (s : Nat) (l : List UInt8) : Nat := l.foldl crcByte s
def crcOf (l : List UInt8) : Nat := 4294967295 - crcAdd 4294967295 l

theorem crcBit_lt {s : Nat} (h : s < 4294967296) : crcBit s < 4294967296 := by
  have : s / 2 < 2 ^ 32 := by omega
  unfold crcBit
  split
  · exact Nat.xor_lt_two_pow this (by decide)
  · exact Nat.xor_lt_two_pow this (by decide)
theorem crcBits_lt {s : Nat} (h : s < 4294967296) : ∀ k, crcBits k s < 4294967296
  | 0 => h
  | k + 1 => crcBit_lt (crcBits_lt h k)
theorem byte_lt (c : UInt8) : c.toNat < 256 := c.toNat_lt
theorem crcByte_lt {s : Nat} (h : s < 4294967296) (c : UInt8) : crcByte s c < 4294967296 :=
  crcBits_lt (Nat.xor_lt_two_pow (n := 32) h (by have := byte_lt c; omega)) 8
theorem crcAdd_lt : ∀ {l : List UInt8} {s : Nat}, s < 4294967296 → crcAdd s l < 4294967296
  | [], _, h => h
  | c :: l, _, h => crcAdd_lt (l := l) (crcByte_lt h c)
theorem crcAdd_snoc (s : Nat) (l : List UInt8) (c : UInt8) : crcAdd s (l ++ [c]) = crcByte (crcAdd s l) c := by unfold crcAdd; rw [List.foldl_append]; rfl
theorem crcAdd_append (s : Nat) (l m : List UInt8) : crcAdd s (l ++ m) = crcAdd (crcAdd s l) m := by unfold crcAdd; rw [List.foldl_append]
theorem crcOf_lt (l : List UInt8) : crcOf l < 4294967296 := by unfold crcOf; omega

/-- Turned round: k bits of n, put behind those of o. -/
def turnBits : Nat → Nat → Nat → Nat × Nat
  | 0, n, o => (n, o)
  | k + 1, n, o => let p := turnBits k n o; (p.1 / 2, p.2 * 2 + p.1 % 2)
def turned (n : Nat) : Nat := (turnBits 32 n 0).2

theorem turnBits_fst (n o : Nat) : ∀ k, (turnBits k n o).1 = n / 2 ^ k
  | 0 => by simp [turnBits]
  | k + 1 => by
    show (turnBits k n o).1 / 2 = _
    rw [turnBits_fst n o k, Nat.div_div_eq_div_mul, Nat.pow_succ]
theorem turnBits_lt (n : Nat) : ∀ k, (turnBits k n 0).2 < 2 ^ k
  | 0 => by simp [turnBits]
  | k + 1 => by
    show (turnBits k n 0).2 * 2 + (turnBits k n 0).1 % 2 < _
    have := turnBits_lt n k
    rw [Nat.pow_succ]; omega
theorem turnBits_bit (n : Nat) : ∀ k i, (turnBits k n 0).2.testBit i = (decide (i < k) && n.testBit (k - 1 - i))
  | 0, i => by simp [turnBits]
  | k + 1, 0 => by
    show ((turnBits k n 0).2 * 2 + (turnBits k n 0).1 % 2).testBit 0 = _
    rw [turnBits_fst, Nat.testBit_zero]
    rw [show k + 1 - 1 - 0 = k by omega, Nat.testBit_eq_decide_div_mod_eq]
    simp
  | k + 1, i + 1 => by
    show ((turnBits k n 0).2 * 2 + (turnBits k n 0).1 % 2).testBit (i + 1) = _
    rw [Nat.testBit_succ, show ((turnBits k n 0).2 * 2 + (turnBits k n 0).1 % 2) / 2 = (turnBits k n 0).2 by omega, turnBits_bit n k i]
    rw [show k + 1 - 1 - (i + 1) = k - 1 - i by omega]
    simp
theorem turned_bit (n i : Nat) : (turned n).testBit i = (decide (i < 32) && n.testBit (31 - i)) := turnBits_bit n 32 i
theorem turned_lt (n : Nat) : turned n < 4294967296 := turnBits_lt n 32
theorem turned_xor (a b : Nat) : turned (a ^^^ b) = turned a ^^^ turned b := by
  apply Nat.eq_of_testBit_eq
  intro i
  rw [Nat.testBit_xor, turned_bit, turned_bit, turned_bit, Nat.testBit_xor]
  cases decide (i < 32) <;> simp
theorem turned_zero : turned 0 = 0 := by
  apply Nat.eq_of_testBit_eq
  intro i
  rw [turned_bit]; simp
theorem turned_poly : turned 79764919 = 3988292384 := by decide
theorem turned_ones : turned 4294967295 = 4294967295 := by decide
/-- One bit higher, and what leaves at the top is lost. -/
theorem turned_double (a : Nat) : turned (a * 2 % 4294967296) = turned a / 2 := by
  apply Nat.eq_of_testBit_eq
  intro i
  rw [Nat.testBit_div_two, turned_bit, turned_bit, show (4294967296 : Nat) = 2 ^ 32 by rfl, Nat.testBit_mod_two_pow]
  by_cases h : i + 1 < 32
  · have : 31 - i = (31 - (i + 1)) + 1 := by omega
    rw [this, Nat.testBit_succ, show a * 2 / 2 = a by omega]
    have h1 : i < 32 := by omega
    have h2 : 31 - (i + 1) + 1 < 32 := by omega
    simp [h, h1]
    intro _; omega
  · by_cases h1 : i < 32
    · have : i = 31 := by omega
      subst this
      simp
    · simp [h, h1]
theorem turned_low (a : Nat) (h : a < 4294967296) : turned a % 2 = a / 2147483648 := by
  have := turned_bit a 0
  rw [Nat.testBit_zero] at this
  have h2 : a.testBit 31 = decide (a / 2147483648 = 1) := by
    rw [Nat.testBit_eq_decide_div_mod_eq]
    congr 1; apply propext; omega
  simp [h2] at this
  omega

/-- The document's step: a rest, and what is left of a byte. -/
def restBit (r : Nat) (c : Nat) : Nat := (r * 2 % 4294967296) ^^^ (if r / 2147483648 ≠ c % 2 then 79764919 else 0)
def restBits : Nat → Nat → Nat → Nat
  | 0, r, _ => r
  | k + 1, r, c => restBit (restBits k r c) (c / 2 ^ k)
def restByte (r : Nat) (c : UInt8) : Nat := restBits 8 r c.toNat
def restAdd (r : Nat) (l : List UInt8) : Nat := l.foldl restByte r

theorem restBit_lt (r c : Nat) : restBit r c < 4294967296 := by
  have : r * 2 % 4294967296 < 2 ^ 32 := Nat.mod_lt _ (by decide)
  unfold restBit
  split
  · exact Nat.xor_lt_two_pow this (by decide)
  · exact Nat.xor_lt_two_pow this (by decide)
theorem restBits_lt {r : Nat} (h : r < 4294967296) (c : Nat) : ∀ k, restBits k r c < 4294967296
  | 0 => h
  | _ + 1 => restBit_lt _ _
theorem restByte_lt {r : Nat} (h : r < 4294967296) (c : UInt8) : restByte r c < 4294967296 := restBits_lt h _ 8
theorem restAdd_lt : ∀ {l : List UInt8} {r : Nat}, r < 4294967296 → restAdd r l < 4294967296
  | [], _, h => h
  | c :: l, _, h => restAdd_lt (l := l) (restByte_lt h c)
theorem restAdd_snoc (s : Nat) (l : List UInt8) (c : UInt8) : restAdd s (l ++ [c]) = restByte (restAdd s l) c := by unfold restAdd; rw [List.foldl_append]; rfl

theorem xor_div2 (a b : Nat) : (a ^^^ b) / 2 = a / 2 ^^^ b / 2 := by
  apply Nat.eq_of_testBit_eq
  intro i
  simp [Nat.testBit_div_two, Nat.testBit_xor]
theorem xor_mod2 (a b : Nat) : ((a ^^^ b) % 2 = 1) ↔ ¬ (a % 2 = b % 2) := by
  have h := Nat.testBit_xor a b 0
  simp only [Nat.testBit_zero] at h
  rcases Nat.mod_two_eq_zero_or_one a with ha | ha <;> rcases Nat.mod_two_eq_zero_or_one b with hb | hb <;> simp [ha, hb] at h ⊢ <;> omega

theorem bits_step {r c : Nat} (h : r < 4294967296) : crcBit (turned r ^^^ c) = turned (restBit r c) ^^^ (c / 2) := by
  unfold crcBit restBit
  rw [xor_div2, turned_xor, turned_double]
  have hm := xor_mod2 (turned r) c
  rw [turned_low r h] at hm
  by_cases hc : r / 2147483648 = c % 2
  · rw [if_neg (by rw [hm]; omega), if_neg (by omega), turned_zero]; simp
  · rw [if_pos (by rw [hm]; exact hc), if_pos (by omega), turned_poly]
    rw [Nat.xor_assoc, Nat.xor_assoc, Nat.xor_comm (c / 2)]
theorem bits_all {r : Nat} (h : r < 4294967296) (c : Nat) : ∀ k, crcBits k (turned r ^^^ c) = turned (restBits k r c) ^^^ (c / 2 ^ k)
  | 0 => by simp [crcBits, restBits]
  | k + 1 => by
    show crcBit (crcBits k _) = turned (restBit (restBits k r c) _) ^^^ _
    rw [bits_all h c k, bits_step (restBits_lt h c k), Nat.div_div_eq_div_mul, ← Nat.pow_succ]
theorem byte_all {r : Nat} (h : r < 4294967296) (c : UInt8) : crcByte (turned r) c = turned (restByte r c) := by
  unfold crcByte restByte
  rw [bits_all h, show c.toNat / 2 ^ 8 = 0 by have := byte_lt c; omega, Nat.xor_zero]
theorem add_all : ∀ {l : List UInt8} {r : Nat}, r < 4294967296 → crcAdd (turned r) l = turned (restAdd r l)
  | [], _, _ => rfl
  | c :: l, r, h => by
    show crcAdd (crcByte (turned r) c) l = turned (restAdd (restByte r c) l)
    rw [byte_all h c]
    exact add_all (restByte_lt h c)
theorem crc_same (l : List UInt8) : 4294967295 - turned (restAdd 4294967295 l) = crcOf l := by
  unfold crcOf
  rw [← add_all (by decide), turned_ones]
theorem crc_not {s : Nat} (h : s < 4294967296) : 4294967295 ^^^ s = 4294967295 - s := by
  apply Nat.eq_of_testBit_eq
  intro i
  have h2 := Nat.testBit_two_pow_sub_succ (n := 32) (x := s) h i
  have h3 := Nat.testBit_two_pow_sub_one 32 i
  rw [show 2 ^ 32 - (s + 1) = 4294967295 - s by omega] at h2
  rw [show 2 ^ 32 - 1 = 4294967295 by omega] at h3
  rw [Nat.testBit_xor, h2, h3]
  by_cases hi : i < 32
  · simp [hi]
  · have : s.testBit i = false := Nat.testBit_lt_two_pow (Nat.lt_of_lt_of_le h (Nat.pow_le_pow_right (n := 2) (by omega) (show 32 ≤ i by omega)))
    simp [hi, this]
end Go.Proofs.Yteljibjbndpncaa
