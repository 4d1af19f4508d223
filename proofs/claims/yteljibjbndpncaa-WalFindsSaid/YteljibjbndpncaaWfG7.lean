/- Texts on which the proofs stand: SealMath, RPutConf. No condition is laid on any input. -/
import Derived.Test.YteljibjbndpncaaWfG4
import Derived.Test.YteljibjbndpncaaWfG6
import Derived.Laws.CopyOwn
/- Sealed sectors as0 bytes: the plain law. No program is named here. -/
namespace Go.Proofs.Yteljibjbndpncaa
open Go.RowKit

theorem digit_nat (n k : Nat) : (digit (n : Int) k).toNat = n / 256 ^ k % 256 := by
  have e : ((n : Int) / 2 ^ (8 * k) % 256) = ((n / 256 ^ k % 256 : Nat) : Int) := by
    have e2 : (2 : Int) ^ (8 * k) = ((256 ^ k : Nat) : Int) := by rw [Int.natCast_pow, Int.pow_mul]; rfl
    rw [e2]; rfl
  unfold digit
  rw [e]
  have h : n / 256 ^ k % 256 < 256 := Nat.mod_lt _ (by decide)
  rw [Int.toNat_natCast, UInt8.toNat_ofNat']
  exact Nat.mod_eq_of_lt h
theorem leNat_digits (n : Nat) : ∀ len k, leNat ((List.range' k len).map (digit (n : Int))) = n / 256 ^ k % 256 ^ len
  | 0, k => by simp [leNat, Nat.mod_one]
  | len + 1, k => by
    rw [List.range'_succ, List.map_cons]
    show (digit (n : Int) k).toNat + 256 * leNat _ = _
    rw [leNat_digits n len (k + 1), digit_nat, Nat.pow_succ 256 len, Nat.mul_comm (256 ^ len) 256, Nat.mod_mul, Nat.pow_succ 256 k, ← Nat.div_div_eq_div_mul]
theorem leNat_num {n w : Nat} (h1 : 1 ≤ w) (h8 : w ≤ 8) (h : n < 256 ^ w) : leNat (num (w : Int) (n : Int)) = n := by
  unfold num
  rw [wide_small h1 h8, List.range_eq_range']
  show leNat ((List.range' 0 w).map _) = n
  rw [leNat_digits]
  simp
  exact Nat.mod_eq_of_lt h
theorem num_len {w : Nat} (h1 : 1 ≤ w) (h8 : w ≤ 8) (n : Int) : (num (w : Int) n).length = w := by
  unfold num
  rw [wide_small h1 h8]; simp
theorem num_len1 (n : Int) : (num 1 n).length = 1 := num_len (w := 1) (by decide) (by decide) n
theorem num_len2 (n : Int) : (num 2 n).length = 2 := num_len (w := 2) (by decide) (by decide) n
theorem num_len4 (n : Int) : (num 4 n).length = 4 := num_len (w := 4) (by decide) (by decide) n
theorem num_len8 (n : Int) : (num 8 n).length = 8 := num_len (w := 8) (by decide) (by decide) n
/-- A number, read where it was put. -/
theorem natAt_num {A C : List UInt8} {a n w : Nat} (ha : A.length = a) (h1 : 1 ≤ w) (h8 : w ≤ 8) (h : n < 256 ^ w) : natAt (A ++ (num (w : Int) (n : Int) ++ C)) a w = n := by
  unfold natAt
  rw [← ha, List.drop_left, List.take_append_of_le_length (by rw [num_len h1 h8]; exact Nat.le_refl _), List.take_of_length_le (by rw [num_len h1 h8]; exact Nat.le_refl _)]
  exact leNat_num h1 h8 h

/-- The nearest number from 0 to the highest. -/
def near (n high : Int) : Int := if n < 0 then 0 else if high < n then high else n
theorem near_ge {n high : Int} (h : 0 ≤ high) : 0 ≤ near n high := by unfold near; split <;> (try split) <;> omega
theorem near_le {n high : Int} (h : 0 ≤ high) : near n high ≤ high := by unfold near; split <;> (try split) <;> omega
theorem near_in {n high : Int} (h0 : 0 ≤ n) (h1 : n ≤ high) : near n high = n := by unfold near; rw [if_neg (by omega), if_neg (by omega)]

def maxEpoch : Int := 281474976710656
/-- Just so many bytes. -/
def cutTo (l : List UInt8) (n : Nat) : List UInt8 := l.take n ++ List.replicate (n - l.length) 0
theorem cutTo_length (l : List UInt8) (n : Nat) : (cutTo l n).length = n := by
  unfold cutTo; rw [List.length_append, List.length_take, List.length_replicate]; omega

def sealFront (x : DSeal) : List UInt8 := num 8 (near x.epoch maxEpoch) ++ num 8 (near x.no maxEpoch)
def sealRest (x : DSeal) : List UInt8 :=
  num 1 (near x.kind 255) ++ ([0] ++ (num 2 ((x.body.take 472).length : Int) ++ (cutTo (x.body.take 472) 472 ++ (num 8 (near x.no maxEpoch) ++ num 8 (near x.epoch maxEpoch)))))
def sealBytes (x : DSeal) : List UInt8 := sealFront x ++ (num 4 (crcOf (sealFront x ++ sealRest x) : Int) ++ sealRest x)
theorem sealFront_length (x : DSeal) : (sealFront x).length = 16 := by simp [sealFront, num_len8]
theorem sealRest_length (x : DSeal) : (sealRest x).length = 492 := by simp [sealRest, num_len8, num_len1, num_len2, cutTo_length]
theorem sealBytes_length (x : DSeal) : (sealBytes x).length = 512 := by simp [sealBytes, num_len4, sealFront_length, sealRest_length]

theorem splice_skip {α : Type} {A T X : List α} {k off : Nat} (h : A.length = k) : splice (A ++ T) (k + off) X = A ++ splice T off X := by
  unfold splice
  subst h
  rw [List.take_length_add_append, Nat.add_assoc, List.drop_length_add_append, List.append_assoc]
theorem splice_here {α : Type} {B T X : List α} (h : B.length = X.length) : splice (B ++ T) 0 X = X ++ T := by
  unfold splice
  rw [Nat.zero_add, ← h, List.drop_left]; rfl
theorem splice_part {α : Type} {B C T X : List α} (h : B.length = X.length) : splice ((B ++ C) ++ T) 0 X = (X ++ C) ++ T := by
  rw [List.append_assoc, splice_here h, List.append_assoc]
theorem splice_map {α β : Type} (f : α → β) (L X : List α) (off : Nat) : (splice L off X).map f = splice (L.map f) off (X.map f) := by
  unfold splice; simp

def zeros (n : Nat) : List UInt8 := List.replicate n 0
theorem zeros_length (n : Nat) : (zeros n).length = n := List.length_replicate
theorem zeros_add (a b : Nat) : zeros (a + b) = zeros a ++ zeros b := List.replicate_append_replicate.symm

/-- The steps of the program: each number laid at its place, over zeros; then the body, the stamps once more. -/
def laid1 (x : DSeal) : List UInt8 := splice (zeros 512) 0 (num 8 (near x.epoch maxEpoch))
def laid2 (x : DSeal) : List UInt8 := splice (laid1 x) 8 (num 8 (near x.no maxEpoch))
def laid3 (x : DSeal) : List UInt8 := splice (laid2 x) 20 (num 1 (near x.kind 255))
def laid4 (x : DSeal) : List UInt8 := splice (laid3 x) 22 (num 2 ((x.body.take 472).length : Int))
def laid5 (x : DSeal) : List UInt8 := splice (laid4 x) 24 (x.body.take 472)
def laid6 (x : DSeal) : List UInt8 := splice (laid5 x) 496 (num 8 (near x.no maxEpoch))
def laid7 (x : DSeal) : List UInt8 := splice (laid6 x) 504 (num 8 (near x.epoch maxEpoch))
def laid8 (x : DSeal) : List UInt8 := splice (laid7 x) 16 (num 4 (crcOf ((laid7 x).take 16 ++ (laid7 x).drop 20) : Int))

theorem laid7_is (x : DSeal) : laid7 x = sealFront x ++ (zeros 4 ++ sealRest x) := by
  have z : zeros 512 = zeros 8 ++ (zeros 8 ++ (zeros 4 ++ (zeros 1 ++ (zeros 1 ++ (zeros 2 ++ (zeros 472 ++ (zeros 8 ++ zeros 8))))))) := by
    simp only [← zeros_add]
  have hb : (x.body.take 472).length ≤ 472 := by rw [List.length_take]; omega
  have z2 : zeros 472 = zeros (x.body.take 472).length ++ zeros (472 - (x.body.take 472).length) := by rw [← zeros_add]; congr 1; omega
  have e1 : laid1 x = num 8 (near x.epoch maxEpoch) ++ (zeros 8 ++ (zeros 4 ++ (zeros 1 ++ (zeros 1 ++ (zeros 2 ++ (zeros 472 ++ (zeros 8 ++ zeros 8))))))) := by
    rw [laid1, z, splice_here (by rw [zeros_length, num_len8])]
  have e2 : laid2 x = num 8 (near x.epoch maxEpoch) ++ (num 8 (near x.no maxEpoch) ++ (zeros 4 ++ (zeros 1 ++ (zeros 1 ++ (zeros 2 ++ (zeros 472 ++ (zeros 8 ++ zeros 8))))))) := by
    rw [laid2, e1, show 8 = 8 + 0 from rfl, splice_skip (num_len8 _), splice_here (by rw [zeros_length, num_len8])]
  have e3 : laid3 x = num 8 (near x.epoch maxEpoch) ++ (num 8 (near x.no maxEpoch) ++ (zeros 4 ++ (num 1 (near x.kind 255) ++ (zeros 1 ++ (zeros 2 ++ (zeros 472 ++ (zeros 8 ++ zeros 8))))))) := by
    rw [laid3, e2, show 20 = 8 + (8 + (4 + 0)) from rfl, splice_skip (num_len8 _), splice_skip (num_len8 _), splice_skip (zeros_length _), splice_here (by rw [zeros_length, num_len1])]
  have e4 : laid4 x = num 8 (near x.epoch maxEpoch) ++ (num 8 (near x.no maxEpoch) ++ (zeros 4 ++ (num 1 (near x.kind 255) ++ (zeros 1 ++ (num 2 ((x.body.take 472).length : Int) ++ (zeros 472 ++ (zeros 8 ++ zeros 8))))))) := by
    rw [laid4, e3, show 22 = 8 + (8 + (4 + (1 + (1 + 0)))) from rfl, splice_skip (num_len8 _), splice_skip (num_len8 _), splice_skip (zeros_length _), splice_skip (num_len1 _), splice_skip (zeros_length _), splice_here (by rw [zeros_length, num_len2])]
  have e5 : laid5 x = num 8 (near x.epoch maxEpoch) ++ (num 8 (near x.no maxEpoch) ++ (zeros 4 ++ (num 1 (near x.kind 255) ++ (zeros 1 ++ (num 2 ((x.body.take 472).length : Int) ++ (cutTo (x.body.take 472) 472 ++ (zeros 8 ++ zeros 8))))))) := by
    rw [laid5, e4, show 24 = 8 + (8 + (4 + (1 + (1 + (2 + 0))))) from rfl, splice_skip (num_len8 _), splice_skip (num_len8 _), splice_skip (zeros_length _), splice_skip (num_len1 _), splice_skip (zeros_length _), splice_skip (num_len2 _), z2, splice_part (zeros_length _)]
    rw [cutTo, List.take_take, Nat.min_self]
    rfl
  have hc : (cutTo (x.body.take 472) 472).length = 472 := cutTo_length _ _
  have e6 : laid6 x = num 8 (near x.epoch maxEpoch) ++ (num 8 (near x.no maxEpoch) ++ (zeros 4 ++ (num 1 (near x.kind 255) ++ (zeros 1 ++ (num 2 ((x.body.take 472).length : Int) ++ (cutTo (x.body.take 472) 472 ++ (num 8 (near x.no maxEpoch) ++ zeros 8))))))) := by
    rw [laid6, e5, show 496 = 8 + (8 + (4 + (1 + (1 + (2 + (472 + 0)))))) from rfl, splice_skip (num_len8 _), splice_skip (num_len8 _), splice_skip (zeros_length _), splice_skip (num_len1 _), splice_skip (zeros_length _), splice_skip (num_len2 _), splice_skip hc, splice_here (by rw [zeros_length, num_len8])]
  have e7 : laid7 x = num 8 (near x.epoch maxEpoch) ++ (num 8 (near x.no maxEpoch) ++ (zeros 4 ++ (num 1 (near x.kind 255) ++ (zeros 1 ++ (num 2 ((x.body.take 472).length : Int) ++ (cutTo (x.body.take 472) 472 ++ (num 8 (near x.no maxEpoch) ++ num 8 (near x.epoch maxEpoch)))))))) := by
    rw [laid7, e6, show 504 = 8 + (8 + (4 + (1 + (1 + (2 + (472 + (8 + 0))))))) from rfl, splice_skip (num_len8 _), splice_skip (num_len8 _), splice_skip (zeros_length _), splice_skip (num_len1 _), splice_skip (zeros_length _), splice_skip (num_len2 _), splice_skip hc, splice_skip (num_len8 _)]
    congr 8
  rw [e7, sealFront, sealRest, List.append_assoc]
  rfl
theorem laid7_length (x : DSeal) : (laid7 x).length = 512 := by rw [laid7_is]; simp [sealFront_length, sealRest_length, zeros_length]
theorem laid7_sum (x : DSeal) : (laid7 x).take 16 ++ (laid7 x).drop 20 = sealFront x ++ sealRest x := by
  rw [laid7_is]
  have h1 : (sealFront x ++ (zeros 4 ++ sealRest x)).take 16 = sealFront x := by
    rw [List.take_append_of_le_length (by rw [sealFront_length]; exact Nat.le_refl _), List.take_of_length_le (by rw [sealFront_length]; exact Nat.le_refl _)]
  have h2 : (sealFront x ++ (zeros 4 ++ sealRest x)).drop 20 = sealRest x := by
    rw [← List.append_assoc]
    have : (sealFront x ++ zeros 4).length = 20 := by rw [List.length_append, sealFront_length, zeros_length]
    rw [← this, List.drop_left]
  rw [h1, h2]
theorem laid8_is (x : DSeal) : laid8 x = sealBytes x := by
  rw [laid8, laid7_sum, laid7_is, show 16 = 16 + 0 from rfl, splice_skip (sealFront_length x), splice_here (by rw [zeros_length, num_len4])]
  rfl

/-- What a sector of any bytes would be. -/
def sealRead (b : List UInt8) : DSeal := ⟨i64of (natAt b 0 8), i64of (natAt b 8 8), natAt b 20 1, (b.drop 24).take (natAt b 22 2)⟩
/-- What a sector is. -/
def sealGet (b : List UInt8) : Option DSeal := if b.length = 512 ∧ natAt b 22 2 ≤ 472 ∧ sealBytes (sealRead b) = b then some (sealRead b) else none
/-- The same, as0 the program reads it. -/
def sealRead' (b : List UInt8) : DSeal := ⟨i64of (natAt b 0 8), i64of (natAt b 8 8), natAt b 20 1, (b.drop 24).take (min (natAt b 22 2) 472)⟩
theorem sealBytes_long (x : DSeal) : natAt (sealBytes x) 22 2 = (x.body.take 472).length := by
  have hb : (x.body.take 472).length ≤ 472 := by rw [List.length_take]; omega
  have e : sealBytes x = (sealFront x ++ num 4 (crcOf (sealFront x ++ sealRest x) : Int) ++ num 1 (near x.kind 255) ++ [0]) ++ (num 2 ((x.body.take 472).length : Int) ++ (cutTo (x.body.take 472) 472 ++ (num 8 (near x.no maxEpoch) ++ num 8 (near x.epoch maxEpoch)))) := by
    simp [sealBytes, sealRest]
  rw [e]
  exact natAt_num (w := 2) (by simp [sealFront_length, num_len4, num_len1]) (by decide) (by decide) (by omega)
theorem sealGet_alt {b : List UInt8} (hl : b.length = 512) : sealGet b = if sealBytes (sealRead' b) = b then some (sealRead' b) else none := by
  unfold sealGet
  by_cases h : natAt b 22 2 ≤ 472
  · have e : sealRead' b = sealRead b := by unfold sealRead' sealRead; rw [Nat.min_eq_left h]
    rw [e]
    by_cases h2 : sealBytes (sealRead b) = b
    · rw [if_pos ⟨hl, h, h2⟩, if_pos h2]
    · rw [if_neg (fun c => h2 c.2.2), if_neg h2]
  · rw [if_neg (fun c => h c.2.1), if_neg]
    intro c
    have h3 := sealBytes_long (sealRead' b)
    rw [c] at h3
    have : ((sealRead' b).body.take 472).length ≤ 472 := by rw [List.length_take]; omega
    omega

/-- What was put is got again. -/
def sealNorm (x : DSeal) : DSeal := ⟨near x.epoch maxEpoch, near x.no maxEpoch, near x.kind 255, x.body.take 472⟩
theorem near_near (n : Int) {high : Int} (h : 0 ≤ high) : near (near n high) high = near n high := near_in (near_ge h) (near_le h)
theorem sealBytes_norm (x : DSeal) : sealBytes (sealNorm x) = sealBytes x := by
  have e1 : near (near x.epoch maxEpoch) maxEpoch = near x.epoch maxEpoch := near_near _ (by decide)
  have e2 : near (near x.no maxEpoch) maxEpoch = near x.no maxEpoch := near_near _ (by decide)
  have e3 : near (near x.kind 255) 255 = near x.kind 255 := near_near _ (by decide)
  have e4 : (x.body.take 472).take 472 = x.body.take 472 := by rw [List.take_take, Nat.min_self]
  have f : sealFront (sealNorm x) = sealFront x := by simp only [sealFront, sealNorm, e1, e2]
  have r : sealRest (sealNorm x) = sealRest x := by simp only [sealRest, sealNorm, e1, e2, e3, e4]
  unfold sealBytes; rw [f, r]
theorem sealRead_put (x : DSeal) : sealRead (sealBytes x) = sealNorm x := by
  have g : ∀ n high : Int, 0 ≤ high → ((near n high).toNat : Int) = near n high := fun n high h => Int.toNat_of_nonneg (near_ge h)
  have k1 : (near x.epoch maxEpoch).toNat ≤ 281474976710656 := by have := near_le (n := x.epoch) (high := maxEpoch) (by decide); unfold maxEpoch at *; omega
  have k2 : (near x.no maxEpoch).toNat ≤ 281474976710656 := by have := near_le (n := x.no) (high := maxEpoch) (by decide); unfold maxEpoch at *; omega
  have k3 : (near x.kind 255).toNat ≤ 255 := by have := near_le (n := x.kind) (high := 255) (by decide); omega
  have hb : (x.body.take 472).length ≤ 472 := by rw [List.length_take]; omega
  obtain ⟨C, hC⟩ : ∃ C, C = num 4 (crcOf (sealFront x ++ sealRest x) : Int) := ⟨_, rfl⟩
  have hCl : C.length = 4 := by rw [hC, num_len4]
  have n1 : natAt (sealBytes x) 0 8 = (near x.epoch maxEpoch).toNat := by
    have e : sealBytes x = [] ++ (num 8 (((near x.epoch maxEpoch).toNat : Nat) : Int) ++ (num 8 (near x.no maxEpoch) ++ (C ++ sealRest x))) := by
      rw [g _ _ (by decide), hC]; simp [sealBytes, sealFront]
    rw [e]
    exact natAt_num (w := 8) rfl (by decide) (by decide) (by omega)
  have n2 : natAt (sealBytes x) 8 8 = (near x.no maxEpoch).toNat := by
    have e : sealBytes x = num 8 (near x.epoch maxEpoch) ++ (num 8 (((near x.no maxEpoch).toNat : Nat) : Int) ++ (C ++ sealRest x)) := by
      rw [g _ _ (by decide), hC]; simp [sealBytes, sealFront]
    rw [e]
    exact natAt_num (w := 8) (num_len8 _) (by decide) (by decide) (by omega)
  have n3 : natAt (sealBytes x) 20 1 = (near x.kind 255).toNat := by
    have e : sealBytes x = (sealFront x ++ C) ++ (num 1 (((near x.kind 255).toNat : Nat) : Int) ++ ([0] ++ (num 2 ((x.body.take 472).length : Int) ++ (cutTo (x.body.take 472) 472 ++ (num 8 (near x.no maxEpoch) ++ num 8 (near x.epoch maxEpoch)))))) := by
      rw [g _ _ (by decide), hC]; simp [sealBytes, sealRest]
    rw [e]
    exact natAt_num (w := 1) (by simp [sealFront_length, hCl]) (by decide) (by decide) (by omega)
  have n4 := sealBytes_long x
  have n5 : ((sealBytes x).drop 24).take (x.body.take 472).length = x.body.take 472 := by
    have e : sealBytes x = (sealFront x ++ C ++ num 1 (near x.kind 255) ++ [0] ++ num 2 ((x.body.take 472).length : Int)) ++ (cutTo (x.body.take 472) 472 ++ (num 8 (near x.no maxEpoch) ++ num 8 (near x.epoch maxEpoch))) := by
      rw [hC]; simp [sealBytes, sealRest]
    have l : (sealFront x ++ C ++ num 1 (near x.kind 255) ++ [0] ++ num 2 ((x.body.take 472).length : Int)).length = 24 := by simp [sealFront_length, hCl, num_len1, num_len2]
    rw [e, ← l, List.drop_left, cutTo, List.take_take, Nat.min_self, List.append_assoc, List.take_left]
  unfold sealRead sealNorm
  rw [n1, n2, n3, n4, n5, i64of_small (by omega), i64of_small (by omega), g _ _ (by decide), g _ _ (by decide), g _ _ (by decide)]
theorem sealGet_put (x : DSeal) : sealGet (sealBytes x) = some (sealNorm x) := by
  have hb : (x.body.take 472).length ≤ 472 := by rw [List.length_take]; omega
  unfold sealGet
  rw [sealRead_put, if_pos ⟨sealBytes_length x, by rw [sealBytes_long]; exact hb, sealBytes_norm x⟩]
end Go.Proofs.Yteljibjbndpncaa
/- Walk of the reference's layout as0 bytes. -/
namespace Go.Proofs.Yteljibjbndpncaa
open Go.RowKit

theorem rnum_at {w : World} {width n : Int} {B : Nat} (hB : B ≤ w.heap.size) (hw : (Lit.int .i64 width).wf = true) (hn : (Lit.int .i64 n).wf = true) :
    Calls Try.prog 62 #[.int .i64 width, .int .i64 n] w fun e w' => ∃ u, e = .returned u ∧ Rep.byte.acc 5 B (fun _ => False) w' u (num width n) ∧ Below w.heap.size w w' :=
  (rnum_calls hw hn).mono fun _ _ ⟨u, h1, h2, h3⟩ => ⟨u, h1, Rep.acc_base hB h2, h3⟩
end Go.Proofs.Yteljibjbndpncaa
