/- Texts on which the proofs stand: SealMath, KeyMath, KeyHas. No condition is laid on any input. -/
import Derived.Test.YtghbfbohnoebiaaGreatSnG16
import Derived.Laws.CopyOwn
namespace Go.Proofs.YtghbfbohnoebiaaGreat
open Go.RowKit

theorem num_len {w : Nat} (h1 : 1 ≤ w) (h8 : w ≤ 8) (n : Int) : (num (w : Int) n).length = w := by
  unfold num
  rw [wide_small h1 h8]; simp
theorem num_len1 (n : Int) : (num 1 n).length = 1 := num_len (w := 1) (by decide) (by decide) n
theorem num_len2 (n : Int) : (num 2 n).length = 2 := num_len (w := 2) (by decide) (by decide) n
theorem num_len4 (n : Int) : (num 4 n).length = 4 := num_len (w := 4) (by decide) (by decide) n
theorem num_len8 (n : Int) : (num 8 n).length = 8 := num_len (w := 8) (by decide) (by decide) n
/-- The nearest number from 0 to the highest. -/
def near (n high : Int) : Int := if n < 0 then 0 else if high < n then high else n
theorem near_ge {n high : Int} (h : 0 ≤ high) : 0 ≤ near n high := by unfold near; split <;> (try split) <;> omega
theorem near_le {n high : Int} (h : 0 ≤ high) : near n high ≤ high := by unfold near; split <;> (try split) <;> omega
def maxEpoch : Int := 281474976710656
/-- Just so many bytes. -/
def cutTo (l : List UInt8) (n : Nat) : List UInt8 := l.take n ++ List.replicate (n - l.length) 0
theorem cutTo_length (l : List UInt8) (n : Nat) : (cutTo l n).length = n := by
  unfold cutTo; rw [List.length_append, List.length_take, List.length_replicate]; omega

def sealFront (x : DSeal) : List UInt8 := num 8 (near x.epoch maxEpoch) ++ num 8 (near x.no maxEpoch)
def sealRest (x : DSeal) : List UInt8 :=
  num 1 (near x.kind 255) ++ ([0] ++ (num 2 ((x.body.take 472).length : Int) ++ (cutTo (x.body.take 472) 472 ++ (num 8 (near x.no maxEpoch) ++ num 8 (near x.epoch maxEpoch)))))
def sealBytes (x : DSeal) : List UInt8 := sealFront x ++ (num 4 (crcOf (sealFront x ++ sealRest x) : Int) ++ sealRest x)
theorem sealFront_length (x : DSeal) : (sealFront x).length = 16 := by simp [sealFront, num_len8]
theorem sealRest_length (x : DSeal) : (sealRest x).length = 492 := by simp [sealRest, num_len8, num_len1, num_len2, cutTo_length]
theorem sealBytes_length (x : DSeal) : (sealBytes x).length = 512 := by simp [sealBytes, num_len4, sealFront_length, sealRest_length]

theorem splice_skip {α : Type} {A T X : List α} {k off : Nat} (h : A.length = k) : splice (A ++ T) (k + off) X = A ++ splice T off X := by
  unfold splice
  subst h
  rw [List.take_length_add_append, Nat.add_assoc, List.drop_length_add_append, List.append_assoc]
theorem splice_here {α : Type} {B T X : List α} (h : B.length = X.length) : splice (B ++ T) 0 X = X ++ T := by
  unfold splice
  rw [Nat.zero_add, ← h, List.drop_left]; rfl
theorem splice_part {α : Type} {B C T X : List α} (h : B.length = X.length) : splice ((B ++ C) ++ T) 0 X = (X ++ C) ++ T := by
  rw [List.append_assoc, splice_here h, List.append_assoc]
theorem splice_map {α β : Type} (f : α → β) (L X : List α) (off : Nat) : (splice L off X).map f = splice (L.map f) off (X.map f) := by
  unfold splice; simp

def zeros (n : Nat) : List UInt8 := List.replicate n 0
theorem zeros_length (n : Nat) : (zeros n).length = n := List.length_replicate
theorem zeros_add (a b : Nat) : zeros (a + b) = zeros a ++ zeros b := List.replicate_append_replicate.symm

/-- The steps of the program: each number laid at its place, over zeros; then the body, the stamps once more. -/
def laid1 (x : DSeal) : List UInt8 := splice (zeros 512) 0 (num 8 (near x.epoch maxEpoch))
def laid2 (x : DSeal) : List UInt8 := splice (laid1 x) 8 (num 8 (near x.no maxEpoch))
def laid3 (x : DSeal) : List UInt8 := splice (laid2 x) 20 (num 1 (near x.kind 255))
def laid4 (x : DSeal) : List UInt8 := splice (laid3 x) 22 (num 2 ((x.body.take 472).length : Int))
def laid5 (x : DSeal) : List UInt8 := splice (laid4 x) 24 (x.body.take 472)
def laid6 (x : DSeal) : List UInt8 := splice (laid5 x) 496 (num 8 (near x.no maxEpoch))
def laid7 (x : DSeal) : List UInt8 := splice (laid6 x) 504 (num 8 (near x.epoch maxEpoch))
def laid8 (x : DSeal) : List UInt8 := splice (laid7 x) 16 (num 4 (crcOf ((laid7 x).take 16 ++ (laid7 x).drop 20) : Int))

theorem laid7_is (x : DSeal) : laid7 x = sealFront x ++ (zeros 4 ++ sealRest x) := by
  have z : zeros 512 = zeros 8 ++ (zeros 8 ++ (zeros 4 ++ (zeros 1 ++ (zeros 1 ++ (zeros 2 ++ (zeros 472 ++ (zeros 8 ++ zeros 8))))))) := by
    simp only [← zeros_add]
  have hb : (x.body.take 472).length ≤ 472 := by rw [List.length_take]; omega
  have z2 : zeros 472 = zeros (x.body.take 472).length ++ zeros (472 - (x.body.take 472).length) := by rw [← zeros_add]; congr 1; omega
  have e1 : laid1 x = num 8 (near x.epoch maxEpoch) ++ (zeros 8 ++ (zeros 4 ++ (zeros 1 ++ (zeros 1 ++ (zeros 2 ++ (zeros 472 ++ (zeros 8 ++ zeros 8))))))) := by
    rw [laid1, z, splice_here (by rw [zeros_length, num_len8])]
  have e2 : laid2 x = num 8 (near x.epoch maxEpoch) ++ (num 8 (near x.no maxEpoch) ++ (zeros 4 ++ (zeros 1 ++ (zeros 1 ++ (zeros 2 ++ (zeros 472 ++ (zeros 8 ++ zeros 8))))))) := by
    rw [laid2, e1, show 8 = 8 + 0 from rfl, splice_skip (num_len8 _), splice_here (by rw [zeros_length, num_len8])]
  have e3 : laid3 x = num 8 (near x.epoch maxEpoch) ++ (num 8 (near x.no maxEpoch) ++ (zeros 4 ++ (num 1 (near x.kind 255) ++ (zeros 1 ++ (zeros 2 ++ (zeros 472 ++ (zeros 8 ++ zeros 8))))))) := by
    rw [laid3, e2, show 20 = 8 + (8 + (4 + 0)) from rfl, splice_skip (num_len8 _), splice_skip (num_len8 _), splice_skip (zeros_length _), splice_here (by rw [zeros_length, num_len1])]
  have e4 : laid4 x = num 8 (near x.epoch maxEpoch) ++ (num 8 (near x.no maxEpoch) ++ (zeros 4 ++ (num 1 (near x.kind 255) ++ (zeros 1 ++ (num 2 ((x.body.take 472).length : Int) ++ (zeros 472 ++ (zeros 8 ++ zeros 8))))))) := by
    rw [laid4, e3, show 22 = 8 + (8 + (4 + (1 + (1 + 0)))) from rfl, splice_skip (num_len8 _), splice_skip (num_len8 _), splice_skip (zeros_length _), splice_skip (num_len1 _), splice_skip (zeros_length _), splice_here (by rw [zeros_length, num_len2])]
  have e5 : laid5 x = num 8 (near x.epoch maxEpoch) ++ (num 8 (near x.no maxEpoch) ++ (zeros 4 ++ (num 1 (near x.kind 255) ++ (zeros 1 ++ (num 2 ((x.body.take 472).length : Int) ++ (cutTo (x.body.take 472) 472 ++ (zeros 8 ++ zeros 8))))))) := by
    rw [laid5, e4, show 24 = 8 + (8 + (4 + (1 + (1 + (2 + 0))))) from rfl, splice_skip (num_len8 _), splice_skip (num_len8 _), splice_skip (zeros_length _), splice_skip (num_len1 _), splice_skip (zeros_length _), splice_skip (num_len2 _), z2, splice_part (zeros_length _)]
    rw [cutTo, List.take_take, Nat.min_self]
    rfl
  have hc : (cutTo (x.body.take 472) 472).length = 472 := cutTo_length _ _
  have e6 : laid6 x = num 8 (near x.epoch maxEpoch) ++ (num 8 (near x.no maxEpoch) ++ (zeros 4 ++ (num 1 (near x.kind 255) ++ (zeros 1 ++ (num 2 ((x.body.take 472).length : Int) ++ (cutTo (x.body.take 472) 472 ++ (num 8 (near x.no maxEpoch) ++ zeros 8))))))) := by
    rw [laid6, e5, show 496 = 8 + (8 + (4 + (1 + (1 + (2 + (472 + 0)))))) from rfl, splice_skip (num_len8 _), splice_skip (num_len8 _), splice_skip (zeros_length _), splice_skip (num_len1 _), splice_skip (zeros_length _), splice_skip (num_len2 _), splice_skip hc, splice_here (by rw [zeros_length, num_len8])]
  have e7 : laid7 x = num 8 (near x.epoch maxEpoch) ++ (num 8 (near x.no maxEpoch) ++ (zeros 4 ++ (num 1 (near x.kind 255) ++ (zeros 1 ++ (num 2 ((x.body.take 472).length : Int) ++ (cutTo (x.body.take 472) 472 ++ (num 8 (near x.no maxEpoch) ++ num 8 (near x.epoch maxEpoch)))))))) := by
    rw [laid7, e6, show 504 = 8 + (8 + (4 + (1 + (1 + (2 + (472 + (8 + 0))))))) from rfl, splice_skip (num_len8 _), splice_skip (num_len8 _), splice_skip (zeros_length _), splice_skip (num_len1 _), splice_skip (zeros_length _), splice_skip (num_len2 _), splice_skip hc, splice_skip (num_len8 _)]
    congr 8
  rw [e7, sealFront, sealRest, List.append_assoc]
  rfl
theorem laid7_sum (x : DSeal) : (laid7 x).take 16 ++ (laid7 x).drop 20 = sealFront x ++ sealRest x := by
  rw [laid7_is]
  have h1 : (sealFront x ++ (zeros 4 ++ sealRest x)).take 16 = sealFront x := by
    rw [List.take_append_of_le_length (by rw [sealFront_length]; exact Nat.le_refl _), List.take_of_length_le (by rw [sealFront_length]; exact Nat.le_refl _)]
  have h2 : (sealFront x ++ (zeros 4 ++ sealRest x)).drop 20 = sealRest x := by
    rw [← List.append_assoc]
    have : (sealFront x ++ zeros 4).length = 20 := by rw [List.length_append, sealFront_length, zeros_length]
    rw [← this, List.drop_left]
  rw [h1, h2]
theorem laid8_is (x : DSeal) : laid8 x = sealBytes x := by
  rw [laid8, laid7_sum, laid7_is, show 16 = 16 + 0 from rfl, splice_skip (sealFront_length x), splice_here (by rw [zeros_length, num_len4])]
  rfl

end Go.Proofs.YtghbfbohnoebiaaGreat
namespace Go.Proofs.YtghbfbohnoebiaaGreat
open Go.RowKit

def hasSig (s c : Int) : Bool := decide (0 ≤ c) && decide (c < 64) && s.toNat.testBit c.toNat
def keyRight (k : DKey) : Bool :=
  if k.kind = 0 ∨ k.kind = 1 then decide (k.sig = 0) && decide (k.comp = 0)
  else (decide (k.kind = 2) && decide (k.comp = 0)) || (decide (k.kind = 3) && hasSig k.sig k.comp)
def cmpI (a b : Int) : Int := if a < b then -1 else if b < a then 1 else 0
def orI (a b : Int) : Int := if a = 0 then b else a
def keyOrder (a b : DKey) : Int := orI (cmpI (min a.kind 2) (min b.kind 2)) (orI (cmpI a.sig b.sig) (orI (cmpI a.kind b.kind) (cmpI a.comp b.comp)))
/-- What stands at a place of a row of bytes. -/
def At2 (b : List UInt8) (a : Nat) (x : List UInt8) : Prop := ∃ A C, A.length = a ∧ b = A ++ (x ++ C)
theorem At2.left {b x y : List UInt8} {a : Nat} (h : At2 b a (x ++ y)) : At2 b a x := by
  obtain ⟨A, C, h1, h2⟩ := h
  exact ⟨A, y ++ C, h1, by rw [h2, List.append_assoc]⟩
theorem At2.right {b x y : List UInt8} {a k : Nat} (h : At2 b a (x ++ y)) (hk : k = a + x.length) : At2 b k y := by
  obtain ⟨A, C, h1, h2⟩ := h
  exact ⟨A ++ x, C, by rw [List.length_append, h1, hk], by rw [h2, List.append_assoc, List.append_assoc]⟩
theorem At2.le {b x : List UInt8} {a : Nat} (h : At2 b a x) : a + x.length ≤ b.length := by
  obtain ⟨A, C, ha, rfl⟩ := h
  rw [List.length_append, List.length_append, ha]; omega
theorem entBytes_len (x : DEntry) : (entBytes x).length = 16 + 2 * x.pages.length := by
  have : ∀ l : List Int, ((l.map (num 2)).flatten).length = 2 * l.length := by
    intro l
    induction l with
    | nil => rfl
    | cons x l ih => rw [List.map_cons, List.flatten_cons, List.length_append, ih, num_len2, List.length_cons]; omega
  unfold entBytes entHead
  simp only [List.length_append, num_len1, num_len8, num_len4, num_len2, this]
end Go.Proofs.YtghbfbohnoebiaaGreat
namespace Go.Proofs.YtghbfbohnoebiaaGreat
open Go.RowKit

theorem bits_and_u64 {s t : Nat} (hs : s < 18446744073709551616) (ht : t < 18446744073709551616) : bits BinOp.and IntKind.u64 (s : Int) (t : Int) = ((s &&& t : Nat) : Int) := by
  unfold bits
  have e : ((BitVec.ofInt 64 (s : Int) &&& BitVec.ofInt 64 (t : Int) : BitVec 64).toNat) = s &&& t := by
    rw [BitVec.toNat_and, BitVec.toNat_ofInt, BitVec.toNat_ofInt]
    congr 1 <;> omega
  have h : s &&& t < 18446744073709551616 := Nat.lt_of_le_of_lt Nat.and_le_left hs
  have := congrArg (fun n : Nat => IntKind.u64.wrap (n : Int)) e
  exact this.trans (IntWalk.u64_in _ ⟨by omega, by omega⟩)
theorem and_bit (s : Nat) (c : Int) : ((((s &&& bitOf c : Nat) : Int)) != 0) = hasSig (s : Int) c := by
  unfold hasSig bitOf
  by_cases h : 0 ≤ c ∧ c < 64
  · rw [if_pos h, decide_eq_true h.1, decide_eq_true h.2, Int.toNat_natCast]
    cases hb : s.testBit c.toNat
    · have h0 : s &&& 2 ^ c.toNat = 0 := by
        apply Nat.eq_of_testBit_eq
        intro i
        rw [Nat.testBit_and, Nat.testBit_two_pow, Nat.zero_testBit]
        by_cases e : c.toNat = i
        · subst e; rw [hb]; rfl
        · simp [e]
      rw [h0]; rfl
    · have h0 : s &&& 2 ^ c.toNat ≠ 0 := fun e => by
        have := congrArg (fun n => Nat.testBit n c.toNat) e
        simp only [Nat.testBit_and, Nat.testBit_two_pow, Nat.zero_testBit, hb] at this
        simp at this
      have h1 : (((s &&& 2 ^ c.toNat : Nat) : Int) != 0) = true := by rw [bne_iff_ne]; omega
      rw [h1]; rfl
  · rw [if_neg h]
    by_cases h0 : 0 ≤ c
    · have : ¬ c < 64 := fun e => h ⟨h0, e⟩
      simp [this]
    · simp [h0]

/-- bits.Has -/
theorem has_calls {s : Nat} (hs : s < 18446744073709551616) (c : Int) (w : World) : Calls Tryz.prog 149 #[.int .u64 (s : Int), .int .i64 c] w fun e w' => e = .returned (.bool (hasSig (s : Int) c)) ∧ w' = w := by
  have HO := Lib.hid (bits_and_u64 hs (bitOf_lt c))
  have HA := Lib.hid (and_bit s c)
  clear hs
  go_enter Tryz.func149, Tryz.ntmps149
  go_wp2_with (go_at_call 197; refine (bit_calls c _).mono ?_; rintro e w' ⟨rfl, rfl⟩)
  rw [HO.out]
  go_ret
  exact ⟨by rw [HA.out]; rfl, rfl⟩

set_option maxRecDepth 100000 in
set_option maxHeartbeats 1000000 in
/-- flow.Right -/
theorem fright_calls {k : DKey} (h : 0 ≤ k.sig ∧ k.sig < 18446744073709551616) (w : World) : Calls Tryz.prog 98 #[.agg #[.int .i64 k.kind, .int .u64 k.sig, .int .i64 k.comp]] w fun e w' => e = .returned (.bool (keyRight k)) ∧ Below w.heap.size w w' := by
  obtain ⟨n, sg, cp⟩ := k
  obtain ⟨s, rfl⟩ : ∃ s : Nat, sg = s := ⟨sg.toNat, by dsimp only at h; omega⟩
  have HS := Lib.hid (show s < 18446744073709551616 by dsimp only at h; omega)
  dsimp only
  have HB := Lib.hid (show ∀ o, Below w.heap.size w (w.alloc o) from fun o => (Below.refl _ _).alloc (Nat.le_refl _) _)
  clear h
  by_cases h0 : n = 0
  · subst h0
    by_cases h1 : s = 0
    · subst h1
      have HF := Lib.hid (show keyRight ⟨0, (0 : Nat), cp⟩ = (cp == 0) by simp [keyRight, Bool.beq_eq_decide_eq])
      go_enter Tryz.func98, Tryz.ntmps98
      go_wp2_with fail
      go_ret
      exact ⟨by rw [HF.out]; rfl, HB.out _⟩
    · have g1 : ((s : Int) == 0) = false := beq_eq_false_iff_ne.2 (by omega)
      have HF := Lib.hid (show keyRight ⟨0, s, cp⟩ = false by simp [keyRight]; omega)
      clear h1
      go_enter Tryz.func98, Tryz.ntmps98
      go_wp2_with fail
      go_ret
      exact ⟨by rw [HF.out]; rfl, HB.out _⟩
  by_cases h1 : n = 1
  · subst h1
    by_cases h1 : s = 0
    · subst h1
      have HF := Lib.hid (show keyRight ⟨1, (0 : Nat), cp⟩ = (cp == 0) by simp [keyRight, Bool.beq_eq_decide_eq])
      clear h0
      go_enter Tryz.func98, Tryz.ntmps98
      go_wp2_with fail
      go_ret
      exact ⟨by rw [HF.out]; rfl, HB.out _⟩
    · have g1 : ((s : Int) == 0) = false := beq_eq_false_iff_ne.2 (by omega)
      have HF := Lib.hid (show keyRight ⟨1, s, cp⟩ = false by simp [keyRight]; omega)
      clear h1 h0
      go_enter Tryz.func98, Tryz.ntmps98
      go_wp2_with fail
      go_ret
      exact ⟨by rw [HF.out]; rfl, HB.out _⟩
  by_cases h2 : n = 2
  · subst h2
    have HF := Lib.hid (show keyRight ⟨2, s, cp⟩ = (cp == 0) by simp [keyRight, Bool.beq_eq_decide_eq])
    clear h1 h0
    go_enter Tryz.func98, Tryz.ntmps98
    go_wp2_with fail
    go_ret
    exact ⟨by rw [HF.out]; rfl, HB.out _⟩
  by_cases h3 : n = 3
  · subst h3
    have HF := Lib.hid (show keyRight ⟨3, s, cp⟩ = hasSig s cp by simp [keyRight])
    clear h1 h0 h2
    go_enter Tryz.func98, Tryz.ntmps98
    go_wp2_with fail
    refine (has_calls HS.out cp _).mono ?_
    rintro e w2 ⟨rfl, hw⟩
    subst hw
    rw [← HF.out]
    go_wp2_with fail
    go_ret
    exact ⟨rfl, HB.out _⟩
  · have g0 : (n == 0) = false := beq_eq_false_iff_ne.2 h0
    have g1 : (n == 1) = false := beq_eq_false_iff_ne.2 h1
    have g2 : (n == 2) = false := beq_eq_false_iff_ne.2 h2
    have g3 : (n == 3) = false := beq_eq_false_iff_ne.2 h3
    have HF := Lib.hid (show keyRight ⟨n, s, cp⟩ = false by simp [keyRight, h0, h1, h2, h3])
    clear h0 h1 h2 h3
    go_enter Tryz.func98, Tryz.ntmps98
    go_wp2_with fail
    go_ret
    exact ⟨by rw [HF.out]; rfl, HB.out _⟩

end Go.Proofs.YtghbfbohnoebiaaGreat
