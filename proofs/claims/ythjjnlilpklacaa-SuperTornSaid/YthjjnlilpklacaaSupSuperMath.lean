/- Superblocks as sectors: the plain law. No program is named here. -/
import Derived.Test.YthjjnlilpklacaaSupKeyMath
import Derived.Test.YthjjnlilpklacaaSupSealMath
import Derived.Test.YthjjnlilpklacaaSupTearMath
namespace Go.Proofs.Ythjjnlilpklacaa
open Go.RowKit

theorem At2.take {b x : List UInt8} {a : Nat} (h : At2 b a x) : (b.drop a).take x.length = x := by
  obtain ⟨A, C, ha, rfl⟩ := h
  rw [← ha, List.drop_left, List.take_left]
theorem At2.here (x : List UInt8) : At2 x 0 x := ⟨[], [], rfl, by simp⟩

def superHead (x : DSuper) : List UInt8 := num 4 x.log ++ (num 4 x.pages ++ (num 8 x.head ++ (num 8 x.seq ++ num 4 x.long)))
def superBody (x : DSuper) : List UInt8 := superHead x ++ (x.dir.map (num 2)).flatten
def superBytes (x : DSuper) : List UInt8 := sealBytes ⟨x.epoch, x.gen, 3, superBody x⟩
def placeOk (n : Int) : Bool := decide (0 ≤ n) && decide (n ≤ maxEpoch)
def dirIn (n : Int) (l : List Int) : Bool := l.all fun p => decide (0 ≤ p) && decide (p < n)
def superRight (x : DSuper) : Bool :=
  (placeOk x.epoch && placeOk x.gen && placeOk x.head && placeOk x.seq) && (decide (2 ≤ x.log) && decide (x.log ≤ 1024) && decide (4 ≤ x.pages) && decide (x.pages ≤ 1024) && decide (0 ≤ x.long)) &&
    (decide (x.dir.length ≤ 222) && decide ((x.dir.length : Int) = pageCount x.long) && dirIn x.pages x.dir && decide x.dir.Nodup)
/-- What a body tells. -/
def superRead (e n : Int) (b : List UInt8) : DSuper := ⟨e, n, natAt b 0 4, natAt b 4 4, i64of (natAt b 8 8), i64of (natAt b 16 8), natAt b 24 4, pagesAt b 28 ((b.length - 28) / 2)⟩
def superGet (s : List UInt8) : Option DSuper := match sealGet s with
  | none => none
  | some y => if y.kind = 3 ∧ 28 ≤ y.body.length ∧ y.body.length % 2 = 0 ∧ superRight (superRead y.epoch y.no y.body) = true then some (superRead y.epoch y.no y.body) else none
def superNone : DSuper := ⟨0, 0, 0, 0, 0, 0, 0, []⟩
def chooseOf (a b : List UInt8) : Int × Bool := match superGet a, superGet b with
  | none, none => (0, false)
  | none, some _ => (1, true)
  | some x, some y => if x.gen < y.gen then (1, true) else (0, true)
  | some _, none => (0, true)

structure RightSuper (x : DSuper) : Prop where
  epoch : 0 ≤ x.epoch ∧ x.epoch ≤ maxEpoch
  gen : 0 ≤ x.gen ∧ x.gen ≤ maxEpoch
  head : 0 ≤ x.head ∧ x.head ≤ maxEpoch
  seq : 0 ≤ x.seq ∧ x.seq ≤ maxEpoch
  log : 2 ≤ x.log ∧ x.log ≤ 1024
  pages : 4 ≤ x.pages ∧ x.pages ≤ 1024
  long : 0 ≤ x.long
  dir : x.dir.length ≤ 222
  count : (x.dir.length : Int) = pageCount x.long
  all : ∀ p ∈ x.dir, 0 ≤ p ∧ p < x.pages
  once : x.dir.Nodup
theorem superRight_iff {x : DSuper} : superRight x = true ↔ RightSuper x := by
  unfold superRight placeOk dirIn
  simp only [Bool.and_eq_true, decide_eq_true_eq, List.all_eq_true]
  constructor
  · rintro ⟨⟨⟨⟨⟨h1, h2⟩, h3⟩, h4⟩, ⟨⟨⟨h5, h6⟩, h7⟩, h8⟩, h9⟩, ⟨⟨h10, h11⟩, h12⟩, h13⟩
    exact ⟨h1, h2, h3, h4, ⟨h5, h6⟩, ⟨h7, h8⟩, h9, h10, h11, h12, h13⟩
  · rintro ⟨h1, h2, h3, h4, ⟨h5, h6⟩, ⟨h7, h8⟩, h9, h10, h11, h12, h13⟩
    exact ⟨⟨⟨⟨⟨h1, h2⟩, h3⟩, h4⟩, ⟨⟨⟨h5, h6⟩, h7⟩, h8⟩, h9⟩, ⟨⟨h10, h11⟩, h12⟩, h13⟩
theorem RightSuper.short {x : DSuper} (h : RightSuper x) : x.long ≤ 104784 := by
  have h1 := h.dir
  have h2 := h.count
  unfold pageCount at h2
  split at h2 <;> omega
theorem nums2_length (l : List Int) : ((l.map (num 2)).flatten).length = 2 * l.length := by
  induction l with
  | nil => rfl
  | cons x l ih => rw [List.map_cons, List.flatten_cons, List.length_append, ih, num_len2, List.length_cons]; omega
theorem superHead_length (x : DSuper) : (superHead x).length = 28 := by simp [superHead, num_len4, num_len8]
theorem superBody_length (x : DSuper) : (superBody x).length = 28 + 2 * x.dir.length := by
  unfold superBody; rw [List.length_append, superHead_length, nums2_length]
theorem num8_i64of (b : List UInt8) (a : Nat) (h : a + 8 ≤ b.length) : num 8 (i64of (natAt b a 8)) = (b.drop a).take 8 := by
  unfold natAt
  exact num_leNat 8 _ (by rw [List.length_take, List.length_drop]; show min 8 (b.length - a) = 8; omega)
theorem superBody_read {e n : Int} {b : List UInt8} (h28 : 28 ≤ b.length) (he : b.length % 2 = 0) : superBody (superRead e n b) = b := by
  have e1 : num 4 ((natAt b 0 4 : Nat) : Int) = (b.drop 0).take 4 := num_natAt (w := 4) (by decide) (by decide) (by omega)
  have e2 : num 4 ((natAt b 4 4 : Nat) : Int) = (b.drop 4).take 4 := num_natAt (w := 4) (by decide) (by decide) (by omega)
  have e3 := num8_i64of b 8 (by omega)
  have e4 := num8_i64of b 16 (by omega)
  have e5 : num 4 ((natAt b 24 4 : Nat) : Int) = (b.drop 24).take 4 := num_natAt (w := 4) (by decide) (by decide) (by omega)
  have e6 := pages_bytes (b := b) (at_ := 28) (n := (b.length - 28) / 2) (by omega)
  unfold superBody superHead superRead
  simp only
  rw [e1, e2, e3, e4, e5, e6]
  have hk : 2 * ((b.length - 28) / 2) = b.length - 28 := by omega
  rw [hk]
  have t : ∀ a m k : Nat, (b.drop a).take m ++ (b.drop (a + m)).take k = (b.drop a).take (m + k) := fun a m k => (take_drop_take b a m k).symm
  simp only [List.append_assoc]
  have f1 := t 24 4 (b.length - 28)
  have f2 := t 16 8 (4 + (b.length - 28))
  have f3 := t 8 8 (8 + (4 + (b.length - 28)))
  have f4 := t 4 4 (8 + (8 + (4 + (b.length - 28))))
  have f5 := t 0 4 (4 + (8 + (8 + (4 + (b.length - 28)))))
  simp only [Nat.reduceAdd] at f1 f2 f3 f4 f5
  rw [f1, f2, f3, f4, f5]
  rw [List.drop_zero, List.take_of_length_le (by omega)]
theorem sealGet_some {s : List UInt8} {y : DSeal} (h : sealGet s = some y) : s.length = 512 ∧ natAt s 22 2 ≤ 472 ∧ y = sealRead s ∧ sealBytes y = s := by
  unfold sealGet at h
  split at h
  · rename_i hc
    injection h with h
    exact ⟨hc.1, hc.2.1, h.symm, by rw [← h]; exact hc.2.2⟩
  · cases h
theorem seal_body_length {s : List UInt8} {y : DSeal} (h : sealGet s = some y) : y.body.length = natAt s 22 2 ∧ y.body.length ≤ 472 := by
  obtain ⟨h1, h2, rfl, _⟩ := sealGet_some h
  have : ((s.drop 24).take (natAt s 22 2)).length = natAt s 22 2 := by rw [List.length_take, List.length_drop, h1]; omega
  exact ⟨this, by show ((s.drop 24).take (natAt s 22 2)).length ≤ 472; omega⟩
/-- As the reference asks it: put again. -/
theorem super_again {s : List UInt8} {y : DSeal} (h : sealGet s = some y) (hk : y.kind = 3) (h28 : 28 ≤ y.body.length) (hr : superRight (superRead y.epoch y.no y.body) = true) :
    superBytes (superRead y.epoch y.no y.body) = s ↔ y.body.length % 2 = 0 := by
  obtain ⟨h1, h2, h3, h4⟩ := sealGet_some h
  obtain ⟨l1, l2⟩ := seal_body_length h
  constructor
  · intro e
    have hl := sealBytes_long ⟨(superRead y.epoch y.no y.body).epoch, (superRead y.epoch y.no y.body).gen, 3, superBody (superRead y.epoch y.no y.body)⟩
    have hd := (superRight_iff.1 hr).dir
    have hb := superBody_length (superRead y.epoch y.no y.body)
    unfold superBytes at e
    rw [e, List.take_of_length_le (by show (superBody _).length ≤ 472; omega)] at hl
    change natAt s 22 2 = (superBody (superRead y.epoch y.no y.body)).length at hl
    omega
  · intro he
    unfold superBytes
    rw [superBody_read h28 he]
    show sealBytes ⟨y.epoch, y.no, 3, y.body⟩ = s
    rw [← hk]
    exact h4
theorem super_get_put {s : List UInt8} {x : DSuper} (h : superGet s = some x) : superBytes x = s ∧ superRight x = true := by
  unfold superGet at h
  split at h
  · cases h
  · rename_i y hy
    split at h
    · rename_i hc
      injection h with h
      subst h
      exact ⟨(super_again hy hc.1 hc.2.1 hc.2.2.2).2 hc.2.2.1, hc.2.2.2⟩
    · cases h
theorem super_read_put {x : DSuper} (h : RightSuper x) : superRead x.epoch x.gen (superBody x) = x := by
  have hs := h.short
  obtain ⟨epoch, gen, log, pages, head, seq, long, dir⟩ := x
  obtain ⟨h1, h2, h3, h4, h5, h6, h7, h8, h9, h10, h11⟩ := h
  dsimp only at *
  have hm : maxEpoch = 281474976710656 := rfl
  obtain ⟨ln, rfl⟩ : ∃ n : Nat, log = n := ⟨log.toNat, by omega⟩
  obtain ⟨pn, rfl⟩ : ∃ n : Nat, pages = n := ⟨pages.toNat, by omega⟩
  obtain ⟨hn, rfl⟩ : ∃ n : Nat, head = n := ⟨head.toNat, by omega⟩
  obtain ⟨sn, rfl⟩ : ∃ n : Nat, seq = n := ⟨seq.toNat, by omega⟩
  obtain ⟨gn, rfl⟩ : ∃ n : Nat, long = n := ⟨long.toNat, by omega⟩
  have hb : superBody ⟨epoch, gen, ln, pn, hn, sn, gn, dir⟩ = num 4 (ln : Int) ++ (num 4 (pn : Int) ++ (num 8 (hn : Int) ++ (num 8 (sn : Int) ++ (num 4 (gn : Int) ++ (dir.map (num 2)).flatten)))) := by
    unfold superBody superHead
    simp only [List.append_assoc]
  have h0 := At2.here (superBody ⟨epoch, gen, ln, pn, hn, sn, gn, dir⟩)
  have hlen := superBody_length ⟨epoch, gen, ln, pn, hn, sn, gn, dir⟩
  rw [hb] at h0 hlen
  rw [hb]
  generalize hB : num 4 (ln : Int) ++ (num 4 (pn : Int) ++ (num 8 (hn : Int) ++ (num 8 (sn : Int) ++ (num 4 (gn : Int) ++ (dir.map (num 2)).flatten)))) = B at hlen ⊢
  have h0' : At2 B 0 (num 4 (ln : Int) ++ (num 4 (pn : Int) ++ (num 8 (hn : Int) ++ (num 8 (sn : Int) ++ (num 4 (gn : Int) ++ (dir.map (num 2)).flatten))))) := by rw [hB] at h0 ⊢; exact h0
  have p4 : (256 : Nat) ^ 4 = 4294967296 := rfl
  have p8 : (256 : Nat) ^ 8 = 18446744073709551616 := rfl
  have e1 := At2.nat (w := 4) h0'.left (by decide) (by decide) (by omega)
  have g1 := h0'.right (k := 4) (by rw [num_len4])
  have e2 := At2.nat (w := 4) g1.left (by decide) (by decide) (by omega)
  have g2 := g1.right (k := 8) (by rw [num_len4])
  have e3 := At2.nat (w := 8) g2.left (by decide) (by decide) (by omega)
  have g3 := g2.right (k := 16) (by rw [num_len8])
  have e4 := At2.nat (w := 8) g3.left (by decide) (by decide) (by omega)
  have g4 := g3.right (k := 24) (by rw [num_len8])
  have e5 := At2.nat (w := 4) g4.left (by decide) (by decide) (by omega)
  have g5 := g4.right (k := 28) (by rw [num_len4])
  have e6 := pagesAt_put g5 (fun p hp => by have := h10 p hp; omega)
  unfold superRead
  rw [e1, e2, e3, e4, e5, hlen, show (28 + 2 * dir.length - 28) / 2 = dir.length by omega, e6, i64of_small (by omega), i64of_small (by omega)]
/-- A superblock that may be is got again. -/
theorem super_put_get {x : DSuper} (hr : superRight x = true) : superGet (superBytes x) = some x := by
  have h := superRight_iff.1 hr
  have hl := superBody_length x
  have hd := h.dir
  unfold superGet superBytes
  rw [sealGet_put]
  have hn : sealNorm ⟨x.epoch, x.gen, 3, superBody x⟩ = ⟨x.epoch, x.gen, 3, superBody x⟩ := by
    unfold sealNorm
    rw [near_in h.epoch.1 h.epoch.2, near_in h.gen.1 h.gen.2, near_in (n := 3) (by decide) (by decide), List.take_of_length_le (by show (superBody x).length ≤ 472; omega)]
  rw [hn]
  simp only
  rw [super_read_put h, if_pos ⟨trivial, by omega, by omega, hr⟩]

/-- Both stamps of a sector's epoch. -/
def wordOf (n : Int) : Int := if 0 ≤ n ∧ n ≤ maxEpoch then n else -1
def epochsOf (s : List UInt8) : Int × Int := if s.length = 512 then (wordOf (i64of (natAt s 0 8)), wordOf (i64of (natAt s 504 8))) else (-1, -1)
def wordAt (s : List UInt8) (w : Nat) : List UInt8 := (s.drop (8 * w)).take 8
theorem words_eq : ∀ {n : Nat} {X Y : List UInt8} (_ : X.length = 8 * n) (_ : Y.length = 8 * n) (_ : ∀ w, w < n → wordAt X w = wordAt Y w), X = Y
  | 0, X, Y, hx, hy, _ => by rw [List.eq_nil_of_length_eq_zero (l := X) (by omega), List.eq_nil_of_length_eq_zero (l := Y) (by omega)]
  | n + 1, X, Y, hx, hy, h => by
    have h0 := h 0 (by omega)
    unfold wordAt at h0
    rw [Nat.mul_zero, List.drop_zero, List.drop_zero] at h0
    have h1 := words_eq (n := n) (X := X.drop 8) (Y := Y.drop 8) (by rw [List.length_drop]; omega) (by rw [List.length_drop]; omega) (fun w hw => by
      have := h (w + 1) (by omega)
      unfold wordAt at this ⊢
      rw [List.drop_drop, List.drop_drop, show 8 + 8 * w = 8 * (w + 1) by omega]
      exact this)
    rw [← List.take_append_drop 8 X, ← List.take_append_drop 8 Y, h0, h1]
theorem seal_words (x : DSeal) : wordAt (sealBytes x) 0 = num 8 (near x.epoch maxEpoch) ∧ wordAt (sealBytes x) 1 = num 8 (near x.no maxEpoch) ∧ wordAt (sealBytes x) 62 = num 8 (near x.no maxEpoch) ∧ wordAt (sealBytes x) 63 = num 8 (near x.epoch maxEpoch) := by
  obtain ⟨C, hC⟩ : ∃ C, C = num 4 (crcOf (sealFront x ++ sealRest x) : Int) := ⟨_, rfl⟩
  have hCl : C.length = 4 := by rw [hC, num_len4]
  have e : sealBytes x = num 8 (near x.epoch maxEpoch) ++ (num 8 (near x.no maxEpoch) ++ (C ++ (num 1 (near x.kind 255) ++ ([0] ++ (num 2 ((x.body.take 472).length : Int) ++ (cutTo (x.body.take 472) 472 ++ (num 8 (near x.no maxEpoch) ++ num 8 (near x.epoch maxEpoch)))))))) := by
    rw [hC]; simp [sealBytes, sealFront, sealRest]
  have h0 := At2.here (sealBytes x)
  rw [e] at h0
  have h0' : At2 (sealBytes x) 0 (num 8 (near x.epoch maxEpoch) ++ (num 8 (near x.no maxEpoch) ++ (C ++ (num 1 (near x.kind 255) ++ ([0] ++ (num 2 ((x.body.take 472).length : Int) ++ (cutTo (x.body.take 472) 472 ++ (num 8 (near x.no maxEpoch) ++ num 8 (near x.epoch maxEpoch))))))))) := by rw [e]; exact h0
  have g1 := h0'.right (k := 8) (by rw [num_len8])
  have g2 := g1.right (k := 16) (by rw [num_len8])
  have g3 := g2.right (k := 20) (by rw [hCl])
  have g4 := g3.right (k := 21) (by rw [num_len1])
  have g5 := g4.right (k := 22) (by rfl)
  have g6 := g5.right (k := 24) (by rw [num_len2])
  have g7 := g6.right (k := 496) (by rw [cutTo_length])
  have g8 := g7.right (k := 504) (by rw [num_len8])
  have t := fun {a : Nat} {n : Int} (h : At2 (sealBytes x) a (num 8 n)) => h.take
  simp only [num_len8] at t
  exact ⟨t h0'.left, t g1.left, t g7.left, t g8⟩
theorem num8_inj {a b : Int} (ha : 0 ≤ a ∧ a ≤ maxEpoch) (hb : 0 ≤ b ∧ b ≤ maxEpoch) (h : num 8 a = num 8 b) : a = b := by
  have hm : maxEpoch = 281474976710656 := rfl
  have p8 : (256 : Nat) ^ 8 = 18446744073709551616 := rfl
  obtain ⟨n, rfl⟩ : ∃ n : Nat, a = n := ⟨a.toNat, by omega⟩
  obtain ⟨m, rfl⟩ : ∃ n : Nat, b = n := ⟨b.toNat, by omega⟩
  have e1 := leNat_num (w := 8) (n := n) (by decide) (by decide) (by omega)
  have e2 := leNat_num (w := 8) (n := m) (by decide) (by decide) (by omega)
  have h' : num ((8 : Nat) : Int) (n : Int) = num ((8 : Nat) : Int) (m : Int) := h
  rw [h'] at e1
  omega
theorem cutTo_same {l : List UInt8} (h : l.length = 512) : cutTo l 512 = l := by
  unfold cutTo; rw [List.take_of_length_le (by omega), h]; simp
theorem torn_word {a b : List UInt8} (ha : a.length = 512) (hb : b.length = 512) (k : Int) {w : Nat} (hw : w < 64) : wordAt (tearOf a b k) w = if nextWord k w = true then wordAt b w else wordAt a w := by
  unfold wordAt
  rw [tear_word a b k hw, cutTo_same ha, cutTo_same hb]
  split <;> rfl
theorem torn_old {a b : List UInt8} (ha : a.length = 512) (hb : b.length = 512) {k : Int} (h : ∀ w, w < 64 → nextWord k w = true → wordAt b w = wordAt a w) : tearOf a b k = a :=
  words_eq (n := 64) (tear_length a b k) ha fun w hw => by
    rw [torn_word ha hb k hw]
    split
    · rename_i hn; exact h w hw hn
    · rfl
theorem torn_next {a b : List UInt8} (ha : a.length = 512) (hb : b.length = 512) {k : Int} (h : ∀ w, w < 64 → nextWord k w = false → wordAt b w = wordAt a w) : tearOf a b k = b :=
  words_eq (n := 64) (tear_length a b k) hb fun w hw => by
    rw [torn_word ha hb k hw]
    split
    · rfl
    · rename_i hn; exact (h w hw (by simpa using hn)).symm
theorem super_seal {s : List UInt8} {x : DSuper} (h : superGet s = some x) : wordAt s 0 = wordAt s 63 ∧ wordAt s 1 = wordAt s 62 := by
  have := (super_get_put h).1
  unfold superBytes at this
  obtain ⟨w0, w1, w62, w63⟩ := seal_words ⟨x.epoch, x.gen, 3, superBody x⟩
  rw [this] at w0 w1 w62 w63
  exact ⟨w0.trans w63.symm, w1.trans w62.symm⟩
theorem super_words {x : DSuper} (h : RightSuper x) : wordAt (superBytes x) 0 = num 8 x.epoch ∧ wordAt (superBytes x) 1 = num 8 x.gen ∧ wordAt (superBytes x) 62 = num 8 x.gen ∧ wordAt (superBytes x) 63 = num 8 x.epoch := by
  have := seal_words ⟨x.epoch, x.gen, 3, superBody x⟩
  simp only [near_in h.epoch.1 h.epoch.2, near_in h.gen.1 h.gen.2] at this
  exact this
theorem superBytes_length (x : DSuper) : (superBytes x).length = 512 := sealBytes_length _
theorem wordOf_num {s : List UInt8} {w : Nat} {n : Int} (hw : wordAt s w = num 8 n) (hn : 0 ≤ n ∧ n ≤ maxEpoch) : wordOf (i64of (natAt s (8 * w) 8)) = n := by
  have hm : maxEpoch = 281474976710656 := rfl
  have p8 : (256 : Nat) ^ 8 = 18446744073709551616 := rfl
  obtain ⟨m, rfl⟩ : ∃ m : Nat, n = m := ⟨n.toNat, by omega⟩
  have e : natAt s (8 * w) 8 = m := by
    unfold natAt
    unfold wordAt at hw
    rw [hw]
    exact leNat_num (w := 8) (by decide) (by decide) (by omega)
  rw [e, i64of_small (by omega)]
  exact if_pos hn
/-- A part of one over what is of lesser epochs. -/
theorem torn_over {old : List UInt8} {x z : DSuper} {k : Int} (hx : RightSuper x) (hl : old.length = 512) (h1 : (epochsOf old).1 < x.epoch) (h2 : (epochsOf old).2 < x.epoch) (hz : superGet (tearOf old (superBytes x) k) = some z) :
    tearOf old (superBytes x) k = old ∨ tearOf old (superBytes x) k = superBytes x := by
  have hn := superBytes_length x
  obtain ⟨s1, _⟩ := super_seal hz
  rw [torn_word hl hn k (by decide), torn_word hl hn k (by decide)] at s1
  obtain ⟨w0, _, _, w63⟩ := super_words hx
  rw [w0, w63] at s1
  unfold epochsOf at h1 h2
  rw [if_pos hl] at h1 h2
  have f0 : nextWord k 0 = (decide (0 < k) || decide (k ≤ -64)) := by unfold nextWord; rw [Bool.eq_iff_iff]; simp; omega
  have f63 : nextWord k 63 = (decide (64 ≤ k) || decide (k < 0)) := by unfold nextWord; rw [Bool.eq_iff_iff]; simp; omega
  by_cases a0 : nextWord k 0 = true <;> by_cases a63 : nextWord k 63 = true
  · refine .inr (torn_next hl hn fun w hw h => ?_)
    rw [f0] at a0; rw [f63] at a63
    unfold nextWord at h
    simp at a0 a63 h
    omega
  · rw [if_pos a0, if_neg a63] at s1
    have := wordOf_num (w := 63) s1.symm hx.epoch
    simp only [Nat.reduceMul] at this
    omega
  · rw [if_neg a0, if_pos a63] at s1
    have := wordOf_num (w := 0) s1 hx.epoch
    simp only [Nat.mul_zero] at this
    omega
  · refine .inl (torn_old hl hn fun w hw h => ?_)
    rw [f0] at a0; rw [f63] at a63
    unfold nextWord at h
    simp at a0 a63 h
    omega
/-- A part of one over one of the same epoch and another generation. -/
theorem torn_twin {x y z : DSuper} {k : Int} (hx : RightSuper x) (hy : RightSuper y) (he : y.epoch = x.epoch) (hg : y.gen ≠ x.gen) (hz : superGet (tearOf (superBytes y) (superBytes x) k) = some z) :
    tearOf (superBytes y) (superBytes x) k = superBytes y ∨ tearOf (superBytes y) (superBytes x) k = superBytes x := by
  have hn := superBytes_length x
  have hl := superBytes_length y
  obtain ⟨_, s2⟩ := super_seal hz
  rw [torn_word hl hn k (by decide), torn_word hl hn k (by decide)] at s2
  obtain ⟨x0, x1, x62, x63⟩ := super_words hx
  obtain ⟨y0, y1, y62, y63⟩ := super_words hy
  rw [x1, y1, x62, y62] at s2
  have f1 : nextWord k 1 = (decide (1 < k) || decide (k ≤ -63)) := by unfold nextWord; rw [Bool.eq_iff_iff]; simp; omega
  have f62 : nextWord k 62 = (decide (62 < k) || decide (k ≤ -2)) := by unfold nextWord; rw [Bool.eq_iff_iff]; simp; omega
  have hends : ∀ w, w = 0 ∨ w = 63 → wordAt (superBytes x) w = wordAt (superBytes y) w := by
    rintro w (rfl | rfl)
    · rw [x0, y0, he]
    · rw [x63, y63, he]
  by_cases a1 : nextWord k 1 = true <;> by_cases a62 : nextWord k 62 = true
  · refine .inr (torn_next hl hn fun w hw h => hends w ?_)
    rw [f1] at a1; rw [f62] at a62
    unfold nextWord at h
    simp at a1 a62 h
    omega
  · rw [if_pos a1, if_neg a62] at s2
    exact absurd (num8_inj hx.gen hy.gen s2).symm hg
  · rw [if_neg a1, if_pos a62] at s2
    exact absurd (num8_inj hy.gen hx.gen s2) hg
  · refine .inl (torn_old hl hn fun w hw h => hends w ?_)
    rw [f1] at a1; rw [f62] at a62
    unfold nextWord at h
    simp at a1 a62 h
    omega
end Go.Proofs.Ythjjnlilpklacaa
