/- Texts on which the proofs stand: KeyMath, KeyHas. No condition is laid on any input. -/
import Derived.Test.YtfpmkenobphfnaaWeG3
import Derived.Test.YtfpmkenobphfnaaWeG6
import Derived.Test.YtfpmkenobphfnaaWeG8
import Derived.Test.YtfpmkenobphfnaaWeSealMath
/- Keys, and directories, that may be: the plain law. No program is named here. -/
namespace Go.Proofs.Ytfpmkenobphfnaa
open Go.RowKit

def hasSig (s c : Int) : Bool := decide (0 ≤ c) && decide (c < 64) && s.toNat.testBit c.toNat
def keyRight (k : DKey) : Bool :=
  if k.kind = 0 ∨ k.kind = 1 then decide (k.sig = 0) && decide (k.comp = 0)
  else (decide (k.kind = 2) && decide (k.comp = 0)) || (decide (k.kind = 3) && hasSig k.sig k.comp)
def cmpI (a b : Int) : Int := if a < b then -1 else if b < a then 1 else 0
def orI (a b : Int) : Int := if a = 0 then b else a
def keyOrder (a b : DKey) : Int := orI (cmpI (min a.kind 2) (min b.kind 2)) (orI (cmpI a.sig b.sig) (orI (cmpI a.kind b.kind) (cmpI a.comp b.comp)))
def keyROrder (a b : DKey) : Int :=
  if a = b then 0 else if a.kind < 2 ∨ b.kind < 2 then (if a.kind < b.kind then -1 else 1)
  else if a.sig < b.sig ∨ (a.sig = b.sig ∧ (a.kind < b.kind ∨ (a.kind = b.kind ∧ a.comp < b.comp))) then -1 else 1
theorem keyRight_cases {k : DKey} (h : keyRight k = true) : (0 ≤ k.kind ∧ k.kind ≤ 1 ∧ k.sig = 0 ∧ k.comp = 0) ∨ (k.kind = 2 ∧ k.comp = 0) ∨ (k.kind = 3 ∧ 0 ≤ k.comp ∧ k.comp < 64) := by
  unfold keyRight at h
  split at h
  · rename_i e
    simp only [Bool.and_eq_true, decide_eq_true_eq] at h
    exact .inl ⟨by omega, by omega, h⟩
  · rename_i e
    simp only [Bool.or_eq_true, Bool.and_eq_true, decide_eq_true_eq, hasSig] at h
    rcases h with h | h
    · exact .inr (.inl h)
    · exact .inr (.inr ⟨h.1, h.2.1.1, h.2.1.2⟩)
theorem order_less {a b : DKey} (ha : keyRight a = true) (hb : keyRight b = true) : keyOrder a b < 0 ↔ keyROrder a b = -1 := by
  have h1 := keyRight_cases ha
  have h2 := keyRight_cases hb
  obtain ⟨k1, s1, c1⟩ := a
  obtain ⟨k2, s2, c2⟩ := b
  unfold keyOrder keyROrder cmpI orI
  simp only [DKey.mk.injEq] at *
  by_cases e : k1 = k2 ∧ s1 = s2 ∧ c1 = c2
  · obtain ⟨rfl, rfl, rfl⟩ := e
    simp
  · rw [if_neg e]
    repeat' split
    all_goals first | omega | (exfalso; omega) | skip
/-- One entry, and the one ahead of it. -/
def entOk (l : List DEntry) (i : Nat) : Bool := match l[i]? with
  | none => true
  | some x => keyRight x.key && (decide (i = 0) || (match l[i - 1]? with
    | none => true
    | some y => decide (keyROrder y.key x.key = -1))) && decide (0 ≤ x.long) && decide ((x.pages.length : Int) = pageCount x.long)
def allPages (l : List DEntry) : List Int := (l.map (·.pages)).flatten
def pagesOk (n : Int) (l : List Int) : Bool := l.all (fun p => decide (0 ≤ p) && decide (p < n)) && decide l.Nodup
def dirRight (c : DConf) (l : List DEntry) : Bool := confRight c && (List.range l.length).all (entOk l) && pagesOk c.pages (allPages l)
theorem allPages_succ {l : List DEntry} {k : Nat} (hk : k < l.length) : allPages (l.take (k + 1)) = allPages (l.take k) ++ l[k].pages := by
  unfold allPages
  rw [List.take_succ_eq_append_getElem hk, List.map_append, List.flatten_append]
  simp

/-- What stands at a place of a row of bytes. -/
def At2 (b : List UInt8) (a : Nat) (x : List UInt8) : Prop := ∃ A C, A.length = a ∧ b = A ++ (x ++ C)
theorem At2.left {b x y : List UInt8} {a : Nat} (h : At2 b a (x ++ y)) : At2 b a x := by
  obtain ⟨A, C, h1, h2⟩ := h
  exact ⟨A, y ++ C, h1, by rw [h2, List.append_assoc]⟩
theorem At2.right {b x y : List UInt8} {a k : Nat} (h : At2 b a (x ++ y)) (hk : k = a + x.length) : At2 b k y := by
  obtain ⟨A, C, h1, h2⟩ := h
  exact ⟨A ++ x, C, by rw [List.length_append, h1, hk], by rw [h2, List.append_assoc, List.append_assoc]⟩
theorem At2.nat {b : List UInt8} {a w n : Nat} (h : At2 b a (num (w : Int) (n : Int))) (h1 : 1 ≤ w) (h8 : w ≤ 8) (hn : n < 256 ^ w) : natAt b a w = n := by
  obtain ⟨A, C, ha, rfl⟩ := h
  exact natAt_num ha h1 h8 hn
theorem At2.le {b x : List UInt8} {a : Nat} (h : At2 b a x) : a + x.length ≤ b.length := by
  obtain ⟨A, C, ha, rfl⟩ := h
  rw [List.length_append, List.length_append, ha]; omega
theorem num8_wrap (n : Int) : num 8 (wrap64 n) = num 8 n := by
  unfold num
  apply List.map_congr_left
  intro k hk
  have h8 : (wide 8).toNat = 8 := by decide
  have hk8 : k < 8 := by have := List.mem_range.1 hk; omega
  unfold digit
  rw [← u64_digit (wrap64 n) k hk8, ← u64_digit n k hk8]
  have : wrap64 n % 18446744073709551616 = n % 18446744073709551616 := by unfold wrap64; omega
  rw [this]
theorem pagesAt_put {b : List UInt8} : ∀ {ps : List Int} {a : Nat}, At2 b a (ps.map (num 2)).flatten → (∀ p ∈ ps, 0 ≤ p ∧ p < 65536) → pagesAt b a ps.length = ps := by
  intro ps a h hp
  apply List.ext_getElem?
  intro i
  by_cases hi : i < ps.length
  · have hpi := hp _ (List.getElem_mem hi)
    have hs : ps = ps.take i ++ (ps[i] :: ps.drop (i + 1)) := by rw [List.getElem_cons_drop, List.take_append_drop]
    have hl : (((ps.take i).map (num 2)).flatten).length = 2 * i := by
      have : ∀ l : List Int, ((l.map (num 2)).flatten).length = 2 * l.length := by
        intro l
        induction l with
        | nil => rfl
        | cons x l ih => rw [List.map_cons, List.flatten_cons, List.length_append, ih, num_len2, List.length_cons]; omega
      rw [this, List.length_take]; omega
    rw [hs, List.map_append, List.flatten_append, List.map_cons, List.flatten_cons] at h
    have h2 := (h.right (k := a + 2 * i) (by rw [hl])).left
    obtain ⟨n, hn⟩ : ∃ n : Nat, ps[i] = n := ⟨ps[i].toNat, by omega⟩
    rw [hn] at h2
    have h3 := At2.nat (w := 2) h2 (by decide) (by decide) (Nat.lt_of_lt_of_le (show n < 65536 by omega) (by decide))
    unfold pagesAt
    rw [List.getElem?_map, List.getElem?_range hi, List.getElem?_eq_getElem hi]
    show some ((natAt b (a + 2 * i) 2 : Nat) : Int) = _
    rw [h3, hn]
  · rw [List.getElem?_eq_none (by rw [pagesAt_length]; omega), List.getElem?_eq_none (by omega)]
/-- An entry that its bytes tell. -/
structure FitsEnt (x : DEntry) : Prop where
  kind : 0 ≤ x.key.kind ∧ x.key.kind < 256
  sig : 0 ≤ x.key.sig ∧ x.key.sig < 18446744073709551616
  comp : 0 ≤ x.key.comp ∧ x.key.comp < 256
  long : 0 ≤ x.long ∧ x.long < 4294967296
  count : x.pages.length < 65536
  pages : ∀ p ∈ x.pages, 0 ≤ p ∧ p < 65536
theorem entBytes_len (x : DEntry) : (entBytes x).length = 16 + 2 * x.pages.length := by
  have : ∀ l : List Int, ((l.map (num 2)).flatten).length = 2 * l.length := by
    intro l
    induction l with
    | nil => rfl
    | cons x l ih => rw [List.map_cons, List.flatten_cons, List.length_append, ih, num_len2, List.length_cons]; omega
  unfold entBytes entHead
  simp only [List.length_append, num_len1, num_len8, num_len4, num_len2, this]
theorem parseEnt_put {b : List UInt8} {a : Nat} {x : DEntry} (h : At2 b a (entBytes x)) (hf : FitsEnt x) : parseEnt b a = some (x, a + 16 + 2 * x.pages.length) := by
  have hle := h.le
  rw [entBytes_len] at hle
  obtain ⟨⟨kind, sig, comp⟩, long, pages⟩ := x
  obtain ⟨h1, h2, h3, h4, h5, h6⟩ := hf
  dsimp only at *
  obtain ⟨kn, rfl⟩ : ∃ n : Nat, kind = n := ⟨kind.toNat, by omega⟩
  obtain ⟨sn, rfl⟩ : ∃ n : Nat, sig = n := ⟨sig.toNat, by omega⟩
  obtain ⟨cn, rfl⟩ : ∃ n : Nat, comp = n := ⟨comp.toNat, by omega⟩
  obtain ⟨ln, rfl⟩ : ∃ n : Nat, long = n := ⟨long.toNat, by omega⟩
  have hb : entBytes ⟨⟨kn, sn, cn⟩, ln, pages⟩ = num 1 (kn : Int) ++ (num 8 (sn : Int) ++ (num 1 (cn : Int) ++ (num 4 (ln : Int) ++ (num 2 (pages.length : Int) ++ (pages.map (num 2)).flatten)))) := by
    unfold entBytes entHead
    simp only [num8_wrap, List.append_assoc]
  rw [hb] at h
  have p1 : (256 : Nat) ^ 1 = 256 := rfl
  have p2 : (256 : Nat) ^ 2 = 65536 := rfl
  have p4 : (256 : Nat) ^ 4 = 4294967296 := rfl
  have p8 : (256 : Nat) ^ 8 = 18446744073709551616 := rfl
  have e1 := At2.nat (w := 1) h.left (by decide) (by decide) (by omega)
  have g1 := h.right (k := a + 1) (by rw [num_len1])
  have e2 := At2.nat (w := 8) g1.left (by decide) (by decide) (by omega)
  have g2 := g1.right (k := a + 9) (by rw [num_len8])
  have e3 := At2.nat (w := 1) g2.left (by decide) (by decide) (by omega)
  have g3 := g2.right (k := a + 10) (by rw [num_len1])
  have e4 := At2.nat (w := 4) g3.left (by decide) (by decide) (by omega)
  have g4 := g3.right (k := a + 14) (by rw [num_len4])
  have e5 := At2.nat (w := 2) g4.left (by decide) (by decide) (by omega)
  have g5 := g4.right (k := a + 16) (by rw [num_len2])
  have e6 := pagesAt_put g5 h6
  have hc : countAt b a = pages.length := e5
  unfold parseEnt
  rw [hc, if_pos ⟨by omega, by omega⟩]
  unfold entAt keyAt
  rw [hc, e1, e2, e3, e4, e6]
theorem parseDir_put {b : List UInt8} {l : List DEntry} (h : At2 b 2 (l.map entBytes).flatten) (hf : ∀ x ∈ l, FitsEnt x) : ∀ k, k ≤ l.length → parseDir b k = some (l.take k, 2 + ((l.take k).map entBytes).flatten.length)
  | 0, _ => rfl
  | k + 1, hk => by
    have ih := parseDir_put h hf k (by omega)
    have hk' : k < l.length := by omega
    have hs : l = l.take k ++ (l[k] :: l.drop (k + 1)) := by rw [List.getElem_cons_drop, List.take_append_drop]
    have h' := h
    rw [hs, List.map_append, List.flatten_append, List.map_cons, List.flatten_cons] at h'
    have h2 := parseEnt_put (h'.right rfl).left (hf _ (List.getElem_mem hk'))
    unfold parseDir
    rw [ih]
    simp only [h2]
    rw [List.take_succ_eq_append_getElem hk', List.map_append, List.flatten_append, List.length_append]
    simp only [List.map_cons, List.map_nil, List.flatten_cons, List.flatten_nil, List.append_nil, entBytes_len]
    congr 2
    omega
/-- Entries that are put are got again. -/
theorem dir_get_put {l : List DEntry} (hn : l.length < 65536) (hf : ∀ x ∈ l, FitsEnt x) : dirGet (dirBytes l) = (l, 0) := by
  have hd : dirBytes l = num 2 (l.length : Int) ++ (l.map entBytes).flatten := rfl
  have h0 : At2 (dirBytes l) 0 (num 2 (l.length : Int) ++ (l.map entBytes).flatten) := ⟨[], [], rfl, by rw [hd]; simp⟩
  have e1 := At2.nat (w := 2) h0.left (by decide) (by decide) (Nat.lt_of_lt_of_le hn (by decide))
  have g := h0.right (k := 2) (by rw [num_len2])
  have hp := parseDir_put g hf l.length (Nat.le_refl _)
  rw [List.take_length] at hp
  have hlen : (dirBytes l).length = 2 + (l.map entBytes).flatten.length := by rw [hd, List.length_append, num_len2]
  unfold dirGet
  rw [if_neg (by omega), e1, hp]
  simp only
  rw [if_pos hlen.symm]
theorem right_fits {c : DConf} {l : List DEntry} (h : dirRight c l = true) (hp : c.pages ≤ 1024) (hs : ∀ x ∈ l, 0 ≤ x.key.sig ∧ x.key.sig < 18446744073709551616 ∧ x.long < 4294967296 ∧ x.pages.length < 65536) : ∀ x ∈ l, FitsEnt x := by
  intro x hx
  unfold dirRight pagesOk at h
  simp only [Bool.and_eq_true, List.all_eq_true, decide_eq_true_eq] at h
  obtain ⟨⟨_, h1⟩, h2, _⟩ := h
  obtain ⟨i, hi, rfl⟩ := List.getElem_of_mem hx
  have h3 := h1 i (List.mem_range.2 hi)
  unfold entOk at h3
  rw [List.getElem?_eq_getElem hi] at h3
  simp only [Bool.and_eq_true, decide_eq_true_eq] at h3
  obtain ⟨⟨⟨k1, _⟩, k2⟩, _⟩ := h3
  obtain ⟨s1, s2, s3, s4⟩ := hs _ hx
  have hk := keyRight_cases k1
  refine ⟨by omega, ⟨s1, s2⟩, by omega, ⟨k2, s3⟩, s4, fun p hp' => ?_⟩
  have := h2 p (by unfold allPages; exact List.mem_flatten.2 ⟨_, List.mem_map.2 ⟨_, hx, rfl⟩, hp'⟩)
  omega
end Go.Proofs.Ytfpmkenobphfnaa
/- Walks: whether a set has a number; whether a key may be. -/
namespace Go.Proofs.Ytfpmkenobphfnaa
open Go.RowKit

theorem bits_and_u64 {s t : Nat} (hs : s < 18446744073709551616) (ht : t < 18446744073709551616) : bits BinOp.and IntKind.u64 (s : Int) (t : Int) = ((s &&& t : Nat) : Int) := by
  unfold bits
  have e : ((BitVec.ofInt 64 (s : Int) &&& BitVec.ofInt 64 (t : Int) : BitVec 64).toNat) = s &&& t := by
    rw [BitVec.toNat_and, BitVec.toNat_ofInt, BitVec.toNat_ofInt]
    congr 1 <;> omega
  have h : s &&& t < 18446744073709551616 := Nat.lt_of_le_of_lt Nat.and_le_left hs
  have := congrArg (fun n : Nat => IntKind.u64.wrap (n : Int)) e
  exact this.trans (IntWalk.u64_in _ ⟨by omega, by omega⟩)
theorem and_bit (s : Nat) (c : Int) : ((((s &&& bitOf c : Nat) : Int)) != 0) = hasSig (s : Int) c := by
  unfold hasSig bitOf
  by_cases h : 0 ≤ c ∧ c < 64
  · rw [if_pos h, decide_eq_true h.1, decide_eq_true h.2, Int.toNat_natCast]
    cases hb : s.testBit c.toNat
    · have h0 : s &&& 2 ^ c.toNat = 0 := by
        apply Nat.eq_of_testBit_eq
        intro i
        rw [Nat.testBit_and, Nat.testBit_two_pow, Nat.zero_testBit]
        by_cases e : c.toNat = i
        · subst e; rw [hb]; rfl
        · simp [e]
      rw [h0]; rfl
    · have h0 : s &&& 2 ^ c.toNat ≠ 0 := fun e => by
        have := congrArg (fun n => Nat.testBit n c.toNat) e
        simp only [Nat.testBit_and, Nat.testBit_two_pow, Nat.zero_testBit, hb] at this
        simp at this
      have h1 : (((s &&& 2 ^ c.toNat : Nat) : Int) != 0) = true := by rw [bne_iff_ne]; omega
      rw [h1]; rfl
  · rw [if_neg h]
    by_cases h0 : 0 ≤ c
    · have : ¬ c < 64 := fun e => h ⟨h0, e⟩
      simp [this]
    · simp [h0]

/-- bits.Has -/
theorem has_calls {s : Nat} (hs : s < 18446744073709551616) (c : Int) (w : World) : Calls Try.prog 165 #[.int .u64 (s : Int), .int .i64 c] w fun e w' => e = .returned (.bool (hasSig (s : Int) c)) ∧ w' = w := by
  have HO := Lib.hid (bits_and_u64 hs (bitOf_lt c))
  have HA := Lib.hid (and_bit s c)
  clear hs
  go_enter Try.func165, Try.ntmps165
  go_wp2_with (go_at_call 221; refine (bit_calls c _).mono ?_; rintro e w' ⟨rfl, rfl⟩)
  rw [HO.out]
  go_ret
  exact ⟨by rw [HA.out]; rfl, rfl⟩

theorem half_up (s k : Nat) : s / 2 ^ k / 2 = s / 2 ^ (k + 1) := by rw [Nat.div_div_eq_div_mul, Nat.pow_succ]
theorem testBit_half (s k : Nat) : ((((s / 2 ^ k % 2 : Nat)) : Int) == 1) = s.testBit k := by
  rw [Nat.testBit_eq_decide_div_mod_eq]
  by_cases h : s / 2 ^ k % 2 = 1
  · rw [h]; rfl
  · rw [decide_eq_false h]
    rw [beq_eq_false_iff_ne]
    omega

set_option maxRecDepth 100000 in
set_option maxHeartbeats 1000000 in
/-- ref05.Has -/
theorem rhas_calls {s : Nat} (hs : s < 18446744073709551616) (c : Int) (w : World) : Calls Try.prog 166 #[.int .u64 (s : Int), .int .i64 c] w fun e w' => e = .returned (.bool (hasSig (s : Int) c)) ∧ w' = w := by
  by_cases h0 : c < 0
  · have HF := Lib.hid (show hasSig (s : Int) c = false by unfold hasSig; rw [decide_eq_false (show ¬ 0 ≤ c by omega)]; rfl)
    go_enter Try.func166, Try.ntmps166
    go_wp2_with fail
    go_ret
    exact ⟨by rw [HF.out]; rfl, rfl⟩
  by_cases h1 : 63 < c
  · have HF := Lib.hid (show hasSig (s : Int) c = false by unfold hasSig; rw [decide_eq_false (show ¬ c < 64 by omega)]; simp)
    go_enter Try.func166, Try.ntmps166
    go_wp2_with fail
    go_ret
    exact ⟨by rw [HF.out]; rfl, rfl⟩
  obtain ⟨n, rfl⟩ : ∃ n : Nat, c = n := ⟨c.toNat, by omega⟩
  have HF := Lib.hid (show hasSig (s : Int) (n : Int) = s.testBit n by unfold hasSig; rw [decide_eq_true (show (0 : Int) ≤ n by omega), decide_eq_true (show (n : Int) < 64 by omega)]; simp)
  have HS := Lib.hid hs
  clear hs
  go_enter Try.func166, Try.ntmps166
  go_wp2_with fail
  go_loop [0, 5] (fun a i => ∃ (k m : Nat), i = .int .i64 k ∧ k ≤ n ∧ a = .int .u64 m ∧ Hid (m = s / 2 ^ k) ∧ (m : Int) < 18446744073709551616) (fun _ i => n - (intOf i).toNat)
  case atStart => exact ⟨0, s, rfl, Nat.zero_le _, rfl, Lib.hid (by simp), by have := HS.out; omega⟩
  case round =>
    obtain ⟨k, m, rfl, hk, rfl, hm, hlt⟩ := hrel
    by_cases hkn : (k : Int) < n
    · have HM := Lib.hid (show m / 2 = s / 2 ^ (k + 1) by rw [hm.out]; exact half_up s k)
      have H2 := Lib.hid (show ((m / 2 : Nat) : Int) = (m : Int) / 2 by omega)
      go_wp2_with fail
      exact ⟨⟨k + 1, m / 2, by go_num, by omega, by rw [H2.out], HM, by omega⟩, by simp [intOf]; omega⟩
    · obtain rfl : k = n := by omega
      have HT := Lib.hid (testBit_half s k)
      have H2 := Lib.hid (show (m : Int) % 2 = ((s / 2 ^ k % 2 : Nat) : Int) by rw [hm.out]; omega)
      go_wp2_with fail
      go_ret
      exact ⟨by rw [HF.out, ← HT.out, ← H2.out]; rfl, rfl⟩

set_option maxRecDepth 100000 in
set_option maxHeartbeats 1000000 in
/-- flow.Right -/
theorem fright_calls {k : DKey} (h : 0 ≤ k.sig ∧ k.sig < 18446744073709551616) (w : World) : Calls Try.prog 102 #[.agg #[.int .i64 k.kind, .int .u64 k.sig, .int .i64 k.comp]] w fun e w' => e = .returned (.bool (keyRight k)) ∧ Below w.heap.size w w' := by
  obtain ⟨n, sg, cp⟩ := k
  obtain ⟨s, rfl⟩ : ∃ s : Nat, sg = s := ⟨sg.toNat, by dsimp only at h; omega⟩
  have HS := Lib.hid (show s < 18446744073709551616 by dsimp only at h; omega)
  dsimp only
  have HB := Lib.hid (show ∀ o, Below w.heap.size w (w.alloc o) from fun o => (Below.refl _ _).alloc (Nat.le_refl _) _)
  clear h
  by_cases h0 : n = 0
  · subst h0
    by_cases h1 : s = 0
    · subst h1
      have HF := Lib.hid (show keyRight ⟨0, (0 : Nat), cp⟩ = (cp == 0) by simp [keyRight, Bool.beq_eq_decide_eq])
      go_enter Try.func102, Try.ntmps102
      go_wp2_with fail
      go_ret
      exact ⟨by rw [HF.out]; rfl, HB.out _⟩
    · have g1 : ((s : Int) == 0) = false := beq_eq_false_iff_ne.2 (by omega)
      have HF := Lib.hid (show keyRight ⟨0, s, cp⟩ = false by simp [keyRight]; omega)
      clear h1
      go_enter Try.func102, Try.ntmps102
      go_wp2_with fail
      go_ret
      exact ⟨by rw [HF.out]; rfl, HB.out _⟩
  by_cases h1 : n = 1
  · subst h1
    by_cases h1 : s = 0
    · subst h1
      have HF := Lib.hid (show keyRight ⟨1, (0 : Nat), cp⟩ = (cp == 0) by simp [keyRight, Bool.beq_eq_decide_eq])
      clear h0
      go_enter Try.func102, Try.ntmps102
      go_wp2_with fail
      go_ret
      exact ⟨by rw [HF.out]; rfl, HB.out _⟩
    · have g1 : ((s : Int) == 0) = false := beq_eq_false_iff_ne.2 (by omega)
      have HF := Lib.hid (show keyRight ⟨1, s, cp⟩ = false by simp [keyRight]; omega)
      clear h1 h0
      go_enter Try.func102, Try.ntmps102
      go_wp2_with fail
      go_ret
      exact ⟨by rw [HF.out]; rfl, HB.out _⟩
  by_cases h2 : n = 2
  · subst h2
    have HF := Lib.hid (show keyRight ⟨2, s, cp⟩ = (cp == 0) by simp [keyRight, Bool.beq_eq_decide_eq])
    clear h1 h0
    go_enter Try.func102, Try.ntmps102
    go_wp2_with fail
    go_ret
    exact ⟨by rw [HF.out]; rfl, HB.out _⟩
  by_cases h3 : n = 3
  · subst h3
    have HF := Lib.hid (show keyRight ⟨3, s, cp⟩ = hasSig s cp by simp [keyRight])
    clear h1 h0 h2
    go_enter Try.func102, Try.ntmps102
    go_wp2_with fail
    refine (has_calls HS.out cp _).mono ?_
    rintro e w2 ⟨rfl, hw⟩
    subst hw
    rw [← HF.out]
    go_wp2_with fail
    go_ret
    exact ⟨rfl, HB.out _⟩
  · have g0 : (n == 0) = false := beq_eq_false_iff_ne.2 h0
    have g1 : (n == 1) = false := beq_eq_false_iff_ne.2 h1
    have g2 : (n == 2) = false := beq_eq_false_iff_ne.2 h2
    have g3 : (n == 3) = false := beq_eq_false_iff_ne.2 h3
    have HF := Lib.hid (show keyRight ⟨n, s, cp⟩ = false by simp [keyRight, h0, h1, h2, h3])
    clear h0 h1 h2 h3
    go_enter Try.func102, Try.ntmps102
    go_wp2_with fail
    go_ret
    exact ⟨by rw [HF.out]; rfl, HB.out _⟩

set_option maxRecDepth 100000 in
set_option maxHeartbeats 1000000 in
/-- ref22.Right -/
theorem rkright_calls {k : DKey} (h : 0 ≤ k.sig ∧ k.sig < 18446744073709551616) (w : World) : Calls Try.prog 104 #[.agg #[.int .i64 k.kind, .int .u64 k.sig, .int .i64 k.comp]] w fun e w' => e = .returned (.bool (keyRight k)) ∧ Below w.heap.size w w' := by
  obtain ⟨n, sg, cp⟩ := k
  obtain ⟨s, rfl⟩ : ∃ s : Nat, sg = s := ⟨sg.toNat, by dsimp only at h; omega⟩
  have HS := Lib.hid (show s < 18446744073709551616 by dsimp only at h; omega)
  dsimp only
  have HB := Lib.hid (show ∀ o, Below w.heap.size w (w.alloc o) from fun o => (Below.refl _ _).alloc (Nat.le_refl _) _)
  clear h
  by_cases h0 : n = 0
  · subst h0
    by_cases h1 : s = 0
    · subst h1
      have HF := Lib.hid (show keyRight ⟨0, (0 : Nat), cp⟩ = (cp == 0) by simp [keyRight, Bool.beq_eq_decide_eq])
      go_enter Try.func104, Try.ntmps104
      go_wp2_with fail
      go_ret
      exact ⟨by rw [HF.out]; rfl, HB.out _⟩
    · have g1 : ((s : Int) == 0) = false := beq_eq_false_iff_ne.2 (by omega)
      have HF := Lib.hid (show keyRight ⟨0, s, cp⟩ = false by simp [keyRight]; omega)
      clear h1
      go_enter Try.func104, Try.ntmps104
      go_wp2_with fail
      go_ret
      exact ⟨by rw [HF.out]; rfl, HB.out _⟩
  by_cases h1 : n = 1
  · subst h1
    by_cases h1 : s = 0
    · subst h1
      have HF := Lib.hid (show keyRight ⟨1, (0 : Nat), cp⟩ = (cp == 0) by simp [keyRight, Bool.beq_eq_decide_eq])
      clear h0
      go_enter Try.func104, Try.ntmps104
      go_wp2_with fail
      go_ret
      exact ⟨by rw [HF.out]; rfl, HB.out _⟩
    · have g1 : ((s : Int) == 0) = false := beq_eq_false_iff_ne.2 (by omega)
      have HF := Lib.hid (show keyRight ⟨1, s, cp⟩ = false by simp [keyRight]; omega)
      clear h1 h0
      go_enter Try.func104, Try.ntmps104
      go_wp2_with fail
      go_ret
      exact ⟨by rw [HF.out]; rfl, HB.out _⟩
  by_cases h2 : n = 2
  · subst h2
    by_cases hc : cp = 0
    · subst hc
      have HF := Lib.hid (show keyRight ⟨2, s, 0⟩ = true by simp [keyRight])
      clear h1 h0
      go_enter Try.func104, Try.ntmps104
      go_wp2_with fail
      go_ret
      exact ⟨by rw [HF.out]; rfl, HB.out _⟩
    · have g1 : (cp == 0) = false := beq_eq_false_iff_ne.2 hc
      have HF := Lib.hid (show keyRight ⟨2, s, cp⟩ = false by simp [keyRight, hc])
      clear h1 h0 hc
      go_enter Try.func104, Try.ntmps104
      go_wp2_with fail
      go_ret
      exact ⟨by rw [HF.out]; rfl, HB.out _⟩
  by_cases h3 : n = 3
  · subst h3
    have HF := Lib.hid (show keyRight ⟨3, s, cp⟩ = hasSig s cp by simp [keyRight])
    clear h1 h0 h2
    go_enter Try.func104, Try.ntmps104
    go_wp2_with fail
    refine (rhas_calls HS.out cp _).mono ?_
    rintro e w2 ⟨rfl, hw⟩
    subst hw
    rw [← HF.out]
    go_wp2_with fail
    go_ret
    exact ⟨rfl, HB.out _⟩
  · have g0 : (n == 0) = false := beq_eq_false_iff_ne.2 h0
    have g1 : (n == 1) = false := beq_eq_false_iff_ne.2 h1
    have g2 : (n == 2) = false := beq_eq_false_iff_ne.2 h2
    have g3 : (n == 3) = false := beq_eq_false_iff_ne.2 h3
    have HF := Lib.hid (show keyRight ⟨n, s, cp⟩ = false by simp [keyRight, h0, h1, h2, h3])
    clear h0 h1 h2 h3
    go_enter Try.func104, Try.ntmps104
    go_wp2_with fail
    go_ret
    exact ⟨by rw [HF.out]; rfl, HB.out _⟩
end Go.Proofs.Ytfpmkenobphfnaa
