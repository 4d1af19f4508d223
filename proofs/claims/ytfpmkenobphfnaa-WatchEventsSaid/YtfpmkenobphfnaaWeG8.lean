/- Texts on which the proofs stand: Mask, Page. No condition is laid on any input. -/
import Derived.Test.YtfpmkenobphfnaaWeG1
import Derived.Test.YtfpmkenobphfnaaWeG7
/- Sets of numbers as0 bits: the plain law, and the walks of the functions on them. -/

namespace Go.Proofs.Ytfpmkenobphfnaa
open Go.RowKit

def bitOf (c : Int) : Nat := if 0 ≤ c ∧ c < 64 then 2 ^ c.toNat else 0
def maskUp : Nat → List Int → Nat
  | 0, _ => 0
  | n + 1, l => maskUp n l + if (n : Int) ∈ l then 2 ^ n else 0
def maskOf (l : List Int) : Nat := maskUp 64 l
theorem maskUp_lt (l : List Int) : ∀ n, maskUp n l < 2 ^ n
  | 0 => by simp [maskUp]
  | n + 1 => by
    have := maskUp_lt l n
    simp only [maskUp, Nat.pow_succ]
    split <;> omega
theorem maskUp_bit (l : List Int) : ∀ n i, (maskUp n l).testBit i = decide (i < n ∧ (i : Int) ∈ l)
  | 0, i => by simp [maskUp]
  | n + 1, i => by
    have ih := maskUp_bit l n i
    have hl := maskUp_lt l n
    unfold maskUp
    by_cases hm : (n : Int) ∈ l
    · rw [if_pos hm, Nat.add_comm]
      rcases Nat.lt_trichotomy i n with h | h | h
      · rw [Nat.testBit_two_pow_add_gt h, ih]; simp [h, Nat.lt_succ_of_lt h]
      · subst h
        rw [Nat.testBit_two_pow_add_eq, Nat.testBit_lt_two_pow hl]; simp [hm]
      · have h1 : (2 ^ n + maskUp n l).testBit i = false := Nat.testBit_lt_two_pow (Nat.lt_of_lt_of_le (show 2 ^ n + maskUp n l < 2 ^ (n + 1) by rw [Nat.pow_succ]; omega) (Nat.pow_le_pow_right (by decide) (by omega)))
        rw [h1]; symm; rw [decide_eq_false_iff_not]; omega
    · rw [if_neg hm, Nat.add_zero, ih, decide_eq_decide]
      constructor
      · rintro ⟨h1, h2⟩; exact ⟨by omega, h2⟩
      · rintro ⟨h1, h2⟩
        refine ⟨?_, h2⟩
        rcases Nat.lt_or_ge i n with h | h
        · exact h
        · have : i = n := by omega
          subst this; exact absurd h2 hm
theorem bitOf_bit (c : Int) (i : Nat) : (bitOf c).testBit i = decide (i < 64 ∧ (i : Int) = c) := by
  unfold bitOf
  split
  · rename_i h
    rw [Nat.testBit_two_pow, decide_eq_decide]
    constructor
    · intro e; omega
    · intro e; omega
  · rename_i h
    rw [Nat.zero_testBit]; symm; rw [decide_eq_false_iff_not]; omega
theorem maskOf_snoc (l : List Int) (c : Int) : maskOf (l ++ [c]) = maskOf l ||| bitOf c := by
  apply Nat.eq_of_testBit_eq
  intro i
  rw [Nat.testBit_or, maskOf, maskOf, maskUp_bit, maskUp_bit, bitOf_bit, ← Bool.decide_or, decide_eq_decide, List.mem_append, List.mem_singleton]
  constructor
  · rintro ⟨h, h1 | h1⟩
    · exact .inl ⟨h, h1⟩
    · exact .inr ⟨h, h1⟩
  · rintro (⟨h, h1⟩ | ⟨h, h1⟩)
    · exact ⟨h, .inl h1⟩
    · exact ⟨h, .inr h1⟩
theorem maskOf_lt (l : List Int) : maskOf l < 18446744073709551616 := maskUp_lt l 64
theorem bitOf_lt (c : Int) : bitOf c < 18446744073709551616 := by
  unfold bitOf
  split
  · rename_i h; exact Nat.lt_of_lt_of_le (Nat.pow_lt_pow_right (by decide) (show c.toNat < 64 by omega)) (by decide)
  · decide
theorem bits_or_u64 {s t : Nat} (hs : s < 18446744073709551616) (ht : t < 18446744073709551616) : bits BinOp.or IntKind.u64 (s : Int) (t : Int) = ((s ||| t : Nat) : Int) := by
  unfold bits
  have e : ((BitVec.ofInt 64 (s : Int) ||| BitVec.ofInt 64 (t : Int) : BitVec 64).toNat) = s ||| t := by
    rw [BitVec.toNat_or, BitVec.toNat_ofInt, BitVec.toNat_ofInt]
    congr 1 <;> omega
  have h : s ||| t < 18446744073709551616 := Nat.or_lt_two_pow (n := 64) hs ht
  have := congrArg (fun n : Nat => IntKind.u64.wrap (n : Int)) e
  exact this.trans (IntWalk.u64_in _ ⟨by omega, by omega⟩)

/-- bits.bit -/
theorem bit_calls (c : Int) (w : World) : Calls Try.prog 221 #[.int .i64 c] w fun e w' => e = .returned (.int .u64 (bitOf c : Nat)) ∧ w' = w := by
  by_cases h : 0 ≤ c ∧ c < 64
  · obtain ⟨k, rfl⟩ : ∃ k : Nat, c = k := ⟨c.toNat, by omega⟩
    have hk : k < 64 := by omega
    have hb : bitOf (k : Int) = 2 ^ k := by unfold bitOf; rw [if_pos h]; simp
    have HB := Lib.hid hb
    have n1 : (k : Int) < 64 := h.2
    have HP := Lib.hid (bitOf_lt k)
    have HV := Lib.hid (show IntKind.u64.wrap ((2 : Int) ^ k) = ((bitOf k : Nat) : Int) by
      have h1 : ((2 : Int) ^ k) = ((2 ^ k : Nat) : Int) := by simp
      rw [h1, hb]
      have := bitOf_lt k
      rw [hb] at this
      exact IntWalk.u64_in _ ⟨by omega, by omega⟩)
    clear h hb
    go_enter Try.func221, Try.ntmps221
    go_wp2_with fail
    rw [HV.out]
    go_ret
    exact ⟨rfl, rfl⟩
  · have hb : bitOf c = 0 := by unfold bitOf; rw [if_neg h]
    have HB := Lib.hid hb
    clear hb
    by_cases h0 : c < 0
    · clear h
      go_enter Try.func221, Try.ntmps221
      go_wp2_with fail
      go_ret
      exact ⟨by rw [HB.out]; rfl, rfl⟩
    · have h1 : (64 : Int) ≤ c := by omega
      clear h
      go_enter Try.func221, Try.ntmps221
      go_wp2_with fail
      go_ret
      exact ⟨by rw [HB.out]; rfl, rfl⟩

/-- bits.With -/
theorem with_calls {s : Nat} (hs : s < 18446744073709551616) (c : Int) (w : World) : Calls Try.prog 195 #[.int .u64 (s : Int), .int .i64 c] w fun e w' => e = .returned (.int .u64 ((s ||| bitOf c : Nat) : Int)) ∧ w' = w := by
  have HO := Lib.hid (bits_or_u64 hs (bitOf_lt c))
  clear hs
  go_enter Try.func195, Try.ntmps195
  go_wp2_with (go_at_call 221; refine (bit_calls c _).mono ?_; rintro e w' ⟨rfl, rfl⟩)
  rw [HO.out]
  go_ret
  exact ⟨rfl, rfl⟩
end Go.Proofs.Ytfpmkenobphfnaa
/- Walks of the functions on pages: how many, in pieces. -/
namespace Go.Proofs.Ytfpmkenobphfnaa
open Go.RowKit

def pageCount (n : Int) : Int := if n < 1 then 0 else (n - 1) / 472 + 1

/-- page.Count -/
theorem count_calls (n : Int) (w : World) (h1 : -9223372036854775808 ≤ n) (h2 : n ≤ 9223372036854775807) :
    Calls Try.prog 83 #[.int .i64 n] w fun e w' => e = .returned (.int .i64 (pageCount n)) ∧ w' = w := by
  by_cases h : n < 1
  · have hf : pageCount n = 0 := by rw [pageCount, if_pos h]
    have HF := Lib.hid hf
    clear hf
    go_enter Try.func83, Try.ntmps83
    go_wp2_with fail
    go_ret
    exact ⟨by rw [HF.out]; rfl, rfl⟩
  · have hf : pageCount n = (n - 1) / 472 + 1 := by rw [pageCount, if_neg h]
    have HF := Lib.hid hf
    clear hf
    go_enter Try.func83, Try.ntmps83
    go_wp2_with fail
    go_ret
    exact ⟨by rw [HF.out]; rfl, rfl⟩

/-- ref20.Count -/
theorem rcount_calls (n : Int) (w : World) (h1 : -9223372036854775808 ≤ n) (h2 : n ≤ 9223372036854775807) :
    Calls Try.prog 106 #[.int .i64 n] w fun e w' => e = .returned (.int .i64 (pageCount n)) ∧ w' = w := by
  by_cases h : n < 1
  · have hf : pageCount n = 0 := by rw [pageCount, if_pos h]
    have HF := Lib.hid hf
    clear hf
    go_enter Try.func106, Try.ntmps106
    go_wp2_with fail
    go_ret
    exact ⟨by rw [HF.out]; rfl, rfl⟩
  · have hf : pageCount n = (n - 1) / 472 + 1 := by rw [pageCount, if_neg h]
    have HF := Lib.hid hf
    clear hf
    by_cases hk : n / 472 * 472 < n
    · have hg : n / 472 + 1 = (n - 1) / 472 + 1 := by omega
      have HG := Lib.hid hg
      clear hg
      go_enter Try.func106, Try.ntmps106
      go_wp2_with fail
      go_ret
      exact ⟨by rw [HF.out, ← HG.out]; rfl, rfl⟩
    · have hg : n / 472 = (n - 1) / 472 + 1 := by omega
      have HG := Lib.hid hg
      clear hg
      go_enter Try.func106, Try.ntmps106
      go_wp2_with fail
      go_ret
      exact ⟨by rw [HF.out, ← HG.out]; rfl, rfl⟩

/-- The pieces. -/
def piece (l : List UInt8) (i : Nat) : List UInt8 := (l.drop (472 * i)).take 472
def pieces (l : List UInt8) (n : Nat) : List (List UInt8) := (List.range n).map (piece l)
def cut (l : List UInt8) : List (List UInt8) := pieces l ((l.length + 471) / 472)

theorem pieces_succ (l : List UInt8) (n : Nat) : pieces l (n + 1) = pieces l n ++ [piece l n] := by simp [pieces, List.range_succ]

set_option maxRecDepth 4000 in
set_option maxHeartbeats 1000000 in
/-- ref20.Cut -/
theorem rcut_calls {Q0 : Nat → Prop} {w : World} {v : Value} {l : List UInt8} (hx : Rep.byte.list.val Q0 w v l) (hl : l.length ≤ 1000000) :
    Calls Try.prog 45 #[v] w (Res Rep.byte.list.list (fun b => (Q0 b ∧ b < w.heap.size) ∨ w.heap.size ≤ b) w (cut l)) := by
  obtain ⟨Q, hQ⟩ : ∃ Q : Nat → Prop, Q = fun b => Q0 b ∧ b < w.heap.size := ⟨_, rfl⟩
  have hQl : ∀ b, Q b → b < w.heap.size := by rw [hQ]; exact fun b h => h.2
  replace hx : Rep.byte.list.val Q w v l := Rep.val_keep (fun b hb hl => ⟨by rw [hQ]; exact ⟨hb, hl.lt⟩, rfl⟩) hx
  obtain ⟨A, c, rfl, hc1, hc2, hA⟩ := Rep.val_list hx
  clear hx
  unfold maxLen at hc2
  have HQ := Lib.hid hQ
  clear hQ
  have hbnd : ∀ k, 472 * k ≤ l.length + 472 → (pieces l k).length + 1 ≤ maxLen ∧ ((pieces l k).length + 1) * 24 ≤ 140737488355328 := fun k hk => by simp [pieces, maxLen]; omega
  have HB := Lib.hid hbnd
  clear hbnd
  go_enter Try.func45, Try.ntmps45
  go_wp2_with fail
  go_loopw [0, 3] (fun b s wr => ∃ (k m : Nat) (A' : Option Addr) (c' : Nat), b = .slice A' m c' ∧ Hid (m + 472 * k = l.length) ∧ m ≤ c' ∧ c' ≤ 9223372036854775807 ∧ Rep.byte.At Q wr A' (l.drop (472 * k)) ∧
    Rep.byte.list.acc 36 w.heap.size Q wr s (pieces l k) ∧ Below w.heap.size w wr) (fun b _ _ => (match b with | .slice _ n _ => n | _ => 0))
  case atStart => exact ⟨0, l.length, A, c, rfl, by simp [Hid], by omega, by omega, by simpa using hA, Rep.acc_nil, Below.refl _ _⟩
  case round =>
    obtain ⟨k, m, A', c', rfl, hk, hc', hm', hA', hacc, hbel⟩ := hrel
    have hown := Rep.acc_own hacc
    have hba : w.heap.size ≤ wr.heap.size := hbel.size
    have hne : ∀ b, Q b → u3.ownBlock ≠ some b := fun b hb he => by have := (hown b he).1; have := hQl b hb; omega
    have HN := Lib.hid hne
    have HO := Lib.hid hown
    clear hne hown
    by_cases hlt : 472 < m
    · have hlt' : (472 : Int) < (m : Int) := by omega
      obtain ⟨b, off, rfl⟩ := hA'.addr (by rw [List.length_drop]; have := hk.out; omega)
      have hy : Rep.byte.list.val (fun b' => Q b' ∧ u3.ownBlock ≠ some b') wr (.slice (some ⟨b, off, none⟩) 472 c') (piece l k) :=
        Rep.list_val (by simp [piece]; have := hk.out; omega) (by omega) (by unfold maxLen; omega) ((hA'.take 472).keep fun b hb _ => ⟨⟨hb, HN.out b hb⟩, rfl⟩)
      obtain ⟨h63, hby⟩ := HB.out k (by have := hk.out; omega)
      go_wp2_with (refine wpList_snoc (e := 36) (base := w.heap.size) (Q := Q) (r := Rep.byte.list) rfl rfl _ _ 30 _ rfl rfl rfl (.slice none 0 0) 1 24 Try.underlying30 info22 rfl (by decide) rfl _ (pieces l k) hacc (piece l k) _ (by exact rfl) hy (by exact rfl) (by exact rfl) h63 hby hba ?_; intro s' w' hacc' hgr hat)
      refine ⟨⟨k + 1, m - 472, _, c' - 472, rfl, ?_, by omega, by omega, ?_, by rw [pieces_succ]; exact hacc', hbel.grown hgr hba fun k hk => (HO.out k hk).1⟩, by show m - 472 < m; omega⟩
      · have := hk.out; unfold Hid; omega
      · have := (hA'.drop (n := 472) (by rw [List.length_drop]; have := hk.out; omega)).grown hgr HN.out
        rw [List.drop_drop] at this
        exact this
    · have hge : ¬ (472 : Int) < (m : Int) := by omega
      have hlen := hk.out
      rcases Nat.eq_zero_or_pos m with h0 | h0
      · subst h0
        have hcut : cut l = pieces l k := by rw [cut]; congr 1; omega
        have HC := Lib.hid hcut
        clear hcut hlen
        go_wp2_with fail
        go_ret
        refine ⟨_, rfl, ?_, hbel⟩
        rw [HC.out]
        refine Rep.val_mono (fun b hb _ => ?_) (Rep.acc_val hacc)
        rcases hb with hb | hb
        · have := HQ.out ▸ hb; exact .inl this
        · exact .inr (HO.out b hb).1
      · have h0' : (0 : Int) < (m : Int) := by omega
        have hcut : cut l = pieces l k ++ [piece l k] := by rw [cut, ← pieces_succ]; congr 1; omega
        have hpc : piece l k = l.drop (472 * k) := by rw [piece, List.take_of_length_le (by rw [List.length_drop]; omega)]
        have hy : Rep.byte.list.val (fun b' => Q b' ∧ u3.ownBlock ≠ some b') wr (.slice A' m c') (piece l k) := by
          rw [hpc]
          exact Rep.list_val (by rw [List.length_drop]; omega) (by omega) (by unfold maxLen; omega) (hA'.keep fun b hb _ => ⟨⟨hb, HN.out b hb⟩, rfl⟩)
        obtain ⟨h63, hby⟩ := HB.out k (by omega)
        have HC := Lib.hid hcut
        clear hcut hlen hpc
        go_wp2_with (refine wpList_snoc (e := 36) (base := w.heap.size) (Q := Q) (r := Rep.byte.list) rfl rfl _ _ 30 _ rfl rfl rfl (.slice none 0 0) 1 24 Try.underlying30 info22 rfl (by decide) rfl _ (pieces l k) hacc (piece l k) _ (by exact rfl) hy (by exact rfl) (by exact rfl) h63 hby hba ?_; intro s' w' hacc' hgr hat)
        go_ret
        refine ⟨_, rfl, ?_, hbel.grown hgr hba fun k hk => (HO.out k hk).1⟩
        rw [HC.out]
        refine Rep.val_mono (fun b hb _ => ?_) (Rep.acc_val hacc')
        rcases hb with hb | hb
        · have := HQ.out ▸ hb; exact .inl this
        · exact .inr (Rep.acc_own hacc' b hb).1
end Go.Proofs.Ytfpmkenobphfnaa
