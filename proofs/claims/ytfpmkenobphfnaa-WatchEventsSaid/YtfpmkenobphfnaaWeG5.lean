/- Texts on which the proofs stand: NumMath, Get, RGet. No condition is laid on any input. -/
import Derived.Test.YtfpmkenobphfnaaWeG2
import Derived.BigQuiet
import Derived.Deep.QuietTactic
/- Numbers as0 bytes, read back: the plain law. No program is named here. -/
namespace Go.Proofs.Ytfpmkenobphfnaa
open Go.RowKit

/-- The number that bytes are, the lowest first. -/
def leNat : List UInt8 → Nat
  | [] => 0
  | c :: l => c.toNat + 256 * leNat l
theorem leNat_lt : ∀ l : List UInt8, leNat l < 256 ^ l.length
  | [] => by simp [leNat]
  | c :: l => by
    have h := leNat_lt l
    have hc := c.toNat_lt
    have e : 256 ^ (c :: l).length = 256 * 256 ^ l.length := by rw [List.length_cons, Nat.pow_succ, Nat.mul_comm]
    simp only [leNat, e]
    omega
theorem leNat_append : ∀ l m : List UInt8, leNat (l ++ m) = leNat l + 256 ^ l.length * leNat m
  | [], m => by simp [leNat]
  | c :: l, m => by
    simp only [List.cons_append, leNat, leNat_append l m, List.length_cons, Nat.pow_succ]
    rw [Nat.mul_add, ← Nat.mul_assoc, Nat.mul_comm 256 (256 ^ l.length)]
    omega

/-- As a signed number of 64 bits. -/
def i64of (n : Nat) : Int := IntKind.i64.wrap (n : Int)
theorem i64of_small {n : Nat} (h : n < 9223372036854775808) : i64of n = n := by
  unfold i64of
  exact IntWalk.i64_in _ ⟨by omega, by omega⟩
theorem i64of_wf (n : Nat) : (Lit.int .i64 (i64of n)).wf = true := by
  unfold i64of
  simp [Lit.wf, IntKind.min, IntKind.max, IntKind.signed, IntKind.bits, IntKind.wrap]
  split <;> omega
theorem i64of_emod (n : Nat) (h : n < 18446744073709551616) : i64of n % 18446744073709551616 = n := by
  unfold i64of
  simp [IntKind.wrap, IntKind.signed, IntKind.bits]
  split <;> omega

/-- A number out of bytes, from a place on. -/
def getNum (b : List UInt8) (at_ width : Int) : Option Int :=
  if 0 ≤ at_ ∧ at_ + wide width ≤ b.length then some (i64of (leNat ((b.drop at_.toNat).take (wide width).toNat))) else none

theorem digit_leNat (n : Int) (m : Nat) (h : n % 18446744073709551616 = m) : ∀ (l : List UInt8) (k : Nat), l.length + k ≤ 8 → m / 256 ^ k % 256 ^ l.length = leNat l → (List.range' k l.length).map (digit n) = l
  | [], _, _, _ => rfl
  | c :: l, k, hk, hl => by
    simp only [List.length_cons, List.range'_succ, List.map_cons] at *
    have hc := c.toNat_lt
    have hp : 256 ^ (l.length + 1) = 256 * 256 ^ l.length := by rw [Nat.pow_succ, Nat.mul_comm]
    simp only [leNat] at hl
    rw [hp, Nat.mod_mul] at hl
    have h0 : m / 256 ^ k % 256 < 256 := Nat.mod_lt _ (by decide)
    have h1 : m / 256 ^ k % 256 = c.toNat := by omega
    have h2 : m / 256 ^ k / 256 % 256 ^ l.length = leNat l := by omega
    rw [Nat.div_div_eq_div_mul, ← Nat.pow_succ] at h2
    congr 1
    · unfold digit
      have hd : n / 2 ^ (8 * k) % 256 = ((m / 256 ^ k % 256 : Nat) : Int) := by
        have := u64_digit n k (by omega)
        rw [← this, h]
        have e : (2 : Int) ^ (8 * k) = ((256 ^ k : Nat) : Int) := by rw [Int.natCast_pow, Int.pow_mul]; rfl
        rw [e]
        rfl
      rw [hd, h1]
      simp
    · exact digit_leNat n m h l (k + 1) (by omega) h2

/-- Bytes, read as0 a number, are just those that this number has. -/
theorem num_leNat (width : Int) (l : List UInt8) (h : l.length = (wide width).toNat) : num width (i64of (leNat l)) = l := by
  have h8 : l.length ≤ 8 := by have := wide_le width; omega
  have hlt := leNat_lt l
  have hm : leNat l < 18446744073709551616 := Nat.lt_of_lt_of_le hlt (Nat.le_trans (Nat.pow_le_pow_right (by decide) h8) (by decide))
  unfold num
  rw [← h, List.range_eq_range']
  exact digit_leNat _ (leNat l) (i64of_emod _ hm) l 0 (by omega) (by simp; exact Nat.mod_eq_of_lt hlt)
end Go.Proofs.Ytfpmkenobphfnaa
/- Walks of the functions that read numbers out of bytes. -/
namespace Go.Proofs.Ytfpmkenobphfnaa
open Go.RowKit

theorem ofInt_i64of (n : Nat) : BitVec.ofInt 64 (i64of n) = BitVec.ofNat 64 n := by
  apply BitVec.eq_of_toNat_eq
  unfold i64of
  rw [IntKind.wrap_i64]
  simp only [BitVec.toNat_ofInt, BitVec.toNat_ofNat]
  omega
theorem wrap64_i64of (n : Nat) : wrap64 (n : Int) = i64of n := (IntWalk.i64_left _).symm
/-- A byte laid beside what there is. -/
theorem or_byte (M : Nat) (k : Nat) (hM : M < 256 ^ k) (hk : k < 8) (x : UInt8) : bits BinOp.or IntKind.i64 (i64of M) (wrap64 (wrap64 (x.toNat : Int) * 2 ^ (8 * k))) = i64of (M + 256 ^ k * x.toNat) := by
  have hx := x.toNat_lt
  have e1 : wrap64 (x.toNat : Int) = x.toNat := IntWalk.wrap64_in _ ⟨by omega, by omega⟩
  have e2 : (x.toNat : Int) * 2 ^ (8 * k) = ((x.toNat * 2 ^ (8 * k) : Nat) : Int) := by simp
  have hp : 256 ^ k = 2 ^ (8 * k) := by rw [Nat.pow_mul]
  have hpos : 0 < 2 ^ (8 * k) := Nat.pow_pos (by decide)
  have h64 : 2 ^ (8 * k) * 256 ≤ 2 ^ 64 := by
    rw [show (256 : Nat) = 2 ^ 8 from rfl, ← Nat.pow_add]
    exact Nat.pow_le_pow_right (by decide) (by omega)
  have hmul : x.toNat * 2 ^ (8 * k) + 2 ^ (8 * k) ≤ 2 ^ (8 * k) * 256 := by
    have : x.toNat + 1 ≤ 256 := by omega
    calc x.toNat * 2 ^ (8 * k) + 2 ^ (8 * k) = (x.toNat + 1) * 2 ^ (8 * k) := by rw [Nat.add_mul, Nat.one_mul]
      _ ≤ 256 * 2 ^ (8 * k) := Nat.mul_le_mul_right _ this
      _ = _ := Nat.mul_comm _ _
  rw [hp] at hM ⊢
  rw [e1, e2]
  have e3 := wrap64_i64of (x.toNat * 2 ^ (8 * k))
  rw [e3]
  unfold bits
  simp only [IntKind.bits, ofInt_i64of]
  have e4 : (BitVec.ofNat 64 M ||| BitVec.ofNat 64 (x.toNat * 2 ^ (8 * k))).toNat = M + 2 ^ (8 * k) * x.toNat := by
    rw [BitVec.toNat_or, BitVec.toNat_ofNat, BitVec.toNat_ofNat, Nat.mod_eq_of_lt (by omega), Nat.mod_eq_of_lt (by omega), Nat.or_comm, ← Nat.shiftLeft_eq, ← Nat.shiftLeft_add_eq_or_of_lt hM, Nat.shiftLeft_eq, Nat.add_comm, Nat.mul_comm]
  exact congrArg (fun n : Nat => IntKind.i64.wrap (n : Int)) e4

theorem leNat_take_succ {s : List UInt8} {k : Nat} (h : k < s.length) : leNat (s.take (k + 1)) = leNat (s.take k) + 256 ^ k * s[k].toNat := by
  rw [List.take_succ_eq_append_getElem h, leNat_append]
  simp [leNat, Nat.min_eq_left (Nat.le_of_lt h)]
theorem leNat_drop {s : List UInt8} {k : Nat} (h : k < s.length) : leNat (s.drop k) = s[k].toNat + 256 * leNat (s.drop (k + 1)) := by
  rw [← List.getElem_cons_drop h]; rfl
theorem getNum_some {b : List UInt8} {p k0 : Nat} {width : Int} (hW : (k0 : Int) = wide width) (h : p + k0 ≤ b.length) : getNum b p width = some (i64of (leNat ((b.drop p).take k0))) := by
  rw [getNum, ← hW, if_pos ⟨by omega, by omega⟩]; simp
theorem getNum_none {b : List UInt8} {at_ width : Int} (h : ¬ (0 ≤ at_ ∧ at_ + wide width ≤ b.length)) : getNum b at_ width = none := by
  rw [getNum, if_neg h]
theorem getNum_wf (b : List UInt8) (at_ width : Int) : (Lit.int .i64 ((getNum b at_ width).getD 0)).wf = true := by
  unfold getNum
  split
  · exact i64of_wf _
  · rfl

set_option maxRecDepth 10000 in
set_option maxHeartbeats 1000000 in
/-- le.Get -/
theorem get_calls {Q : Nat → Prop} {w : World} {v : Value} {b : List UInt8} {at_ width : Int} (hx : Rep.byte.list.val Q w v b) (ha : (Lit.int .i64 at_).wf = true) :
    Calls Try.prog 167 #[v, .int .i64 at_, .int .i64 width] w fun e w' => e = .returned (.tuple #[.int .i64 ((getNum b at_ width).getD 0), .bool (getNum b at_ width).isSome]) ∧ w' = w := by
  have ha1 : -9223372036854775808 ≤ at_ ∧ at_ ≤ 9223372036854775807 := by simpa [Lit.wf, IntKind.min, IntKind.max, IntKind.signed, IntKind.bits] using ha
  obtain ⟨A, c, rfl, hc1, hc2, hA⟩ := Rep.val_list hx
  unfold maxLen at hc2
  obtain ⟨W, hW⟩ : ∃ W, W = wide width := ⟨_, rfl⟩
  have g1 := wide_ge width
  have g2 := wide_le width
  rw [← hW] at g1 g2
  by_cases hok : 0 ≤ at_ ∧ at_ + W ≤ b.length
  · have HW := Lib.hid hW
    clear hW hx
    obtain ⟨h0, h1⟩ := hok
    obtain ⟨p, rfl⟩ : ∃ p : Nat, at_ = p := ⟨at_.toNat, by omega⟩
    obtain ⟨k0, hk0⟩ : ∃ k0 : Nat, W = k0 := ⟨W.toNat, by omega⟩
    subst hk0
    have HR := Lib.hid (getNum_some HW.out (show p + k0 ≤ b.length by omega))
    clear ha
    have n1 : ¬ (b.length : Int) < p := by omega
    have n2 : ¬ ((b.length : Int) - p < k0) := by omega
    have HC := Lib.hid (show ∀ k : Nat, k < k0 → ∃ (b0 o0 : Nat) (h : k < ((b.drop p).take k0).length), A = some ⟨b0, o0, none⟩ ∧ w.cell? ⟨b0, o0 + p + k, none⟩ = some (.int .u8 ((((b.drop p).take k0)[k]).toNat : Int)) from fun k hk => by
      obtain ⟨b0, o0, h3, h4⟩ := hA.byte (i := p + k) (x := b[p + k]'(by omega)) (List.getElem?_eq_getElem (by omega))
      exact ⟨b0, o0, by simp; omega, h3, by rw [Nat.add_assoc, h4]; simp⟩)
    have HL := Lib.hid (show ((b.drop p).take k0).length = k0 by simp; omega)
    generalize (b.drop p).take k0 = S at *
    go_enter Try.func167, Try.ntmps167
    go_wp2_with (go_at_call 157; refine (wide_calls _ _).mono ?_; rintro e w' ⟨rfl, rfl⟩; rw [← HW.out])
    go_loop [6, 38] (fun s i => ∃ k : Nat, k ≤ k0 ∧ i = .int .i64 k ∧ s = .int .i64 (i64of (leNat (S.take k)))) (fun _ i => k0 - (intOf i).toNat)
    case atStart => exact ⟨0, by omega, rfl, by simp [leNat, i64of, IntKind.wrap, IntKind.signed, IntKind.bits]⟩
    case round =>
      obtain ⟨k, hk, rfl, rfl⟩ := hrel
      by_cases hlt : (k : Int) < k0
      · obtain ⟨b0, o0, hks, rfl, hcell⟩ := HC.out k (by omega)
        have T := Lib.hid (show ∀ x : UInt8, x = S[k] → bits BinOp.or IntKind.i64 (i64of (leNat (S.take k))) (wrap64 (wrap64 (x.toNat : Int) * 2 ^ (8 * k))) = i64of (leNat (S.take (k + 1))) from fun x hx => by
          subst hx
          rw [leNat_take_succ hks]
          refine or_byte _ k ?_ (by omega) _
          have := leNat_lt (S.take k)
          rwa [List.length_take, Nat.min_eq_left (by omega)] at this)
        generalize hxx : S[k] = x at *
        have TT := Lib.hid (T.out x rfl)
        generalize i64of (leNat (S.take k)) = m at *
        clear hxx T
        go_wp2_with fail
        go_round
        case rel => exact ⟨k + 1, by omega, by go_num, by rw [TT.out]⟩
        case measure => simp [intOf]; omega
      · obtain rfl : k = k0 := by omega
        have R := Lib.hid (show i64of (leNat (S.take k)) = i64of (leNat S) by rw [List.take_of_length_le (by rw [HL.out]; exact Nat.le_refl _)])
        generalize i64of (leNat (S.take k)) = m at *
        go_wp2_with fail
        go_ret2
        exact ⟨by rw [HR.out, ← R.out]; rfl, rfl⟩
  · have HR := Lib.hid (getNum_none (b := b) (at_ := at_) (width := width) (by rw [← hW]; exact hok))
    have HW := Lib.hid hW
    clear hW hx ha hA
    by_cases c1 : at_ < 0
    · clear hok
      go_enter Try.func167, Try.ntmps167
      go_wp2_with (go_at_call 157; refine (wide_calls _ _).mono ?_; rintro e w' ⟨rfl, rfl⟩; rw [← HW.out])
      go_ret2
      exact ⟨by rw [HR.out]; rfl, rfl⟩
    · obtain ⟨p, rfl⟩ : ∃ p : Nat, at_ = p := ⟨at_.toNat, by omega⟩
      by_cases c2 : (b.length : Int) < p
      · clear hok
        go_enter Try.func167, Try.ntmps167
        go_wp2_with (go_at_call 157; refine (wide_calls _ _).mono ?_; rintro e w' ⟨rfl, rfl⟩; rw [← HW.out])
        go_ret2
        exact ⟨by rw [HR.out]; rfl, rfl⟩
      · have c3 : (b.length : Int) - p < W := by omega
        clear hok
        go_enter Try.func167, Try.ntmps167
        go_wp2_with (go_at_call 157; refine (wide_calls _ _).mono ?_; rintro e w' ⟨rfl, rfl⟩; rw [← HW.out])
        go_ret2
        exact ⟨by rw [HR.out]; rfl, rfl⟩

end Go.Proofs.Ytfpmkenobphfnaa
/- Walk of the reference's function that reads a number out of bytes. -/
namespace Go.Proofs.Ytfpmkenobphfnaa
open Go.RowKit

theorem fin_some {g : Option Int} {z : Int} (h : g = some z) : Ending.returned (.tuple #[.int .i64 z, .bool true]) = Ending.returned (.tuple #[.int .i64 (g.getD 0), .bool g.isSome]) := by subst h; rfl

set_option maxRecDepth 10000 in
set_option maxHeartbeats 1000000 in
/-- ref01.Get -/
theorem rget_calls {Q : Nat → Prop} {w : World} {v : Value} {b : List UInt8} {at_ width : Int} (hx : Rep.byte.list.val Q w v b) (ha : (Lit.int .i64 at_).wf = true) :
    Calls Try.prog 206 #[v, .int .i64 at_, .int .i64 width] w fun e w' => e = .returned (.tuple #[.int .i64 ((getNum b at_ width).getD 0), .bool (getNum b at_ width).isSome]) ∧ w' = w := by
  have ha1 : -9223372036854775808 ≤ at_ ∧ at_ ≤ 9223372036854775807 := by simpa [Lit.wf, IntKind.min, IntKind.max, IntKind.signed, IntKind.bits] using ha
  obtain ⟨A, c, rfl, hc1, hc2, hA⟩ := Rep.val_list hx
  unfold maxLen at hc2
  obtain ⟨W, hW⟩ : ∃ W, W = wide width := ⟨_, rfl⟩
  have g1 := wide_ge width
  have g2 := wide_le width
  rw [← hW] at g1 g2
  by_cases hok : 0 ≤ at_ ∧ at_ + W ≤ b.length
  · have HW := Lib.hid hW
    clear hW hx
    obtain ⟨h0, h1⟩ := hok
    obtain ⟨p, rfl⟩ : ∃ p : Nat, at_ = p := ⟨at_.toNat, by omega⟩
    obtain ⟨k0, hk0⟩ : ∃ k0 : Nat, W = k0 := ⟨W.toNat, by omega⟩
    subst hk0
    have HR := Lib.hid (getNum_some HW.out (show p + k0 ≤ b.length by omega))
    clear ha
    have n1 : ¬ (b.length : Int) - k0 < p := by omega
    have HC := Lib.hid (show ∀ k : Nat, k < k0 → ∃ (b0 o0 : Nat) (h : k < ((b.drop p).take k0).length), A = some ⟨b0, o0, none⟩ ∧ w.cell? ⟨b0, o0 + (p + k), none⟩ = some (.int .u8 ((((b.drop p).take k0)[k]).toNat : Int)) from fun k hk => by
      obtain ⟨b0, o0, h3, h4⟩ := hA.byte (i := p + k) (x := b[p + k]'(by omega)) (List.getElem?_eq_getElem (by omega))
      exact ⟨b0, o0, by simp; omega, h3, by rw [h4]; simp⟩)
    have HL := Lib.hid (show ((b.drop p).take k0).length = k0 by simp; omega)
    generalize (b.drop p).take k0 = S at *
    go_enter Try.func206, Try.ntmps206
    go_wp2_with (go_at_call 158; refine (rwide_calls _ _).mono ?_; rintro e w' ⟨rfl, rfl⟩; rw [← HW.out])
    go_loop [9, 10] (fun s i => ∃ (k : Nat) (m : Nat), k ≤ k0 ∧ i = .int .i64 ((k : Int) - 1) ∧ s = .int .u64 (m : Int) ∧ Hid (m = leNat (S.drop k)) ∧ (m : Int) ≤ 18446744073709551615 ∧ (0 < k → (m : Int) ≤ 72057594037927935)) (fun _ i => (intOf i + 1).toNat)
    case atStart => exact ⟨k0, 0, Nat.le_refl _, rfl, rfl, by rw [List.drop_of_length_le (by rw [HL.out]; exact Nat.le_refl _)]; rfl, by omega, by omega⟩
    case round =>
      obtain ⟨k, m, hk, rfl, rfl, hm, hm1, hm2⟩ := hrel
      by_cases hlt : (1 : Int) ≤ k
      · obtain ⟨j, rfl⟩ : ∃ j, k = j + 1 := ⟨k - 1, by omega⟩
        obtain ⟨b0, o0, hks, rfl, hcell⟩ := HC.out j (by omega)
        have hm3 := hm2 (by omega)
        have hx := (S[j]).toNat_lt
        have TT := Lib.hid (show m * 256 + (S[j]).toNat = leNat (S.drop j) by rw [leNat_drop hks, ← hm.out, Nat.add_comm, Nat.mul_comm])
        have B := Lib.hid (show 0 < j → m * 256 + (S[j]).toNat ≤ 72057594037927935 by
          intro hj
          rw [TT.out]
          have h1 := leNat_lt (S.drop j)
          rw [List.length_drop, HL.out] at h1
          have h2 : 256 ^ (k0 - j) ≤ 256 ^ 7 := Nat.pow_le_pow_right (by decide) (by omega)
          have h3 : 256 ^ 7 = 72057594037927936 := by decide
          omega)
        generalize (S[j]).toNat = x at *
        have e1 : ((j + 1 : Nat) : Int) - 1 = j := by omega
        have x0 : (0 : Int) ≤ (x : Int) := by omega
        have x1 : (x : Int) ≤ 255 := by omega
        rw [e1]
        clear hm2 hlt
        go_wp2_with fail
        go_round
        case rel => exact ⟨j, m * 256 + x, by omega, rfl, by go_num, TT.out, by omega, fun h => by have := B.out h; omega⟩
        case measure => simp [intOf]
      · obtain rfl : k = 0 := by omega
        have hm' : m = leNat S := by have := hm.out; simpa using this
        have R := Lib.hid (show i64of (leNat S) = wrap64 m by rw [← hm']; exact (wrap64_i64of m).symm)
        clear hm' hm hm1 hm2
        go_wp2_with fail
        generalize wrap64 (m : Int) = z at *
        go_ret2
        exact ⟨fin_some (HR.out.trans (congrArg some R.out)), rfl⟩
  · have HR := Lib.hid (getNum_none (b := b) (at_ := at_) (width := width) (by rw [← hW]; exact hok))
    have HW := Lib.hid hW
    clear hW hx ha hA
    by_cases c1 : at_ < 0
    · clear hok
      go_enter Try.func206, Try.ntmps206
      go_wp2_with (go_at_call 158; refine (rwide_calls _ _).mono ?_; rintro e w' ⟨rfl, rfl⟩; rw [← HW.out])
      go_ret2
      exact ⟨by rw [HR.out]; rfl, rfl⟩
    · have c3 : (b.length : Int) - W < at_ := by omega
      clear hok
      go_enter Try.func206, Try.ntmps206
      go_wp2_with (go_at_call 158; refine (rwide_calls _ _).mono ?_; rintro e w' ⟨rfl, rfl⟩; rw [← HW.out])
      go_ret2
      exact ⟨by rw [HR.out]; rfl, rfl⟩
end Go.Proofs.Ytfpmkenobphfnaa
