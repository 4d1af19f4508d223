/- Walks of the check sums, both. -/
import Derived.Test.YthjjnlilpklacaaSupCrcMath
import Derived.Test.YthjjnlilpklacaaSupG1
import Derived.Laws.BitsAllLaws
namespace Go.Proofs.Ythjjnlilpklacaa
open Go.RowKit

set_option maxRecDepth 100000 in
set_option maxHeartbeats 1000000 in
/-- crc.Add -/
theorem crcAdd_calls {Q : Nat → Prop} {w : World} {v : Value} {l : List UInt8} {s : Nat} (hs : s < 4294967296) (hx : Rep.byte.list.val Q w v l) :
    Calls Try.prog 195 #[.int .u32 s, v] w fun e w' => e = .returned (.int .u32 (crcAdd s l)) ∧ w' = w := by
  obtain ⟨A, c, rfl, hc1, hc2, hA⟩ := Rep.val_list hx
  unfold maxLen at hc2
  have HA := Lib.hid hA
  clear hx hA
  go_enter Try.func195, Try.ntmps195
  go_wp2_with fail
  go_loop [0, 10] (fun t i => ∃ (k m : Nat), i = .int .i64 k ∧ t = .int .u32 m ∧ k ≤ l.length ∧ m < 4294967296 ∧ Hid (m = crcAdd s (l.take k))) (fun _ i => l.length - (intOf i).toNat)
  case atStart => exact ⟨0, s, rfl, rfl, by omega, hs, rfl⟩
  case round =>
    obtain ⟨k, m, rfl, rfl, hk, hm, E⟩ := hrel
    by_cases hlt : (k : Int) < l.length
    · have hk' : k < l.length := by omega
      obtain ⟨b, off, rfl, d0⟩ := Rep.At.byte HA.out (List.getElem?_eq_getElem hk')
      have T := Lib.hid (show crcAdd s (l.take (k + 1)) = crcByte m l[k] by rw [List.take_succ_eq_append_getElem hk', crcAdd_snoc, E.out])
      generalize l[k] = x at *
      have hx := byte_lt x
      have e1 : bits .xor .u32 (m : Int) (x.toNat : Int) = ((m ^^^ x.toNat : Nat) : Int) := u32_xor_nat _ _ hm (by omega)
      have hm2 : m ^^^ x.toNat < 4294967296 := Nat.xor_lt_two_pow (n := 32) hm (by omega)
      have HB := Lib.hid (show m ^^^ x.toNat = crcBits 0 (m ^^^ x.toNat) from rfl)
      have T2 := Lib.hid (show crcByte m x = crcBits 8 (m ^^^ x.toNat) from rfl)
      have w0 : IntKind.u32.wrap (x.toNat : Int) = x.toNat := by rw [IntKind.wrap_u32']; omega
      generalize m ^^^ x.toNat = y at *
      go_wp2_with fail
      go_loop [0, 18] (fun t i => ∃ (j n : Nat), i = .int .i64 j ∧ t = .int .u32 n ∧ j ≤ 8 ∧ n < 4294967296 ∧ Hid (n = crcBits j y)) (fun _ i => 8 - (intOf i).toNat)
      case atStart => exact ⟨0, y, rfl, rfl, by omega, hm2, HB.out⟩
      case round =>
        obtain ⟨j, n, rfl, rfl, hj, hn, F⟩ := hrel
        by_cases hlt2 : (j : Int) < 8
        · have G := Lib.hid (show crcBits (j + 1) y = crcBit n by rw [F.out]; rfl)
          have hb := Lib.hid (crcBit_lt hn)
          rcases Nat.mod_two_eq_zero_or_one n with hp | hp
          · have a1 : bits .and .u32 (n : Int) 1 = 0 := by
              have h := u32_and_nat n 1 hn (by decide); rw [Nat.and_one_is_mod, hp] at h; exact h
            have a2 : bits .and .u32 3988292384 0 = 0 := by decide
            have K := Lib.hid (show crcBit n = n / 2 by unfold crcBit; rw [hp]; simp)
            have a3 : bits .xor .u32 ((n : Int) / 2) 0 = ((n / 2 : Nat) : Int) := by
              have h := u32_xor_nat (n / 2) 0 (by omega) (by decide); rw [Nat.xor_zero] at h; exact h
            clear hp
            go_wp2_with fail
            exact ⟨⟨j + 1, n / 2, by go_num, rfl, by omega, by omega, by rw [G.out, K.out]; rfl⟩, by simp [intOf]; omega⟩
          · have a1 : bits .and .u32 (n : Int) 1 = 1 := by
              have h := u32_and_nat n 1 hn (by decide); rw [Nat.and_one_is_mod, hp] at h; exact h
            have a2 : bits .and .u32 3988292384 4294967295 = 3988292384 := by decide
            have K := Lib.hid (show crcBit n = n / 2 ^^^ 3988292384 by unfold crcBit; rw [hp]; simp)
            have a3 : bits .xor .u32 ((n : Int) / 2) 3988292384 = ((n / 2 ^^^ 3988292384 : Nat) : Int) := u32_xor_nat (n / 2) 3988292384 (by omega) (by decide)
            clear hp
            go_wp2_with fail
            exact ⟨⟨j + 1, n / 2 ^^^ 3988292384, by go_num, rfl, by omega, by rw [← K.out]; exact hb.out, by rw [G.out, K.out]; rfl⟩, by simp [intOf]; omega⟩
        · have h8 : j = 8 := by omega
          subst h8
          go_wp2_with fail
          exact ⟨⟨k + 1, n, by go_num, rfl, by omega, hn, by rw [T.out, T2.out, F.out]; rfl⟩, by simp [intOf]; omega⟩
    · have hkl : k = l.length := by omega
      have T := Lib.hid (show m = crcAdd s l by rw [E.out, hkl, List.take_length])
      go_wp2_with fail
      go_ret
      exact ⟨by rw [← T.out]; rfl, rfl⟩

set_option maxRecDepth 100000 in
/-- crc.Start -/
theorem crcStart_calls (w : World) : Calls Try.prog 194 #[] w fun e w' => e = .returned (.int .u32 4294967295) ∧ w' = w := by
  go_enter Try.func194, Try.ntmps194
  go_wp2_with fail
  go_ret
  exact ⟨rfl, rfl⟩
set_option maxRecDepth 100000 in
/-- crc.End -/
theorem crcEnd_calls {s : Nat} (hs : s < 4294967296) (w : World) : Calls Try.prog 196 #[.int .u32 s] w fun e w' => e = .returned (.int .u32 ((4294967295 - s : Nat) : Int)) ∧ w' = w := by
  have e1 : bits .xor .u32 IntKind.u32.max (s : Int) = ((4294967295 - s : Nat) : Int) := by
    have h := u32_xor_nat 4294967295 s (by decide) hs; rw [crc_not hs] at h; exact h
  generalize 4294967295 - s = r at *
  go_enter Try.func196, Try.ntmps196
  go_wp2_with fail
  go_ret
  exact ⟨rfl, rfl⟩

set_option maxRecDepth 100000 in
set_option maxHeartbeats 1000000 in
/-- crc.Of -/
theorem crcOf_calls {Q : Nat → Prop} {w : World} {v : Value} {l : List (List UInt8)} (hx : Rep.byte.list.list.val Q w v l) :
    Calls Try.prog 192 #[v] w fun e w' => e = .returned (.int .u32 (crcOf l.flatten)) ∧ w' = w := by
  obtain ⟨A, c, rfl, hc1, hc2, hA⟩ := Rep.val_list hx
  unfold maxLen at hc2
  have HA := Lib.hid hA
  clear hx hA
  go_enter Try.func192, Try.ntmps192
  go_wp2_with fail
  refine (crcStart_calls _).mono ?_
  rintro e w' ⟨rfl, hw⟩
  have hw' := hw.symm
  subst hw'
  clear hw
  go_wp2_with fail
  go_loop [3, 9] (fun t i => ∃ (k m : Nat), i = .int .i64 k ∧ t = .int .u32 m ∧ k ≤ l.length ∧ m < 4294967296 ∧ Hid (m = crcAdd 4294967295 (l.take k).flatten)) (fun _ i => l.length - (intOf i).toNat)
  case atStart => exact ⟨0, 4294967295, rfl, rfl, by omega, by omega, rfl⟩
  case round =>
    obtain ⟨k, m, rfl, rfl, hk, hm, E⟩ := hrel
    by_cases hlt : (k : Int) < l.length
    · have hk' : k < l.length := by omega
      obtain ⟨b, off, B, cb, rfl, d0, d1, d2, dd⟩ := Rep.At.list HA.out (List.getElem?_eq_getElem hk')
      have T := Lib.hid (show crcAdd 4294967295 (l.take (k + 1)).flatten = crcAdd m l[k] by rw [List.take_succ_eq_append_getElem hk', List.flatten_append, crcAdd_append, E.out]; simp)
      generalize l[k] = x at *
      have HX := Lib.hid (show Rep.byte.list.val Q w (.slice B x.length cb) x from Rep.list_val rfl d1 d2 dd)
      have hb := Lib.hid (crcAdd_lt (l := x) hm)
      clear dd
      go_wp2_with (go_at_call 195; refine (crcAdd_calls (by omega) HX.out).mono ?_; rintro e w' ⟨rfl, rfl⟩)
      exact ⟨⟨k + 1, crcAdd m x, by go_num, rfl, by omega, hb.out, by rw [T.out]; rfl⟩, by simp [intOf]; omega⟩
    · have hkl : k = l.length := by omega
      have T := Lib.hid (show 4294967295 - m = crcOf l.flatten by unfold crcOf; rw [E.out, hkl, List.take_length])
      go_wp2_with (go_at_call 196; refine (crcEnd_calls (by omega) _).mono ?_; rintro e w' ⟨rfl, rfl⟩; rw [T.out])
      go_ret
      exact ⟨rfl, rfl⟩

set_option maxRecDepth 100000 in
set_option maxHeartbeats 1000000 in
/-- ref02.turned -/
theorem turned_calls {n : Nat} (hn : n < 4294967296) (w : World) :
    Calls Try.prog 182 #[.int .u32 n] w fun e w' => e = .returned (.int .u32 (turned n)) ∧ w' = w := by
  go_enter Try.func182, Try.ntmps182
  go_wp2_with fail
  go_loop [0, 3, 4] (fun t u i => ∃ (k m o : Nat), i = .int .i64 k ∧ t = .int .u32 m ∧ u = .int .u32 o ∧ k ≤ 32 ∧ m < 4294967296 ∧ o < 2 ^ k ∧ Hid ((m, o) = turnBits k n 0)) (fun _ _ i => 32 - (intOf i).toNat)
  case atStart => exact ⟨0, n, 0, rfl, rfl, rfl, by omega, hn, by omega, rfl⟩
  case round =>
    obtain ⟨k, m, o, rfl, rfl, rfl, hk, hm, ho, E⟩ := hrel
    by_cases hlt : (k : Int) < 32
    · have ho2 : o < 2147483648 := Nat.lt_of_lt_of_le ho (show 2 ^ k ≤ 2 ^ 31 from Nat.pow_le_pow_right (by omega) (by omega))
      have P := Lib.hid (show o * 2 + m % 2 < 2 ^ (k + 1) by rw [Nat.pow_succ]; omega)
      have T := Lib.hid (show (m / 2, o * 2 + m % 2) = turnBits (k + 1) n 0 by
        show _ = ((turnBits k n 0).1 / 2, (turnBits k n 0).2 * 2 + (turnBits k n 0).1 % 2)
        rw [← E.out])
      have w1 : IntKind.u32.wrap ((o : Int) * 2) = (o : Int) * 2 := by rw [IntKind.wrap_u32']; omega
      have w2 : IntKind.u32.wrap ((o : Int) * 2 + (m : Int) % 2) = (o : Int) * 2 + (m : Int) % 2 := by rw [IntKind.wrap_u32']; omega
      clear ho
      go_wp2_with fail
      exact ⟨⟨k + 1, m / 2, o * 2 + m % 2, by go_num, by go_num, by go_num, by omega, by omega, P.out, T.out⟩, by simp [intOf]; omega⟩
    · have h32 : k = 32 := by omega
      subst h32
      have T := Lib.hid (show turned n = o by unfold turned; rw [← E.out])
      clear ho
      go_wp2_with fail
      go_ret
      exact ⟨by rw [T.out]; rfl, rfl⟩

set_option maxRecDepth 100000 in
set_option maxHeartbeats 1000000 in
/-- ref02.Of -/
theorem rcrc_calls {Q : Nat → Prop} {w : World} {v : Value} {l : List UInt8} (hx : Rep.byte.list.val Q w v l) :
    Calls Try.prog 159 #[v] w fun e w' => e = .returned (.int .u32 (crcOf l)) ∧ w' = w := by
  obtain ⟨A, c, rfl, hc1, hc2, hA⟩ := Rep.val_list hx
  unfold maxLen at hc2
  have HA := Lib.hid hA
  clear hx hA
  go_enter Try.func159, Try.ntmps159
  go_wp2_with fail
  go_loop [3, 4] (fun t i => ∃ (k r : Nat), i = .int .i64 k ∧ t = .int .u32 r ∧ k ≤ l.length ∧ r < 4294967296 ∧ Hid (r = restAdd 4294967295 (l.take k))) (fun _ i => l.length - (intOf i).toNat)
  case atStart => exact ⟨0, 4294967295, rfl, rfl, by omega, by omega, rfl⟩
  case round =>
    obtain ⟨k, r, rfl, rfl, hk, hr, E⟩ := hrel
    by_cases hlt : (k : Int) < l.length
    · have hk' : k < l.length := by omega
      obtain ⟨b, off, rfl, d0⟩ := Rep.At.byte HA.out (List.getElem?_eq_getElem hk')
      have T := Lib.hid (show restAdd 4294967295 (l.take (k + 1)) = restByte r l[k] by rw [List.take_succ_eq_append_getElem hk', restAdd_snoc, E.out])
      generalize l[k] = x at *
      have hx := byte_lt x
      have T2 := Lib.hid (show restByte r x = restBits 8 r x.toNat from rfl)
      have w0 : IntKind.u32.wrap (x.toNat : Int) = x.toNat := by rw [IntKind.wrap_u32']; omega
      generalize x.toNat = y at *
      go_wp2_with fail
      go_loop [3, 5, 6] (fun t u i => ∃ (j n d : Nat), i = .int .i64 j ∧ t = .int .u32 n ∧ u = .int .u32 d ∧ j ≤ 8 ∧ n < 4294967296 ∧ d < 256 ∧ Hid (n = restBits j r y) ∧ Hid (d = y / 2 ^ j)) (fun _ _ i => 8 - (intOf i).toNat)
      case atStart => exact ⟨0, r, y, rfl, rfl, rfl, by omega, hr, hx, rfl, by simp [Hid]⟩
      case round =>
        obtain ⟨j, n, d, rfl, rfl, rfl, hj, hn, hd, F, F2⟩ := hrel
        by_cases hlt2 : (j : Int) < 8
        · have G := Lib.hid (show restBits (j + 1) r y = restBit n d by rw [F.out, F2.out]; rfl)
          have G2 := Lib.hid (show d / 2 = y / 2 ^ (j + 1) by rw [F2.out, Nat.div_div_eq_div_mul, Nat.pow_succ])
          have hb := Lib.hid (restBit_lt n d)
          have w1 : IntKind.u32.wrap ((n : Int) * 2) = (n : Int) * 2 % 4294967296 := by rw [IntKind.wrap_u32']
          by_cases hp : n / 2147483648 = d % 2
          · have K := Lib.hid (show restBit n d = n * 2 % 4294967296 by unfold restBit; rw [if_neg (by omega)]; simp)
            have a1 : ((n : Int) / 2147483648 == (d : Int) % 2) = true := by simp; omega
            have a2 : (n : Int) / 2147483648 = (d : Int) % 2 := by omega
            clear hp
            go_wp2_with fail
            exact ⟨⟨j + 1, n * 2 % 4294967296, d / 2, by go_num, congrArg _ (by omega), congrArg _ (by omega), by omega, by omega, by omega, by rw [G.out, K.out]; rfl, G2.out⟩, by simp [intOf]; omega⟩
          · have K := Lib.hid (show restBit n d = n * 2 % 4294967296 ^^^ 79764919 by unfold restBit; rw [if_pos (by omega)])
            have a1 : ((n : Int) / 2147483648 == (d : Int) % 2) = false := by simp; omega
            have a2 : bits .xor .u32 ((n : Int) * 2 % 4294967296) 79764919 = ((n * 2 % 4294967296 ^^^ 79764919 : Nat) : Int) := u32_xor_nat (n * 2 % 4294967296) 79764919 (by omega) (by decide)
            clear hp
            go_wp2_with fail
            exact ⟨⟨j + 1, n * 2 % 4294967296 ^^^ 79764919, d / 2, by go_num, rfl, congrArg _ (by omega), by omega, by rw [← K.out]; exact hb.out, by omega, by rw [G.out, K.out]; rfl, G2.out⟩, by simp [intOf]; omega⟩
        · have h8 : j = 8 := by omega
          subst h8
          go_wp2_with fail
          exact ⟨⟨k + 1, n, by go_num, rfl, by omega, hn, by rw [T.out, T2.out, F.out]; rfl⟩, by simp [intOf]; omega⟩
    · have hkl : k = l.length := by omega
      have T := Lib.hid (show 4294967295 - turned r = crcOf l by rw [← crc_same, E.out, hkl, List.take_length])
      have ht := turned_lt r
      have HT := Lib.hid (turned_calls (show r < 4294967296 by omega) w)
      generalize turned r = tr at *
      have w1 : IntKind.u32.wrap (4294967295 - (tr : Int)) = 4294967295 - (tr : Int) := by rw [IntKind.wrap_u32']; omega
      go_wp2_with fail
      refine HT.out.mono ?_
      rintro e w' ⟨rfl, rfl⟩
      go_wp2_with fail
      go_ret
      exact ⟨by rw [← T.out]; exact congrArg (fun i => Ending.returned (.int .u32 i)) (by omega), rfl⟩
end Go.Proofs.Ythjjnlilpklacaa
