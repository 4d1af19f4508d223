/- Texts on which the proofs stand: Crc. No condition is laid on any input. -/
import Derived.Test.YtghbfbohnoebiaaGreatSnG2
import Derived.Laws.BitsAllLaws
import Derived.Test.YtghbfbohnoebiaaGreatProg
import Derived.BigQuiet
import Derived.Deep.QuietTactic
namespace Go.Proofs.YtghbfbohnoebiaaGreat
open Go.RowKit

set_option maxRecDepth 100000 in
set_option maxHeartbeats 1000000 in
/-- crc.Add -/
theorem crcAdd_calls {Q : Nat → Prop} {w : World} {v : Value} {l : List UInt8} {s : Nat} (hs : s < 4294967296) (hx : Rep.byte.list.val Q w v l) :
    Calls Tryz.prog 244 #[.int .u32 s, v] w fun e w' => e = .returned (.int .u32 (crcAdd s l)) ∧ w' = w := by
  obtain ⟨A, c, rfl, hc1, hc2, hA⟩ := Rep.val_list hx
  unfold maxLen at hc2
  have HA := Lib.hid hA
  clear hx hA
  go_enter Tryz.func244, Tryz.ntmps244
  go_wp2_with fail
  go_loop [0, 10] (fun t i => ∃ (k m : Nat), i = .int .i64 k ∧ t = .int .u32 m ∧ k ≤ l.length ∧ m < 4294967296 ∧ Hid (m = crcAdd s (l.take k))) (fun _ i => l.length - (intOf i).toNat)
  case atStart => exact ⟨0, s, rfl, rfl, by omega, hs, rfl⟩
  case round =>
    obtain ⟨k, m, rfl, rfl, hk, hm, E⟩ := hrel
    by_cases hlt : (k : Int) < l.length
    · have hk' : k < l.length := by omega
      obtain ⟨b, off, rfl, d0⟩ := Rep.At.byte HA.out (List.getElem?_eq_getElem hk')
      have T := Lib.hid (show crcAdd s (l.take (k + 1)) = crcByte m l[k] by rw [List.take_succ_eq_append_getElem hk', crcAdd_snoc, E.out])
      generalize l[k] = x at *
      have hx := byte_lt x
      have e1 : bits .xor .u32 (m : Int) (x.toNat : Int) = ((m ^^^ x.toNat : Nat) : Int) := u32_xor_nat _ _ hm (by omega)
      have hm2 : m ^^^ x.toNat < 4294967296 := Nat.xor_lt_two_pow (n := 32) hm (by omega)
      have HB := Lib.hid (show m ^^^ x.toNat = crcBits 0 (m ^^^ x.toNat) from rfl)
      have T2 := Lib.hid (show crcByte m x = crcBits 8 (m ^^^ x.toNat) from rfl)
      have w0 : IntKind.u32.wrap (x.toNat : Int) = x.toNat := by rw [IntKind.wrap_u32']; omega
      generalize m ^^^ x.toNat = y at *
      go_wp2_with fail
      go_loop [0, 18] (fun t i => ∃ (j n : Nat), i = .int .i64 j ∧ t = .int .u32 n ∧ j ≤ 8 ∧ n < 4294967296 ∧ Hid (n = crcBits j y)) (fun _ i => 8 - (intOf i).toNat)
      case atStart => exact ⟨0, y, rfl, rfl, by omega, hm2, HB.out⟩
      case round =>
        obtain ⟨j, n, rfl, rfl, hj, hn, F⟩ := hrel
        by_cases hlt2 : (j : Int) < 8
        · have G := Lib.hid (show crcBits (j + 1) y = crcBit n by rw [F.out]; rfl)
          have hb := Lib.hid (crcBit_lt hn)
          rcases Nat.mod_two_eq_zero_or_one n with hp | hp
          · have a1 : bits .and .u32 (n : Int) 1 = 0 := by
              have h := u32_and_nat n 1 hn (by decide); rw [Nat.and_one_is_mod, hp] at h; exact h
            have a2 : bits .and .u32 3988292384 0 = 0 := by decide
            have K := Lib.hid (show crcBit n = n / 2 by unfold crcBit; rw [hp]; simp)
            have a3 : bits .xor .u32 ((n : Int) / 2) 0 = ((n / 2 : Nat) : Int) := by
              have h := u32_xor_nat (n / 2) 0 (by omega) (by decide); rw [Nat.xor_zero] at h; exact h
            clear hp
            go_wp2_with fail
            exact ⟨⟨j + 1, n / 2, by go_num, rfl, by omega, by omega, by rw [G.out, K.out]; rfl⟩, by simp [intOf]; omega⟩
          · have a1 : bits .and .u32 (n : Int) 1 = 1 := by
              have h := u32_and_nat n 1 hn (by decide); rw [Nat.and_one_is_mod, hp] at h; exact h
            have a2 : bits .and .u32 3988292384 4294967295 = 3988292384 := by decide
            have K := Lib.hid (show crcBit n = n / 2 ^^^ 3988292384 by unfold crcBit; rw [hp]; simp)
            have a3 : bits .xor .u32 ((n : Int) / 2) 3988292384 = ((n / 2 ^^^ 3988292384 : Nat) : Int) := u32_xor_nat (n / 2) 3988292384 (by omega) (by decide)
            clear hp
            go_wp2_with fail
            exact ⟨⟨j + 1, n / 2 ^^^ 3988292384, by go_num, rfl, by omega, by rw [← K.out]; exact hb.out, by rw [G.out, K.out]; rfl⟩, by simp [intOf]; omega⟩
        · have h8 : j = 8 := by omega
          subst h8
          go_wp2_with fail
          exact ⟨⟨k + 1, n, by go_num, rfl, by omega, hn, by rw [T.out, T2.out, F.out]; rfl⟩, by simp [intOf]; omega⟩
    · have hkl : k = l.length := by omega
      have T := Lib.hid (show m = crcAdd s l by rw [E.out, hkl, List.take_length])
      go_wp2_with fail
      go_ret
      exact ⟨by rw [← T.out]; rfl, rfl⟩

set_option maxRecDepth 100000 in
/-- crc.Start -/
theorem crcStart_calls (w : World) : Calls Tryz.prog 243 #[] w fun e w' => e = .returned (.int .u32 4294967295) ∧ w' = w := by
  go_enter Tryz.func243, Tryz.ntmps243
  go_wp2_with fail
  go_ret
  exact ⟨rfl, rfl⟩
set_option maxRecDepth 100000 in
/-- crc.End -/
theorem crcEnd_calls {s : Nat} (hs : s < 4294967296) (w : World) : Calls Tryz.prog 245 #[.int .u32 s] w fun e w' => e = .returned (.int .u32 ((4294967295 - s : Nat) : Int)) ∧ w' = w := by
  have e1 : bits .xor .u32 IntKind.u32.max (s : Int) = ((4294967295 - s : Nat) : Int) := by
    have h := u32_xor_nat 4294967295 s (by decide) hs; rw [crc_not hs] at h; exact h
  generalize 4294967295 - s = r at *
  go_enter Tryz.func245, Tryz.ntmps245
  go_wp2_with fail
  go_ret
  exact ⟨rfl, rfl⟩

set_option maxRecDepth 100000 in
set_option maxHeartbeats 1000000 in
/-- crc.Of -/
theorem crcOf_calls {Q : Nat → Prop} {w : World} {v : Value} {l : List (List UInt8)} (hx : Rep.byte.list.list.val Q w v l) :
    Calls Tryz.prog 241 #[v] w fun e w' => e = .returned (.int .u32 (crcOf l.flatten)) ∧ w' = w := by
  obtain ⟨A, c, rfl, hc1, hc2, hA⟩ := Rep.val_list hx
  unfold maxLen at hc2
  have HA := Lib.hid hA
  clear hx hA
  go_enter Tryz.func241, Tryz.ntmps241
  go_wp2_with fail
  refine (crcStart_calls _).mono ?_
  rintro e w' ⟨rfl, hw⟩
  have hw' := hw.symm
  subst hw'
  clear hw
  go_wp2_with fail
  go_loop [3, 9] (fun t i => ∃ (k m : Nat), i = .int .i64 k ∧ t = .int .u32 m ∧ k ≤ l.length ∧ m < 4294967296 ∧ Hid (m = crcAdd 4294967295 (l.take k).flatten)) (fun _ i => l.length - (intOf i).toNat)
  case atStart => exact ⟨0, 4294967295, rfl, rfl, by omega, by omega, rfl⟩
  case round =>
    obtain ⟨k, m, rfl, rfl, hk, hm, E⟩ := hrel
    by_cases hlt : (k : Int) < l.length
    · have hk' : k < l.length := by omega
      obtain ⟨b, off, B, cb, rfl, d0, d1, d2, dd⟩ := Rep.At.list HA.out (List.getElem?_eq_getElem hk')
      have T := Lib.hid (show crcAdd 4294967295 (l.take (k + 1)).flatten = crcAdd m l[k] by rw [List.take_succ_eq_append_getElem hk', List.flatten_append, crcAdd_append, E.out]; simp)
      generalize l[k] = x at *
      have HX := Lib.hid (show Rep.byte.list.val Q w (.slice B x.length cb) x from Rep.list_val rfl d1 d2 dd)
      have hb := Lib.hid (crcAdd_lt (l := x) hm)
      clear dd
      go_wp2_with (go_at_call 244; refine (crcAdd_calls (by omega) HX.out).mono ?_; rintro e w' ⟨rfl, rfl⟩)
      exact ⟨⟨k + 1, crcAdd m x, by go_num, rfl, by omega, hb.out, by rw [T.out]; rfl⟩, by simp [intOf]; omega⟩
    · have hkl : k = l.length := by omega
      have T := Lib.hid (show 4294967295 - m = crcOf l.flatten by unfold crcOf; rw [E.out, hkl, List.take_length])
      go_wp2_with (go_at_call 245; refine (crcEnd_calls (by omega) _).mono ?_; rintro e w' ⟨rfl, rfl⟩; rw [T.out])
      go_ret
      exact ⟨rfl, rfl⟩

end Go.Proofs.YtghbfbohnoebiaaGreat
