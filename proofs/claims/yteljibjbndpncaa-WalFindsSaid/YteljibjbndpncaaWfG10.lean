/- Texts on which the proofs stand: Crc, FrameBytes. No condition is laid on any input. -/
import Derived.Test.YteljibjbndpncaaWfG1
import Derived.Test.YteljibjbndpncaaWfG6
import Derived.Test.YteljibjbndpncaaWfRCmdPut
import Derived.Test.YteljibjbndpncaaWfTypes
import Derived.Laws.BitsAllLaws
/- Walks of the check sums, both. -/
namespace Go.Proofs.Yteljibjbndpncaa
open Go.RowKit

set_option maxRecDepth 100000 in
set_option maxHeartbeats 1000000 in
/-- crc.Add -/
theorem crcAdd_calls {Q : Nat → Prop} {w : World} {v : Value} {l : List UInt8} {s : Nat} (hs : s < 4294967296) (hx : Rep.byte.list.val Q w v l) :
    Calls Try.prog 137 #[.int .u32 s, v] w fun e w' => e = .returned (.int .u32 (crcAdd s l)) ∧ w' = w := by
  obtain ⟨A, c, rfl, hc1, hc2, hA⟩ := Rep.val_list hx
  unfold maxLen at hc2
  have HA := Lib.hid hA
  clear hx hA
  go_enter Try.func137, Try.ntmps137
  go_wp2_with fail
  go_loop [0, 10] (fun t i => ∃ (k m : Nat), i = .int .i64 k ∧ t = .int .u32 m ∧ k ≤ l.length ∧ m < 4294967296 ∧ Hid (m = crcAdd s (l.take k))) (fun _ i => l.length - (intOf i).toNat)
  case atStart => exact ⟨0, s, rfl, rfl, by omega, hs, rfl⟩
  case round =>
    obtain ⟨k, m, rfl, rfl, hk, hm, E⟩ := hrel
    by_cases hlt : (k : Int) < l.length
    · have hk' : k < l.length := by omega
      obtain ⟨b, off, rfl, d0⟩ := Rep.At.byte HA.out (List.getElem?_eq_getElem hk')
      have T := Lib.hid (show crcAdd s (l.take (k + 1)) = crcByte m l[k] by rw [List.take_succ_eq_append_getElem hk', crcAdd_snoc, E.out])
      generalize l[k] = x at *
      have hx := byte_lt x
      have e1 : bits .xor .u32 (m : Int) (x.toNat : Int) = ((m ^^^ x.toNat : Nat) : Int) := u32_xor_nat _ _ hm (by omega)
      have hm2 : m ^^^ x.toNat < 4294967296 := Nat.xor_lt_two_pow (n := 32) hm (by omega)
      have HB := Lib.hid (show m ^^^ x.toNat = crcBits 0 (m ^^^ x.toNat) from rfl)
      have T2 := Lib.hid (show crcByte m x = crcBits 8 (m ^^^ x.toNat) from rfl)
      have w0 : IntKind.u32.wrap (x.toNat : Int) = x.toNat := by rw [IntKind.wrap_u32']; omega
      generalize m ^^^ x.toNat = y at *
      go_wp2_with fail
      go_loop [0, 18] (fun t i => ∃ (j n : Nat), i = .int .i64 j ∧ t = .int .u32 n ∧ j ≤ 8 ∧ n < 4294967296 ∧ Hid (n = crcBits j y)) (fun _ i => 8 - (intOf i).toNat)
      case atStart => exact ⟨0, y, rfl, rfl, by omega, hm2, HB.out⟩
      case round =>
        obtain ⟨j, n, rfl, rfl, hj, hn, F⟩ := hrel
        by_cases hlt2 : (j : Int) < 8
        · have G := Lib.hid (show crcBits (j + 1) y = crcBit n by rw [F.out]; rfl)
          have hb := Lib.hid (crcBit_lt hn)
          rcases Nat.mod_two_eq_zero_or_one n with hp | hp
          · have a1 : bits .and .u32 (n : Int) 1 = 0 := by
              have h := u32_and_nat n 1 hn (by decide); rw [Nat.and_one_is_mod, hp] at h; exact h
            have a2 : bits .and .u32 3988292384 0 = 0 := by decide
            have K := Lib.hid (show crcBit n = n / 2 by unfold crcBit; rw [hp]; simp)
            have a3 : bits .xor .u32 ((n : Int) / 2) 0 = ((n / 2 : Nat) : Int) := by
              have h := u32_xor_nat (n / 2) 0 (by omega) (by decide); rw [Nat.xor_zero] at h; exact h
            clear hp
            go_wp2_with fail
            exact ⟨⟨j + 1, n / 2, by go_num, rfl, by omega, by omega, by rw [G.out, K.out]; rfl⟩, by simp [intOf]; omega⟩
          · have a1 : bits .and .u32 (n : Int) 1 = 1 := by
              have h := u32_and_nat n 1 hn (by decide); rw [Nat.and_one_is_mod, hp] at h; exact h
            have a2 : bits .and .u32 3988292384 4294967295 = 3988292384 := by decide
            have K := Lib.hid (show crcBit n = n / 2 ^^^ 3988292384 by unfold crcBit; rw [hp]; simp)
            have a3 : bits .xor .u32 ((n : Int) / 2) 3988292384 = ((n / 2 ^^^ 3988292384 : Nat) : Int) := u32_xor_nat (n / 2) 3988292384 (by omega) (by decide)
            clear hp
            go_wp2_with fail
            exact ⟨⟨j + 1, n / 2 ^^^ 3988292384, by go_num, rfl, by omega, by rw [← K.out]; exact hb.out, by rw [G.out, K.out]; rfl⟩, by simp [intOf]; omega⟩
        · have h8 : j = 8 := by omega
          subst h8
          go_wp2_with fail
          exact ⟨⟨k + 1, n, by go_num, rfl, by omega, hn, by rw [T.out, T2.out, F.out]; rfl⟩, by simp [intOf]; omega⟩
    · have hkl : k = l.length := by omega
      have T := Lib.hid (show m = crcAdd s l by rw [E.out, hkl, List.take_length])
      go_wp2_with fail
      go_ret
      exact ⟨by rw [← T.out]; rfl, rfl⟩

set_option maxRecDepth 100000 in
/-- crc.Start -/
theorem crcStart_calls (w : World) : Calls Try.prog 136 #[] w fun e w' => e = .returned (.int .u32 4294967295) ∧ w' = w := by
  go_enter Try.func136, Try.ntmps136
  go_wp2_with fail
  go_ret
  exact ⟨rfl, rfl⟩
set_option maxRecDepth 100000 in
/-- crc.End -/
theorem crcEnd_calls {s : Nat} (hs : s < 4294967296) (w : World) : Calls Try.prog 138 #[.int .u32 s] w fun e w' => e = .returned (.int .u32 ((4294967295 - s : Nat) : Int)) ∧ w' = w := by
  have e1 : bits .xor .u32 IntKind.u32.max (s : Int) = ((4294967295 - s : Nat) : Int) := by
    have h := u32_xor_nat 4294967295 s (by decide) hs; rw [crc_not hs] at h; exact h
  generalize 4294967295 - s = r at *
  go_enter Try.func138, Try.ntmps138
  go_wp2_with fail
  go_ret
  exact ⟨rfl, rfl⟩

set_option maxRecDepth 100000 in
set_option maxHeartbeats 1000000 in
/-- crc.Of -/
theorem crcOf_calls {Q : Nat → Prop} {w : World} {v : Value} {l : List (List UInt8)} (hx : Rep.byte.list.list.val Q w v l) :
    Calls Try.prog 122 #[v] w fun e w' => e = .returned (.int .u32 (crcOf l.flatten)) ∧ w' = w := by
  obtain ⟨A, c, rfl, hc1, hc2, hA⟩ := Rep.val_list hx
  unfold maxLen at hc2
  have HA := Lib.hid hA
  clear hx hA
  go_enter Try.func122, Try.ntmps122
  go_wp2_with fail
  refine (crcStart_calls _).mono ?_
  rintro e w' ⟨rfl, hw⟩
  have hw' := hw.symm
  subst hw'
  clear hw
  go_wp2_with fail
  go_loop [3, 9] (fun t i => ∃ (k m : Nat), i = .int .i64 k ∧ t = .int .u32 m ∧ k ≤ l.length ∧ m < 4294967296 ∧ Hid (m = crcAdd 4294967295 (l.take k).flatten)) (fun _ i => l.length - (intOf i).toNat)
  case atStart => exact ⟨0, 4294967295, rfl, rfl, by omega, by omega, rfl⟩
  case round =>
    obtain ⟨k, m, rfl, rfl, hk, hm, E⟩ := hrel
    by_cases hlt : (k : Int) < l.length
    · have hk' : k < l.length := by omega
      obtain ⟨b, off, B, cb, rfl, d0, d1, d2, dd⟩ := Rep.At.list HA.out (List.getElem?_eq_getElem hk')
      have T := Lib.hid (show crcAdd 4294967295 (l.take (k + 1)).flatten = crcAdd m l[k] by rw [List.take_succ_eq_append_getElem hk', List.flatten_append, crcAdd_append, E.out]; simp)
      generalize l[k] = x at *
      have HX := Lib.hid (show Rep.byte.list.val Q w (.slice B x.length cb) x from Rep.list_val rfl d1 d2 dd)
      have hb := Lib.hid (crcAdd_lt (l := x) hm)
      clear dd
      go_wp2_with (go_at_call 137; refine (crcAdd_calls (by omega) HX.out).mono ?_; rintro e w' ⟨rfl, rfl⟩)
      exact ⟨⟨k + 1, crcAdd m x, by go_num, rfl, by omega, hb.out, by rw [T.out]; rfl⟩, by simp [intOf]; omega⟩
    · have hkl : k = l.length := by omega
      have T := Lib.hid (show 4294967295 - m = crcOf l.flatten by unfold crcOf; rw [E.out, hkl, List.take_length])
      go_wp2_with (go_at_call 138; refine (crcEnd_calls (by omega) _).mono ?_; rintro e w' ⟨rfl, rfl⟩; rw [T.out])
      go_ret
      exact ⟨rfl, rfl⟩

set_option maxRecDepth 100000 in
set_option maxHeartbeats 1000000 in
/-- ref02.turned -/
theorem turned_calls {n : Nat} (hn : n < 4294967296) (w : World) :
    Calls Try.prog 91 #[.int .u32 n] w fun e w' => e = .returned (.int .u32 (turned n)) ∧ w' = w := by
  go_enter Try.func91, Try.ntmps91
  go_wp2_with fail
  go_loop [0, 3, 4] (fun t u i => ∃ (k m o : Nat), i = .int .i64 k ∧ t = .int .u32 m ∧ u = .int .u32 o ∧ k ≤ 32 ∧ m < 4294967296 ∧ o < 2 ^ k ∧ Hid ((m, o) = turnBits k n 0)) (fun _ _ i => 32 - (intOf i).toNat)
  case atStart => exact ⟨0, n, 0, rfl, rfl, rfl, by omega, hn, by omega, rfl⟩
  case round =>
    obtain ⟨k, m, o, rfl, rfl, rfl, hk, hm, ho, E⟩ := hrel
    by_cases hlt : (k : Int) < 32
    · have ho2 : o < 2147483648 := Nat.lt_of_lt_of_le ho (show 2 ^ k ≤ 2 ^ 31 from Nat.pow_le_pow_right (by omega) (by omega))
      have P := Lib.hid (show o * 2 + m % 2 < 2 ^ (k + 1) by rw [Nat.pow_succ]; omega)
      have T := Lib.hid (show (m / 2, o * 2 + m % 2) = turnBits (k + 1) n 0 by
        show _ = ((turnBits k n 0).1 / 2, (turnBits k n 0).2 * 2 + (turnBits k n 0).1 % 2)
        rw [← E.out])
      have w1 : IntKind.u32.wrap ((o : Int) * 2) = (o : Int) * 2 := by rw [IntKind.wrap_u32']; omega
      have w2 : IntKind.u32.wrap ((o : Int) * 2 + (m : Int) % 2) = (o : Int) * 2 + (m : Int) % 2 := by rw [IntKind.wrap_u32']; omega
      clear ho
      go_wp2_with fail
      exact ⟨⟨k + 1, m / 2, o * 2 + m % 2, by go_num, by go_num, by go_num, by omega, by omega, P.out, T.out⟩, by simp [intOf]; omega⟩
    · have h32 : k = 32 := by omega
      subst h32
      have T := Lib.hid (show turned n = o by unfold turned; rw [← E.out])
      clear ho
      go_wp2_with fail
      go_ret
      exact ⟨by rw [T.out]; rfl, rfl⟩

set_option maxRecDepth 100000 in
set_option maxHeartbeats 1000000 in
/-- ref02.Of -/
theorem rcrc_calls {Q : Nat → Prop} {w : World} {v : Value} {l : List UInt8} (hx : Rep.byte.list.val Q w v l) :
    Calls Try.prog 64 #[v] w fun e w' => e = .returned (.int .u32 (crcOf l)) ∧ w' = w := by
  obtain ⟨A, c, rfl, hc1, hc2, hA⟩ := Rep.val_list hx
  unfold maxLen at hc2
  have HA := Lib.hid hA
  clear hx hA
  go_enter Try.func64, Try.ntmps64
  go_wp2_with fail
  go_loop [3, 4] (fun t i => ∃ (k r : Nat), i = .int .i64 k ∧ t = .int .u32 r ∧ k ≤ l.length ∧ r < 4294967296 ∧ Hid (r = restAdd 4294967295 (l.take k))) (fun _ i => l.length - (intOf i).toNat)
  case atStart => exact ⟨0, 4294967295, rfl, rfl, by omega, by omega, rfl⟩
  case round =>
    obtain ⟨k, r, rfl, rfl, hk, hr, E⟩ := hrel
    by_cases hlt : (k : Int) < l.length
    · have hk' : k < l.length := by omega
      obtain ⟨b, off, rfl, d0⟩ := Rep.At.byte HA.out (List.getElem?_eq_getElem hk')
      have T := Lib.hid (show restAdd 4294967295 (l.take (k + 1)) = restByte r l[k] by rw [List.take_succ_eq_append_getElem hk', restAdd_snoc, E.out])
      generalize l[k] = x at *
      have hx := byte_lt x
      have T2 := Lib.hid (show restByte r x = restBits 8 r x.toNat from rfl)
      have w0 : IntKind.u32.wrap (x.toNat : Int) = x.toNat := by rw [IntKind.wrap_u32']; omega
      generalize x.toNat = y at *
      go_wp2_with fail
      go_loop [3, 5, 6] (fun t u i => ∃ (j n d : Nat), i = .int .i64 j ∧ t = .int .u32 n ∧ u = .int .u32 d ∧ j ≤ 8 ∧ n < 4294967296 ∧ d < 256 ∧ Hid (n = restBits j r y) ∧ Hid (d = y / 2 ^ j)) (fun _ _ i => 8 - (intOf i).toNat)
      case atStart => exact ⟨0, r, y, rfl, rfl, rfl, by omega, hr, hx, rfl, by simp [Hid]⟩
      case round =>
        obtain ⟨j, n, d, rfl, rfl, rfl, hj, hn, hd, F, F2⟩ := hrel
        by_cases hlt2 : (j : Int) < 8
        · have G := Lib.hid (show restBits (j + 1) r y = restBit n d by rw [F.out, F2.out]; rfl)
          have G2 := Lib.hid (show d / 2 = y / 2 ^ (j + 1) by rw [F2.out, Nat.div_div_eq_div_mul, Nat.pow_succ])
          have hb := Lib.hid (restBit_lt n d)
          have w1 : IntKind.u32.wrap ((n : Int) * 2) = (n : Int) * 2 % 4294967296 := by rw [IntKind.wrap_u32']
          by_cases hp : n / 2147483648 = d % 2
          · have K := Lib.hid (show restBit n d = n * 2 % 4294967296 by unfold restBit; rw [if_neg (by omega)]; simp)
            have a1 : ((n : Int) / 2147483648 == (d : Int) % 2) = true := by simp; omega
            have a2 : (n : Int) / 2147483648 = (d : Int) % 2 := by omega
            clear hp
            go_wp2_with fail
            exact ⟨⟨j + 1, n * 2 % 4294967296, d / 2, by go_num, congrArg _ (by omega), congrArg _ (by omega), by omega, by omega, by omega, by rw [G.out, K.out]; rfl, G2.out⟩, by simp [intOf]; omega⟩
          · have K := Lib.hid (show restBit n d = n * 2 % 4294967296 ^^^ 79764919 by unfold restBit; rw [if_pos (by omega)])
            have a1 : ((n : Int) / 2147483648 == (d : Int) % 2) = false := by simp; omega
            have a2 : bits .xor .u32 ((n : Int) * 2 % 4294967296) 79764919 = ((n * 2 % 4294967296 ^^^ 79764919 : Nat) : Int) := u32_xor_nat (n * 2 % 4294967296) 79764919 (by omega) (by decide)
            clear hp
            go_wp2_with fail
            exact ⟨⟨j + 1, n * 2 % 4294967296 ^^^ 79764919, d / 2, by go_num, rfl, congrArg _ (by omega), by omega, by rw [← K.out]; exact hb.out, by omega, by rw [G.out, K.out]; rfl, G2.out⟩, by simp [intOf]; omega⟩
        · have h8 : j = 8 := by omega
          subst h8
          go_wp2_with fail
          exact ⟨⟨k + 1, n, by go_num, rfl, by omega, hn, by rw [T.out, T2.out, F.out]; rfl⟩, by simp [intOf]; omega⟩
    · have hkl : k = l.length := by omega
      have T := Lib.hid (show 4294967295 - turned r = crcOf l by rw [← crc_same, E.out, hkl, List.take_length])
      have ht := turned_lt r
      have HT := Lib.hid (turned_calls (show r < 4294967296 by omega) w)
      generalize turned r = tr at *
      have w1 : IntKind.u32.wrap (4294967295 - (tr : Int)) = 4294967295 - (tr : Int) := by rw [IntKind.wrap_u32']; omega
      go_wp2_with fail
      refine HT.out.mono ?_
      rintro e w' ⟨rfl, rfl⟩
      go_wp2_with fail
      go_ret
      exact ⟨by rw [← T.out]; exact congrArg (fun i => Ending.returned (.int .u32 i)) (by omega), rfl⟩
end Go.Proofs.Yteljibjbndpncaa
/- Walks of frames as0 bytes, both, and of their size. -/
namespace Go.Proofs.Yteljibjbndpncaa
open Go.RowKit

def cmdsBytes (l : List DCmd) : List UInt8 := num 1 l.length ++ (l.map cmdBytes).flatten
def frameBytes (l : List DCmd) : List UInt8 := cmdsBytes l ++ num 4 (crcOf (cmdsBytes l) : Int)

theorem cmdBytes_length (x : DCmd) : (cmdBytes x).length ≤ 64 + x.data.length := by
  have h1 := num_length 1 x.kind
  have h2 := targetBytes_length x
  have h3 := num_length 8 x.comp
  have h4 := num_length 2 x.data.length
  have h5 := num_length 1 255
  unfold cmdBytes dataBytes
  split
  · simp only [List.length_append]
    split <;> split <;> split <;> simp only [List.length_append, List.length_nil] <;> omega
  · omega
theorem checkCmd_data {x : DCmd} (h : checkCmd x = 0) : x.data.length ≤ 64 := by
  unfold checkCmd at h
  split at h
  · split at h
    · exact absurd h (by decide)
    · omega
  · exact absurd h (by decide)
theorem checkFrame_zero {l : List DCmd} (h : checkFrame l = 0) : l.length ≤ 64 ∧ ∀ x ∈ l, checkCmd x = 0 := by
  unfold checkFrame at h
  split at h
  · exact absurd h (by decide)
  · exact ⟨by omega, firstBad_zero h⟩
theorem flatten_bound : ∀ {l : List DCmd}, (∀ x ∈ l, x.data.length ≤ 64) → (l.map cmdBytes).flatten.length ≤ 128 * l.length
  | [], _ => by simp
  | x :: l, h => by
    have h1 := flatten_bound (l := l) fun y hy => h y (by simp [hy])
    have h2 := cmdBytes_length x
    have h3 := h x (by simp)
    simp only [List.map_cons, List.flatten_cons, List.length_append, List.length_cons]
    omega
theorem cmds_part {l : List DCmd} (hn : l.length ≤ 64) (hd : ∀ x ∈ l, x.data.length ≤ 64) (k : Nat) : (num 1 l.length ++ ((l.take k).map cmdBytes).flatten).length ≤ 10000 := by
  have h1 := num_length 1 l.length
  have h2 := flatten_bound (l := l.take k) fun x hx => hd x (List.mem_of_mem_take hx)
  have h3 : (l.take k).length ≤ l.length := by rw [List.length_take]; omega
  rw [List.length_append]; omega
theorem cmdsBytes_length {l : List DCmd} (hn : l.length ≤ 64) (hd : ∀ x ∈ l, x.data.length ≤ 64) : (cmdsBytes l).length ≤ 10000 := by
  have := cmds_part hn hd l.length
  rwa [List.take_length] at this
theorem frameBytes_length {l : List DCmd} (hn : l.length ≤ 64) (hd : ∀ x ∈ l, x.data.length ≤ 64) : (frameBytes l).length ≤ 10008 := by
  have h1 := cmdsBytes_length hn hd
  have h2 := num_length 4 (crcOf (cmdsBytes l) : Int)
  unfold frameBytes
  rw [List.length_append]; omega
theorem crc_i64 (l : List UInt8) : IntKind.i64.wrap ((crcOf l : Nat) : Int) = (crcOf l : Nat) := by
  have := crcOf_lt l
  exact IntWalk.i64_in _ ⟨by omega, by omega⟩

theorem flatten_single {α : Type} (q : List α) : [q].flatten = q := by simp
/-- A slice of one slice. -/
theorem val_single {α : Type} {r : Rep α} {e base : Nat} {Q : Nat → Prop} (w : World) (t : TypeId) {A : Option Addr} {c : Nat} {q : List α} (h : r.acc e base Q w (.slice A q.length c) q) :
    r.list.list.val (fun _ => True) (w.alloc (.cells #[.slice A q.length c] t)) (.slice (some ⟨w.heap.size, 0, none⟩) 1 1) [q] := by
  have hn := heap_alloc_new w (.cells #[.slice A q.length c] t)
  have hv : r.list.val (fun _ => True) (w.alloc (.cells #[.slice A q.length c] t)) (.slice A q.length c) q :=
    Rep.val_keep (w := w) (fun b _ hl => ⟨trivial, Below.heap_alloc _ _ _ hl.lt⟩) (Rep.acc_val h)
  obtain ⟨cs, hw, hr⟩ := hv
  have hcs : cs = [.slice A q.length c] := by
    obtain ⟨A', c', es, rfl, _⟩ := hr
    have : Value.slice A q.length c = .slice A' q.length c' := hw
    rw [this]
  subst hcs
  refine Rep.list_val rfl (Nat.le_refl _) (by simp [maxLen]) ⟨[.slice A q.length c], ⟨[.slice A q.length c], [], rfl, hr, rfl⟩, fun _ => ⟨w.heap.size, 0, rfl, trivial, ⟨_, _, _, hn⟩, ?_⟩⟩
  intro j u hj
  have hc : (w.alloc (.cells #[.slice A q.length c] t)).cell? ⟨w.heap.size, 0 + j, none⟩ = (#[Value.slice A q.length c] : Array Value)[0 + j]? := by simp only [World.cell?, hn]; rfl
  rw [hc]
  simpa using hj

/-- What frame.Put gives. -/
def PutRes (w : World) (l : List DCmd) (e : Ending) (w' : World) : Prop :=
  if checkFrame l = 0 then ∃ u, e = .returned (.tuple #[u, .int .i64 0]) ∧ Rep.byte.acc 5 w.heap.size (fun _ => False) w' u (frameBytes l) ∧ Below w.heap.size w w'
  else e = .returned (.tuple #[.slice none 0 0, .int .i64 (checkFrame l)]) ∧ Below w.heap.size w w'

def frameSize (l : List DCmd) : Int := if checkFrame l = 0 then (frameBytes l).length else 0
set_option maxRecDepth 100000 in
set_option maxHeartbeats 1000000 in
/-- ref14.Bytes -/
theorem rframeBytes_calls {Q : Nat → Prop} {w : World} {v : Value} {l : List DCmd} (hx : rCmd.list.val Q w v l) (hn : l.length ≤ 64) (hd : ∀ x ∈ l, x.data.length ≤ 64) :
    Calls Try.prog 27 #[v] w (ResA Rep.byte 5 w (frameBytes l)) := by
  obtain ⟨A, c, rfl, hc1, hc2, hA⟩ := Rep.val_list hx
  unfold maxLen at hc2
  have HX := Lib.hid hA
  have HD := Lib.hid hd
  have HN := Lib.hid (cmds_part hn hd)
  have HC := Lib.hid (show (crcOf (cmdsBytes l) : Nat) < 4294967296 from crcOf_lt _)
  have HW := wf_i64 (n := (l.length : Int)) (by omega) (by omega)
  clear hx hA hd
  go_enter Try.func27, Try.ntmps27
  go_wp2_with fail
  refine (rnum_calls (width := 1) (n := l.length) rfl HW).mono ?_
  rintro e w2 ⟨u, rfl, hu, hb2⟩
  have HU := Lib.hid hu
  have HB2 := Lib.hid hb2
  clear hu hb2
  go_wp2_with fail
  go_loopw [3, 4] (fun s i wr => ∃ k : Nat, i = .int .i64 k ∧ k ≤ l.length ∧ Rep.byte.acc 5 w.heap.size (fun _ => False) wr s (num 1 l.length ++ ((l.take k).map cmdBytes).flatten) ∧ Below w.heap.size w wr)
    (fun _ i _ => l.length - (intOf i).toNat)
  case atStart => exact ⟨0, rfl, by omega, by simpa using HU.out, HB2.out⟩
  case round =>
    obtain ⟨k, rfl, hk, hv, hb1⟩ := hrel
    have HB3 := Lib.hid hb1
    by_cases hlt : (k : Int) < l.length
    · have hk' : k < l.length := by omega
      obtain ⟨b, off, A6, c6, rfl, _, d0, d1, d2, d3, d4, d5, f0, f1, f2, f3, sp⟩ := rCmd_at (Rep.At.keep (w := w) (Q' := fun _ => True) (fun b _ hb => ⟨trivial, hb1.block b hb.lt⟩) HX.out) (List.getElem?_eq_getElem hk')
      have T := Lib.hid (show num 1 l.length ++ ((l.take (k + 1)).map cmdBytes).flatten = (num 1 l.length ++ ((l.take k).map cmdBytes).flatten) ++ cmdBytes l[k] by
        rw [take_flatten_succ cmdBytes hk']; simp only [List.append_assoc])
      have L := Lib.hid (HN.out k)
      have LD := Lib.hid (HD.out l[k] (List.getElem_mem hk'))
      generalize l[k] = x at *
      generalize num 1 l.length ++ ((l.take k).map cmdBytes).flatten = q at hv T L
      have HV := Lib.hid (rCmd_agg f0 f1 f2 f3 sp)
      have HQ := Lib.hid hv
      have L7 := Lib.hid (show q.length + (cmdBytes x).length ≤ maxLen ∧ (q.length + (cmdBytes x).length) * 1 ≤ 140737488355328 by have h1 := L.out; have h2 := cmdBytes_length x; have h3 := LD.out; unfold maxLen; omega)
      clear sp f0 f1 f2 f3 hb1 hv
      obtain ⟨Aq, cq, rfl, _, _⟩ := Rep.acc_form HQ.out
      go_wp2_with fail
      refine (rcmdPut_calls HV.out (by have := LD.out; omega)).mono ?_
      rintro e w3 ⟨u3, rfl, hu3, hb3⟩
      have HB5 := Lib.hid (HB3.out.trans (hb3.mono HB3.out.size))
      have HA3 := Lib.hid (Rep.acc_later HQ.out hb3)
      have HU3 := Lib.hid hu3
      clear hu3 hb3 d0 d1 d2 d3 d4 d5
      go_wp2_with (refine wpList_spread_leaf (e := 5) (base := w.heap.size) (Q := fun _ => False) Rep.leaf_byte rfl _ _ 33 rfl (.int .u8 0) 1 1 Try.underlying33 info5 rfl (by decide) rfl _ q (by exact rfl) HA3.out _ (cmdBytes x) (by exact rfl) HU3.out L7.out.1 L7.out.2 HB5.out.size ?_; intro v5 w5 hacc5 hgr5 hat5; rw [← T.out] at hacc5; have HU5 := Lib.hid hacc5; have D5 := Lib.hid (Rep.acc_below HA3.out HB5.out hgr5 HB5.out.size); clear hacc5 hgr5 hat5)
      exact ⟨⟨k + 1, by go_num, by omega, HU5.out, D5.out⟩, by simp [intOf]; omega⟩
    · obtain rfl : k = l.length := by omega
      have T := Lib.hid (show num 1 l.length ++ ((l.take l.length).map cmdBytes).flatten = cmdsBytes l by rw [List.take_length]; rfl)
      rw [T.out] at hv
      have HL := Lib.hid (show (cmdsBytes l).length ≤ 10000 by rw [← T.out]; exact HN.out _)
      have HF := Lib.hid (show frameBytes l = cmdsBytes l ++ num 4 (crcOf (cmdsBytes l) : Int) from rfl)
      generalize frameBytes l = F at *
      generalize cmdsBytes l = q at *
      have HV := Lib.hid hv
      obtain ⟨Aq, cq, rfl, _, _⟩ := Rep.acc_form hv
      clear hv hb1
      go_wp2_with fail
      refine (rcrc_calls (l := q) (Rep.acc_val HV.out)).mono ?_
      rintro e w5 ⟨rfl, hw⟩
      have hw2 := hw.symm
      subst hw2
      clear hw
      have hwr := crc_i64 q
      have hm := HC.out
      have hwf := wf_i64 (n := (crcOf q : Int)) (by omega) (by omega)
      generalize crcOf q = m at *
      have L7 := Lib.hid (show q.length + (num 4 (m : Int)).length ≤ maxLen ∧ (q.length + (num 4 (m : Int)).length) * 1 ≤ 140737488355328 by have h1 := HL.out; have h2 := num_length 4 m; unfold maxLen; omega)
      go_wp2_with fail
      refine (rnum_calls (width := 4) (n := m) rfl hwf).mono ?_
      rintro e w6 ⟨u6, rfl, hu6, hb6⟩
      have HB6 := Lib.hid (HB3.out.trans (hb6.mono HB3.out.size))
      have HA6 := Lib.hid (Rep.acc_later HV.out hb6)
      have HU6 := Lib.hid (Rep.acc_fresh hu6)
      clear hu6 hb6
      go_wp2_with (refine wpList_spread_leaf (e := 5) (base := w.heap.size) (Q := fun _ => False) Rep.leaf_byte rfl _ _ 33 rfl (.int .u8 0) 1 1 Try.underlying33 info5 rfl (by decide) rfl _ q (by exact rfl) HA6.out _ (num 4 (m : Int)) (by exact rfl) HU6.out L7.out.1 L7.out.2 HB6.out.size ?_; intro v5 w7 hacc5 hgr5 hat5; rw [← HF.out] at hacc5; have HU5 := Lib.hid hacc5; have D5 := Lib.hid (Rep.acc_below HA6.out HB6.out hgr5 HB6.out.size); clear hacc5 hgr5 hat5)
      go_ret
      exact ⟨_, rfl, HU5.out, D5.out⟩

end Go.Proofs.Yteljibjbndpncaa
