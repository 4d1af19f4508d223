/- Texts on which the proofs stand: NumMath, Get, RGet, Reader, DirBytes. No condition is laid on any input. -/
import Derived.Test.YteljibjbndpncaaWfG2
import Derived.Test.YteljibjbndpncaaWfG4
import Derived.Test.YteljibjbndpncaaWfTypes
import Derived.BigQuiet
import Derived.Deep.QuietTactic
import Derived.StillTailTactics
import Derived.Deep.RegionWith
/- Numbers as0 bytes, read back: the plain law. No program is named here. -/
namespace Go.Proofs.Yteljibjbndpncaa
open Go.RowKit

/-- The number that bytes are, the lowest first. -/
def leNat : List UInt8 → Nat
  | [] => 0
  | c :: l => c.toNat + 256 * leNat l
theorem leNat_lt : ∀ l : List UInt8, leNat l < 256 ^ l.length
  | [] => by simp [leNat]
  | c :: l => by
    have h := leNat_lt l
    have hc := c.toNat_lt
    have e : 256 ^ (c :: l).length = 256 * 256 ^ l.length := by rw [List.length_cons, Nat.pow_succ, Nat.mul_comm]
    simp only [leNat, e]
    omega
theorem leNat_append : ∀ l m : List UInt8, leNat (l ++ m) = leNat l + 256 ^ l.length * leNat m
  | [], m => by simp [leNat]
  | c :: l, m => by
    simp only [List.cons_append, leNat, leNat_append l m, List.length_cons, Nat.pow_succ]
    rw [Nat.mul_add, ← Nat.mul_assoc, Nat.mul_comm 256 (256 ^ l.length)]
    omega

/-- As a signed number of 64 bits. -/
def i64of (n : Nat) : Int := IntKind.i64.wrap (n : Int)
theorem i64of_small {n : Nat} (h : n < 9223372036854775808) : i64of n = n := by
  unfold i64of
  exact IntWalk.i64_in _ ⟨by omega, by omega⟩
theorem i64of_wf (n : Nat) : (Lit.int .i64 (i64of n)).wf = true := by
  unfold i64of
  simp [Lit.wf, IntKind.min, IntKind.max, IntKind.signed, IntKind.bits, IntKind.wrap]
  split <;> omega
theorem i64of_emod (n : Nat) (h : n < 18446744073709551616) : i64of n % 18446744073709551616 = n := by
  unfold i64of
  simp [IntKind.wrap, IntKind.signed, IntKind.bits]
  split <;> omega

/-- A number out of bytes, from a place on. -/
def getNum (b : List UInt8) (at_ width : Int) : Option Int :=
  if 0 ≤ at_ ∧ at_ + wide width ≤ b.length then some (i64of (leNat ((b.drop at_.toNat).take (wide width).toNat))) else none

theorem digit_leNat (n : Int) (m : Nat) (h : n % 18446744073709551616 = m) : ∀ (l : List UInt8) (k : Nat), l.length + k ≤ 8 → m / 256 ^ k % 256 ^ l.length = leNat l → (List.range' k l.length).map (digit n) = l
  | [], _, _, _ => rfl
  | c :: l, k, hk, hl => by
    simp only [List.length_cons, List.range'_succ, List.map_cons] at *
    have hc := c.toNat_lt
    have hp : 256 ^ (l.length + 1) = 256 * 256 ^ l.length := by rw [Nat.pow_succ, Nat.mul_comm]
    simp only [leNat] at hl
    rw [hp, Nat.mod_mul] at hl
    have h0 : m / 256 ^ k % 256 < 256 := Nat.mod_lt _ (by decide)
    have h1 : m / 256 ^ k % 256 = c.toNat := by omega
    have h2 : m / 256 ^ k / 256 % 256 ^ l.length = leNat l := by omega
    rw [Nat.div_div_eq_div_mul, ← Nat.pow_succ] at h2
    congr 1
    · unfold digit
      have hd : n / 2 ^ (8 * k) % 256 = ((m / 256 ^ k % 256 : Nat) : Int) := by
        have := u64_digit n k (by omega)
        rw [← this, h]
        have e : (2 : Int) ^ (8 * k) = ((256 ^ k : Nat) : Int) := by rw [Int.natCast_pow, Int.pow_mul]; rfl
        rw [e]
        rfl
      rw [hd, h1]
      simp
    · exact digit_leNat n m h l (k + 1) (by omega) h2

/-- Bytes, read as0 a number, are just those that this number has. -/
theorem num_leNat (width : Int) (l : List UInt8) (h : l.length = (wide width).toNat) : num width (i64of (leNat l)) = l := by
  have h8 : l.length ≤ 8 := by have := wide_le width; omega
  have hlt := leNat_lt l
  have hm : leNat l < 18446744073709551616 := Nat.lt_of_lt_of_le hlt (Nat.le_trans (Nat.pow_le_pow_right (by decide) h8) (by decide))
  unfold num
  rw [← h, List.range_eq_range']
  exact digit_leNat _ (leNat l) (i64of_emod _ hm) l 0 (by omega) (by simp; exact Nat.mod_eq_of_lt hlt)
end Go.Proofs.Yteljibjbndpncaa
/- Walks of the functions that read numbers out of bytes. -/
namespace Go.Proofs.Yteljibjbndpncaa
open Go.RowKit

theorem ofInt_i64of (n : Nat) : BitVec.ofInt 64 (i64of n) = BitVec.ofNat 64 n := by
  apply BitVec.eq_of_toNat_eq
  unfold i64of
  rw [IntKind.wrap_i64]
  simp only [BitVec.toNat_ofInt, BitVec.toNat_ofNat]
  omega
theorem wrap64_i64of (n : Nat) : wrap64 (n : Int) = i64of n := (IntWalk.i64_left _).symm
/-- A byte laid beside what there is. -/
theorem or_byte (M : Nat) (k : Nat) (hM : M < 256 ^ k) (hk : k < 8) (x : UInt8) : bits BinOp.or IntKind.i64 (i64of M) (wrap64 (wrap64 (x.toNat : Int) * 2 ^ (8 * k))) = i64of (M + 256 ^ k * x.toNat) := by
  have hx := x.toNat_lt
  have e1 : wrap64 (x.toNat : Int) = x.toNat := IntWalk.wrap64_in _ ⟨by omega, by omega⟩
  have e2 : (x.toNat : Int) * 2 ^ (8 * k) = ((x.toNat * 2 ^ (8 * k) : Nat) : Int) := by simp
  have hp : 256 ^ k = 2 ^ (8 * k) := by rw [Nat.pow_mul]
  have hpos : 0 < 2 ^ (8 * k) := Nat.pow_pos (by decide)
  have h64 : 2 ^ (8 * k) * 256 ≤ 2 ^ 64 := by
    rw [show (256 : Nat) = 2 ^ 8 from rfl, ← Nat.pow_add]
    exact Nat.pow_le_pow_right (by decide) (by omega)
  have hmul : x.toNat * 2 ^ (8 * k) + 2 ^ (8 * k) ≤ 2 ^ (8 * k) * 256 := by
    have : x.toNat + 1 ≤ 256 := by omega
    calc x.toNat * 2 ^ (8 * k) + 2 ^ (8 * k) = (x.toNat + 1) * 2 ^ (8 * k) := by rw [Nat.add_mul, Nat.one_mul]
      _ ≤ 256 * 2 ^ (8 * k) := Nat.mul_le_mul_right _ this
      _ = _ := Nat.mul_comm _ _
  rw [hp] at hM ⊢
  rw [e1, e2]
  have e3 := wrap64_i64of (x.toNat * 2 ^ (8 * k))
  rw [e3]
  unfold bits
  simp only [IntKind.bits, ofInt_i64of]
  have e4 : (BitVec.ofNat 64 M ||| BitVec.ofNat 64 (x.toNat * 2 ^ (8 * k))).toNat = M + 2 ^ (8 * k) * x.toNat := by
    rw [BitVec.toNat_or, BitVec.toNat_ofNat, BitVec.toNat_ofNat, Nat.mod_eq_of_lt (by omega), Nat.mod_eq_of_lt (by omega), Nat.or_comm, ← Nat.shiftLeft_eq, ← Nat.shiftLeft_add_eq_or_of_lt hM, Nat.shiftLeft_eq, Nat.add_comm, Nat.mul_comm]
  exact congrArg (fun n : Nat => IntKind.i64.wrap (n : Int)) e4

theorem leNat_take_succ {s : List UInt8} {k : Nat} (h : k < s.length) : leNat (s.take (k + 1)) = leNat (s.take k) + 256 ^ k * s[k].toNat := by
  rw [List.take_succ_eq_append_getElem h, leNat_append]
  simp [leNat, Nat.min_eq_left (Nat.le_of_lt h)]
theorem leNat_drop {s : List UInt8} {k : Nat} (h : k < s.length) : leNat (s.drop k) = s[k].toNat + 256 * leNat (s.drop (k + 1)) := by
  rw [← List.getElem_cons_drop h]; rfl
theorem getNum_some {b : List UInt8} {p k0 : Nat} {width : Int} (hW : (k0 : Int) = wide width) (h : p + k0 ≤ b.length) : getNum b p width = some (i64of (leNat ((b.drop p).take k0))) := by
  rw [getNum, ← hW, if_pos ⟨by omega, by omega⟩]; simp
theorem getNum_none {b : List UInt8} {at_ width : Int} (h : ¬ (0 ≤ at_ ∧ at_ + wide width ≤ b.length)) : getNum b at_ width = none := by
  rw [getNum, if_neg h]
theorem getNum_wf (b : List UInt8) (at_ width : Int) : (Lit.int .i64 ((getNum b at_ width).getD 0)).wf = true := by
  unfold getNum
  split
  · exact i64of_wf _
  · rfl

set_option maxRecDepth 10000 in
set_option maxHeartbeats 1000000 in
/-- le.Get -/
theorem get_calls {Q : Nat → Prop} {w : World} {v : Value} {b : List UInt8} {at_ width : Int} (hx : Rep.byte.list.val Q w v b) (ha : (Lit.int .i64 at_).wf = true) :
    Calls Try.prog 121 #[v, .int .i64 at_, .int .i64 width] w fun e w' => e = .returned (.tuple #[.int .i64 ((getNum b at_ width).getD 0), .bool (getNum b at_ width).isSome]) ∧ w' = w := by
  have ha1 : -9223372036854775808 ≤ at_ ∧ at_ ≤ 9223372036854775807 := by simpa [Lit.wf, IntKind.min, IntKind.max, IntKind.signed, IntKind.bits] using ha
  obtain ⟨A, c, rfl, hc1, hc2, hA⟩ := Rep.val_list hx
  unfold maxLen at hc2
  obtain ⟨W, hW⟩ : ∃ W, W = wide width := ⟨_, rfl⟩
  have g1 := wide_ge width
  have g2 := wide_le width
  rw [← hW] at g1 g2
  by_cases hok : 0 ≤ at_ ∧ at_ + W ≤ b.length
  · have HW := Lib.hid hW
    clear hW hx
    obtain ⟨h0, h1⟩ := hok
    obtain ⟨p, rfl⟩ : ∃ p : Nat, at_ = p := ⟨at_.toNat, by omega⟩
    obtain ⟨k0, hk0⟩ : ∃ k0 : Nat, W = k0 := ⟨W.toNat, by omega⟩
    subst hk0
    have HR := Lib.hid (getNum_some HW.out (show p + k0 ≤ b.length by omega))
    clear ha
    have n1 : ¬ (b.length : Int) < p := by omega
    have n2 : ¬ ((b.length : Int) - p < k0) := by omega
    have HC := Lib.hid (show ∀ k : Nat, k < k0 → ∃ (b0 o0 : Nat) (h : k < ((b.drop p).take k0).length), A = some ⟨b0, o0, none⟩ ∧ w.cell? ⟨b0, o0 + p + k, none⟩ = some (.int .u8 ((((b.drop p).take k0)[k]).toNat : Int)) from fun k hk => by
      obtain ⟨b0, o0, h3, h4⟩ := hA.byte (i := p + k) (x := b[p + k]'(by omega)) (List.getElem?_eq_getElem (by omega))
      exact ⟨b0, o0, by simp; omega, h3, by rw [Nat.add_assoc, h4]; simp⟩)
    have HL := Lib.hid (show ((b.drop p).take k0).length = k0 by simp; omega)
    generalize (b.drop p).take k0 = S at *
    go_enter Try.func121, Try.ntmps121
    go_wp2_with (go_at_call 113; refine (wide_calls _ _).mono ?_; rintro e w' ⟨rfl, rfl⟩; rw [← HW.out])
    go_loop [6, 38] (fun s i => ∃ k : Nat, k ≤ k0 ∧ i = .int .i64 k ∧ s = .int .i64 (i64of (leNat (S.take k)))) (fun _ i => k0 - (intOf i).toNat)
    case atStart => exact ⟨0, by omega, rfl, by simp [leNat, i64of, IntKind.wrap, IntKind.signed, IntKind.bits]⟩
    case round =>
      obtain ⟨k, hk, rfl, rfl⟩ := hrel
      by_cases hlt : (k : Int) < k0
      · obtain ⟨b0, o0, hks, rfl, hcell⟩ := HC.out k (by omega)
        have T := Lib.hid (show ∀ x : UInt8, x = S[k] → bits BinOp.or IntKind.i64 (i64of (leNat (S.take k))) (wrap64 (wrap64 (x.toNat : Int) * 2 ^ (8 * k))) = i64of (leNat (S.take (k + 1))) from fun x hx => by
          subst hx
          rw [leNat_take_succ hks]
          refine or_byte _ k ?_ (by omega) _
          have := leNat_lt (S.take k)
          rwa [List.length_take, Nat.min_eq_left (by omega)] at this)
        generalize hxx : S[k] = x at *
        have TT := Lib.hid (T.out x rfl)
        generalize i64of (leNat (S.take k)) = m at *
        clear hxx T
        go_wp2_with fail
        go_round
        case rel => exact ⟨k + 1, by omega, by go_num, by rw [TT.out]⟩
        case measure => simp [intOf]; omega
      · obtain rfl : k = k0 := by omega
        have R := Lib.hid (show i64of (leNat (S.take k)) = i64of (leNat S) by rw [List.take_of_length_le (by rw [HL.out]; exact Nat.le_refl _)])
        generalize i64of (leNat (S.take k)) = m at *
        go_wp2_with fail
        go_ret2
        exact ⟨by rw [HR.out, ← R.out]; rfl, rfl⟩
  · have HR := Lib.hid (getNum_none (b := b) (at_ := at_) (width := width) (by rw [← hW]; exact hok))
    have HW := Lib.hid hW
    clear hW hx ha hA
    by_cases c1 : at_ < 0
    · clear hok
      go_enter Try.func121, Try.ntmps121
      go_wp2_with (go_at_call 113; refine (wide_calls _ _).mono ?_; rintro e w' ⟨rfl, rfl⟩; rw [← HW.out])
      go_ret2
      exact ⟨by rw [HR.out]; rfl, rfl⟩
    · obtain ⟨p, rfl⟩ : ∃ p : Nat, at_ = p := ⟨at_.toNat, by omega⟩
      by_cases c2 : (b.length : Int) < p
      · clear hok
        go_enter Try.func121, Try.ntmps121
        go_wp2_with (go_at_call 113; refine (wide_calls _ _).mono ?_; rintro e w' ⟨rfl, rfl⟩; rw [← HW.out])
        go_ret2
        exact ⟨by rw [HR.out]; rfl, rfl⟩
      · have c3 : (b.length : Int) - p < W := by omega
        clear hok
        go_enter Try.func121, Try.ntmps121
        go_wp2_with (go_at_call 113; refine (wide_calls _ _).mono ?_; rintro e w' ⟨rfl, rfl⟩; rw [← HW.out])
        go_ret2
        exact ⟨by rw [HR.out]; rfl, rfl⟩

end Go.Proofs.Yteljibjbndpncaa
/- Walk of the reference's function that reads a number out of bytes. -/
namespace Go.Proofs.Yteljibjbndpncaa
open Go.RowKit

theorem fin_some {g : Option Int} {z : Int} (h : g = some z) : Ending.returned (.tuple #[.int .i64 z, .bool true]) = Ending.returned (.tuple #[.int .i64 (g.getD 0), .bool g.isSome]) := by subst h; rfl

end Go.Proofs.Yteljibjbndpncaa
/- Walks of the reader over bytes. -/

namespace Go.Proofs.Yteljibjbndpncaa
open Go.RowKit

/-- A reader lies in block p: over the bytes b, at a place; whether something was not there. -/
structure RdrAt (w : World) (p : Nat) (A : Option Addr) (c : Nat) (b : List UInt8) (at_ : Nat) (bad : Bool) : Prop where
  blk : w.heap[p]? = some (.cells #[.slice A b.length c, .int .i64 at_, .bool bad] 214 (0, 0))
  sl : Rep.byte.Sl (fun x => x < p) w A c b
  le : at_ ≤ b.length
theorem RdrAt.c0 {w : World} {p : Nat} {A : Option Addr} {c : Nat} {b : List UInt8} {at_ : Nat} {bad : Bool} (h : RdrAt w p A c b at_ bad) : w.cell? ⟨p, 0, none⟩ = some (.slice A b.length c) := by simp [World.cell?, h.blk]
theorem RdrAt.c1 {w : World} {p : Nat} {A : Option Addr} {c : Nat} {b : List UInt8} {at_ : Nat} {bad : Bool} (h : RdrAt w p A c b at_ bad) : w.cell? ⟨p, 1, none⟩ = some (.int .i64 at_) := by simp [World.cell?, h.blk]
theorem RdrAt.c2 {w : World} {p : Nat} {A : Option Addr} {c : Nat} {b : List UInt8} {at_ : Nat} {bad : Bool} (h : RdrAt w p A c b at_ bad) : w.cell? ⟨p, 2, none⟩ = some (.bool bad) := by simp [World.cell?, h.blk]
theorem RdrAt.z {w : World} {p : Nat} {A : Option Addr} {c : Nat} {b : List UInt8} {at_ : Nat} {bad : Bool} (h : RdrAt w p A c b at_ bad) (i : Nat) : w.frozen? ⟨p, i, none⟩ = false := by simp [World.frozen?, h.blk]
theorem RdrAt.keep {w w' : World} {p : Nat} {A : Option Addr} {c : Nat} {b : List UInt8} {at_ : Nat} {bad : Bool} (h : RdrAt w p A c b at_ bad) (hk : ∀ x, IsC w x → w'.heap[x]? = w.heap[x]?) : RdrAt w' p A c b at_ bad :=
  ⟨(hk p ⟨_, _, _, h.blk⟩).trans h.blk, h.sl.keep fun x hx hl => ⟨hx, hk x hl⟩, h.le⟩
theorem RdrAt.drewN {w : World} {p : Nat} {A : Option Addr} {c : Nat} {b : List UInt8} {at_ : Nat} {bad : Bool} (h : RdrAt w p A c b at_ bad) (n : Nat) : RdrAt (w.drewN n) p A c b at_ bad := h.keep (w' := w.drewN n) fun _ _ => rfl
theorem RdrAt.lt {w : World} {p : Nat} {A : Option Addr} {c : Nat} {b : List UInt8} {at_ : Nat} {bad : Bool} (h : RdrAt w p A c b at_ bad) : p < w.heap.size := IsC.lt ⟨_, _, _, h.blk⟩

/-- (*le.Reader).OK -/
theorem ok_calls {w : World} {p : Nat} {A : Option Addr} {c : Nat} {b : List UInt8} {at_ : Nat} {bad : Bool} (h : RdrAt w p A c b at_ bad) :
    Calls Try.prog 135 #[.pointer (some ⟨p, 0, none⟩)] w fun e w' => e = .returned (.bool (!bad)) ∧ w' = w := by
  have c2 := h.c2
  clear h
  go_enter Try.func135, Try.ntmps135
  go_wp2_with fail
  go_ret
  exact ⟨rfl, rfl⟩

/-- (*le.Reader).Left -/
theorem left_calls {w : World} {p : Nat} {A : Option Addr} {c : Nat} {b : List UInt8} {at_ : Nat} {bad : Bool} (h : RdrAt w p A c b at_ bad) (hb : b.length ≤ 1000000000) :
    Calls Try.prog 147 #[.pointer (some ⟨p, 0, none⟩)] w fun e w' => e = .returned (.int .i64 ((b.length : Int) - at_)) ∧ ∃ n, w' = w.drewN n := by
  have c0 := h.c0
  have c1 := h.c1
  have hle := h.le
  clear h
  go_enter Try.func147, Try.ntmps147
  go_wp2_with fail
  go_quiet (fail)
  go_wp2_with fail
  go_ret
  exact ⟨rfl, _, rfl⟩

/-- A reader of its own over the bytes. -/
def ReadRes (w : World) (b : List UInt8) (e : Ending) (w' : World) : Prop :=
  ∃ p A c, e = .returned (.pointer (some ⟨p, 0, none⟩)) ∧ RdrAt w' p A c b 0 false ∧ w.heap.size ≤ p ∧ Below w.heap.size w w' ∧ Rep.byte.Sl (fun x => w.heap.size ≤ x ∧ x ≠ p) w' A c b

/-- le.Read -/
theorem read_calls {Q : Nat → Prop} {w : World} {v : Value} {b : List UInt8} (hx : Rep.byte.list.val Q w v b) (hl : b.length ≤ 1000000000) :
    Calls Try.prog 118 #[v] w (ReadRes w b) := by
  obtain ⟨A, c, rfl, _, _, _⟩ := Rep.val_list hx
  have HX := Lib.hid hx
  clear hx
  go_enter Try.func118, Try.ntmps118
  go_wp2_with (go_at_call 97; refine (sliceClone HX.out (by omega)).mono ?_; rintro e w1 ⟨u, rfl, hu, hb⟩; have HU := Lib.hid hu; obtain ⟨A2, c2, rfl, _, _⟩ := Rep.acc_form hu; clear hu)
  go_ret
  have hs := Rep.val_sl (Rep.acc_fresh HU.out)
  obtain ⟨A3, c3, he, hs⟩ := hs
  cases he
  have hb' : Below w1.heap.size w1 (w1.alloc (.cells #[.slice A2 b.length c2, .int .i64 0, .bool false] 214)) := (Below.refl _ _).alloc (Nat.le_refl _) _
  refine ⟨w1.heap.size, A2, c2, rfl, ⟨heap_alloc_new w1 _, hs.keep fun x hx hl => ⟨?_, hb'.block x hl.lt⟩, Nat.zero_le _⟩, hb.size, hb.trans (hb'.mono hb.size), hs.keep fun x hx hl => ⟨⟨hx, ?_⟩, hb'.block x hl.lt⟩⟩
  · have := hl.lt; omega
  · have := hl.lt; omega

/-- What the next number is, where the reader is then, and whether something was not there. -/
def rdNum (b : List UInt8) (at_ : Nat) (bad : Bool) (width : Int) : Int × Nat × Bool :=
  if bad then (0, at_, true) else match getNum b at_ width with
    | none => (0, at_, true)
    | some n => (n, at_ + (wide width).toNat, false)
theorem getNum_le {b : List UInt8} {at_ : Nat} {width n : Int} (h : getNum b at_ width = some n) : (at_ : Int) + wide width ≤ b.length := by
  unfold getNum at h
  split at h
  · rename_i hh; exact hh.2
  · cases h
def NumRes (w : World) (p : Nat) (A : Option Addr) (c : Nat) (b : List UInt8) (r : Int × Nat × Bool) (e : Ending) (w' : World) : Prop :=
  e = .returned (.int .i64 r.1) ∧ RdrAt w' p A c b r.2.1 r.2.2 ∧ w.grownBy w' (some p)

theorem heap_setRow {w : World} {b i e : Nat} {cs : Array Value} {v : Value} {f : Nat × Nat} (h : w.heap[b]? = some (.cells cs e f)) : (w.setCell ⟨b, i, none⟩ v).heap[b]? = some (.cells (cs.setIfInBounds i v) e f) := by
  simp [World.setCell, Array.getElem?_modify, h]
theorem grownBy_drewN (w : World) (n : Nat) (row : Option Nat) : w.grownBy (w.drewN n) row := ⟨rfl, rfl, rfl, Nat.le_refl _, fun _ _ _ => rfl⟩

theorem grownBy_setCell (w : World) (a : Addr) (v : Value) : w.grownBy (w.setCell a v) (some a.block) :=
  ⟨rfl, rfl, rfl, by simp, fun b _ hne => Below.heap_setCell _ _ _ _ (fun e => hne (by rw [e]))⟩
theorem setBad {w : World} {p : Nat} {A : Option Addr} {c : Nat} {b : List UInt8} {at_ : Nat} {bad : Bool} (h : RdrAt w p A c b at_ bad) : RdrAt (w.setCell ⟨p, 2, none⟩ (.bool true)) p A c b at_ true :=
  ⟨by rw [heap_setRow h.blk]; rfl, h.sl.keep fun x hx _ => ⟨hx, Below.heap_setCell _ _ _ _ (Nat.ne_of_lt hx)⟩, h.le⟩
theorem setAt {w : World} {p : Nat} {A : Option Addr} {c : Nat} {b : List UInt8} {at_ at2 : Nat} {bad : Bool} (h : RdrAt w p A c b at_ bad) (hl : at2 ≤ b.length) : RdrAt (w.setCell ⟨p, 1, none⟩ (.int .i64 at2)) p A c b at2 bad :=
  ⟨by rw [heap_setRow h.blk]; rfl, h.sl.keep fun x hx _ => ⟨hx, Below.heap_setCell _ _ _ _ (Nat.ne_of_lt hx)⟩, hl⟩

set_option maxRecDepth 100000 in
set_option maxHeartbeats 1000000 in
/-- (*le.Reader).Num -/
theorem rdnum_calls {w : World} {p : Nat} {A : Option Addr} {c : Nat} {b : List UInt8} {at_ : Nat} {bad : Bool} {width : Int} (h : RdrAt w p A c b at_ bad) (hb : b.length ≤ 1000000000) :
    Calls Try.prog 119 #[.pointer (some ⟨p, 0, none⟩), .int .i64 width] w (NumRes w p A c b (rdNum b at_ bad width)) := by
  have c0 := h.c0
  have c1 := h.c1
  have c2 := h.c2
  have z1 := h.z 1
  have z2 := h.z 2
  have hle := h.le
  have HWF := Lib.hid (show (Lit.int .i64 (at_ : Int)).wf = true from wf_i64 (by omega) (by omega))
  have H := Lib.hid h
  clear h
  cases bad with
  | true =>
    have R := Lib.hid (show rdNum b at_ true width = (0, at_, true) from rfl)
    go_enter Try.func119, Try.ntmps119
    go_wp2_with (go_at_call 135; refine (ok_calls H.out).mono ?_; rintro e w' ⟨rfl, rfl⟩)
    go_ret
    rw [R.out]
    exact ⟨rfl, H.out, World.grownBy.refl _ _⟩
  | false =>
    cases hg : getNum b at_ width with
    | none =>
      have R := Lib.hid (show rdNum b at_ false width = (0, at_, true) by simp [rdNum, hg])
      have G := Lib.hid hg
      clear hg
      go_enter Try.func119, Try.ntmps119
      go_wp2_with (go_at_call 135; refine (ok_calls H.out).mono ?_; rintro e w' ⟨rfl, rfl⟩)
      go_quiet ((go_at_call 121; exact Calls.quiet_of_same (get_calls (H.out.drewN _).sl.val HWF.out)))
      rw [G.out]
      go_wp2_with fail
      go_ret
      rw [R.out]
      have hg := grownBy_drewN w' nq (some p)
      generalize hW : w'.drewN nq = W at *
      have h1 : RdrAt W p A c b at_ false := by rw [← hW]; exact H.out.drewN nq
      exact ⟨rfl, setBad h1, hg.trans (grownBy_setCell _ _ _)⟩
    | some n =>
      have R := Lib.hid (show rdNum b at_ false width = (n, at_ + (wide width).toNat, false) by simp [rdNum, hg])
      have G := Lib.hid hg
      clear hg
      go_enter Try.func119, Try.ntmps119
      go_wp2_with (go_at_call 135; refine (ok_calls H.out).mono ?_; rintro e w' ⟨rfl, rfl⟩)
      go_quiet ((go_at_call 121; exact Calls.quiet_of_same (get_calls (H.out.drewN _).sl.val HWF.out)))
      rw [G.out]
      simp only [Option.getD_some, Option.isSome_some]
      go_wp2_with fail
      have h1 : RdrAt (w'.drewN nq) p A c b at_ false := H.out.drewN nq
      have hg := grownBy_drewN w' nq (some p)
      generalize w'.drewN nq = W1 at *
      have d1 := h1.c1
      have y1 := h1.z 1
      have HG := Lib.hid hg
      have H1 := Lib.hid h1
      have g1 := wide_ge width
      have g2 := wide_le width
      obtain ⟨k, hk⟩ : ∃ k : Nat, wide width = k := ⟨(wide width).toNat, by omega⟩
      rw [hk] at g1 g2
      have hle2 := getNum_le G.out
      have hs : IntKind.i64.wrap ((at_ : Int) + (k : Int)) = ((at_ + k : Nat) : Int) := by rw [IntWalk.i64_in _ ⟨by omega, by omega⟩]; rfl
      have HL := Lib.hid (show at_ + k ≤ b.length by omega)
      have HK := Lib.hid hk
      clear hk hle2 c0 c1 c2 z1 z2 hg h1
      go_region_with ((go_at_call 113; refine (wide_calls _ _).mono ?_; rintro e w' ⟨rfl, rfl⟩; rw [HK.out]))
      all_goals
        go_wp2_with fail
        go_ret
        rw [R.out, HK.out]
        exact ⟨rfl, (setAt H1.out HL.out).drewN 1, (HG.out.trans (grownBy_setCell _ _ _)).trans (grownBy_drewN _ 1 _)⟩
end Go.Proofs.Yteljibjbndpncaa
/- Walks of the functions that put a directory as0 bytes. -/
namespace Go.Proofs.Yteljibjbndpncaa
open Go.RowKit

def entHead (x : DEntry) : List UInt8 := num 1 x.key.kind ++ num 8 (wrap64 x.key.sig) ++ num 1 x.key.comp ++ num 4 x.long ++ num 2 x.pages.length
def entBytes (x : DEntry) : List UInt8 := entHead x ++ (x.pages.map (num 2)).flatten
def dirBytes (l : List DEntry) : List UInt8 := num 2 l.length ++ (l.map entBytes).flatten

theorem flatten_prefix {α : Type} (f : α → List UInt8) (l : List α) (k : Nat) : ((l.take k).map f).flatten.length ≤ (l.map f).flatten.length := by
  have h : (l.map f).flatten = ((l.take k).map f).flatten ++ ((l.drop k).map f).flatten := by rw [← List.flatten_append, ← List.map_append, List.take_append_drop]
  rw [h, List.length_append]; omega
theorem wrap64_wf (n : Int) : (Lit.int .i64 (wrap64 n)).wf = true := by
  simp [Lit.wf, IntKind.min, IntKind.max, IntKind.signed, IntKind.bits, wrap64]; omega
theorem dirBytes_prefix {l : List DEntry} {k : Nat} (hk : k < l.length) : (num 2 l.length ++ ((l.take k).map entBytes).flatten).length + (entBytes l[k]).length ≤ (dirBytes l).length := by
  have h1 := flatten_prefix entBytes l (k + 1)
  rw [take_flatten_succ entBytes hk] at h1
  simp only [dirBytes, List.length_append] at *
  omega
theorem entBytes_prefix (x : DEntry) (k : Nat) : (entHead x).length + ((x.pages.take k).map (num 2)).flatten.length ≤ (entBytes x).length := by
  have := flatten_prefix (num 2) x.pages k
  simp only [entBytes, List.length_append]; omega

end Go.Proofs.Yteljibjbndpncaa
