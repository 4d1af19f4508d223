/- Texts on which the proofs stand: Clone, Le, NumMath, Get, Same, Page. No condition is laid on any input. -/
import Derived.Test.YtghbfbohnoebiaaGreatSnG2
import Derived.Test.YtghbfbohnoebiaaGreatProg
import Derived.BigQuiet
import Derived.Deep.QuietTactic
namespace Go.Proofs.YtghbfbohnoebiaaGreat
open Go.RowKit

theorem info22 : (Tryz.prog.info? 71).map (fun i => (i.zero, i.size, i.bytes)) = some (some (.slice none 0 0), 1, 24) := by kernel_rfl
theorem info5 : (Tryz.prog.info? 5).map (fun i => (i.zero, i.size, i.bytes)) = some (some (.int .u8 0), 1, 1) := by kernel_rfl

/-- bytes.Clone -/
theorem bytesClone {Q : Nat → Prop} {w : World} {v : Value} {l : List UInt8} (hx : Rep.byte.list.val Q w v l) (hl : l.length ≤ 100000000000000) :
    Calls Tryz.prog 165 #[v] w (Res Rep.byte.list (fun b => w.heap.size ≤ b) w l) := by
  obtain ⟨A, c, rfl, hc1, hc2, hA⟩ := Rep.val_list hx
  unfold maxLen at hc2
  cases A with
  | none =>
    have hnil : l = [] := by
      rcases Nat.eq_zero_or_pos l.length with h | h
      · exact List.eq_nil_of_length_eq_zero h
      · obtain ⟨b, off, h⟩ := hA.addr h; cases h
    subst hnil
    have he := fun w => Lib.run_eql_slice_nil (P := Tryz.prog) w 71 5 none 0 c 0 0 Tryz.underlying71
    go_enter Tryz.func165, Tryz.ntmps165
    go_wp2_with fail
    go_ret
    exact ⟨_, rfl, Rep.val_nil (by simp [maxLen]), Below.refl _ _⟩
  | some a =>
    have he := fun w => Lib.run_eql_slice_nil (P := Tryz.prog) w 71 5 (some a) l.length c 0 0 Tryz.underlying71
    have HX := Lib.hid (show Rep.byte.list.val (fun b => b < w.heap.size) (w.alloc (.cells #[] 5)) (.slice (some a) l.length c) l from Rep.val_keep (w := w) (fun b _ hl => ⟨hl.lt, Below.heap_alloc _ _ _ hl.lt⟩) hx)
    have HA := Lib.hid (show Rep.byte.acc 5 w.heap.size (fun _ => False) (w.alloc (.cells #[] 5)) (.slice (some ⟨w.heap.size, 0, none⟩) 0 0) [] from Rep.acc_made w #[] 0 (Nat.le_refl _) (by simp [maxLen]) (by simp))
    have HB1 := Lib.hid (show ([] : List UInt8).length + l.length ≤ maxLen from by simp [maxLen]; omega)
    have HB2 := Lib.hid (show (([] : List UInt8).length + l.length) * 1 ≤ 140737488355328 from by simp; omega)
    have HB3 := Lib.hid (show w.heap.size ≤ (w.alloc (.cells #[] 5)).heap.size from by simp)
    clear hx hA
    go_enter Tryz.func165, Tryz.ntmps165
    go_wp2_with (refine wpList_spread_leaf (e := 5) (base := w.heap.size) (Q := fun _ => False) Rep.leaf_byte rfl _ _ 71 rfl (.int .u8 0) 1 1 Tryz.underlying71 info5 rfl (by decide) rfl _ [] (by exact rfl) HA.out _ l (by exact rfl) HX.out HB1.out HB2.out HB3.out ?_; intro v' w' hacc' hgr hat)
    go_ret
    exact ⟨_, rfl, by simpa using Rep.acc_fresh hacc', Rep.acc_below HA.out ((Below.refl _ w).alloc (Nat.le_refl _) _) hgr HB3.out⟩
end Go.Proofs.YtghbfbohnoebiaaGreat
namespace Go.Proofs.YtghbfbohnoebiaaGreat
open Go.RowKit

def wide (n : Int) : Int := if n < 1 then 1 else if 8 < n then 8 else n
theorem wide_ge (n : Int) : 1 ≤ wide n := by unfold wide; split <;> (try split) <;> omega
theorem wide_le (n : Int) : wide n ≤ 8 := by unfold wide; split <;> (try split) <;> omega

/-- le.wide -/
theorem wide_calls (n : Int) (w : World) :
    Calls Tryz.prog 205 #[.int .i64 n] w fun e w' => e = .returned (.int .i64 (wide n)) ∧ w' = w := by
  by_cases h : n < 1
  · have hf : wide n = 1 := by rw [wide, if_pos h]
    have HF := Lib.hid hf
    clear hf
    go_enter Tryz.func205, Tryz.ntmps205
    go_wp2_with fail
    go_ret
    exact ⟨by rw [HF.out]; rfl, rfl⟩
  · by_cases h' : 8 < n
    · have hf : wide n = 8 := by rw [wide, if_neg h, if_pos h']
      have HF := Lib.hid hf
      clear hf
      go_enter Tryz.func205, Tryz.ntmps205
      go_wp2_with fail
      go_ret
      exact ⟨by rw [HF.out]; rfl, rfl⟩
    · have hf : wide n = n := by rw [wide, if_neg h, if_neg h']
      have HF := Lib.hid hf
      clear hf
      go_enter Tryz.func205, Tryz.ntmps205
      go_wp2_with fail
      go_ret
      exact ⟨by rw [HF.out]; rfl, rfl⟩
/-- A call that returns a slice of its own that reads as0 x. -/
def ResA {α : Type} (r : Rep α) (e : Nat) (w : World) (x : List α) (en : Ending) (w' : World) : Prop := ∃ u, en = .returned u ∧ r.acc e w.heap.size (fun _ => False) w' u x ∧ Below w.heap.size w w'
theorem Rep.acc_later {α : Type} {r : Rep α} {e base : Nat} {Q : Nat → Prop} {w w' : World} {v : Value} {xs : List α} (h : r.acc e base Q w v xs) (hb : Below w.heap.size w w') : r.acc e base Q w' v xs :=
  Rep.acc_keep (fun b _ hl => hb.block b hl.lt) (fun _ h _ => h) h

/-- slices.Clone of bytes -/
theorem sliceClone {Q : Nat → Prop} {w : World} {v : Value} {l : List UInt8} (hx : Rep.byte.list.val Q w v l) (hl : l.length ≤ 100000000000000) :
    Calls Tryz.prog 59 #[v] w (ResA Rep.byte 5 w l) := by
  obtain ⟨A, c, rfl, hc1, hc2, hA⟩ := Rep.val_list hx
  unfold maxLen at hc2
  cases A with
  | none =>
    have hnil : l = [] := by
      rcases Nat.eq_zero_or_pos l.length with h | h
      · exact List.eq_nil_of_length_eq_zero h
      · obtain ⟨b, off, h⟩ := hA.addr h; cases h
    subst hnil
    have he := fun w => Lib.run_eql_slice_nil (P := Tryz.prog) w 71 5 none 0 c 0 0 Tryz.underlying71
    go_enter Tryz.func59, Tryz.ntmps59
    go_wp2_with fail
    go_ret
    exact ⟨_, rfl, Rep.acc_nil, Below.refl _ _⟩
  | some a =>
    have he := fun w => Lib.run_eql_slice_nil (P := Tryz.prog) w 71 5 (some a) l.length c 0 0 Tryz.underlying71
    have HX := Lib.hid (show Rep.byte.list.val (fun b => b < w.heap.size) (w.alloc (.cells #[] 5)) (.slice (some a) l.length c) l from Rep.val_keep (w := w) (fun b _ hl => ⟨hl.lt, Below.heap_alloc _ _ _ hl.lt⟩) hx)
    have HA := Lib.hid (show Rep.byte.acc 5 w.heap.size (fun _ => False) (w.alloc (.cells #[] 5)) (.slice (some ⟨w.heap.size, 0, none⟩) 0 0) [] from Rep.acc_made w #[] 0 (Nat.le_refl _) (by simp [maxLen]) (by simp))
    have HB1 := Lib.hid (show ([] : List UInt8).length + l.length ≤ maxLen from by simp [maxLen]; omega)
    have HB2 := Lib.hid (show (([] : List UInt8).length + l.length) * 1 ≤ 140737488355328 from by simp; omega)
    have HB3 := Lib.hid (show w.heap.size ≤ (w.alloc (.cells #[] 5)).heap.size from by simp)
    clear hx hA
    go_enter Tryz.func59, Tryz.ntmps59
    go_wp2_with (refine wpList_spread_leaf (e := 5) (base := w.heap.size) (Q := fun _ => False) Rep.leaf_byte rfl _ _ 71 rfl (.int .u8 0) 1 1 Tryz.underlying71 info5 rfl (by decide) rfl _ [] (by exact rfl) HA.out _ l (by exact rfl) HX.out HB1.out HB2.out HB3.out ?_; intro v' w' hacc' hgr hat)
    go_ret
    exact ⟨_, rfl, by simpa using hacc', Rep.acc_below HA.out ((Below.refl _ w).alloc (Nat.le_refl _) _) hgr HB3.out⟩

/-- The bytes of a number. -/
def digit (n : Int) (i : Nat) : UInt8 := UInt8.ofNat (n / 2 ^ (8 * i) % 256).toNat
def num (width n : Int) : List UInt8 := (List.range (wide width).toNat).map (digit n)
theorem digit_cell (n : Int) (i : Nat) {Q : Nat → Prop} {w : World} : Rep.byte.val Q w (.int .u8 (n / 2 ^ (8 * i) % 256)) (digit n i) := by
  have h : ((digit n i).toNat : Int) = n / 2 ^ (8 * i) % 256 := by
    have h1 := Int.emod_nonneg (n / 2 ^ (8 * i)) (b := 256) (by decide)
    have h2 := Int.emod_lt_of_pos (n / 2 ^ (8 * i)) (b := 256) (by decide)
    unfold digit
    simp only [UInt8.toNat_ofNat']
    omega
  exact ⟨[.int .u8 (n / 2 ^ (8 * i) % 256)], rfl, by show _ = _; rw [h]⟩
theorem digits_succ (n : Int) (k : Nat) : (List.range (k + 1)).map (digit n) = (List.range k).map (digit n) ++ [digit n k] := by simp [List.range_succ]

set_option maxRecDepth 10000 in
set_option maxHeartbeats 1000000 in
/-- le.Put -/
theorem put_calls {Q : Nat → Prop} {w : World} {v : Value} {l : List UInt8} {width n : Int} (hx : Rep.byte.list.val Q w v l) (hl : l.length ≤ 1000000000) (hw : (Lit.int .i64 width).wf = true) (hn : (Lit.int .i64 n).wf = true) :
    Calls Tryz.prog 168 #[v, .int .i64 width, .int .i64 n] w (ResA Rep.byte 5 w (l ++ num width n)) := by
  have hw1 : -9223372036854775808 ≤ width ∧ width ≤ 9223372036854775807 := by simpa [Lit.wf, IntKind.min, IntKind.max, IntKind.signed, IntKind.bits] using hw
  have hn1 : -9223372036854775808 ≤ n ∧ n ≤ 9223372036854775807 := by simpa [Lit.wf, IntKind.min, IntKind.max, IntKind.signed, IntKind.bits] using hn
  obtain ⟨A, c, rfl, hc1, hc2, hA⟩ := Rep.val_list hx
  unfold maxLen at hc2
  have HX := Lib.hid (show Rep.byte.list.val Q w (.slice A l.length l.length) l from Rep.list_val rfl (Nat.le_refl _) (by unfold maxLen; omega) hA)
  clear hx hA
  obtain ⟨W, hW⟩ : ∃ W, W = wide width := ⟨_, rfl⟩
  have g1 := wide_ge width
  have g2 := wide_le width
  rw [← hW] at g1 g2
  have HW := Lib.hid hW
  clear hW
  go_enter Tryz.func168, Tryz.ntmps168
  go_wp2_with (first | (go_at_call 59; refine (sliceClone HX.out (by omega)).mono ?_; rintro e w1 ⟨u, rfl, hu, hb⟩) | (go_at_call 205; refine (wide_calls _ _).mono ?_; rintro e w' ⟨rfl, rfl⟩; rw [← HW.out]))
  go_loopw [7, 18] (fun s i wr => ∃ k : Nat, i = .int .i64 k ∧ k ≤ W ∧ Rep.byte.acc 5 w.heap.size (fun _ => False) wr s (l ++ (List.range k).map (digit n)) ∧ Below w.heap.size w wr)
    (fun _ i _ => W.toNat - (intOf i).toNat)
  case atStart => exact ⟨0, rfl, by omega, by simpa using hu, hb⟩
  case round =>
    obtain ⟨k, rfl, hk, hacc, hbel⟩ := hrel
    have hba : w.heap.size ≤ wr.heap.size := hbel.size
    by_cases hlt : (k : Int) < W
    · have S1 := Lib.hid (show (l ++ (List.range k).map (digit n)).length + 1 ≤ maxLen by simp [maxLen]; omega)
      have S2 := Lib.hid (show ((l ++ (List.range k).map (digit n)).length + 1) * 1 ≤ 140737488355328 by simp; omega)
      go_wp2_with (refine wpList_snoc (e := 5) (base := w.heap.size) (Q := fun _ => False) (r := Rep.byte) rfl rfl _ _ 71 _ rfl rfl rfl (.int .u8 0) 1 1 Tryz.underlying71 info5 rfl (by decide) rfl _ _ hacc (digit n k) _ (by exact rfl) (digit_cell n k) (by exact rfl) (by exact rfl) S1.out S2.out hba ?_; intro s' w' hacc' hgr hat)
      exact ⟨⟨k + 1, by go_num, by omega, by rw [digits_succ, ← List.append_assoc]; exact hacc', Rep.acc_below hacc hbel hgr hba⟩, by simp [intOf]; omega⟩
    · have hkW : k = (wide width).toNat := by have := HW.out; omega
      have HK := Lib.hid hkW
      clear hkW
      go_wp2_with fail
      go_ret
      exact ⟨_, rfl, by rw [num, ← HK.out]; exact hacc, hbel⟩

end Go.Proofs.YtghbfbohnoebiaaGreat
namespace Go.Proofs.YtghbfbohnoebiaaGreat
open Go.RowKit

/-- The number that bytes are, the lowest first. -/
def leNat : List UInt8 → Nat
  | [] => 0
  | c :: l => c.toNat + 256 * leNat l
theorem leNat_lt : ∀ l : List UInt8, leNat l < 256 ^ l.length
  | [] => by simp [leNat]
  | c :: l => by
    have h := leNat_lt l
    have hc := c.toNat_lt
    have e : 256 ^ (c :: l).length = 256 * 256 ^ l.length := by rw [List.length_cons, Nat.pow_succ, Nat.mul_comm]
    simp only [leNat, e]
    omega
theorem leNat_append : ∀ l m : List UInt8, leNat (l ++ m) = leNat l + 256 ^ l.length * leNat m
  | [], m => by simp [leNat]
  | c :: l, m => by
    simp only [List.cons_append, leNat, leNat_append l m, List.length_cons, Nat.pow_succ]
    rw [Nat.mul_add, ← Nat.mul_assoc, Nat.mul_comm 256 (256 ^ l.length)]
    omega

/-- As a signed number of 64 bits. -/
def i64of (n : Nat) : Int := IntKind.i64.wrap (n : Int)
/-- A number out of bytes, from a place on. -/
def getNum (b : List UInt8) (at_ width : Int) : Option Int :=
  if 0 ≤ at_ ∧ at_ + wide width ≤ b.length then some (i64of (leNat ((b.drop at_.toNat).take (wide width).toNat))) else none

end Go.Proofs.YtghbfbohnoebiaaGreat
namespace Go.Proofs.YtghbfbohnoebiaaGreat
open Go.RowKit

theorem ofInt_i64of (n : Nat) : BitVec.ofInt 64 (i64of n) = BitVec.ofNat 64 n := by
  apply BitVec.eq_of_toNat_eq
  unfold i64of
  rw [IntKind.wrap_i64]
  simp only [BitVec.toNat_ofInt, BitVec.toNat_ofNat]
  omega
theorem wrap64_i64of (n : Nat) : wrap64 (n : Int) = i64of n := (IntWalk.i64_left _).symm
/-- A byte laid beside what there is. -/
theorem or_byte (M : Nat) (k : Nat) (hM : M < 256 ^ k) (hk : k < 8) (x : UInt8) : bits BinOp.or IntKind.i64 (i64of M) (wrap64 (wrap64 (x.toNat : Int) * 2 ^ (8 * k))) = i64of (M + 256 ^ k * x.toNat) := by
  have hx := x.toNat_lt
  have e1 : wrap64 (x.toNat : Int) = x.toNat := IntWalk.wrap64_in _ ⟨by omega, by omega⟩
  have e2 : (x.toNat : Int) * 2 ^ (8 * k) = ((x.toNat * 2 ^ (8 * k) : Nat) : Int) := by simp
  have hp : 256 ^ k = 2 ^ (8 * k) := by rw [Nat.pow_mul]
  have hpos : 0 < 2 ^ (8 * k) := Nat.pow_pos (by decide)
  have h64 : 2 ^ (8 * k) * 256 ≤ 2 ^ 64 := by
    rw [show (256 : Nat) = 2 ^ 8 from rfl, ← Nat.pow_add]
    exact Nat.pow_le_pow_right (by decide) (by omega)
  have hmul : x.toNat * 2 ^ (8 * k) + 2 ^ (8 * k) ≤ 2 ^ (8 * k) * 256 := by
    have : x.toNat + 1 ≤ 256 := by omega
    calc x.toNat * 2 ^ (8 * k) + 2 ^ (8 * k) = (x.toNat + 1) * 2 ^ (8 * k) := by rw [Nat.add_mul, Nat.one_mul]
      _ ≤ 256 * 2 ^ (8 * k) := Nat.mul_le_mul_right _ this
      _ = _ := Nat.mul_comm _ _
  rw [hp] at hM ⊢
  rw [e1, e2]
  have e3 := wrap64_i64of (x.toNat * 2 ^ (8 * k))
  rw [e3]
  unfold bits
  simp only [IntKind.bits, ofInt_i64of]
  have e4 : (BitVec.ofNat 64 M ||| BitVec.ofNat 64 (x.toNat * 2 ^ (8 * k))).toNat = M + 2 ^ (8 * k) * x.toNat := by
    rw [BitVec.toNat_or, BitVec.toNat_ofNat, BitVec.toNat_ofNat, Nat.mod_eq_of_lt (by omega), Nat.mod_eq_of_lt (by omega), Nat.or_comm, ← Nat.shiftLeft_eq, ← Nat.shiftLeft_add_eq_or_of_lt hM, Nat.shiftLeft_eq, Nat.add_comm, Nat.mul_comm]
  exact congrArg (fun n : Nat => IntKind.i64.wrap (n : Int)) e4

theorem leNat_take_succ {s : List UInt8} {k : Nat} (h : k < s.length) : leNat (s.take (k + 1)) = leNat (s.take k) + 256 ^ k * s[k].toNat := by
  rw [List.take_succ_eq_append_getElem h, leNat_append]
  simp [leNat, Nat.min_eq_left (Nat.le_of_lt h)]
theorem getNum_some {b : List UInt8} {p k0 : Nat} {width : Int} (hW : (k0 : Int) = wide width) (h : p + k0 ≤ b.length) : getNum b p width = some (i64of (leNat ((b.drop p).take k0))) := by
  rw [getNum, ← hW, if_pos ⟨by omega, by omega⟩]; simp
theorem getNum_none {b : List UInt8} {at_ width : Int} (h : ¬ (0 ≤ at_ ∧ at_ + wide width ≤ b.length)) : getNum b at_ width = none := by
  rw [getNum, if_neg h]
set_option maxRecDepth 10000 in
set_option maxHeartbeats 1000000 in
/-- le.Get -/
theorem get_calls {Q : Nat → Prop} {w : World} {v : Value} {b : List UInt8} {at_ width : Int} (hx : Rep.byte.list.val Q w v b) (ha : (Lit.int .i64 at_).wf = true) :
    Calls Tryz.prog 230 #[v, .int .i64 at_, .int .i64 width] w fun e w' => e = .returned (.tuple #[.int .i64 ((getNum b at_ width).getD 0), .bool (getNum b at_ width).isSome]) ∧ w' = w := by
  have ha1 : -9223372036854775808 ≤ at_ ∧ at_ ≤ 9223372036854775807 := by simpa [Lit.wf, IntKind.min, IntKind.max, IntKind.signed, IntKind.bits] using ha
  obtain ⟨A, c, rfl, hc1, hc2, hA⟩ := Rep.val_list hx
  unfold maxLen at hc2
  obtain ⟨W, hW⟩ : ∃ W, W = wide width := ⟨_, rfl⟩
  have g1 := wide_ge width
  have g2 := wide_le width
  rw [← hW] at g1 g2
  by_cases hok : 0 ≤ at_ ∧ at_ + W ≤ b.length
  · have HW := Lib.hid hW
    clear hW hx
    obtain ⟨h0, h1⟩ := hok
    obtain ⟨p, rfl⟩ : ∃ p : Nat, at_ = p := ⟨at_.toNat, by omega⟩
    obtain ⟨k0, hk0⟩ : ∃ k0 : Nat, W = k0 := ⟨W.toNat, by omega⟩
    subst hk0
    have HR := Lib.hid (getNum_some HW.out (show p + k0 ≤ b.length by omega))
    clear ha
    have n1 : ¬ (b.length : Int) < p := by omega
    have n2 : ¬ ((b.length : Int) - p < k0) := by omega
    have HC := Lib.hid (show ∀ k : Nat, k < k0 → ∃ (b0 o0 : Nat) (h : k < ((b.drop p).take k0).length), A = some ⟨b0, o0, none⟩ ∧ w.cell? ⟨b0, o0 + p + k, none⟩ = some (.int .u8 ((((b.drop p).take k0)[k]).toNat : Int)) from fun k hk => by
      obtain ⟨b0, o0, h3, h4⟩ := hA.byte (i := p + k) (x := b[p + k]'(by omega)) (List.getElem?_eq_getElem (by omega))
      exact ⟨b0, o0, by simp; omega, h3, by rw [Nat.add_assoc, h4]; simp⟩)
    have HL := Lib.hid (show ((b.drop p).take k0).length = k0 by simp; omega)
    generalize (b.drop p).take k0 = S at *
    go_enter Tryz.func230, Tryz.ntmps230
    go_wp2_with (go_at_call 205; refine (wide_calls _ _).mono ?_; rintro e w' ⟨rfl, rfl⟩; rw [← HW.out])
    go_loop [6, 38] (fun s i => ∃ k : Nat, k ≤ k0 ∧ i = .int .i64 k ∧ s = .int .i64 (i64of (leNat (S.take k)))) (fun _ i => k0 - (intOf i).toNat)
    case atStart => exact ⟨0, by omega, rfl, by simp [leNat, i64of, IntKind.wrap, IntKind.signed, IntKind.bits]⟩
    case round =>
      obtain ⟨k, hk, rfl, rfl⟩ := hrel
      by_cases hlt : (k : Int) < k0
      · obtain ⟨b0, o0, hks, rfl, hcell⟩ := HC.out k (by omega)
        have T := Lib.hid (show ∀ x : UInt8, x = S[k] → bits BinOp.or IntKind.i64 (i64of (leNat (S.take k))) (wrap64 (wrap64 (x.toNat : Int) * 2 ^ (8 * k))) = i64of (leNat (S.take (k + 1))) from fun x hx => by
          subst hx
          rw [leNat_take_succ hks]
          refine or_byte _ k ?_ (by omega) _
          have := leNat_lt (S.take k)
          rwa [List.length_take, Nat.min_eq_left (by omega)] at this)
        generalize hxx : S[k] = x at *
        have TT := Lib.hid (T.out x rfl)
        generalize i64of (leNat (S.take k)) = m at *
        clear hxx T
        go_wp2_with fail
        go_round
        case rel => exact ⟨k + 1, by omega, by go_num, by rw [TT.out]⟩
        case measure => simp [intOf]; omega
      · obtain rfl : k = k0 := by omega
        have R := Lib.hid (show i64of (leNat (S.take k)) = i64of (leNat S) by rw [List.take_of_length_le (by rw [HL.out]; exact Nat.le_refl _)])
        generalize i64of (leNat (S.take k)) = m at *
        go_wp2_with fail
        go_ret2
        exact ⟨by rw [HR.out, ← R.out]; rfl, rfl⟩
  · have HR := Lib.hid (getNum_none (b := b) (at_ := at_) (width := width) (by rw [← hW]; exact hok))
    have HW := Lib.hid hW
    clear hW hx ha hA
    by_cases c1 : at_ < 0
    · clear hok
      go_enter Tryz.func230, Tryz.ntmps230
      go_wp2_with (go_at_call 205; refine (wide_calls _ _).mono ?_; rintro e w' ⟨rfl, rfl⟩; rw [← HW.out])
      go_ret2
      exact ⟨by rw [HR.out]; rfl, rfl⟩
    · obtain ⟨p, rfl⟩ : ∃ p : Nat, at_ = p := ⟨at_.toNat, by omega⟩
      by_cases c2 : (b.length : Int) < p
      · clear hok
        go_enter Tryz.func230, Tryz.ntmps230
        go_wp2_with (go_at_call 205; refine (wide_calls _ _).mono ?_; rintro e w' ⟨rfl, rfl⟩; rw [← HW.out])
        go_ret2
        exact ⟨by rw [HR.out]; rfl, rfl⟩
      · have c3 : (b.length : Int) - p < W := by omega
        clear hok
        go_enter Tryz.func230, Tryz.ntmps230
        go_wp2_with (go_at_call 205; refine (wide_calls _ _).mono ?_; rintro e w' ⟨rfl, rfl⟩; rw [← HW.out])
        go_ret2
        exact ⟨by rw [HR.out]; rfl, rfl⟩

end Go.Proofs.YtghbfbohnoebiaaGreat
namespace Go.Proofs.YtghbfbohnoebiaaGreat
open Go.RowKit

set_option maxHeartbeats 400000 in
theorem sameList {Q Q' : Nat → Prop} {w : World} {v u : Value} {xs ys : List Int} (hx : (Rep.int .i64).list.val Q w v xs) (hy : (Rep.int .i64).list.val Q' w u ys) :
    Calls Tryz.prog 17 #[v, u] w fun e w' => e = .returned (.bool (decide (xs = ys))) ∧ ∃ n, w' = w.drewN n := by
  obtain ⟨A, c, rfl, hc1, hc2, hA⟩ := Rep.val_list hx
  obtain ⟨B, d, rfl, hd1, hd2, hB⟩ := Rep.val_list hy
  clear hx hy
  unfold maxLen at hc2 hd2
  by_cases hlen : xs.length = ys.length
  · have hne : ((xs.length : Int) != (ys.length : Int)) = false := by simp [hlen]
    have H := Lib.hid hlen
    clear hlen
    go_enter Tryz.func17, Tryz.ntmps17
    go_wp2_with fail
    go_loopw [5] (fun i wr => ∃ k : Nat, i = .int .i64 k ∧ k ≤ xs.length ∧ xs.take k = ys.take k ∧ ∃ n, w.drewN n = wr) (fun i _ => xs.length - (intOf i).toNat)
    case atStart => exact ⟨0, rfl, Nat.zero_le _, by simp, 0, rfl⟩
    case round =>
      obtain ⟨k, rfl, hk, htk, n, rfl⟩ := hrel
      by_cases hlt : k < xs.length
      · obtain ⟨b, off, rfl, cx, wx⟩ := hA.int (List.getElem?_eq_getElem hlt)
        have hlt' : k < ys.length := by rw [← H.out]; exact hlt
        obtain ⟨b', off', rfl, cy, wy⟩ := hB.int (List.getElem?_eq_getElem hlt')
        have T := Lib.hid htk
        clear htk
        have i1 : (k : Int) < (xs.length : Int) := by omega
        have i2 : (k : Int) < (ys.length : Int) := by omega
        generalize hX : xs[k] = x at *
        generalize hY : ys[k] = y at *
        have HX := Lib.hid hX
        have HY := Lib.hid hY
        clear hX hY
        by_cases hxy : x = y
        · have g1 : (x != y) = false := by simp [hxy]
          have HXY := Lib.hid hxy
          clear hxy
          go_wp2_with fail
          go_quiet (fail)
          go_wp2_with fail
          go_roundw
          case rel => exact ⟨k + 1, by go_num, by omega, by rw [List.take_succ_eq_append_getElem hlt, List.take_succ_eq_append_getElem hlt', T.out, HX.out, HY.out, HXY.out], _, rfl⟩
          case measure => simp [intOf]; omega
        · have g1 : (x != y) = true := by simp [hxy]
          have HXY := Lib.hid hxy
          clear hxy
          go_wp2_with fail
          go_quiet (fail)
          go_wp2_with fail
          go_ret
          refine ⟨?_, by rw [World.drewN_drewN]; exact ⟨_, rfl⟩⟩
          have : ¬ xs = ys := by rintro rfl; exact HXY.out (HX.out.symm.trans HY.out)
          simp [this]
      · have hk' : k = xs.length := by omega
        have hall : xs = ys := by rw [← List.take_length (l := xs), ← hk', htk, hk', H.out, List.take_length]
        have HA := Lib.hid hall
        have HK := Lib.hid hk'
        clear hall hk' htk
        have i1 : ¬ (k : Int) < (xs.length : Int) := by omega
        go_wp2_with fail
        go_ret
        exact ⟨by simp [HA.out], _, rfl⟩
  · have hne : ((xs.length : Int) != (ys.length : Int)) = true := by simp; omega
    have H := Lib.hid hlen
    clear hlen
    go_enter Tryz.func17, Tryz.ntmps17
    go_wp2_with fail
    go_ret
    refine ⟨?_, 0, rfl⟩
    have : ¬ xs = ys := by rintro rfl; exact H.out rfl
    simp [this]
end Go.Proofs.YtghbfbohnoebiaaGreat
namespace Go.Proofs.YtghbfbohnoebiaaGreat
open Go.RowKit

def pageCount (n : Int) : Int := if n < 1 then 0 else (n - 1) / 472 + 1

/-- page.Count -/
theorem count_calls (n : Int) (w : World) (h1 : -9223372036854775808 ≤ n) (h2 : n ≤ 9223372036854775807) :
    Calls Tryz.prog 64 #[.int .i64 n] w fun e w' => e = .returned (.int .i64 (pageCount n)) ∧ w' = w := by
  by_cases h : n < 1
  · have hf : pageCount n = 0 := by rw [pageCount, if_pos h]
    have HF := Lib.hid hf
    clear hf
    go_enter Tryz.func64, Tryz.ntmps64
    go_wp2_with fail
    go_ret
    exact ⟨by rw [HF.out]; rfl, rfl⟩
  · have hf : pageCount n = (n - 1) / 472 + 1 := by rw [pageCount, if_neg h]
    have HF := Lib.hid hf
    clear hf
    go_enter Tryz.func64, Tryz.ntmps64
    go_wp2_with fail
    go_ret
    exact ⟨by rw [HF.out]; rfl, rfl⟩

/-- The pieces. -/
def piece (l : List UInt8) (i : Nat) : List UInt8 := (l.drop (472 * i)).take 472
def pieces (l : List UInt8) (n : Nat) : List (List UInt8) := (List.range n).map (piece l)
def cut (l : List UInt8) : List (List UInt8) := pieces l ((l.length + 471) / 472)

end Go.Proofs.YtghbfbohnoebiaaGreat
