/- Texts on which the proofs stand: Entries, Mask, CmdCheck, FrameCheck, CmdPut, RCmdPut, FrameBytes. No condition is laid on any input. -/
import Derived.Test.YthjjnlilpklacaaSupCrc
import Derived.Test.YthjjnlilpklacaaSupG2
import Derived.Test.YthjjnlilpklacaaSupRDirBytes
import Derived.Test.YthjjnlilpklacaaSupSame
/- Walk of the entries of flows. -/
namespace Go.Proofs.Ythjjnlilpklacaa
open Go.RowKit

theorem info3 : (Try.prog.info? 3).map (fun i => (i.zero, i.size, i.bytes)) = some (some (.int .i64 0), 1, 8) := by kernel_rfl
theorem infoEntry : (Try.prog.info? 109).map (fun i => (i.zero, i.size, i.bytes)) = some (some (.agg #[.int .i64 0, .int .u64 0, .int .i64 0, .int .i64 0, .slice none 0 0]), 5, 56) := by kernel_rfl

/-- slices.Clone of numbers -/
theorem intClone {Q : Nat → Prop} {w : World} {v : Value} {l : List Int} (hx : (Rep.int .i64).list.val Q w v l) (hl : l.length ≤ 1000000000000) :
    Calls Try.prog 164 #[v] w (ResA (Rep.int .i64) 3 w l) := by
  obtain ⟨A, c, rfl, hc1, hc2, hA⟩ := Rep.val_list hx
  unfold maxLen at hc2
  cases A with
  | none =>
    have hnil : l = [] := by
      rcases Nat.eq_zero_or_pos l.length with h | h
      · exact List.eq_nil_of_length_eq_zero h
      · obtain ⟨b, off, h⟩ := hA.addr h; cases h
    subst hnil
    have he := fun w => Lib.run_eql_slice_nil (P := Try.prog) w 30 3 none 0 c 0 0 Try.underlying30
    go_enter Try.func164, Try.ntmps164
    go_wp2_with fail
    go_ret
    exact ⟨_, rfl, Rep.acc_nil, Below.refl _ _⟩
  | some a =>
    have he := fun w => Lib.run_eql_slice_nil (P := Try.prog) w 30 3 (some a) l.length c 0 0 Try.underlying30
    have HX := Lib.hid (show (Rep.int .i64).list.val (fun b => b < w.heap.size) (w.alloc (.cells #[] 3)) (.slice (some a) l.length c) l from Rep.val_keep (w := w) (fun b _ hl => ⟨hl.lt, Below.heap_alloc _ _ _ hl.lt⟩) hx)
    have HA := Lib.hid (show (Rep.int .i64).acc 3 w.heap.size (fun _ => False) (w.alloc (.cells #[] 3)) (.slice (some ⟨w.heap.size, 0, none⟩) 0 0) [] from Rep.acc_made w #[] 0 (Nat.le_refl _) (by simp [maxLen]) (by simp))
    have HB1 := Lib.hid (show ([] : List Int).length + l.length ≤ maxLen from by simp [maxLen]; omega)
    have HB2 := Lib.hid (show (([] : List Int).length + l.length) * 8 ≤ 140737488355328 from by simp; omega)
    have HB3 := Lib.hid (show w.heap.size ≤ (w.alloc (.cells #[] 3)).heap.size from by simp)
    clear hx hA
    go_enter Try.func164, Try.ntmps164
    go_wp2_with (refine wpList_spread_leaf (e := 3) (base := w.heap.size) (Q := fun _ => False) (Rep.leaf_int .i64) rfl _ _ 30 rfl (.int .i64 0) 1 8 Try.underlying30 info3 rfl (by decide) rfl _ [] (by exact rfl) HA.out _ l (by exact rfl) HX.out HB1.out HB2.out HB3.out ?_; intro v' w' hacc' hgr hat)
    go_ret
    exact ⟨_, rfl, by simpa using hacc', Rep.acc_below HA.out ((Below.refl _ w).alloc (Nat.le_refl _) _) hgr HB3.out⟩

/-- 'append(s, x)' as0 a step of a region that draws its order, the element in a block just made. -/
theorem step_snoc {α : Type} {r : Rep α} {e base : Nat} {Q : Nat → Prop} {P : Program} {w : World} {ops : Array Oper} {o : Oper} {a : Act} {K : Act → World → Prop} {R : Exit → Act → World → Prop} {E : Prop} (hg : o.guard = none) (s x : Operand) (t : TypeId)
    (ho : o.op = .call { callee := .builtin .append, args := #[s, x], argTypes := #[t, t] })
    (z : Value) (size bytes : Nat) (ht : P.underlying t = some (.slice e)) (hi : (P.info? e).map (fun i => (i.zero, i.size, i.bytes)) = some (some z, size, bytes)) (hzs : z.cells.size = size) (hsz : 0 < size)
    (hr : r.size = size) (v : Value) (xs : List α) (hs : a.eval s = v) (h : r.acc e base Q w v xs) (y : α) (vy : Value) (hy : r.val (fun b => Q b ∧ v.ownBlock ≠ some b) w vy y) (hx : a.eval x = .slice (some ⟨w.heap.size, 0, none⟩) 1 1)
    (h63 : xs.length + 1 ≤ maxLen) (hbytes : (xs.length + 1) * bytes ≤ 140737488355328) (hbase : base ≤ w.heap.size)
    (H : ∀ v' w', r.acc e base Q w' v' (xs ++ [y]) → w.grownBy w' v.ownBlock → K (a.put o.dst v') w') :
    if Region.wanted o (yielded ops a.tmps) = true then Oper.wp P o a (w.alloc (.cells vy.cells e)) K R else E := by
  have hw : Region.wanted o (yielded ops a.tmps) = true := by simp [Region.wanted, hg]
  rw [if_pos hw]
  obtain ⟨cs, hv, hrd⟩ := hy
  have hcells : vy.cells.toList = cs := by rw [hv]; exact r.back hrd
  have hkeep : ∀ b, b < w.heap.size → (w.alloc (.cells vy.cells e)).heap[b]? = w.heap[b]? := fun b hb => Below.heap_alloc _ _ _ hb
  have hacc' : r.acc e base Q (w.alloc (.cells vy.cells e)) v xs := Rep.acc_keep (fun b _ hl => hkeep b hl.lt) (fun _ hb _ => hb) h
  have hbn : (w.alloc (.cells vy.cells e)).heap[w.heap.size]? = some (.cells vy.cells e) := heap_alloc_new w _
  obtain ⟨v', w', q1, q2, q3, q4⟩ := Rep.acc_more (P := P) (w := w.alloc (.cells vy.cells e)) (ty := o.type) (ys := [y]) (A := some ⟨w.heap.size, 0, none⟩) (m := 1) (c := 1) (es := cs)
    ht hi hzs hsz hr hacc' rfl
    (Rep.row_one_elem (r.keep (fun b hb hl => ⟨hb, hkeep b hl.lt⟩) hrd)) (fun _ => ⟨w.heap.size, 0, rfl, fun j u hj => by
      rw [cell_of_row _ _ _ _ _ _ hbn, Nat.zero_add, ← hj, ← hcells]; simp⟩)
    (by simpa using h63) (by simpa using hbytes) (by simp; omega)
  unfold Oper.wp execOp
  simp only [ho, resolve, invoke, builtin, Sem.run_bind, Sem.run_pure, Result.andThen_ok, List.map_toArray, List.map_cons, List.map_nil, hs, hx, q1]
  exact H v' w' q2 ((World.grownBy_alloc w _ _).trans q3)

def entryOf (f : DFlow) : DEntry := ⟨f.key, f.data.length, f.pages⟩

end Go.Proofs.Ythjjnlilpklacaa
/- Sets of numbers as0 bits: the plain law, and the walks of the functions on them. -/

namespace Go.Proofs.Ythjjnlilpklacaa
open Go.RowKit

def bitOf (c : Int) : Nat := if 0 ≤ c ∧ c < 64 then 2 ^ c.toNat else 0
def maskUp : Nat → List Int → Nat
  | 0, _ => 0
  | n + 1, l => maskUp n l + if (n : Int) ∈ l then 2 ^ n else 0
def maskOf (l : List Int) : Nat := maskUp 64 l
theorem maskUp_lt (l : List Int) : ∀ n, maskUp n l < 2 ^ n
  | 0 => by simp [maskUp]
  | n + 1 => by
    have := maskUp_lt l n
    simp only [maskUp, Nat.pow_succ]
    split <;> omega
theorem maskUp_bit (l : List Int) : ∀ n i, (maskUp n l).testBit i = decide (i < n ∧ (i : Int) ∈ l)
  | 0, i => by simp [maskUp]
  | n + 1, i => by
    have ih := maskUp_bit l n i
    have hl := maskUp_lt l n
    unfold maskUp
    by_cases hm : (n : Int) ∈ l
    · rw [if_pos hm, Nat.add_comm]
      rcases Nat.lt_trichotomy i n with h | h | h
      · rw [Nat.testBit_two_pow_add_gt h, ih]; simp [h, Nat.lt_succ_of_lt h]
      · subst h
        rw [Nat.testBit_two_pow_add_eq, Nat.testBit_lt_two_pow hl]; simp [hm]
      · have h1 : (2 ^ n + maskUp n l).testBit i = false := Nat.testBit_lt_two_pow (Nat.lt_of_lt_of_le (show 2 ^ n + maskUp n l < 2 ^ (n + 1) by rw [Nat.pow_succ]; omega) (Nat.pow_le_pow_right (by decide) (by omega)))
        rw [h1]; symm; rw [decide_eq_false_iff_not]; omega
    · rw [if_neg hm, Nat.add_zero, ih, decide_eq_decide]
      constructor
      · rintro ⟨h1, h2⟩; exact ⟨by omega, h2⟩
      · rintro ⟨h1, h2⟩
        refine ⟨?_, h2⟩
        rcases Nat.lt_or_ge i n with h | h
        · exact h
        · have : i = n := by omega
          subst this; exact absurd h2 hm
theorem bitOf_bit (c : Int) (i : Nat) : (bitOf c).testBit i = decide (i < 64 ∧ (i : Int) = c) := by
  unfold bitOf
  split
  · rename_i h
    rw [Nat.testBit_two_pow, decide_eq_decide]
    constructor
    · intro e; omega
    · intro e; omega
  · rename_i h
    rw [Nat.zero_testBit]; symm; rw [decide_eq_false_iff_not]; omega
theorem maskOf_snoc (l : List Int) (c : Int) : maskOf (l ++ [c]) = maskOf l ||| bitOf c := by
  apply Nat.eq_of_testBit_eq
  intro i
  rw [Nat.testBit_or, maskOf, maskOf, maskUp_bit, maskUp_bit, bitOf_bit, ← Bool.decide_or, decide_eq_decide, List.mem_append, List.mem_singleton]
  constructor
  · rintro ⟨h, h1 | h1⟩
    · exact .inl ⟨h, h1⟩
    · exact .inr ⟨h, h1⟩
  · rintro (⟨h, h1⟩ | ⟨h, h1⟩)
    · exact ⟨h, .inl h1⟩
    · exact ⟨h, .inr h1⟩
theorem maskOf_lt (l : List Int) : maskOf l < 18446744073709551616 := maskUp_lt l 64
theorem bitOf_lt (c : Int) : bitOf c < 18446744073709551616 := by
  unfold bitOf
  split
  · rename_i h; exact Nat.lt_of_lt_of_le (Nat.pow_lt_pow_right (by decide) (show c.toNat < 64 by omega)) (by decide)
  · decide
theorem bits_or_u64 {s t : Nat} (hs : s < 18446744073709551616) (ht : t < 18446744073709551616) : bits BinOp.or IntKind.u64 (s : Int) (t : Int) = ((s ||| t : Nat) : Int) := by
  unfold bits
  have e : ((BitVec.ofInt 64 (s : Int) ||| BitVec.ofInt 64 (t : Int) : BitVec 64).toNat) = s ||| t := by
    rw [BitVec.toNat_or, BitVec.toNat_ofInt, BitVec.toNat_ofInt]
    congr 1 <;> omega
  have h : s ||| t < 18446744073709551616 := Nat.or_lt_two_pow (n := 64) hs ht
  have := congrArg (fun n : Nat => IntKind.u64.wrap (n : Int)) e
  exact this.trans (IntWalk.u64_in _ ⟨by omega, by omega⟩)

/-- bits.bit -/
theorem bit_calls (c : Int) (w : World) : Calls Try.prog 131 #[.int .i64 c] w fun e w' => e = .returned (.int .u64 (bitOf c : Nat)) ∧ w' = w := by
  by_cases h : 0 ≤ c ∧ c < 64
  · obtain ⟨k, rfl⟩ : ∃ k : Nat, c = k := ⟨c.toNat, by omega⟩
    have hk : k < 64 := by omega
    have hb : bitOf (k : Int) = 2 ^ k := by unfold bitOf; rw [if_pos h]; simp
    have HB := Lib.hid hb
    have n1 : (k : Int) < 64 := h.2
    have HP := Lib.hid (bitOf_lt k)
    have HV := Lib.hid (show IntKind.u64.wrap ((2 : Int) ^ k) = ((bitOf k : Nat) : Int) by
      have h1 : ((2 : Int) ^ k) = ((2 ^ k : Nat) : Int) := by simp
      rw [h1, hb]
      have := bitOf_lt k
      rw [hb] at this
      exact IntWalk.u64_in _ ⟨by omega, by omega⟩)
    clear h hb
    go_enter Try.func131, Try.ntmps131
    go_wp2_with fail
    rw [HV.out]
    go_ret
    exact ⟨rfl, rfl⟩
  · have hb : bitOf c = 0 := by unfold bitOf; rw [if_neg h]
    have HB := Lib.hid hb
    clear hb
    by_cases h0 : c < 0
    · clear h
      go_enter Try.func131, Try.ntmps131
      go_wp2_with fail
      go_ret
      exact ⟨by rw [HB.out]; rfl, rfl⟩
    · have h1 : (64 : Int) ≤ c := by omega
      clear h
      go_enter Try.func131, Try.ntmps131
      go_wp2_with fail
      go_ret
      exact ⟨by rw [HB.out]; rfl, rfl⟩

/-- bits.With -/
theorem with_calls {s : Nat} (hs : s < 18446744073709551616) (c : Int) (w : World) : Calls Try.prog 81 #[.int .u64 (s : Int), .int .i64 c] w fun e w' => e = .returned (.int .u64 ((s ||| bitOf c : Nat) : Int)) ∧ w' = w := by
  have HO := Lib.hid (bits_or_u64 hs (bitOf_lt c))
  clear hs
  go_enter Try.func81, Try.ntmps81
  go_wp2_with (go_at_call 131; refine (bit_calls c _).mono ?_; rintro e w' ⟨rfl, rfl⟩)
  rw [HO.out]
  go_ret
  exact ⟨rfl, rfl⟩
end Go.Proofs.Ythjjnlilpklacaa
/- Walks of the checks of commands and of frames, both. -/
namespace Go.Proofs.Ythjjnlilpklacaa
open Go.RowKit

def knownB (k : Int) : Bool := decide (0 ≤ k) && decide (k ≤ 3)
def checkCmd (x : DCmd) : Int := if knownB x.kind then (if 64 < x.data.length then 13 else 0) else 1
def firstBad : List DCmd → Int
  | [] => 0
  | x :: xs => if checkCmd x = 0 then firstBad xs else checkCmd x
def checkFrame (l : List DCmd) : Int := if 64 < l.length then 13 else firstBad l

theorem firstBad_none : ∀ {l : List DCmd}, (∀ x ∈ l, checkCmd x = 0) → firstBad l = 0
  | [], _ => rfl
  | x :: xs, h => by
    unfold firstBad
    rw [if_pos (h x (by simp))]
    exact firstBad_none fun y hy => h y (by simp [hy])
theorem firstBad_at : ∀ {l : List DCmd} {k : Nat} (hk : k < l.length), (∀ x ∈ l.take k, checkCmd x = 0) → checkCmd l[k] ≠ 0 → firstBad l = checkCmd l[k]
  | [], k, hk, _, _ => by simp at hk
  | x :: xs, 0, hk, _, h => by
    unfold firstBad
    rw [if_neg (show ¬ checkCmd x = 0 from h)]; rfl
  | x :: xs, k + 1, hk, h, h2 => by
    unfold firstBad
    rw [if_pos (h x (by simp))]
    exact firstBad_at (by simp at hk; omega) (fun y hy => h y (by simp [hy])) h2
theorem firstBad_zero : ∀ {l : List DCmd}, firstBad l = 0 → ∀ x ∈ l, checkCmd x = 0
  | [], _, x, hx => by simp at hx
  | y :: ys, h, x, hx => by
    unfold firstBad at h
    split at h
    · rename_i h0
      rcases List.mem_cons.1 hx with rfl | hx
      · exact h0
      · exact firstBad_zero h x hx
    · rename_i h0; exact absurd h h0

/-- A command in a box. -/
structure CmdBox (W : World) (B : Nat) (x : DCmd) (A : Option Addr) (c : Nat) : Prop where
  c0 : W.cell? ⟨B, 0, none⟩ = some (.int .i64 x.kind)
  c1 : W.cell? ⟨B, 1, none⟩ = some (.bool x.loc)
  c2 : W.cell? ⟨B, 2, none⟩ = some (.int .i64 x.id.index)
  c3 : W.cell? ⟨B, 3, none⟩ = some (.int .i64 x.id.gen)
  c4 : W.cell? ⟨B, 4, none⟩ = some (.int .i64 x.comp)
  c5 : W.cell? ⟨B, 5, none⟩ = some (.slice A x.data.length c)
  val : rCmd.val (fun b => b < B) W (.agg #[.int .i64 x.kind, .bool x.loc, .int .i64 x.id.index, .int .i64 x.id.gen, .int .i64 x.comp, .slice A x.data.length c]) x
theorem CmdBox.later {W W' : World} {B : Nat} {x : DCmd} {A : Option Addr} {c : Nat} (h : CmdBox W B x A c) (hb : Below (B + 1) W W') : CmdBox W' B x A c :=
  ⟨(hb.cell (p := ⟨B, 0, none⟩) (Nat.lt_succ_self _)).trans h.c0, (hb.cell (p := ⟨B, 1, none⟩) (Nat.lt_succ_self _)).trans h.c1, (hb.cell (p := ⟨B, 2, none⟩) (Nat.lt_succ_self _)).trans h.c2,
   (hb.cell (p := ⟨B, 3, none⟩) (Nat.lt_succ_self _)).trans h.c3, (hb.cell (p := ⟨B, 4, none⟩) (Nat.lt_succ_self _)).trans h.c4, (hb.cell (p := ⟨B, 5, none⟩) (Nat.lt_succ_self _)).trans h.c5, Rep.val_keep (fun b hq _ => ⟨hq, hb.block b (by omega)⟩) h.val⟩
theorem CmdBox.made {Q : Nat → Prop} {w : World} {x : DCmd} {A : Option Addr} {c : Nat} (h : rCmd.val Q w (.agg #[.int .i64 x.kind, .bool x.loc, .int .i64 x.id.index, .int .i64 x.id.gen, .int .i64 x.comp, .slice A x.data.length c]) x) (t : TypeId) :
    CmdBox (w.alloc (.cells #[.int .i64 x.kind, .bool x.loc, .int .i64 x.id.index, .int .i64 x.id.gen, .int .i64 x.comp, .slice A x.data.length c] t)) w.heap.size x A c :=
  ⟨by simp, by simp, by simp, by simp, by simp, by simp, Rep.val_keep (w := w) (fun _ _ hl => ⟨hl.lt, Below.heap_alloc _ _ _ hl.lt⟩) h⟩

end Go.Proofs.Ythjjnlilpklacaa
/- Walks of the checks of frames, both; what is too much; what a number of bytes needs; what is due. -/
namespace Go.Proofs.Ythjjnlilpklacaa
open Go.RowKit

theorem checkFrame_long {l : List DCmd} (h : (64 : Int) < l.length) : checkFrame l = 13 := by unfold checkFrame; rw [if_pos (by omega)]
theorem checkFrame_bad {l : List DCmd} (h : ¬ (64 : Int) < l.length) {k : Nat} (hk : k < l.length) (h1 : ∀ x ∈ l.take k, checkCmd x = 0) (h2 : checkCmd l[k] ≠ 0) : checkFrame l = checkCmd l[k] := by
  unfold checkFrame; rw [if_neg (by omega)]; exact firstBad_at hk h1 h2
theorem checkFrame_good {l : List DCmd} (h : ¬ (64 : Int) < l.length) {k : Nat} (hk : ¬ k < l.length) (h1 : ∀ x ∈ l.take k, checkCmd x = 0) : checkFrame l = 0 := by
  unfold checkFrame; rw [if_neg (by omega)]
  rw [List.take_of_length_le (by omega)] at h1
  exact firstBad_none h1
theorem checks_more {l : List DCmd} {k : Nat} (hk : k < l.length) (h1 : ∀ x ∈ l.take k, checkCmd x = 0) (h2 : checkCmd l[k] = 0) : ∀ x ∈ l.take (k + 1), checkCmd x = 0 := by
  intro x hx
  rw [List.take_add_one, List.getElem?_eq_getElem hk] at hx
  rcases List.mem_append.1 hx with hx | hx
  · exact h1 x hx
  · simp at hx; rw [hx]; exact h2
theorem checkCmd_wf (x : DCmd) : (Lit.int .i64 (checkCmd x)).wf = true := by
  unfold checkCmd; split <;> (try split) <;> rfl

def MuchCmds (w : World) (l : List DCmd) (e : Ending) (w' : World) : Prop := ∃ r : Bool, e = .returned (.bool r) ∧ (r = false → l.length ≤ 70) ∧ w' = w
def needOf (n : Int) : Int := if n ≤ 460 then 1 else (n - 1) / 460 + 1
theorem need_large {n : Int} (h : 460 < n) (hb : n ≤ 9223372036854775807) : 2 ≤ needOf n ∧ needOf n ≤ n ∧ needOf n = (n - 1) / 460 + 1 := by
  unfold needOf; rw [if_neg (by omega)]; omega
end Go.Proofs.Ythjjnlilpklacaa
/- Walks of a command as0 bytes: cmd. -/
namespace Go.Proofs.Ythjjnlilpklacaa
open Go.RowKit

def targetBytes (x : DCmd) : List UInt8 := if x.loc then num 1 1 ++ num 8 x.id.index else num 1 0 ++ num 8 x.id.index ++ num 8 x.id.gen
def dataBytes (x : DCmd) : List UInt8 := num 2 x.data.length ++ x.data
def cmdBytes (x : DCmd) : List UInt8 :=
  if knownB x.kind then num 1 x.kind ++ (if x.kind = 0 then [] else targetBytes x) ++ (if x.kind = 2 ∨ x.kind = 3 then num 8 x.comp else []) ++ (if x.kind = 2 then dataBytes x else [])
  else num 1 255
theorem targetBytes_length (x : DCmd) : (targetBytes x).length ≤ 24 := by
  have h1 := num_length 1 1
  have h2 := num_length 1 0
  have h3 := num_length 8 x.id.index
  have h4 := num_length 8 x.id.gen
  unfold targetBytes
  split <;> simp only [List.length_append] <;> omega

end Go.Proofs.Ythjjnlilpklacaa
/- Walk of a command as0 bytes: ref13. Printed by gen_rcmdput.py. -/
namespace Go.Proofs.Ythjjnlilpklacaa
open Go.RowKit

theorem one_is : num 1 1 = [1] := by decide
theorem nil_is : num 1 0 = [0] := by decide
theorem full_is : num 1 255 = [255] := by decide
theorem lit_byte (n : UInt8) {Q : Nat → Prop} {w : World} : Rep.byte.val Q w (.int .u8 (n.toNat : Int)) n := ⟨_, rfl, rfl⟩
theorem lit1 {Q : Nat → Prop} {w : World} : Rep.byte.val Q w (.int .u8 1) 1 := lit_byte 1
theorem lit0 {Q : Nat → Prop} {w : World} : Rep.byte.val Q w (.int .u8 0) 0 := lit_byte 0
theorem lit255 {Q : Nat → Prop} {w : World} : Rep.byte.val Q w (.int .u8 255) 255 := lit_byte 255

theorem lit_res {w W1 : World} {e : TypeId} {l : List UInt8} (hb : Below w.heap.size w W1) (hl : l = [255]) :
    Res Rep.byte.list (fun b => w.heap.size ≤ b) w l (.returned (.slice (some ⟨W1.heap.size, 0, none⟩) 1 1)) (W1.alloc (.cells #[.int .u8 255] e)) := by
  subst hl
  have hn := heap_alloc_new W1 (.cells #[.int .u8 255] e)
  refine ⟨_, rfl, Rep.list_val rfl (Nat.le_refl _) (by simp [maxLen]) ⟨[.int .u8 255], ⟨[.int .u8 255], [], rfl, rfl, rfl⟩, fun _ => ⟨W1.heap.size, 0, rfl, hb.size, ⟨_, _, _, hn⟩, ?_⟩⟩, hb.trans (((Below.refl _ _).alloc (Nat.le_refl _) _).mono hb.size)⟩
  intro j u hj
  have hc : (W1.alloc (.cells #[.int .u8 255] e)).cell? ⟨W1.heap.size, 0 + j, none⟩ = (#[Value.int .u8 255] : Array Value)[0 + j]? := by simp only [World.cell?, hn]; rfl
  rw [hc]
  simpa using hj

end Go.Proofs.Ythjjnlilpklacaa
/- Walks of frames as0 bytes, both, and of their size. -/
namespace Go.Proofs.Ythjjnlilpklacaa
open Go.RowKit

def cmdsBytes (l : List DCmd) : List UInt8 := num 1 l.length ++ (l.map cmdBytes).flatten
def frameBytes (l : List DCmd) : List UInt8 := cmdsBytes l ++ num 4 (crcOf (cmdsBytes l) : Int)

theorem cmdBytes_length (x : DCmd) : (cmdBytes x).length ≤ 64 + x.data.length := by
  have h1 := num_length 1 x.kind
  have h2 := targetBytes_length x
  have h3 := num_length 8 x.comp
  have h4 := num_length 2 x.data.length
  have h5 := num_length 1 255
  unfold cmdBytes dataBytes
  split
  · simp only [List.length_append]
    split <;> split <;> split <;> simp only [List.length_append, List.length_nil] <;> omega
  · omega
theorem checkCmd_data {x : DCmd} (h : checkCmd x = 0) : x.data.length ≤ 64 := by
  unfold checkCmd at h
  split at h
  · split at h
    · exact absurd h (by decide)
    · omega
  · exact absurd h (by decide)
theorem checkFrame_zero {l : List DCmd} (h : checkFrame l = 0) : l.length ≤ 64 ∧ ∀ x ∈ l, checkCmd x = 0 := by
  unfold checkFrame at h
  split at h
  · exact absurd h (by decide)
  · exact ⟨by omega, firstBad_zero h⟩
theorem flatten_bound : ∀ {l : List DCmd}, (∀ x ∈ l, x.data.length ≤ 64) → (l.map cmdBytes).flatten.length ≤ 128 * l.length
  | [], _ => by simp
  | x :: l, h => by
    have h1 := flatten_bound (l := l) fun y hy => h y (by simp [hy])
    have h2 := cmdBytes_length x
    have h3 := h x (by simp)
    simp only [List.map_cons, List.flatten_cons, List.length_append, List.length_cons]
    omega
theorem cmds_part {l : List DCmd} (hn : l.length ≤ 64) (hd : ∀ x ∈ l, x.data.length ≤ 64) (k : Nat) : (num 1 l.length ++ ((l.take k).map cmdBytes).flatten).length ≤ 10000 := by
  have h1 := num_length 1 l.length
  have h2 := flatten_bound (l := l.take k) fun x hx => hd x (List.mem_of_mem_take hx)
  have h3 : (l.take k).length ≤ l.length := by rw [List.length_take]; omega
  rw [List.length_append]; omega
theorem cmdsBytes_length {l : List DCmd} (hn : l.length ≤ 64) (hd : ∀ x ∈ l, x.data.length ≤ 64) : (cmdsBytes l).length ≤ 10000 := by
  have := cmds_part hn hd l.length
  rwa [List.take_length] at this
theorem frameBytes_length {l : List DCmd} (hn : l.length ≤ 64) (hd : ∀ x ∈ l, x.data.length ≤ 64) : (frameBytes l).length ≤ 10008 := by
  have h1 := cmdsBytes_length hn hd
  have h2 := num_length 4 (crcOf (cmdsBytes l) : Int)
  unfold frameBytes
  rw [List.length_append]; omega
theorem crc_i64 (l : List UInt8) : IntKind.i64.wrap ((crcOf l : Nat) : Int) = (crcOf l : Nat) := by
  have := crcOf_lt l
  exact IntWalk.i64_in _ ⟨by omega, by omega⟩

theorem flatten_single {α : Type} (q : List α) : [q].flatten = q := by simp
/-- A slice of one slice. -/
theorem val_single {α : Type} {r : Rep α} {e base : Nat} {Q : Nat → Prop} (w : World) (t : TypeId) {A : Option Addr} {c : Nat} {q : List α} (h : r.acc e base Q w (.slice A q.length c) q) :
    r.list.list.val (fun _ => True) (w.alloc (.cells #[.slice A q.length c] t)) (.slice (some ⟨w.heap.size, 0, none⟩) 1 1) [q] := by
  have hn := heap_alloc_new w (.cells #[.slice A q.length c] t)
  have hv : r.list.val (fun _ => True) (w.alloc (.cells #[.slice A q.length c] t)) (.slice A q.length c) q :=
    Rep.val_keep (w := w) (fun b _ hl => ⟨trivial, Below.heap_alloc _ _ _ hl.lt⟩) (Rep.acc_val h)
  obtain ⟨cs, hw, hr⟩ := hv
  have hcs : cs = [.slice A q.length c] := by
    obtain ⟨A', c', es, rfl, _⟩ := hr
    have : Value.slice A q.length c = .slice A' q.length c' := hw
    rw [this]
  subst hcs
  refine Rep.list_val rfl (Nat.le_refl _) (by simp [maxLen]) ⟨[.slice A q.length c], ⟨[.slice A q.length c], [], rfl, hr, rfl⟩, fun _ => ⟨w.heap.size, 0, rfl, trivial, ⟨_, _, _, hn⟩, ?_⟩⟩
  intro j u hj
  have hc : (w.alloc (.cells #[.slice A q.length c] t)).cell? ⟨w.heap.size, 0 + j, none⟩ = (#[Value.slice A q.length c] : Array Value)[0 + j]? := by simp only [World.cell?, hn]; rfl
  rw [hc]
  simpa using hj

/-- What frame.Put gives. -/
def PutRes (w : World) (l : List DCmd) (e : Ending) (w' : World) : Prop :=
  if checkFrame l = 0 then ∃ u, e = .returned (.tuple #[u, .int .i64 0]) ∧ Rep.byte.acc 5 w.heap.size (fun _ => False) w' u (frameBytes l) ∧ Below w.heap.size w w'
  else e = .returned (.tuple #[.slice none 0 0, .int .i64 (checkFrame l)]) ∧ Below w.heap.size w w'

def frameSize (l : List DCmd) : Int := if checkFrame l = 0 then (frameBytes l).length else 0
end Go.Proofs.Ythjjnlilpklacaa
