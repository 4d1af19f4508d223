/- Texts on which the proofs stand: TearMath, RTear, Do04, SafeMath, Live04. No condition is laid on any input. -/
import Derived.Test.YtfpmkenobphfnaaPstCutTo
import Derived.Test.YtfpmkenobphfnaaPstG16
import Derived.Test.YtfpmkenobphfnaaPstG18
import Derived.Test.YtfpmkenobphfnaaPstG19
/- A torn sector, word by word: the plain law. No program is named here. -/
namespace Go.Proofs.Ytfpmkenobphfnaa
open Go.RowKit

theorem spliced_get {α : Type} {X Y : List α} {n j : Nat} (hn : n ≤ Y.length) : (Y.take n ++ X.drop n)[j]? = if j < n then Y[j]? else X[j]? := by
  rw [List.getElem?_append, List.length_take, Nat.min_eq_left hn]
  split
  · rename_i h; rw [List.getElem?_take_of_lt h]
  · rename_i h; rw [List.getElem?_drop, show n + (j - n) = j by omega]
theorem piece_get {α : Type} (l : List α) (a c t : Nat) : ((l.drop a).take c)[t]? = if t < c then l[a + t]? else none := by
  rw [List.getElem?_take]
  split
  · rw [List.getElem?_drop]
  · rfl
/-- Is a word the next one's? -/
def nextWord (k : Int) (w : Nat) : Bool := decide (0 < k ∧ (w : Int) < k) || decide (k < 0 ∧ k ≤ (w : Int) - 64)
theorem tear_word (a b : List UInt8) (k : Int) {w : Nat} (hw : w < 64) : ((tearOf a b k).drop (8 * w)).take 8 = ((if nextWord k w = true then cutTo b 512 else cutTo a 512).drop (8 * w)).take 8 := by
  apply List.ext_getElem?
  intro t
  rw [piece_get, piece_get]
  by_cases ht : t < 8
  · rw [if_pos ht, if_pos ht]
    have la := cutTo_length a 512
    have lb := cutTo_length b 512
    unfold tearOf nextWord
    by_cases h0 : 0 < k
    · rw [if_pos h0, spliced_get (by rw [lb]; omega)]
      by_cases h1 : (w : Int) < k
      · rw [if_pos (by omega), if_pos (by simp [h0, h1])]
      · rw [if_neg (by omega), if_neg (by simp [h1]; omega)]
    · rw [if_neg h0]
      by_cases h1 : k < 0
      · rw [if_pos h1, spliced_get (by rw [la]; omega)]
        by_cases h2 : k ≤ (w : Int) - 64
        · rw [if_neg (by omega), if_pos (by simp [h1, h2])]
        · rw [if_pos (by omega), if_neg (by simp [h0, h2])]
      · rw [if_neg h1, if_neg (by simp [h0, h1])]
  · rw [if_neg ht, if_neg ht]
theorem tear_step (a b : List UInt8) (k : Int) {w : Nat} (hw : w < 64) : (tearOf a b k).take (8 * (w + 1)) = (tearOf a b k).take (8 * w) ++ ((if nextWord k w = true then cutTo b 512 else cutTo a 512).drop (8 * w)).take 8 := by
  rw [← tear_word a b k hw, show 8 * (w + 1) = 8 * w + 8 by omega, List.take_add]
theorem tear_all (a b : List UInt8) (k : Int) : (tearOf a b k).take (8 * 64) = tearOf a b k := List.take_of_length_le (by rw [tear_length]; omega)
end Go.Proofs.Ytfpmkenobphfnaa
/- Walk of the reference's torn sector, word by word. Printed by gen_rtear.py. -/
namespace Go.Proofs.Ytfpmkenobphfnaa
open Go.RowKit

/-- A word of a sector that lies in a slice. -/
theorem word_val {Q : Nat → Prop} {w : World} {b off c : Nat} {X : List UInt8} (h : Rep.byte.list.val Q w (.slice (some ⟨b, off, none⟩) 512 c) X) (hl : X.length = 512) {j : Nat} (hj : j < 64) :
    Rep.byte.list.val Q w (.slice (some ⟨b, off + 8 * j, none⟩) 8 (c - 8 * j)) ((X.drop (8 * j)).take 8) := by
  obtain ⟨A', c', he, h1, h2, h3⟩ := Rep.val_list h
  simp only [Value.slice.injEq] at he
  obtain ⟨rfl, _, rfl⟩ := he
  have h4 := (h3.drop (n := 8 * j) (by omega)).take 8
  simp only [Rep.byte, Nat.mul_one] at h4
  exact Rep.list_val (by rw [List.length_take, List.length_drop]; omega) (by omega) (by omega) h4

set_option maxRecDepth 100000 in
set_option maxHeartbeats 2000000 in
/-- ref03.Tear -/
theorem rtear_calls {Q Q' : Nat → Prop} {w : World} {v u : Value} {a b : List UInt8} {k : Int} (hx : Rep.byte.list.val Q w v a) (hy : Rep.byte.list.val Q' w u b) (hk : (Lit.int .i64 k).wf = true) :
    Calls Try.prog 146 #[v, u, .int .i64 k] w (ResA Rep.byte 5 w (tearOf a b k)) := by
  have HX := Lib.hid hx
  have HY := Lib.hid (Rep.val_any hy)
  have hkb : -9223372036854775808 ≤ k ∧ k ≤ 9223372036854775807 := by simpa [Lit.wf, IntKind.min, IntKind.max, IntKind.signed, IntKind.bits] using hk
  have HST := Lib.hid (show ∀ n, n < 64 → _ from fun n hn => tear_step a b k hn)
  have HALL := Lib.hid (tear_all a b k)
  have HTL := Lib.hid (tear_length a b k)
  clear hx hy hk
  go_enter Try.func146, Try.ntmps146
  go_wp2_with fail
  refine (rcutTo_calls (n := 512) HX.out (by decide)).mono ?_
  rintro e w1 ⟨u1, rfl, hu, hb⟩
  have HU1 := Lib.hid hu
  have HB1 := Lib.hid hb
  have HY1 := Lib.hid (Rep.val_below HY.out hb (fun _ h _ => h))
  clear hu hb
  go_wp2_with fail
  refine (rcutTo_calls (n := 512) HY1.out (by decide)).mono ?_
  rintro e w2 ⟨u2, rfl, hu, hb⟩
  have HB2 := Lib.hid (HB1.out.trans (hb.mono HB1.out.size))
  have hv1 := Rep.val_any (Rep.acc_val (Rep.acc_later HU1.out hb))
  have hv2 := Rep.val_any (Rep.acc_val hu)
  have l1 := cutTo_length a 512
  have l2 := cutTo_length b 512
  clear hu hb HX HY HY1 HU1
  generalize cutTo a 512 = X at *
  generalize cutTo b 512 = Y at *
  generalize tearOf a b k = T at *
  obtain ⟨A1, c1, rfl, hc1, hm1, hat1⟩ := Rep.val_list hv1
  obtain ⟨A2, c2, rfl, hc2, hm2, hat2⟩ := Rep.val_list hv2
  obtain ⟨b1, o1, rfl⟩ := hat1.addr (by omega)
  obtain ⟨b2, o2, rfl⟩ := hat2.addr (by omega)
  rw [l1] at hv1 hc1
  rw [l2] at hv2 hc2
  have HV1 := Lib.hid (show ∀ W, Below w2.heap.size w2 W → ∀ {j : Nat}, j < 64 → Rep.byte.list.val (fun b => b < w2.heap.size) W (.slice (some ⟨b1, o1 + 8 * j, none⟩) 8 (c1 - 8 * j)) ((X.drop (8 * j)).take 8) from fun W hb j hj => word_val (Rep.val_below hv1 hb fun _ h _ => h) l1 hj)
  have HV2 := Lib.hid (show ∀ W, Below w2.heap.size w2 W → ∀ {j : Nat}, j < 64 → Rep.byte.list.val (fun b => b < w2.heap.size) W (.slice (some ⟨b2, o2 + 8 * j, none⟩) 8 (c2 - 8 * j)) ((Y.drop (8 * j)).take 8) from fun W hb j hj => word_val (Rep.val_below hv2 hb fun _ h _ => h) l2 hj)
  clear hv1 hv2 hat1 hat2
  rw [l1, l2]
  clear l1 l2
  unfold maxLen at hm1 hm2
  go_wp2_with fail
  go_loopw [9, 10] (fun u kk wr => ∃ j : Nat, kk = .int .i64 j ∧ j ≤ 64 ∧ Rep.byte.acc 5 w2.heap.size (fun _ => False) wr u (T.take (8 * j)) ∧ Below w2.heap.size w2 wr) (fun _ kk _ => 64 - (intOf kk).toNat)
  case atStart => exact ⟨0, rfl, by decide, Rep.acc_nil, Below.refl _ _⟩
  case round =>
    obtain ⟨j, rfl, hj, hacc, hb⟩ := hrel
    have HB := Lib.hid hb
    have HACC := Lib.hid hacc
    obtain ⟨Au, cu, rfl, _, _⟩ := Rep.acc_form hacc
    have HSW := Lib.hid hb.size
    clear hacc hb
    by_cases hlt : (j : Int) < 64
    · have hj' : j < 64 := by omega
      have HT := Lib.hid (HST.out j hj')
      have W1 := Lib.hid (HV1.out _ HB.out hj')
      have W2 := Lib.hid (HV2.out _ HB.out hj')
      have HQL := Lib.hid (show (T.take (8 * j)).length ≤ 512 by rw [List.length_take]; have := HTL.out; omega)
      generalize T.take (8 * j) = q at *
      have L := Lib.hid (show ∀ z : List UInt8, (q.length + (((z.drop (8 * j)).take 8).length) ≤ maxLen ∧ (q.length + (((z.drop (8 * j)).take 8).length)) * 1 ≤ 140737488355328) from fun z => by
        have h1 := HQL.out
        have h2 : ((z.drop (8 * j)).take 8).length ≤ 8 := by rw [List.length_take]; exact Nat.min_le_left _ _
        unfold maxLen
        omega)
      have j1 : (0 : Int) ≤ 8 * (j : Int) := by omega
      have j2 : 8 * (j : Int) ≤ 8 * (j : Int) + 8 := by omega
      have j3 : 8 * (j : Int) + 8 ≤ c1 := by omega
      have j3' : 8 * (j : Int) + 8 ≤ c2 := by omega
      have j4 : (8 * (j : Int)).toNat = 8 * j := by omega
      have j5 : (8 * (j : Int) + 8).toNat - 8 * j = 8 := by omega
      have w2' : IntKind.i64.wrap (8 * (j : Int)) = 8 * (j : Int) := IntWalk.i64_in _ ⟨by omega, by omega⟩
      have w3' : IntKind.i64.wrap (8 * (j : Int) + 8) = 8 * (j : Int) + 8 := IntWalk.i64_in _ ⟨by omega, by omega⟩
      have w4' : IntKind.i64.wrap ((j : Int) - 64) = (j : Int) - 64 := IntWalk.i64_in _ ⟨by omega, by omega⟩
      have hcase : (0 < k ∧ (j : Int) < k) ∨ (0 < k ∧ ¬ (j : Int) < k) ∨ (k < 0 ∧ k ≤ (j : Int) - 64) ∨ (k < 0 ∧ ¬ k ≤ (j : Int) - 64) ∨ k = 0 := by omega
      rcases hcase with ⟨h1, h2⟩ | ⟨h1, h2⟩ | ⟨h1, h2⟩ | ⟨h1, h2⟩ | h1
      · have hn : nextWord k j = true := by simp [nextWord, h1, h2]
        have HT2 := Lib.hid (show T.take (8 * (j + 1)) = q ++ ((Y.drop (8 * j)).take 8) by rw [HT.out, hn]; rfl)
        clear hn
        go_wp2_with (refine wpList_spread_leaf (e := 5) (base := w2.heap.size) (Q := fun _ => False) Rep.leaf_byte rfl _ _ 36 rfl (.int .u8 0) 1 1 Try.underlying36 info5 rfl (by decide) rfl _ q (by exact rfl) HACC.out _ ((Y.drop (8 * j)).take 8) (by exact rfl) W2.out (L.out Y).1 (L.out Y).2 HSW.out ?_; intro v3 w3 hacc3 hgr hat)
        exact ⟨⟨j + 1, by go_num, by omega, by rw [HT2.out]; exact hacc3, Rep.acc_below HACC.out HB.out hgr HSW.out⟩, by simp [intOf]; omega⟩
      · have hn : nextWord k j = false := by simp [nextWord, h2]; omega
        have HT2 := Lib.hid (show T.take (8 * (j + 1)) = q ++ ((X.drop (8 * j)).take 8) by rw [HT.out, hn]; rfl)
        clear hn
        have h3 : k ≤ (j : Int) := by omega
        clear h2
        go_wp2_with (refine wpList_spread_leaf (e := 5) (base := w2.heap.size) (Q := fun _ => False) Rep.leaf_byte rfl _ _ 36 rfl (.int .u8 0) 1 1 Try.underlying36 info5 rfl (by decide) rfl _ q (by exact rfl) HACC.out _ ((X.drop (8 * j)).take 8) (by exact rfl) W1.out (L.out X).1 (L.out X).2 HSW.out ?_; intro v3 w3 hacc3 hgr hat)
        exact ⟨⟨j + 1, by go_num, by omega, by rw [HT2.out]; exact hacc3, Rep.acc_below HACC.out HB.out hgr HSW.out⟩, by simp [intOf]; omega⟩
      · have hn : nextWord k j = true := by simp [nextWord, h1, h2]
        have HT2 := Lib.hid (show T.take (8 * (j + 1)) = q ++ ((Y.drop (8 * j)).take 8) by rw [HT.out, hn]; rfl)
        clear hn
        have h4 : ¬ 0 < k := by omega
        go_wp2_with (refine wpList_spread_leaf (e := 5) (base := w2.heap.size) (Q := fun _ => False) Rep.leaf_byte rfl _ _ 36 rfl (.int .u8 0) 1 1 Try.underlying36 info5 rfl (by decide) rfl _ q (by exact rfl) HACC.out _ ((Y.drop (8 * j)).take 8) (by exact rfl) W2.out (L.out Y).1 (L.out Y).2 HSW.out ?_; intro v3 w3 hacc3 hgr hat)
        exact ⟨⟨j + 1, by go_num, by omega, by rw [HT2.out]; exact hacc3, Rep.acc_below HACC.out HB.out hgr HSW.out⟩, by simp [intOf]; omega⟩
      · have hn : nextWord k j = false := by simp [nextWord, h2]; omega
        have HT2 := Lib.hid (show T.take (8 * (j + 1)) = q ++ ((X.drop (8 * j)).take 8) by rw [HT.out, hn]; rfl)
        clear hn
        have h3 : (j : Int) - 64 < k := by omega
        have h4 : ¬ 0 < k := by omega
        clear h2
        go_wp2_with (refine wpList_spread_leaf (e := 5) (base := w2.heap.size) (Q := fun _ => False) Rep.leaf_byte rfl _ _ 36 rfl (.int .u8 0) 1 1 Try.underlying36 info5 rfl (by decide) rfl _ q (by exact rfl) HACC.out _ ((X.drop (8 * j)).take 8) (by exact rfl) W1.out (L.out X).1 (L.out X).2 HSW.out ?_; intro v3 w3 hacc3 hgr hat)
        exact ⟨⟨j + 1, by go_num, by omega, by rw [HT2.out]; exact hacc3, Rep.acc_below HACC.out HB.out hgr HSW.out⟩, by simp [intOf]; omega⟩
      · have hn : nextWord k j = false := by simp [nextWord, h1]
        have HT2 := Lib.hid (show T.take (8 * (j + 1)) = q ++ ((X.drop (8 * j)).take 8) by rw [HT.out, hn]; rfl)
        clear hn
        subst h1
        go_wp2_with (refine wpList_spread_leaf (e := 5) (base := w2.heap.size) (Q := fun _ => False) Rep.leaf_byte rfl _ _ 36 rfl (.int .u8 0) 1 1 Try.underlying36 info5 rfl (by decide) rfl _ q (by exact rfl) HACC.out _ ((X.drop (8 * j)).take 8) (by exact rfl) W1.out (L.out X).1 (L.out X).2 HSW.out ?_; intro v3 w3 hacc3 hgr hat)
        exact ⟨⟨j + 1, by go_num, by omega, by rw [HT2.out]; exact hacc3, Rep.acc_below HACC.out HB.out hgr HSW.out⟩, by simp [intOf]; omega⟩
    · obtain rfl : j = 64 := by omega
      rw [HALL.out] at *
      go_wp2_with fail
      go_ret
      exact ⟨_, rfl, Rep.acc_base HB2.out.size HACC.out, HB2.out.trans (HB.out.mono HB2.out.size)⟩
end Go.Proofs.Ytfpmkenobphfnaa
/- Walk of one step of a device's script. -/
namespace Go.Proofs.Ytfpmkenobphfnaa
open Go.RowKit

def DoPost (K : Nat → Prop) (P n : Nat) (W : World) (r : List UInt8 × Int) (st : DiskSt) (e : Ending) (W' : World) : Prop :=
  ∃ u, e = .returned (.tuple #[u, .int .i64 r.2]) ∧ Rep.byte.list.val (fun b => W.heap.size ≤ b) W' u r.1 ∧ DevAt K W' P (n + 1) st ∧ Kept K W W'
end Go.Proofs.Ytfpmkenobphfnaa
/- What is safe stays: the plain law of two scripts, and the page's example. No program is named here. -/
namespace Go.Proofs.Ytfpmkenobphfnaa
open Go.RowKit

/-- Which sectors a script may have written. -/
def touchedOf (k : Nat) (l : List DStep) : List Bool := l.foldl (fun t x => if x.act = 1 ∧ 0 ≤ x.pos ∧ x.pos < (k : Int) then t.set x.pos.toNat true else t) (List.replicate k false)
theorem touched_succ (k : Nat) {l : List DStep} {j : Nat} {x : DStep} (h : l[j]? = some x) :
    touchedOf k (l.take (j + 1)) = if x.act = 1 ∧ 0 ≤ x.pos ∧ x.pos < (k : Int) then (touchedOf k (l.take j)).set x.pos.toNat true else touchedOf k (l.take j) := by
  obtain ⟨hk, he⟩ := List.getElem?_eq_some_iff.1 h
  unfold touchedOf
  rw [List.take_succ_eq_append_getElem hk, he, List.foldl_append]; rfl
theorem touched_length (k : Nat) (l : List DStep) : (touchedOf k l).length = k := by
  have : ∀ (l : List DStep) (t : List Bool), (l.foldl (fun t x => if x.act = 1 ∧ 0 ≤ x.pos ∧ x.pos < (k : Int) then t.set x.pos.toNat true else t) t).length = t.length := by
    intro l
    induction l with
    | nil => intro t; rfl
    | cons x l ih =>
      intro t
      rw [List.foldl_cons, ih]
      split
      · exact List.length_set ..
      · rfl
  unfold touchedOf
  rw [this, List.length_replicate]
theorem untouched_still {s0 : DiskSt} {k : Nat} (h0 : ∀ i, s0.wait i = []) {l : List DStep} {i : Nat} : ∀ j, j ≤ l.length → (touchedOf k (l.take j))[i]? = some false → Still s0 (runSt s0 (l.take j)) i
  | 0, _, _ => ⟨h0 _, rfl⟩
  | j + 1, hj, ht => by
    obtain ⟨x, hx⟩ : ∃ x, l[j]? = some x := ⟨_, List.getElem?_eq_getElem (by omega)⟩
    rw [touched_succ k hx] at ht
    rw [run_succ s0 hx]
    by_cases hc : x.act = 1 ∧ 0 ≤ x.pos ∧ x.pos < (k : Int)
    · rw [if_pos hc] at ht
      by_cases hi : x.pos.toNat = i
      · rw [List.getElem?_set] at ht
        rw [if_pos hi] at ht
        split at ht
        · cases ht
        · cases ht
      · rw [List.getElem?_set_ne hi] at ht
        exact step_still (untouched_still h0 j (by omega) ht) (fun e => hi (by omega))
    · rw [if_neg hc] at ht
      have hlt : i < k := by
        have := (List.getElem?_eq_some_iff.1 ht).1
        rwa [touched_length] at this
      exact step_still (untouched_still h0 j (by omega) ht) (fun e => hc ⟨e.1, by omega, by omega⟩)
theorem run_sound {st : DiskSt} {k : Nat} (h : Sound st k) (l : List DStep) : Sound (runSt st l) k := by
  induction l generalizing st with
  | nil => exact h
  | cons x l ih => exact ih (step_sound h x)
theorem new_sound (k : Nat) : Sound (newSt (List.replicate k (zeros 512))) k :=
  ⟨List.length_replicate, fun x hx => by rw [(List.mem_replicate.1 hx).2]; exact List.length_replicate, fun i x hx => (by cases hx), fun i hi => absurd rfl hi⟩

/-- The page's example. -/
def ones04 : List UInt8 := List.replicate 512 1
def ex04 : DiskSt := newSt (List.replicate 1 (zeros 512))
theorem ex04_write : (writeSt ex04 0 ones04).2 = 0 := by decide +kernel
theorem ex04_sound : Sound (crashSt (writeSt ex04 0 ones04).1 [⟨0, 2⟩]) 1 := crash_sound (write_sound (new_sound 1) _ _) _
theorem ex04_code : (readSt (crashSt (writeSt ex04 0 ones04).1 [⟨0, 2⟩]) 0).2.2 = 0 := by decide +kernel
theorem ex04_len : (readSt (crashSt (writeSt ex04 0 ones04).1 [⟨0, 2⟩]) 0).2.1.length = 512 := by decide +kernel
theorem ex04_one : (readSt (crashSt (writeSt ex04 0 ones04).1 [⟨0, 2⟩]) 0).2.1[15]? = some 1 := by decide +kernel
theorem ex04_zero : (readSt (crashSt (writeSt ex04 0 ones04).1 [⟨0, 2⟩]) 0).2.1[16]? = some 0 := by decide +kernel
end Go.Proofs.Ytfpmkenobphfnaa
/- Walk of the page's example of a device. -/
namespace Go.Proofs.Ytfpmkenobphfnaa
open Go.RowKit

/-- An element of one cell, of a slice of the call's own. -/
theorem Rep.acc_at {α : Type} {r : Rep α} {e base : Nat} {Q : Nat → Prop} {w : World} {v : Value} {xs : List α} (hr : r.size = 1) (h : r.acc e base Q w v xs) {i : Nat} {x : α} (hx : xs[i]? = some x) :
    ∃ g cap u, v = .slice (some ⟨g, 0, none⟩) xs.length cap ∧ w.cell? ⟨g, i, none⟩ = some u ∧ w.frozen? ⟨g, i, none⟩ = false ∧ g < w.heap.size ∧ base ≤ g ∧ r.rd (fun b => Q b ∧ g ≠ b) w [u] x := by
  obtain ⟨cells, g1, g2⟩ := h
  have hi := (List.getElem?_eq_some_iff.1 hx).1
  rcases g1.2 with ⟨rfl, h0⟩ | ⟨g, cap, cur, rfl, hb, hg, h3, h4, h5, h6⟩
  · omega
  · obtain ⟨es, hrd, hcell⟩ := Rep.row_get g2 hx
    have hl := r.len hrd
    rw [hr] at hl
    obtain ⟨u, rfl⟩ : ∃ u, es = [u] := List.length_eq_one_iff.1 hl
    refine ⟨g, cap, u, rfl, ?_, frozen_row hg i, (Array.getElem?_eq_some_iff.1 hg).1, hb, r.mono (fun b hb' _ => ⟨hb'.1, fun e => hb'.2 (by rw [e]; rfl)⟩) hrd⟩
    have := g1.cells (g := g) rfl i u (by have := hcell 0 _ rfl; rw [hr] at this; simpa using this)
    rw [Addr.add_lit, Nat.zero_add] at this
    exact this

def onesTo (k : Nat) : List UInt8 := List.replicate k 1 ++ List.replicate (512 - k) 0
theorem onesTo_zero : onesTo 0 = List.replicate 512 0 := rfl
theorem onesTo_all : onesTo 512 = ones04 := by unfold onesTo ones04; rw [Nat.sub_self, List.replicate_zero, List.append_nil]
theorem onesTo_length {k : Nat} (h : k ≤ 512) : (onesTo k).length = 512 := by unfold onesTo; rw [List.length_append, List.length_replicate, List.length_replicate]; omega
theorem onesTo_get {k : Nat} (h : k < 512) : (onesTo k)[k]? = some 0 := by
  unfold onesTo
  rw [List.getElem?_append_right (by rw [List.length_replicate]; exact Nat.le_refl _), List.length_replicate, Nat.sub_self, List.getElem?_replicate, if_pos (by omega)]
theorem onesTo_set {k : Nat} (h : k < 512) : (onesTo k).set k 1 = onesTo (k + 1) := by
  unfold onesTo
  rw [show 512 - k = (512 - (k + 1)) + 1 by omega, List.set_append_right _ _ (by rw [List.length_replicate]; exact Nat.le_refl _), List.length_replicate, Nat.sub_self, List.replicate_succ, List.set_cons_zero, List.replicate_succ' (n := k), List.append_assoc]
  rfl
theorem one_fate (w : World) : rFate.list.val (fun b => b = w.heap.size) (w.alloc (.cells #[.int .i64 0, .int .i64 2] 219)) (.slice (some ⟨w.heap.size, 0, none⟩) 1 1) [⟨0, 2⟩] := by
  refine Rep.list_val rfl (by decide) (by simp [maxLen]) ⟨[.int .i64 0, .int .i64 2], ?_, fun _ => ⟨w.heap.size, 0, rfl, rfl, ⟨_, _, _, heap_alloc_new w _⟩, fun j u hj => ?_⟩⟩
  · exact Rep.row_one_elem ⟨[.int .i64 0], [.int .i64 2], rfl, ⟨rfl, by decide⟩, ⟨rfl, by decide⟩⟩
  · rw [Nat.zero_add, cell_row (heap_alloc_new w _), ← Array.getElem?_toList]
    exact hj

end Go.Proofs.Ytfpmkenobphfnaa
