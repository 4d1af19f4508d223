/- Texts on which the proofs stand: DirMath, RDirBytes, Same, Entries. No condition is laid on any input. -/
import Derived.Test.YteljibjbndpncaaPsG5
import Derived.Test.YteljibjbndpncaaPsG8
import Derived.Test.YteljibjbndpncaaPsTypes
import Derived.BigQuiet
import Derived.Deep.QuietTactic
/- Directories out of bytes: the plain law. -/
namespace Go.Proofs.Yteljibjbndpncaa
open Go.RowKit

/-- The number at a place, of so many bytes. -/
def natAt (b : List UInt8) (at_ w : Nat) : Nat := leNat ((b.drop at_).take w)
theorem natAt_lt (b : List UInt8) (at_ w : Nat) : natAt b at_ w < 256 ^ w := by
  refine Nat.lt_of_lt_of_le (leNat_lt _) (Nat.pow_le_pow_right (by decide) ?_)
  rw [List.length_take]; exact Nat.min_le_left _ _
theorem wide_small {w : Nat} (h1 : 1 ≤ w) (h8 : w ≤ 8) : wide (w : Int) = w := by
  unfold wide; rw [if_neg (by omega), if_neg (by omega)]
theorem getNum_nat (b : List UInt8) (at_ : Nat) {w : Nat} (h1 : 1 ≤ w) (h8 : w ≤ 8) : getNum b at_ (w : Int) = if at_ + w ≤ b.length then some (i64of (natAt b at_ w)) else none := by
  unfold getNum
  rw [wide_small h1 h8]
  by_cases h : at_ + w ≤ b.length
  · rw [if_pos h, if_pos ⟨by omega, by omega⟩]; rfl
  · rw [if_neg h, if_neg (by omega)]
theorem i64of_natAt (b : List UInt8) (at_ w : Nat) (h : w ≤ 7) : i64of (natAt b at_ w) = natAt b at_ w := by
  apply i64of_small
  refine Nat.lt_of_lt_of_le (natAt_lt b at_ w) (Nat.le_trans (Nat.pow_le_pow_right (by decide) h) (by decide))
theorem natAt_one {b : List UInt8} {at_ : Nat} (h : at_ < b.length) : natAt b at_ 1 = b[at_].toNat := by
  unfold natAt
  rw [← List.getElem_cons_drop h]
  show b[at_].toNat + 256 * leNat [] = _
  simp only [leNat]; omega

def pagesAt (b : List UInt8) (at_ n : Nat) : List Int := (List.range n).map fun k => (natAt b (at_ + 2 * k) 2 : Int)
theorem pagesAt_succ (b : List UInt8) (at_ n : Nat) : pagesAt b at_ (n + 1) = pagesAt b at_ n ++ [(natAt b (at_ + 2 * n) 2 : Int)] := by simp [pagesAt, List.range_succ]
theorem pagesAt_length (b : List UInt8) (at_ n : Nat) : (pagesAt b at_ n).length = n := by simp [pagesAt]

def keyAt (b : List UInt8) (at_ : Nat) : DKey := ⟨natAt b at_ 1, natAt b (at_ + 1) 8, natAt b (at_ + 9) 1⟩
def countAt (b : List UInt8) (at_ : Nat) : Nat := natAt b (at_ + 14) 2
def entAt (b : List UInt8) (at_ : Nat) : DEntry := ⟨keyAt b at_, natAt b (at_ + 10) 4, pagesAt b (at_ + 16) (countAt b at_)⟩
/-- The entry at a place, and the place behind it. -/
def parseEnt (b : List UInt8) (at_ : Nat) : Option (DEntry × Nat) :=
  if at_ + 16 ≤ b.length ∧ at_ + 16 + 2 * countAt b at_ ≤ b.length then some (entAt b at_, at_ + 16 + 2 * countAt b at_) else none
/-- So many entries, from the third byte on. -/
def parseDir (b : List UInt8) : Nat → Option (List DEntry × Nat)
  | 0 => some ([], 2)
  | n + 1 => match parseDir b n with
    | none => none
    | some (l, at_) => match parseEnt b at_ with
      | none => none
      | some (x, e) => some (l ++ [x], e)
theorem parseDir_none {b : List UInt8} {n : Nat} (h : parseDir b n = none) : ∀ m, n ≤ m → parseDir b m = none := by
  intro m hm
  induction m with
  | zero => have : n = 0 := by omega
            subst this; exact h
  | succ m ih =>
    rcases Nat.lt_or_ge m n with h1 | h1
    · have : n = m + 1 := by omega
      subst this; exact h
    · rw [parseDir, ih h1]
theorem parseDir_length {b : List UInt8} : ∀ {n : Nat} {l : List DEntry} {e : Nat}, parseDir b n = some (l, e) → l.length = n
  | 0, l, e, h => by simp only [parseDir, Option.some.injEq, Prod.mk.injEq] at h; rw [← h.1]; rfl
  | n + 1, l, e, h => by
    unfold parseDir at h
    split at h
    · cases h
    · rename_i l0 a0 h0
      split at h
      · cases h
      · simp only [Option.some.injEq, Prod.mk.injEq] at h
        rw [← h.1, List.length_append, parseDir_length h0]; rfl
theorem parseDir_at {b : List UInt8} (h2 : 2 ≤ b.length) : ∀ {n : Nat} {l : List DEntry} {e : Nat}, parseDir b n = some (l, e) → 2 + 16 * n ≤ e ∧ e ≤ b.length
  | 0, l, e, h => by simp only [parseDir, Option.some.injEq, Prod.mk.injEq] at h; omega
  | n + 1, l, e, h => by
    unfold parseDir at h
    split at h
    · cases h
    · rename_i l0 a0 h0
      have := parseDir_at h2 h0
      split at h
      · cases h
      · rename_i x e1 h1
        simp only [Option.some.injEq, Prod.mk.injEq] at h
        unfold parseEnt at h1
        split at h1
        · simp only [Option.some.injEq, Prod.mk.injEq] at h1; omega
        · cases h1

/-- What bytes are as0 a directory: an error, or entries. -/
def dirGet (b : List UInt8) : List DEntry × Int :=
  if b.length < 2 then ([], 12) else match parseDir b (natAt b 0 2) with
    | none => ([], 12)
    | some (l, e) => if e = b.length then (l, 0) else ([], 11)

theorem take_drop_take (b : List UInt8) (a m n : Nat) : (b.drop a).take (m + n) = (b.drop a).take m ++ (b.drop (a + m)).take n := by
  rw [List.take_add, List.drop_drop]
theorem num_natAt {b : List UInt8} {at_ : Nat} {w : Nat} (h1 : 1 ≤ w) (h8 : w ≤ 7) (h : at_ + w ≤ b.length) : num (w : Int) (natAt b at_ w : Int) = (b.drop at_).take w := by
  rw [← i64of_natAt b at_ w h8, natAt]
  exact num_leNat _ _ (by rw [wide_small h1 (by omega), List.length_take, List.length_drop]; omega)
theorem num_natAt8 {b : List UInt8} {at_ : Nat} (h : at_ + 8 ≤ b.length) : num 8 (wrap64 (natAt b at_ 8 : Int)) = (b.drop at_).take 8 := by
  have : wrap64 (natAt b at_ 8 : Int) = i64of (natAt b at_ 8) := wrap64_i64of _
  rw [this, natAt]
  exact num_leNat 8 _ (by rw [List.length_take, List.length_drop]; have : (wide 8).toNat = 8 := by decide
                          omega)
theorem pages_bytes {b : List UInt8} {at_ : Nat} : ∀ {n : Nat}, at_ + 2 * n ≤ b.length → ((pagesAt b at_ n).map (num 2)).flatten = (b.drop at_).take (2 * n)
  | 0, _ => by simp [pagesAt]
  | n + 1, h => by
    rw [pagesAt_succ, List.map_append, List.flatten_append, pages_bytes (n := n) (by omega), Nat.mul_add, take_drop_take]
    simp only [List.map_cons, List.map_nil, List.flatten_cons, List.flatten_nil, List.append_nil]
    rw [show (num 2 (natAt b (at_ + 2 * n) 2 : Int)) = (b.drop (at_ + 2 * n)).take 2 from num_natAt (w := 2) (by decide) (by decide) (by omega)]
theorem entAt_bytes {b : List UInt8} {at_ : Nat} (h : at_ + 16 + 2 * countAt b at_ ≤ b.length) : entBytes (entAt b at_) = (b.drop at_).take (16 + 2 * countAt b at_) := by
  have e1 : num 1 (natAt b at_ 1 : Int) = (b.drop at_).take 1 := num_natAt (w := 1) (by decide) (by decide) (by omega)
  have e2 : num 8 (wrap64 (natAt b (at_ + 1) 8 : Int)) = (b.drop (at_ + 1)).take 8 := num_natAt8 (by omega)
  have e3 : num 1 (natAt b (at_ + 9) 1 : Int) = (b.drop (at_ + 9)).take 1 := num_natAt (w := 1) (by decide) (by decide) (by omega)
  have e4 : num 4 (natAt b (at_ + 10) 4 : Int) = (b.drop (at_ + 10)).take 4 := num_natAt (w := 4) (by decide) (by decide) (by omega)
  have e5 : num 2 (natAt b (at_ + 14) 2 : Int) = (b.drop (at_ + 14)).take 2 := num_natAt (w := 2) (by decide) (by decide) (by omega)
  have e6 := pages_bytes (b := b) (at_ := at_ + 16) (n := countAt b at_) h
  have hl : ((entAt b at_).pages.length : Int) = (natAt b (at_ + 14) 2 : Int) := by simp only [entAt, pagesAt_length]; rfl
  unfold entBytes entHead
  rw [hl]
  simp only [entAt, keyAt]
  rw [e1, e2, e3, e4, e5, e6]
  rw [show 16 + 2 * countAt b at_ = 1 + (8 + (1 + (4 + (2 + 2 * countAt b at_)))) by omega]
  rw [take_drop_take b at_ 1, take_drop_take b (at_ + 1) 8, take_drop_take b (at_ + 1 + 8) 1, take_drop_take b (at_ + 1 + 8 + 1) 4, take_drop_take b (at_ + 1 + 8 + 1 + 4) 2]
  simp only [List.append_assoc]
theorem parseDir_bytes {b : List UInt8} (h2 : 2 ≤ b.length) : ∀ {n : Nat} {l : List DEntry} {e : Nat}, parseDir b n = some (l, e) → (l.map entBytes).flatten = (b.drop 2).take (e - 2)
  | 0, l, e, h => by
    simp only [parseDir, Option.some.injEq, Prod.mk.injEq] at h
    obtain ⟨rfl, rfl⟩ := h
    simp
  | n + 1, l, e, h => by
    unfold parseDir at h
    split at h
    · cases h
    · rename_i l0 a0 h0
      have ih := parseDir_bytes h2 h0
      have ha := parseDir_at h2 h0
      split at h
      · cases h
      · rename_i x e1 h1
        simp only [Option.some.injEq, Prod.mk.injEq] at h
        obtain ⟨rfl, rfl⟩ := h
        unfold parseEnt at h1
        split at h1
        · rename_i hc
          simp only [Option.some.injEq, Prod.mk.injEq] at h1
          obtain ⟨rfl, rfl⟩ := h1
          rw [List.map_append, List.flatten_append, ih]
          simp only [List.map_cons, List.map_nil, List.flatten_cons, List.flatten_nil, List.append_nil]
          rw [entAt_bytes hc.2, show a0 + 16 + 2 * countAt b a0 - 2 = (a0 - 2) + (16 + 2 * countAt b a0) by omega, take_drop_take b 2 (a0 - 2), show 2 + (a0 - 2) = a0 by omega]
        · cases h1
/-- What is got is just what is put. -/
theorem dirGet_put {b : List UInt8} (h : (dirGet b).2 = 0) : dirBytes (dirGet b).1 = b := by
  unfold dirGet at *
  split at h
  · exact absurd h (by decide)
  · rename_i hl
    rw [if_neg hl]
    split at h
    · exact absurd h (by decide)
    · rename_i l e hp
      split at h
      · rename_i he
        simp only [if_pos he]
        have h1 := parseDir_length hp
        have h2 := parseDir_bytes (by omega) hp
        have h3 : num 2 (natAt b 0 2 : Int) = (b.drop 0).take 2 := num_natAt (w := 2) (by decide) (by decide) (by omega)
        unfold dirBytes
        rw [h1, h3, h2, List.drop_zero, he]
        have h4 : (b.drop 2).take (b.length - 2) = b.drop 2 := List.take_of_length_le (by rw [List.length_drop]; exact Nat.le_refl _)
        rw [h4, List.take_append_drop]
      · exact absurd h (by decide)
/-- The head of an entry, number by number. -/
theorem header {b : List UInt8} {at_ : Nat} {r1 r2 r3 r4 r5 : Int × Nat × Bool} (e1 : r1 = rdNum b at_ false 1) (e2 : r2 = rdNum b r1.2.1 r1.2.2 8) (e3 : r3 = rdNum b r2.2.1 r2.2.2 1) (e4 : r4 = rdNum b r3.2.1 r3.2.2 4) (e5 : r5 = rdNum b r4.2.1 r4.2.2 2) :
    (at_ + 16 ≤ b.length ∧ r1.1 = natAt b at_ 1 ∧ r2.1 = i64of (natAt b (at_ + 1) 8) ∧ r3.1 = natAt b (at_ + 9) 1 ∧ r4.1 = natAt b (at_ + 10) 4 ∧ r5 = ((countAt b at_ : Int), at_ + 16, false)) ∨ (¬ at_ + 16 ≤ b.length ∧ r5.1 = 0 ∧ r5.2.2 = true) := by
  have g : ∀ (a : Nat) (w : Nat), 1 ≤ w → w ≤ 8 → rdNum b a false (w : Int) = if a + w ≤ b.length then (i64of (natAt b a w), a + w, false) else (0, a, true) := by
    intro a w h1 h8
    unfold rdNum
    rw [getNum_nat b a h1 h8, wide_small h1 h8]
    by_cases h : a + w ≤ b.length
    · rw [if_pos h, if_pos h]; rfl
    · rw [if_neg h, if_neg h]; rfl
  have t : ∀ (a : Nat) (w : Int), rdNum b a true w = (0, a, true) := fun a w => rfl
  have g1 : rdNum b at_ false 1 = _ := g at_ 1 (by decide) (by decide)
  have g2 : rdNum b (at_ + 1) false 8 = _ := g (at_ + 1) 8 (by decide) (by decide)
  have g3 : rdNum b (at_ + 9) false 1 = _ := g (at_ + 9) 1 (by decide) (by decide)
  have g4 : rdNum b (at_ + 10) false 4 = _ := g (at_ + 10) 4 (by decide) (by decide)
  have g5 : rdNum b (at_ + 14) false 2 = _ := g (at_ + 14) 2 (by decide) (by decide)
  rw [i64of_natAt b at_ 1 (by decide)] at g1
  rw [i64of_natAt b (at_ + 9) 1 (by decide)] at g3
  rw [i64of_natAt b (at_ + 10) 4 (by decide)] at g4
  rw [i64of_natAt b (at_ + 14) 2 (by decide)] at g5
  rw [g1] at e1
  by_cases c1 : at_ + 1 ≤ b.length
  case neg =>
    rw [if_neg c1] at e1; subst e1; simp only [t] at e2; subst e2; simp only [t] at e3; subst e3; simp only [t] at e4; subst e4; simp only [t] at e5; subst e5
    exact .inr ⟨by omega, rfl, rfl⟩
  rw [if_pos c1] at e1
  subst e1
  simp only [g2] at e2
  by_cases c2 : at_ + 1 + 8 ≤ b.length
  case neg =>
    rw [if_neg c2] at e2; subst e2; simp only [t] at e3; subst e3; simp only [t] at e4; subst e4; simp only [t] at e5; subst e5
    exact .inr ⟨by omega, rfl, rfl⟩
  rw [if_pos c2] at e2
  subst e2
  simp only [Nat.add_assoc, Nat.reduceAdd, g3] at e3
  by_cases c3 : at_ + 9 + 1 ≤ b.length
  case neg =>
    rw [if_neg c3] at e3; subst e3; simp only [t] at e4; subst e4; simp only [t] at e5; subst e5
    exact .inr ⟨by omega, rfl, rfl⟩
  rw [if_pos c3] at e3
  subst e3
  simp only [Nat.add_assoc, Nat.reduceAdd, g4] at e4
  by_cases c4 : at_ + 10 + 4 ≤ b.length
  case neg =>
    rw [if_neg c4] at e4; subst e4; simp only [t] at e5; subst e5
    exact .inr ⟨by omega, rfl, rfl⟩
  rw [if_pos c4] at e4
  subst e4
  simp only [Nat.add_assoc, Nat.reduceAdd, g5] at e5
  by_cases c5 : at_ + 14 + 2 ≤ b.length
  case neg =>
    rw [if_neg c5] at e5; subst e5
    exact .inr ⟨by omega, rfl, rfl⟩
  rw [if_pos c5] at e5
  exact .inl ⟨by omega, rfl, rfl, rfl, rfl, e5⟩
end Go.Proofs.Yteljibjbndpncaa
/- Walk of the reference's directory as0 bytes. -/
namespace Go.Proofs.Yteljibjbndpncaa
open Go.RowKit

end Go.Proofs.Yteljibjbndpncaa
/- Walks of the references' comparisons of lists and tables. -/
namespace Go.Proofs.Yteljibjbndpncaa
open Go.RowKit

set_option maxHeartbeats 400000 in
theorem sameList {Q Q' : Nat → Prop} {w : World} {v u : Value} {xs ys : List Int} (hx : (Rep.int .i64).list.val Q w v xs) (hy : (Rep.int .i64).list.val Q' w u ys) :
    Calls Try.prog 17 #[v, u] w fun e w' => e = .returned (.bool (decide (xs = ys))) ∧ ∃ n, w' = w.drewN n := by
  obtain ⟨A, c, rfl, hc1, hc2, hA⟩ := Rep.val_list hx
  obtain ⟨B, d, rfl, hd1, hd2, hB⟩ := Rep.val_list hy
  clear hx hy
  unfold maxLen at hc2 hd2
  by_cases hlen : xs.length = ys.length
  · have hne : ((xs.length : Int) != (ys.length : Int)) = false := by simp [hlen]
    have H := Lib.hid hlen
    clear hlen
    go_enter Try.func17, Try.ntmps17
    go_wp2_with fail
    go_loopw [5] (fun i wr => ∃ k : Nat, i = .int .i64 k ∧ k ≤ xs.length ∧ xs.take k = ys.take k ∧ ∃ n, w.drewN n = wr) (fun i _ => xs.length - (intOf i).toNat)
    case atStart => exact ⟨0, rfl, Nat.zero_le _, by simp, 0, rfl⟩
    case round =>
      obtain ⟨k, rfl, hk, htk, n, rfl⟩ := hrel
      by_cases hlt : k < xs.length
      · obtain ⟨b, off, rfl, cx, wx⟩ := hA.int (List.getElem?_eq_getElem hlt)
        have hlt' : k < ys.length := by rw [← H.out]; exact hlt
        obtain ⟨b', off', rfl, cy, wy⟩ := hB.int (List.getElem?_eq_getElem hlt')
        have T := Lib.hid htk
        clear htk
        have i1 : (k : Int) < (xs.length : Int) := by omega
        have i2 : (k : Int) < (ys.length : Int) := by omega
        generalize hX : xs[k] = x at *
        generalize hY : ys[k] = y at *
        have HX := Lib.hid hX
        have HY := Lib.hid hY
        clear hX hY
        by_cases hxy : x = y
        · have g1 : (x != y) = false := by simp [hxy]
          have HXY := Lib.hid hxy
          clear hxy
          go_wp2_with fail
          go_quiet (fail)
          go_wp2_with fail
          go_roundw
          case rel => exact ⟨k + 1, by go_num, by omega, by rw [List.take_succ_eq_append_getElem hlt, List.take_succ_eq_append_getElem hlt', T.out, HX.out, HY.out, HXY.out], _, rfl⟩
          case measure => simp [intOf]; omega
        · have g1 : (x != y) = true := by simp [hxy]
          have HXY := Lib.hid hxy
          clear hxy
          go_wp2_with fail
          go_quiet (fail)
          go_wp2_with fail
          go_ret
          refine ⟨?_, by rw [World.drewN_drewN]; exact ⟨_, rfl⟩⟩
          have : ¬ xs = ys := by rintro rfl; exact HXY.out (HX.out.symm.trans HY.out)
          simp [this]
      · have hk' : k = xs.length := by omega
        have hall : xs = ys := by rw [← List.take_length (l := xs), ← hk', htk, hk', H.out, List.take_length]
        have HA := Lib.hid hall
        have HK := Lib.hid hk'
        clear hall hk' htk
        have i1 : ¬ (k : Int) < (xs.length : Int) := by omega
        go_wp2_with fail
        go_ret
        exact ⟨by simp [HA.out], _, rfl⟩
  · have hne : ((xs.length : Int) != (ys.length : Int)) = true := by simp; omega
    have H := Lib.hid hlen
    clear hlen
    go_enter Try.func17, Try.ntmps17
    go_wp2_with fail
    go_ret
    refine ⟨?_, 0, rfl⟩
    have : ¬ xs = ys := by rintro rfl; exact H.out rfl
    simp [this]
end Go.Proofs.Yteljibjbndpncaa
/- Walk of the entries of flows. -/
namespace Go.Proofs.Yteljibjbndpncaa
open Go.RowKit

theorem info3 : (Try.prog.info? 3).map (fun i => (i.zero, i.size, i.bytes)) = some (some (.int .i64 0), 1, 8) := by kernel_rfl
/-- slices.Clone of numbers -/
theorem intClone {Q : Nat → Prop} {w : World} {v : Value} {l : List Int} (hx : (Rep.int .i64).list.val Q w v l) (hl : l.length ≤ 1000000000000) :
    Calls Try.prog 192 #[v] w (ResA (Rep.int .i64) 3 w l) := by
  obtain ⟨A, c, rfl, hc1, hc2, hA⟩ := Rep.val_list hx
  unfold maxLen at hc2
  cases A with
  | none =>
    have hnil : l = [] := by
      rcases Nat.eq_zero_or_pos l.length with h | h
      · exact List.eq_nil_of_length_eq_zero h
      · obtain ⟨b, off, h⟩ := hA.addr h; cases h
    subst hnil
    have he := fun w => Lib.run_eql_slice_nil (P := Try.prog) w 27 3 none 0 c 0 0 Try.underlying27
    go_enter Try.func192, Try.ntmps192
    go_wp2_with fail
    go_ret
    exact ⟨_, rfl, Rep.acc_nil, Below.refl _ _⟩
  | some a =>
    have he := fun w => Lib.run_eql_slice_nil (P := Try.prog) w 27 3 (some a) l.length c 0 0 Try.underlying27
    have HX := Lib.hid (show (Rep.int .i64).list.val (fun b => b < w.heap.size) (w.alloc (.cells #[] 3)) (.slice (some a) l.length c) l from Rep.val_keep (w := w) (fun b _ hl => ⟨hl.lt, Below.heap_alloc _ _ _ hl.lt⟩) hx)
    have HA := Lib.hid (show (Rep.int .i64).acc 3 w.heap.size (fun _ => False) (w.alloc (.cells #[] 3)) (.slice (some ⟨w.heap.size, 0, none⟩) 0 0) [] from Rep.acc_made w #[] 0 (Nat.le_refl _) (by simp [maxLen]) (by simp))
    have HB1 := Lib.hid (show ([] : List Int).length + l.length ≤ maxLen from by simp [maxLen]; omega)
    have HB2 := Lib.hid (show (([] : List Int).length + l.length) * 8 ≤ 140737488355328 from by simp; omega)
    have HB3 := Lib.hid (show w.heap.size ≤ (w.alloc (.cells #[] 3)).heap.size from by simp)
    clear hx hA
    go_enter Try.func192, Try.ntmps192
    go_wp2_with (refine wpList_spread_leaf (e := 3) (base := w.heap.size) (Q := fun _ => False) (Rep.leaf_int .i64) rfl _ _ 27 rfl (.int .i64 0) 1 8 Try.underlying27 info3 rfl (by decide) rfl _ [] (by exact rfl) HA.out _ l (by exact rfl) HX.out HB1.out HB2.out HB3.out ?_; intro v' w' hacc' hgr hat)
    go_ret
    exact ⟨_, rfl, by simpa using hacc', Rep.acc_below HA.out ((Below.refl _ w).alloc (Nat.le_refl _) _) hgr HB3.out⟩

/-- 'append(s, x)' as0 a step of a region that draws its order, the element in a block just made. -/
theorem step_snoc {α : Type} {r : Rep α} {e base : Nat} {Q : Nat → Prop} {P : Program} {w : World} {ops : Array Oper} {o : Oper} {a : Act} {K : Act → World → Prop} {R : Exit → Act → World → Prop} {E : Prop} (hg : o.guard = none) (s x : Operand) (t : TypeId)
    (ho : o.op = .call { callee := .builtin .append, args := #[s, x], argTypes := #[t, t] })
    (z : Value) (size bytes : Nat) (ht : P.underlying t = some (.slice e)) (hi : (P.info? e).map (fun i => (i.zero, i.size, i.bytes)) = some (some z, size, bytes)) (hzs : z.cells.size = size) (hsz : 0 < size)
    (hr : r.size = size) (v : Value) (xs : List α) (hs : a.eval s = v) (h : r.acc e base Q w v xs) (y : α) (vy : Value) (hy : r.val (fun b => Q b ∧ v.ownBlock ≠ some b) w vy y) (hx : a.eval x = .slice (some ⟨w.heap.size, 0, none⟩) 1 1)
    (h63 : xs.length + 1 ≤ maxLen) (hbytes : (xs.length + 1) * bytes ≤ 140737488355328) (hbase : base ≤ w.heap.size)
    (H : ∀ v' w', r.acc e base Q w' v' (xs ++ [y]) → w.grownBy w' v.ownBlock → K (a.put o.dst v') w') :
    if Region.wanted o (yielded ops a.tmps) = true then Oper.wp P o a (w.alloc (.cells vy.cells e)) K R else E := by
  have hw : Region.wanted o (yielded ops a.tmps) = true := by simp [Region.wanted, hg]
  rw [if_pos hw]
  obtain ⟨cs, hv, hrd⟩ := hy
  have hcells : vy.cells.toList = cs := by rw [hv]; exact r.back hrd
  have hkeep : ∀ b, b < w.heap.size → (w.alloc (.cells vy.cells e)).heap[b]? = w.heap[b]? := fun b hb => Below.heap_alloc _ _ _ hb
  have hacc' : r.acc e base Q (w.alloc (.cells vy.cells e)) v xs := Rep.acc_keep (fun b _ hl => hkeep b hl.lt) (fun _ hb _ => hb) h
  have hbn : (w.alloc (.cells vy.cells e)).heap[w.heap.size]? = some (.cells vy.cells e) := heap_alloc_new w _
  obtain ⟨v', w', q1, q2, q3, q4⟩ := Rep.acc_more (P := P) (w := w.alloc (.cells vy.cells e)) (ty := o.type) (ys := [y]) (A := some ⟨w.heap.size, 0, none⟩) (m := 1) (c := 1) (es := cs)
    ht hi hzs hsz hr hacc' rfl
    (Rep.row_one_elem (r.keep (fun b hb hl => ⟨hb, hkeep b hl.lt⟩) hrd)) (fun _ => ⟨w.heap.size, 0, rfl, fun j u hj => by
      rw [cell_of_row _ _ _ _ _ _ hbn, Nat.zero_add, ← hj, ← hcells]; simp⟩)
    (by simpa using h63) (by simpa using hbytes) (by simp; omega)
  unfold Oper.wp execOp
  simp only [ho, resolve, invoke, builtin, Sem.run_bind, Sem.run_pure, Result.andThen_ok, List.map_toArray, List.map_cons, List.map_nil, hs, hx, q1]
  exact H v' w' q2 ((World.grownBy_alloc w _ _).trans q3)

def entryOf (f : DFlow) : DEntry := ⟨f.key, f.data.length, f.pages⟩

end Go.Proofs.Yteljibjbndpncaa
